/- Pending questions: validity. -/
import Derived.Test.YtpkagohflkcnkaaGreatDoorIv5
import Derived.Deep.Cut
namespace Go.Proofs.YtpkagohflkcnkaaGreatDoor
open Go.RowKit Go.G9
def queB (rs : List Rul) (q : Que) : Bool := match fnd rs q.rule with | some r => memB q.mover && !(q.sec && !r.second) | none => false
def ordB (rs : List Rul) (p q : Que) : Bool := match fnd rs p.rule, fnd rs q.rule with | some t, some r => !lackB t p && decide (t.rank < r.rank) | _, _ => false
def queStep (rs : List Rul) (qs : List Que) : Nat → Bool
  | 0 => match qs[0]? with | some q => queB rs q | none => true
  | j + 1 => match qs[j]?, qs[j + 1]? with | some p, some q => queB rs q && ordB rs p q | _, _ => true
def pendB (rs : List Rul) (qs : List Que) : Bool := rulesB rs && (decide (qs.length ≤ 6) && allTo (queStep rs qs) qs.length)
theorem queStep_succ {rs : List Rul} {qs : List Que} {j : Nat} {p q : Que} (hp : qs[j]? = some p) (hq : qs[j + 1]? = some q) : queStep rs qs (j + 1) = (queB rs q && ordB rs p q) := by simp only [queStep, hp, hq]
theorem queStep_zero {rs : List Rul} {qs : List Que} {q : Que} (hq : qs[0]? = some q) : queStep rs qs 0 = queB rs q := by simp only [queStep, hq]
theorem queB_found {rs : List Rul} {q : Que} (h : queB rs q = true) : ∃ r, fnd rs q.rule = some r := by
  unfold queB at h
  split at h
  · rename_i r hr; exact ⟨r, hr⟩
  · cases h
theorem queStep_queB {rs : List Rul} {qs : List Que} {k : Nat} {q : Que} (h : queStep rs qs k = true) (hq : qs[k]? = some q) : queB rs q = true := by
  cases k with
  | zero => rw [queStep_zero hq] at h; exact h
  | succ j =>
    have hlt := (List.getElem?_eq_some_iff.1 hq).1
    have hp : qs[j]? = some qs[j] := List.getElem?_eq_getElem (by omega)
    rw [queStep_succ hp hq, Bool.and_eq_true] at h; exact h.1
theorem queStep_bad {rs : List Rul} {qs : List Que} {k : Nat} {q : Que} (hq : qs[k]? = some q) (h : queB rs q = false) : queStep rs qs k = false := by
  cases hc : queStep rs qs k with
  | false => rfl
  | true => rw [queStep_queB hc hq] at h; cases h
theorem queB_none {rs : List Rul} {q : Que} (h : fnd rs q.rule = none) : queB rs q = false := by simp [queB, h]
theorem queB_some {rs : List Rul} {q : Que} {r : Rul} (h : fnd rs q.rule = some r) : queB rs q = (memB q.mover && !(q.sec && !r.second)) := by simp [queB, h]
theorem ordB_some {rs : List Rul} {p q : Que} {t r : Rul} (h : fnd rs p.rule = some t) (h2 : fnd rs q.rule = some r) : ordB rs p q = (!lackB t p && decide (t.rank < r.rank)) := by simp [ordB, h, h2]
theorem pendB_found {rs : List Rul} {qs : List Que} (h : pendB rs qs = true) {k : Nat} {q : Que} (hq : qs[k]? = some q) : ∃ r, fnd rs q.rule = some r := by
  simp only [pendB, Bool.and_eq_true] at h
  exact queB_found (queStep_queB (allTo_iff.1 h.2.2 k (List.getElem?_eq_some_iff.1 hq).1) hq)
theorem pendB_not {rs : List Rul} {qs : List Que} {k : Nat} (hk : k < qs.length) (h : queStep rs qs k = false) : pendB rs qs = false := by rw [pendB, allTo_not hk h]; simp
set_option maxHeartbeats 8000000 in
set_option maxRecDepth 100000 in
theorem arePending_is (A : Option Addr) (c : Nat) (rs : List Rul) (hn : rs.length ≤ 1048576) (hc : rs.length ≤ c) (B : Option Addr) (d : Nat) (qs : List Que) (hq : qs.length ≤ 1048576) (v : Bool) (hv : pendB rs qs = v) (w : World) (hR : Rds 7 Rul.cells w A rs) (hQ : Rds 3 Que.cells w B qs) :
  Calls Tryz.prog 37 #[.slice A rs.length c, .slice B qs.length d] w fun e w' => e = .returned (.bool v) ∧ Below w.heap.size w w' := by
  subst hv
  cases hr : rulesB rs
  · have HR := Lib.hid hr
    go_enter Tryz.func37, Tryz.ntmps37
    go_wp2_with fail
    refine (isValidRules_is A c rs hn hc _ HR.out _ (hR.below (by repeat (first | exact Below.refl _ _ | refine Below.alloc ?_ (by first | exact Nat.le_refl _ | (simp <;> omega)) _ | refine Below.setCell ?_ (by first | exact Nat.le_refl _ | (simp <;> omega)) _)))).mono ?_
    rintro e w1 ⟨rfl, hb1⟩
    have hq1 : Below w.heap.size w w1 := bth (by repeat (first | exact Below.refl _ _ | refine Below.alloc ?_ (by first | exact Nat.le_refl _ | (simp <;> omega)) _ | refine Below.setCell ?_ (by first | exact Nat.le_refl _ | (simp <;> omega)) _)) hb1
    have HB : Below w.heap.size w w1 := hq1
    replace hR := hR.below hq1
    replace hQ := hQ.below hq1
    go_wp2
    go_ret
    exact ⟨ret_bool (by simp [pendB, hr]), (bth HB (by repeat (first | exact Below.refl _ _ | refine Below.alloc ?_ (by first | exact Nat.le_refl _ | (simp <;> omega)) _ | refine Below.setCell ?_ (by first | exact Nat.le_refl _ | (simp <;> omega)) _)))⟩
  by_cases hl6 : qs.length ≤ 6
  case neg =>
    have HR := Lib.hid hr
    go_enter Tryz.func37, Tryz.ntmps37
    go_wp2_with fail
    refine (isValidRules_is A c rs hn hc _ HR.out _ (hR.below (by repeat (first | exact Below.refl _ _ | refine Below.alloc ?_ (by first | exact Nat.le_refl _ | (simp <;> omega)) _ | refine Below.setCell ?_ (by first | exact Nat.le_refl _ | (simp <;> omega)) _)))).mono ?_
    rintro e w1 ⟨rfl, hb1⟩
    have hq1 : Below w.heap.size w w1 := bth (by repeat (first | exact Below.refl _ _ | refine Below.alloc ?_ (by first | exact Nat.le_refl _ | (simp <;> omega)) _ | refine Below.setCell ?_ (by first | exact Nat.le_refl _ | (simp <;> omega)) _)) hb1
    have HB : Below w.heap.size w w1 := hq1
    replace hR := hR.below hq1
    replace hQ := hQ.below hq1
    go_wp2
    go_ret
    exact ⟨ret_bool (by rw [pendB, decide_eq_false hl6]; simp), (bth HB (by repeat (first | exact Below.refl _ _ | refine Below.alloc ?_ (by first | exact Nat.le_refl _ | (simp <;> omega)) _ | refine Below.setCell ?_ (by first | exact Nat.le_refl _ | (simp <;> omega)) _)))⟩
  have HR := Lib.hid hr
  go_enter Tryz.func37, Tryz.ntmps37
  have hR0 := Lib.hid hR
  have hQ0 := Lib.hid hQ
  go_wp2_with fail
  refine (isValidRules_is A c rs hn hc _ HR.out _ (hR.below (by repeat (first | exact Below.refl _ _ | refine Below.alloc ?_ (by first | exact Nat.le_refl _ | (simp <;> omega)) _ | refine Below.setCell ?_ (by first | exact Nat.le_refl _ | (simp <;> omega)) _)))).mono ?_
  rintro e w1 ⟨rfl, hb1⟩
  have hq1 : Below w.heap.size w w1 := bth (by repeat (first | exact Below.refl _ _ | refine Below.alloc ?_ (by first | exact Nat.le_refl _ | (simp <;> omega)) _ | refine Below.setCell ?_ (by first | exact Nat.le_refl _ | (simp <;> omega)) _)) hb1
  have HB : Below w.heap.size w w1 := hq1
  replace hR := hR.below hq1
  replace hQ := hQ.below hq1
  go_wp2
  go_loopw [17] (fun i wr => ∃ k : Nat, k ≤ qs.length ∧ i = .int .i64 k ∧ allTo (queStep rs qs) k = true ∧ Below w.heap.size w wr) (fun i _ => qs.length - (intOf i).toNat)
  case atStart => exact ⟨0, Nat.zero_le _, rfl, rfl, HB⟩
  case round =>
    obtain ⟨k, hk, rfl, hl, hb⟩ := hrel
    have HL := Lib.hid hl; clear hl hR hQ HB
    have hR := hR0.out
    have hQ := hQ0.out
    have hq1 : Below w.heap.size w wr := bth (by repeat (first | exact Below.refl _ _ | refine Below.alloc ?_ (by first | exact Nat.le_refl _ | (simp <;> omega)) _ | refine Below.setCell ?_ (by first | exact Nat.le_refl _ | (simp <;> omega)) _)) hb
    have HB : Below w.heap.size w wr := hq1
    replace hR := hR.below hq1
    replace hQ := hQ.below hq1
    by_cases hlt : k < qs.length
    · obtain ⟨b, off, q, rfl, hbl, hx, hcx⟩ := hQ.at_ (Below.refl _ _) hlt
      obtain ⟨qr, qm, qd⟩ := q
      have f0 := hcx 0 _ rfl
      have f1 := hcx 1 _ rfl
      have f2 := hcx 2 _ rfl
      simp only [Nat.add_zero] at f0
      have g0 := f0 (Kin.self _)
      have g1 := f1 (Kin.self _)
      have g2 := f2 (Kin.self _)
      simp only [Kin.self] at g0
      simp only [Kin.self] at g1
      simp only [Kin.self] at g2
      have HX := Lib.hid hx; clear hx hcx
      go_upto_region 6 with fail
      have hq2 : Below wr.heap.size wr (World.alloc wr (.cells #[.int .i64 qr, .int .i64 qm, .bool qd] 63)) := bl1 wr _
      have hX : Blk (World.alloc wr (.cells #[.int .i64 qr, .int .i64 qm, .bool qd] 63)) (wr.heap.size) 63 #[.int .i64 qr, .int .i64 qm, .bool qd] := by repeat (first | exact Blk.new _ _ _ | exact Blk.new2 _ _ _ _ | exact Blk.new3 _ _ _ _ _ | exact Blk.new4 _ _ _ _ _ _ | refine Blk.alloc ?_ _)
      replace hR := hR.below hq2
      replace hQ := hQ.below hq2
      generalize World.alloc wr (.cells #[.int .i64 qr, .int .i64 qm, .bool qd] 63) = wX at *
      replace HB := bth HB hq2
      have x0 := (hX.cell 0).trans (show _ = some (.int .i64 qr) from rfl)
      have x1 := (hX.cell 1).trans (show _ = some (.int .i64 qm) from rfl)
      have x2 := (hX.cell 2).trans (show _ = some (.bool qd) from rfl)
      clear f0 f1 f2 g0 g1 g2
      cases hf : fnd rs qr with
      | none =>
        have HF := Lib.hid hf; clear hf
        go_wp2_with fail
        refine (ruleIndex_is A c rs hn qr _ (idxB_nil HF.out) _ (hR.below (by repeat (first | exact Below.refl _ _ | refine Below.alloc ?_ (by first | exact Nat.le_refl _ | (simp <;> omega)) _ | refine Below.setCell ?_ (by first | exact Nat.le_refl _ | (simp <;> omega)) _)))).mono ?_
        rintro e w3 ⟨rfl, hb3⟩
        have hq3 : Below wX.heap.size wX w3 := bth (by repeat (first | exact Below.refl _ _ | refine Below.alloc ?_ (by first | exact Nat.le_refl _ | (simp <;> omega)) _ | refine Below.setCell ?_ (by first | exact Nat.le_refl _ | (simp <;> omega)) _)) hb3
        replace HB := bth HB hq3
        replace hR := hR.below hq3
        replace hQ := hQ.below hq3
        replace hX := hX.below hq3 hX.lt
        replace x0 := (hX.cell 0).trans (show _ = some (.int .i64 qr) from rfl)
        replace x1 := (hX.cell 1).trans (show _ = some (.int .i64 qm) from rfl)
        replace x2 := (hX.cell 2).trans (show _ = some (.bool qd) from rfl)
        go_wp2
        go_ret
        exact ⟨ret_bool (pendB_not hlt (queStep_bad HX.out (queB_none (q := ⟨qr, qm, qd⟩) HF.out))).symm, (bth HB (by repeat (first | exact Below.refl _ _ | refine Below.alloc ?_ (by first | exact Nat.le_refl _ | (simp <;> omega)) _ | refine Below.setCell ?_ (by first | exact Nat.le_refl _ | (simp <;> omega)) _)))⟩
      | some r =>
        have HF := Lib.hid hf; clear hf
        obtain ⟨m, hm, hmr⟩ := idxB_some HF.out
        have HMI := Lib.hid hm; clear hm hmr
        obtain ⟨id, nm, rk, se, de, am, nd, hs⟩ := r
        go_wp2_with fail
        refine (ruleIndex_is A c rs hn qr _ HMI.out _ (hR.below (by repeat (first | exact Below.refl _ _ | refine Below.alloc ?_ (by first | exact Nat.le_refl _ | (simp <;> omega)) _ | refine Below.setCell ?_ (by first | exact Nat.le_refl _ | (simp <;> omega)) _)))).mono ?_
        rintro e w3 ⟨rfl, hb3⟩
        have hq3 : Below wX.heap.size wX w3 := bth (by repeat (first | exact Below.refl _ _ | refine Below.alloc ?_ (by first | exact Nat.le_refl _ | (simp <;> omega)) _ | refine Below.setCell ?_ (by first | exact Nat.le_refl _ | (simp <;> omega)) _)) hb3
        replace HB := bth HB hq3
        replace hR := hR.below hq3
        replace hQ := hQ.below hq3
        replace hX := hX.below hq3 hX.lt
        replace x0 := (hX.cell 0).trans (show _ = some (.int .i64 qr) from rfl)
        replace x1 := (hX.cell 1).trans (show _ = some (.int .i64 qm) from rfl)
        replace x2 := (hX.cell 2).trans (show _ = some (.bool qd) from rfl)
        cases hmem : memB qm
        · have HM := Lib.hid hmem; clear hmem
          go_wp2_with fail
          refine (isMember_is qm _ HM.out _).mono ?_
          rintro e w0 ⟨rfl, h0⟩
          rw [h0]
          clear h0 w0
          go_wp2
          go_ret
          exact ⟨ret_bool (pendB_not hlt (queStep_bad HX.out (by rw [queB_some (q := ⟨qr, qm, qd⟩) HF.out]; simp only [HM.out]; rfl))).symm, (bth HB (by repeat (first | exact Below.refl _ _ | refine Below.alloc ?_ (by first | exact Nat.le_refl _ | (simp <;> omega)) _ | refine Below.setCell ?_ (by first | exact Nat.le_refl _ | (simp <;> omega)) _)))⟩
        · have HM := Lib.hid hmem; clear hmem
          cases qd
          · clear x0 x1 x2
            have x0 := (hX.cell 0).trans (show _ = some (.int .i64 qr) from rfl)
            have x1 := (hX.cell 1).trans (show _ = some (.int .i64 qm) from rfl)
            have x2 := (hX.cell 2).trans (show _ = some (.bool false) from rfl)
            go_wp2_with fail
            refine (isMember_is qm _ HM.out _).mono ?_
            rintro e w0 ⟨rfl, h0⟩
            rw [h0]
            clear h0 w0
            go_upto_region 8 with fail
            have HQB : Hid (queB rs ⟨qr, qm, false⟩ = true) := Lib.hid (by rw [queB_some (q := ⟨qr, qm, false⟩) HF.out]; simp only [HM.out]; rfl)
            cases k with
            | zero =>
              clear x0 x1 x2
              have x0 := fun K : Kin w3.heap.size w3 => ((hX.below K.below hX.lt).cell 0).trans (show _ = some (.int .i64 qr) from rfl)
              have x1 := fun K : Kin w3.heap.size w3 => ((hX.below K.below hX.lt).cell 1).trans (show _ = some (.int .i64 qm) from rfl)
              have x2 := fun K : Kin w3.heap.size w3 => ((hX.below K.below hX.lt).cell 2).trans (show _ = some (.bool false) from rfl)
              refine wp_region_kin (by kernel_rfl) (by kernel_rfl) ?_
              repeat (go_big_quiet_step ((fail)))
              refine wpQuiet_nil ?_
              intro K
              clear x0 x1 x2
              have hq4 : Below w3.heap.size w3 K.world := bth (by repeat (first | exact Below.refl _ _ | refine Below.alloc ?_ (by first | exact Nat.le_refl _ | (simp <;> omega)) _ | refine Below.setCell ?_ (by first | exact Nat.le_refl _ | (simp <;> omega)) _)) K.below
              replace HB := bth HB hq4
              replace hR := hR.below hq4
              replace hQ := hQ.below hq4
              replace hX := hX.below hq4 hX.lt
              have x0 := (hX.cell 0).trans (show _ = some (.int .i64 qr) from rfl)
              have x1 := (hX.cell 1).trans (show _ = some (.int .i64 qm) from rfl)
              have x2 := (hX.cell 2).trans (show _ = some (.bool false) from rfl)
              go_wp2
              go_roundw
              case rel => exact ⟨1, by omega, by go_num, allTo_go HL.out (by rw [queStep_zero HX.out]; exact HQB.out), (bth HB (by repeat (first | exact Below.refl _ _ | refine Below.alloc ?_ (by first | exact Nat.le_refl _ | (simp <;> omega)) _ | refine Below.setCell ?_ (by first | exact Nat.le_refl _ | (simp <;> omega)) _)))⟩
              case measure => simp [intOf]; omega
            | succ j =>
              obtain ⟨b', off', p, e', _, hy, hcy⟩ := hQ.at_ (Below.refl _ _) (k := j) (by omega)
              simp only [Option.some.injEq, Addr.mk.injEq, and_true] at e'
              obtain ⟨rfl, rfl⟩ := e'
              obtain ⟨t, htf⟩ := queB_found (queStep_queB (allTo_iff.1 HL.out j (by omega)) hy)
              obtain ⟨pr, pm, pd⟩ := p
              obtain ⟨tid, tn, tr, ts, td, ta, tnd, tok⟩ := t
              have y0 := hcy 0 _ rfl
              have y1 := hcy 1 _ rfl
              have y2 := hcy 2 _ rfl
              simp only [Nat.add_zero] at y0
              have HY := Lib.hid hy; clear hy hcy
              have HT := Lib.hid htf; clear htf
              have PR := Lib.hid hR
              have hf1 : ∀ W : World, (Instr.field 65 (.agg #[.int .i64 tid, .string tn, .int .i64 tr, .bool ts, .bool td, .bool ta, .int .i64 tnd]) 2).run Tryz.prog W = .ok (.int .i64 tr) W := fun _ => by kernel_rfl
              have hf2 : ∀ W : World, (Instr.field 65 (.agg #[.int .i64 id, .string nm, .int .i64 rk, .bool se, .bool de, .bool am, .int .i64 nd]) 2).run Tryz.prog W = .ok (.int .i64 rk) W := fun _ => by kernel_rfl
              cases hlk : lackB ⟨tid, tn, tr, ts, td, ta, tnd, tok⟩ ⟨pr, pm, pd⟩
              · have HK := Lib.hid hlk; clear hlk
                by_cases hrk : tr < rk
                · have hle : decide (rk ≤ tr) = false := decide_eq_false (by omega)
                  clear x0 x1 x2
                  have x0 := fun K : Kin w3.heap.size w3 => ((hX.below K.below hX.lt).cell 0).trans (show _ = some (.int .i64 qr) from rfl)
                  have x1 := fun K : Kin w3.heap.size w3 => ((hX.below K.below hX.lt).cell 1).trans (show _ = some (.int .i64 qm) from rfl)
                  have x2 := fun K : Kin w3.heap.size w3 => ((hX.below K.below hX.lt).cell 2).trans (show _ = some (.bool false) from rfl)
                  refine wp_region_kin (by kernel_rfl) (by kernel_rfl) ?_
                  repeat (go_big_quiet_step (fail))
                  go_big_quiet_step ((go_at_call 66; exact Kin.call _ (by first | exact Nat.le_refl _ | omega) (lacksSecond_is A c rs hn ⟨pr, pm, pd⟩ ⟨tid, tn, tr, ts, td, ta, tnd, tok⟩ HT.out _ HK.out _ (PR.out.below (Kin.below _)))))
                  repeat (go_big_quiet_step (fail))
                  go_big_quiet_step ((go_at_call 25; exact Kin.call _ (by first | exact Nat.le_refl _ | omega) (ruleOf_is A c rs hn ⟨pr, pm, pd⟩ ⟨tid, tn, tr, ts, td, ta, tnd, tok⟩ HT.out _ (PR.out.below (Kin.below _)))))
                  repeat (go_big_quiet_step (fail))
                  go_big_quiet_step ((go_at_call 25; exact Kin.call _ (by first | exact Nat.le_refl _ | omega) (ruleOf_is A c rs hn ⟨qr, qm, false⟩ ⟨id, nm, rk, se, de, am, nd, hs⟩ HF.out _ (PR.out.below (Kin.below _)))))
                  repeat (go_big_quiet_step (fail))
                  refine wpQuiet_nil ?_
                  intro K
                  go_wp2
                  go_roundw
                  case rel => exact ⟨j + 1 + 1, by omega, by go_num, allTo_go HL.out (by rw [queStep_succ HY.out HX.out, HQB.out, ordB_some HT.out HF.out, HK.out, decide_eq_true (show (Rul.rank ⟨tid, tn, tr, ts, td, ta, tnd, tok⟩) < (Rul.rank ⟨id, nm, rk, se, de, am, nd, hs⟩) from hrk)]; rfl), bth HB K.below⟩
                  case measure => simp [intOf]; omega
                · have hle : decide (rk ≤ tr) = true := decide_eq_true (by omega)
                  clear x0 x1 x2
                  have x0 := fun K : Kin w3.heap.size w3 => ((hX.below K.below hX.lt).cell 0).trans (show _ = some (.int .i64 qr) from rfl)
                  have x1 := fun K : Kin w3.heap.size w3 => ((hX.below K.below hX.lt).cell 1).trans (show _ = some (.int .i64 qm) from rfl)
                  have x2 := fun K : Kin w3.heap.size w3 => ((hX.below K.below hX.lt).cell 2).trans (show _ = some (.bool false) from rfl)
                  refine wp_region_kin (by kernel_rfl) (by kernel_rfl) ?_
                  repeat (go_big_quiet_step (fail))
                  go_big_quiet_step ((go_at_call 66; exact Kin.call _ (by first | exact Nat.le_refl _ | omega) (lacksSecond_is A c rs hn ⟨pr, pm, pd⟩ ⟨tid, tn, tr, ts, td, ta, tnd, tok⟩ HT.out _ HK.out _ (PR.out.below (Kin.below _)))))
                  repeat (go_big_quiet_step (fail))
                  go_big_quiet_step ((go_at_call 25; exact Kin.call _ (by first | exact Nat.le_refl _ | omega) (ruleOf_is A c rs hn ⟨pr, pm, pd⟩ ⟨tid, tn, tr, ts, td, ta, tnd, tok⟩ HT.out _ (PR.out.below (Kin.below _)))))
                  repeat (go_big_quiet_step (fail))
                  go_big_quiet_step ((go_at_call 25; exact Kin.call _ (by first | exact Nat.le_refl _ | omega) (ruleOf_is A c rs hn ⟨qr, qm, false⟩ ⟨id, nm, rk, se, de, am, nd, hs⟩ HF.out _ (PR.out.below (Kin.below _)))))
                  repeat (go_big_quiet_step (fail))
                  refine wpQuiet_nil ?_
                  intro K
                  go_wp2
                  go_ret
                  exact ⟨ret_bool (pendB_not hlt (by rw [queStep_succ HY.out HX.out, HQB.out, ordB_some HT.out HF.out, HK.out, decide_eq_false (show ¬ (Rul.rank ⟨tid, tn, tr, ts, td, ta, tnd, tok⟩) < (Rul.rank ⟨id, nm, rk, se, de, am, nd, hs⟩) from by show ¬ tr < rk; omega)]; rfl)).symm, bth HB K.below⟩
              · have HK := Lib.hid hlk; clear hlk
                clear x0 x1 x2
                have x0 := fun K : Kin w3.heap.size w3 => ((hX.below K.below hX.lt).cell 0).trans (show _ = some (.int .i64 qr) from rfl)
                have x1 := fun K : Kin w3.heap.size w3 => ((hX.below K.below hX.lt).cell 1).trans (show _ = some (.int .i64 qm) from rfl)
                have x2 := fun K : Kin w3.heap.size w3 => ((hX.below K.below hX.lt).cell 2).trans (show _ = some (.bool false) from rfl)
                refine wp_region_kin (by kernel_rfl) (by kernel_rfl) ?_
                repeat (go_big_quiet_step (fail))
                go_big_quiet_step ((go_at_call 66; exact Kin.call _ (by first | exact Nat.le_refl _ | omega) (lacksSecond_is A c rs hn ⟨pr, pm, pd⟩ ⟨tid, tn, tr, ts, td, ta, tnd, tok⟩ HT.out _ HK.out _ (PR.out.below (Kin.below _)))))
                repeat (go_big_quiet_step (fail))
                refine wpQuiet_nil ?_
                intro K
                go_wp2
                go_ret
                exact ⟨ret_bool (pendB_not hlt (by rw [queStep_succ HY.out HX.out, HQB.out, ordB_some HT.out HF.out, HK.out]; rfl)).symm, bth HB K.below⟩
          · have hf3 : ∀ W : World, (Instr.field 65 (.agg #[.int .i64 id, .string nm, .int .i64 rk, .bool se, .bool de, .bool am, .int .i64 nd]) 3).run Tryz.prog W = .ok (.bool se) W := fun _ => by kernel_rfl
            cases se
            · clear x0 x1 x2
              have x0 := (hX.cell 0).trans (show _ = some (.int .i64 qr) from rfl)
              have x1 := (hX.cell 1).trans (show _ = some (.int .i64 qm) from rfl)
              have x2 := (hX.cell 2).trans (show _ = some (.bool true) from rfl)
              go_wp2_with fail
              refine (isMember_is qm _ HM.out _).mono ?_
              rintro e w0 ⟨rfl, h0⟩
              rw [h0]
              clear h0 w0
              go_wp2_with fail
              refine (ruleOf_is A c rs hn ⟨qr, qm, true⟩ ⟨id, nm, rk, false, de, am, nd, hs⟩ HF.out _ (hR.below (by repeat (first | exact Below.refl _ _ | refine Below.alloc ?_ (by first | exact Nat.le_refl _ | (simp <;> omega)) _ | refine Below.setCell ?_ (by first | exact Nat.le_refl _ | (simp <;> omega)) _)))).mono ?_
              rintro e w4 ⟨rfl, hb4⟩
              have hq4 : Below w3.heap.size w3 w4 := bth (by repeat (first | exact Below.refl _ _ | refine Below.alloc ?_ (by first | exact Nat.le_refl _ | (simp <;> omega)) _ | refine Below.setCell ?_ (by first | exact Nat.le_refl _ | (simp <;> omega)) _)) hb4
              replace HB := bth HB hq4
              replace hR := hR.below hq4
              replace hQ := hQ.below hq4
              replace hX := hX.below hq4 hX.lt
              replace x0 := (hX.cell 0).trans (show _ = some (.int .i64 qr) from rfl)
              replace x1 := (hX.cell 1).trans (show _ = some (.int .i64 qm) from rfl)
              replace x2 := (hX.cell 2).trans (show _ = some (.bool true) from rfl)
              go_wp2
              go_ret
              exact ⟨ret_bool (pendB_not hlt (queStep_bad HX.out (by rw [queB_some (q := ⟨qr, qm, true⟩) HF.out]; simp only [HM.out]; rfl))).symm, (bth HB (by repeat (first | exact Below.refl _ _ | refine Below.alloc ?_ (by first | exact Nat.le_refl _ | (simp <;> omega)) _ | refine Below.setCell ?_ (by first | exact Nat.le_refl _ | (simp <;> omega)) _)))⟩
            · clear x0 x1 x2
              have x0 := (hX.cell 0).trans (show _ = some (.int .i64 qr) from rfl)
              have x1 := (hX.cell 1).trans (show _ = some (.int .i64 qm) from rfl)
              have x2 := (hX.cell 2).trans (show _ = some (.bool true) from rfl)
              go_wp2_with fail
              refine (isMember_is qm _ HM.out _).mono ?_
              rintro e w0 ⟨rfl, h0⟩
              rw [h0]
              clear h0 w0
              go_wp2_with fail
              refine (ruleOf_is A c rs hn ⟨qr, qm, true⟩ ⟨id, nm, rk, true, de, am, nd, hs⟩ HF.out _ (hR.below (by repeat (first | exact Below.refl _ _ | refine Below.alloc ?_ (by first | exact Nat.le_refl _ | (simp <;> omega)) _ | refine Below.setCell ?_ (by first | exact Nat.le_refl _ | (simp <;> omega)) _)))).mono ?_
              rintro e w4 ⟨rfl, hb4⟩
              have hq4 : Below w3.heap.size w3 w4 := bth (by repeat (first | exact Below.refl _ _ | refine Below.alloc ?_ (by first | exact Nat.le_refl _ | (simp <;> omega)) _ | refine Below.setCell ?_ (by first | exact Nat.le_refl _ | (simp <;> omega)) _)) hb4
              replace HB := bth HB hq4
              replace hR := hR.below hq4
              replace hQ := hQ.below hq4
              replace hX := hX.below hq4 hX.lt
              replace x0 := (hX.cell 0).trans (show _ = some (.int .i64 qr) from rfl)
              replace x1 := (hX.cell 1).trans (show _ = some (.int .i64 qm) from rfl)
              replace x2 := (hX.cell 2).trans (show _ = some (.bool true) from rfl)
              go_upto_region 8 with fail
              clear hf3
              have HQB : Hid (queB rs ⟨qr, qm, true⟩ = true) := Lib.hid (by rw [queB_some (q := ⟨qr, qm, true⟩) HF.out]; simp only [HM.out]; rfl)
              cases k with
              | zero =>
                clear x0 x1 x2
                have x0 := fun K : Kin w4.heap.size w4 => ((hX.below K.below hX.lt).cell 0).trans (show _ = some (.int .i64 qr) from rfl)
                have x1 := fun K : Kin w4.heap.size w4 => ((hX.below K.below hX.lt).cell 1).trans (show _ = some (.int .i64 qm) from rfl)
                have x2 := fun K : Kin w4.heap.size w4 => ((hX.below K.below hX.lt).cell 2).trans (show _ = some (.bool true) from rfl)
                refine wp_region_kin (by kernel_rfl) (by kernel_rfl) ?_
                repeat (go_big_quiet_step ((fail)))
                refine wpQuiet_nil ?_
                intro K
                clear x0 x1 x2
                have hq5 : Below w4.heap.size w4 K.world := bth (by repeat (first | exact Below.refl _ _ | refine Below.alloc ?_ (by first | exact Nat.le_refl _ | (simp <;> omega)) _ | refine Below.setCell ?_ (by first | exact Nat.le_refl _ | (simp <;> omega)) _)) K.below
                replace HB := bth HB hq5
                replace hR := hR.below hq5
                replace hQ := hQ.below hq5
                replace hX := hX.below hq5 hX.lt
                have x0 := (hX.cell 0).trans (show _ = some (.int .i64 qr) from rfl)
                have x1 := (hX.cell 1).trans (show _ = some (.int .i64 qm) from rfl)
                have x2 := (hX.cell 2).trans (show _ = some (.bool true) from rfl)
                go_wp2
                go_roundw
                case rel => exact ⟨1, by omega, by go_num, allTo_go HL.out (by rw [queStep_zero HX.out]; exact HQB.out), (bth HB (by repeat (first | exact Below.refl _ _ | refine Below.alloc ?_ (by first | exact Nat.le_refl _ | (simp <;> omega)) _ | refine Below.setCell ?_ (by first | exact Nat.le_refl _ | (simp <;> omega)) _)))⟩
                case measure => simp [intOf]; omega
              | succ j =>
                obtain ⟨b', off', p, e', _, hy, hcy⟩ := hQ.at_ (Below.refl _ _) (k := j) (by omega)
                simp only [Option.some.injEq, Addr.mk.injEq, and_true] at e'
                obtain ⟨rfl, rfl⟩ := e'
                obtain ⟨t, htf⟩ := queB_found (queStep_queB (allTo_iff.1 HL.out j (by omega)) hy)
                obtain ⟨pr, pm, pd⟩ := p
                obtain ⟨tid, tn, tr, ts, td, ta, tnd, tok⟩ := t
                have y0 := hcy 0 _ rfl
                have y1 := hcy 1 _ rfl
                have y2 := hcy 2 _ rfl
                simp only [Nat.add_zero] at y0
                have HY := Lib.hid hy; clear hy hcy
                have HT := Lib.hid htf; clear htf
                have PR := Lib.hid hR
                have hf1 : ∀ W : World, (Instr.field 65 (.agg #[.int .i64 tid, .string tn, .int .i64 tr, .bool ts, .bool td, .bool ta, .int .i64 tnd]) 2).run Tryz.prog W = .ok (.int .i64 tr) W := fun _ => by kernel_rfl
                have hf2 : ∀ W : World, (Instr.field 65 (.agg #[.int .i64 id, .string nm, .int .i64 rk, .bool true, .bool de, .bool am, .int .i64 nd]) 2).run Tryz.prog W = .ok (.int .i64 rk) W := fun _ => by kernel_rfl
                cases hlk : lackB ⟨tid, tn, tr, ts, td, ta, tnd, tok⟩ ⟨pr, pm, pd⟩
                · have HK := Lib.hid hlk; clear hlk
                  by_cases hrk : tr < rk
                  · have hle : decide (rk ≤ tr) = false := decide_eq_false (by omega)
                    clear x0 x1 x2
                    have x0 := fun K : Kin w4.heap.size w4 => ((hX.below K.below hX.lt).cell 0).trans (show _ = some (.int .i64 qr) from rfl)
                    have x1 := fun K : Kin w4.heap.size w4 => ((hX.below K.below hX.lt).cell 1).trans (show _ = some (.int .i64 qm) from rfl)
                    have x2 := fun K : Kin w4.heap.size w4 => ((hX.below K.below hX.lt).cell 2).trans (show _ = some (.bool true) from rfl)
                    refine wp_region_kin (by kernel_rfl) (by kernel_rfl) ?_
                    repeat (go_big_quiet_step (fail))
                    go_big_quiet_step ((go_at_call 66; exact Kin.call _ (by first | exact Nat.le_refl _ | omega) (lacksSecond_is A c rs hn ⟨pr, pm, pd⟩ ⟨tid, tn, tr, ts, td, ta, tnd, tok⟩ HT.out _ HK.out _ (PR.out.below (Kin.below _)))))
                    repeat (go_big_quiet_step (fail))
                    go_big_quiet_step ((go_at_call 25; exact Kin.call _ (by first | exact Nat.le_refl _ | omega) (ruleOf_is A c rs hn ⟨pr, pm, pd⟩ ⟨tid, tn, tr, ts, td, ta, tnd, tok⟩ HT.out _ (PR.out.below (Kin.below _)))))
                    repeat (go_big_quiet_step (fail))
                    go_big_quiet_step ((go_at_call 25; exact Kin.call _ (by first | exact Nat.le_refl _ | omega) (ruleOf_is A c rs hn ⟨qr, qm, true⟩ ⟨id, nm, rk, true, de, am, nd, hs⟩ HF.out _ (PR.out.below (Kin.below _)))))
                    repeat (go_big_quiet_step (fail))
                    refine wpQuiet_nil ?_
                    intro K
                    go_wp2
                    go_roundw
                    case rel => exact ⟨j + 1 + 1, by omega, by go_num, allTo_go HL.out (by rw [queStep_succ HY.out HX.out, HQB.out, ordB_some HT.out HF.out, HK.out, decide_eq_true (show (Rul.rank ⟨tid, tn, tr, ts, td, ta, tnd, tok⟩) < (Rul.rank ⟨id, nm, rk, true, de, am, nd, hs⟩) from hrk)]; rfl), bth HB K.below⟩
                    case measure => simp [intOf]; omega
                  · have hle : decide (rk ≤ tr) = true := decide_eq_true (by omega)
                    clear x0 x1 x2
                    have x0 := fun K : Kin w4.heap.size w4 => ((hX.below K.below hX.lt).cell 0).trans (show _ = some (.int .i64 qr) from rfl)
                    have x1 := fun K : Kin w4.heap.size w4 => ((hX.below K.below hX.lt).cell 1).trans (show _ = some (.int .i64 qm) from rfl)
                    have x2 := fun K : Kin w4.heap.size w4 => ((hX.below K.below hX.lt).cell 2).trans (show _ = some (.bool true) from rfl)
                    refine wp_region_kin (by kernel_rfl) (by kernel_rfl) ?_
                    repeat (go_big_quiet_step (fail))
                    go_big_quiet_step ((go_at_call 66; exact Kin.call _ (by first | exact Nat.le_refl _ | omega) (lacksSecond_is A c rs hn ⟨pr, pm, pd⟩ ⟨tid, tn, tr, ts, td, ta, tnd, tok⟩ HT.out _ HK.out _ (PR.out.below (Kin.below _)))))
                    repeat (go_big_quiet_step (fail))
                    go_big_quiet_step ((go_at_call 25; exact Kin.call _ (by first | exact Nat.le_refl _ | omega) (ruleOf_is A c rs hn ⟨pr, pm, pd⟩ ⟨tid, tn, tr, ts, td, ta, tnd, tok⟩ HT.out _ (PR.out.below (Kin.below _)))))
                    repeat (go_big_quiet_step (fail))
                    go_big_quiet_step ((go_at_call 25; exact Kin.call _ (by first | exact Nat.le_refl _ | omega) (ruleOf_is A c rs hn ⟨qr, qm, true⟩ ⟨id, nm, rk, true, de, am, nd, hs⟩ HF.out _ (PR.out.below (Kin.below _)))))
                    repeat (go_big_quiet_step (fail))
                    refine wpQuiet_nil ?_
                    intro K
                    go_wp2
                    go_ret
                    exact ⟨ret_bool (pendB_not hlt (by rw [queStep_succ HY.out HX.out, HQB.out, ordB_some HT.out HF.out, HK.out, decide_eq_false (show ¬ (Rul.rank ⟨tid, tn, tr, ts, td, ta, tnd, tok⟩) < (Rul.rank ⟨id, nm, rk, true, de, am, nd, hs⟩) from by show ¬ tr < rk; omega)]; rfl)).symm, bth HB K.below⟩
                · have HK := Lib.hid hlk; clear hlk
                  clear x0 x1 x2
                  have x0 := fun K : Kin w4.heap.size w4 => ((hX.below K.below hX.lt).cell 0).trans (show _ = some (.int .i64 qr) from rfl)
                  have x1 := fun K : Kin w4.heap.size w4 => ((hX.below K.below hX.lt).cell 1).trans (show _ = some (.int .i64 qm) from rfl)
                  have x2 := fun K : Kin w4.heap.size w4 => ((hX.below K.below hX.lt).cell 2).trans (show _ = some (.bool true) from rfl)
                  refine wp_region_kin (by kernel_rfl) (by kernel_rfl) ?_
                  repeat (go_big_quiet_step (fail))
                  go_big_quiet_step ((go_at_call 66; exact Kin.call _ (by first | exact Nat.le_refl _ | omega) (lacksSecond_is A c rs hn ⟨pr, pm, pd⟩ ⟨tid, tn, tr, ts, td, ta, tnd, tok⟩ HT.out _ HK.out _ (PR.out.below (Kin.below _)))))
                  repeat (go_big_quiet_step (fail))
                  refine wpQuiet_nil ?_
                  intro K
                  go_wp2
                  go_ret
                  exact ⟨ret_bool (pendB_not hlt (by rw [queStep_succ HY.out HX.out, HQB.out, ordB_some HT.out HF.out, HK.out]; rfl)).symm, bth HB K.below⟩
    · obtain rfl : k = qs.length := by omega
      go_wp2
      go_ret
      exact ⟨ret_bool (by rw [pendB, HR.out, decide_eq_true hl6, HL.out]; rfl), (bth HB (by repeat (first | exact Below.refl _ _ | refine Below.alloc ?_ (by first | exact Nat.le_refl _ | (simp <;> omega)) _ | refine Below.setCell ?_ (by first | exact Nat.le_refl _ | (simp <;> omega)) _)))⟩
set_option maxHeartbeats 8000000 in
set_option maxRecDepth 100000 in
theorem l7Good_is (A : Option Addr) (c : Nat) (rs : List Rul) (hn : rs.length ≤ 1048576) (B : Option Addr) (d : Nat) (qs : List Que) (hq : qs.length ≤ 1048576) (v : Bool) (hv : pendB rs qs = v) (w : World) (hR : Rds 7 Rul.cells w A rs) (hQ : Rds 3 Que.cells w B qs) :
  Calls Tryz.prog 55 #[.slice A rs.length c, .slice B qs.length d] w fun e w' => e = .returned (.bool v) ∧ Below w.heap.size w w' := by
  subst hv
  cases hr : rulesB rs
  · have HR := Lib.hid hr
    go_enter Tryz.func55, Tryz.ntmps55
    go_wp2_with fail
    refine (l2Good_is A c rs hn _ HR.out _ (hR.below (by repeat (first | exact Below.refl _ _ | refine Below.alloc ?_ (by first | exact Nat.le_refl _ | (simp <;> omega)) _ | refine Below.setCell ?_ (by first | exact Nat.le_refl _ | (simp <;> omega)) _)))).mono ?_
    rintro e w1 ⟨rfl, hb1⟩
    have hq1 : Below w.heap.size w w1 := bth (by repeat (first | exact Below.refl _ _ | refine Below.alloc ?_ (by first | exact Nat.le_refl _ | (simp <;> omega)) _ | refine Below.setCell ?_ (by first | exact Nat.le_refl _ | (simp <;> omega)) _)) hb1
    have HB : Below w.heap.size w w1 := hq1
    replace hR := hR.below hq1
    replace hQ := hQ.below hq1
    go_wp2
    go_ret
    exact ⟨ret_bool (by simp [pendB, hr]), (bth HB (by repeat (first | exact Below.refl _ _ | refine Below.alloc ?_ (by first | exact Nat.le_refl _ | (simp <;> omega)) _ | refine Below.setCell ?_ (by first | exact Nat.le_refl _ | (simp <;> omega)) _)))⟩
  by_cases hl6 : qs.length ≤ 6
  case neg =>
    have HR := Lib.hid hr
    go_enter Tryz.func55, Tryz.ntmps55
    go_wp2_with fail
    refine (l2Good_is A c rs hn _ HR.out _ (hR.below (by repeat (first | exact Below.refl _ _ | refine Below.alloc ?_ (by first | exact Nat.le_refl _ | (simp <;> omega)) _ | refine Below.setCell ?_ (by first | exact Nat.le_refl _ | (simp <;> omega)) _)))).mono ?_
    rintro e w1 ⟨rfl, hb1⟩
    have hq1 : Below w.heap.size w w1 := bth (by repeat (first | exact Below.refl _ _ | refine Below.alloc ?_ (by first | exact Nat.le_refl _ | (simp <;> omega)) _ | refine Below.setCell ?_ (by first | exact Nat.le_refl _ | (simp <;> omega)) _)) hb1
    have HB : Below w.heap.size w w1 := hq1
    replace hR := hR.below hq1
    replace hQ := hQ.below hq1
    go_wp2
    go_ret
    exact ⟨ret_bool (by rw [pendB, decide_eq_false hl6]; simp), (bth HB (by repeat (first | exact Below.refl _ _ | refine Below.alloc ?_ (by first | exact Nat.le_refl _ | (simp <;> omega)) _ | refine Below.setCell ?_ (by first | exact Nat.le_refl _ | (simp <;> omega)) _)))⟩
  have HR := Lib.hid hr
  go_enter Tryz.func55, Tryz.ntmps55
  have hR0 := Lib.hid hR
  have hQ0 := Lib.hid hQ
  go_wp2_with fail
  refine (l2Good_is A c rs hn _ HR.out _ (hR.below (by repeat (first | exact Below.refl _ _ | refine Below.alloc ?_ (by first | exact Nat.le_refl _ | (simp <;> omega)) _ | refine Below.setCell ?_ (by first | exact Nat.le_refl _ | (simp <;> omega)) _)))).mono ?_
  rintro e w1 ⟨rfl, hb1⟩
  have hq1 : Below w.heap.size w w1 := bth (by repeat (first | exact Below.refl _ _ | refine Below.alloc ?_ (by first | exact Nat.le_refl _ | (simp <;> omega)) _ | refine Below.setCell ?_ (by first | exact Nat.le_refl _ | (simp <;> omega)) _)) hb1
  have HB : Below w.heap.size w w1 := hq1
  replace hR := hR.below hq1
  replace hQ := hQ.below hq1
  go_wp2
  go_loopw [5] (fun i wr => ∃ k : Nat, k ≤ qs.length ∧ i = .int .i64 k ∧ allTo (queStep rs qs) k = true ∧ Below w.heap.size w wr) (fun i _ => qs.length - (intOf i).toNat)
  case atStart => exact ⟨0, Nat.zero_le _, rfl, rfl, HB⟩
  case round =>
    obtain ⟨k, hk, rfl, hl, hb⟩ := hrel
    have HL := Lib.hid hl; clear hl hR hQ HB
    have hR := hR0.out
    have hQ := hQ0.out
    have hq1 : Below w.heap.size w wr := bth (by repeat (first | exact Below.refl _ _ | refine Below.alloc ?_ (by first | exact Nat.le_refl _ | (simp <;> omega)) _ | refine Below.setCell ?_ (by first | exact Nat.le_refl _ | (simp <;> omega)) _)) hb
    have HB : Below w.heap.size w wr := hq1
    replace hR := hR.below hq1
    replace hQ := hQ.below hq1
    by_cases hlt : k < qs.length
    · obtain ⟨b, off, q, rfl, hbl, hx, hcx⟩ := hQ.at_ (Below.refl _ _) hlt
      obtain ⟨qr, qm, qd⟩ := q
      have f0 := hcx 0 _ rfl
      have f1 := hcx 1 _ rfl
      have f2 := hcx 2 _ rfl
      simp only [Nat.add_zero] at f0
      have g0 := f0 (Kin.self _)
      have g1 := f1 (Kin.self _)
      have g2 := f2 (Kin.self _)
      simp only [Kin.self] at g0
      simp only [Kin.self] at g1
      simp only [Kin.self] at g2
      have HX := Lib.hid hx; clear hx hcx
      cases hf : fnd rs qr with
      | none =>
        have HF := Lib.hid hf; clear hf
        go_wp2_with fail
        refine (l2Find_is A c rs hn qr _ (idxB_nil HF.out) _ (hR.below (by repeat (first | exact Below.refl _ _ | refine Below.alloc ?_ (by first | exact Nat.le_refl _ | (simp <;> omega)) _ | refine Below.setCell ?_ (by first | exact Nat.le_refl _ | (simp <;> omega)) _)))).mono ?_
        rintro e w0 ⟨rfl, h0⟩
        rw [h0]
        clear h0 w0
        go_wp2
        go_ret
        exact ⟨ret_bool (pendB_not hlt (queStep_bad HX.out (queB_none (q := ⟨qr, qm, qd⟩) HF.out))).symm, (bth HB (by repeat (first | exact Below.refl _ _ | refine Below.alloc ?_ (by first | exact Nat.le_refl _ | (simp <;> omega)) _ | refine Below.setCell ?_ (by first | exact Nat.le_refl _ | (simp <;> omega)) _)))⟩
      | some r =>
        have HF := Lib.hid hf; clear hf
        obtain ⟨m, hm, hmr⟩ := idxB_some HF.out
        have hml : m < rs.length := (List.getElem?_eq_some_iff.1 hmr).1
        obtain ⟨b2, off2, r', rfl, hbl2, hr1, hcr⟩ := hR.at_ (Below.refl _ _) hml
        obtain rfl : r = r' := Option.some.inj (hmr.symm.trans hr1)
        obtain ⟨id, nm, rk, se, de, am, nd, hs⟩ := r
        have e2 := hcr 2 _ rfl
        have e3 := hcr 3 _ rfl
        have e3' := e3 (Kin.self _)
        simp only [Kin.self] at e3'
        have HMI := Lib.hid hm; clear hm hmr hr1 hcr
        go_wp2_with fail
        refine (l2Find_is _ c rs hn qr _ HMI.out _ (hR.below (by repeat (first | exact Below.refl _ _ | refine Below.alloc ?_ (by first | exact Nat.le_refl _ | (simp <;> omega)) _ | refine Below.setCell ?_ (by first | exact Nat.le_refl _ | (simp <;> omega)) _)))).mono ?_
        rintro e w0 ⟨rfl, h0⟩
        rw [h0]
        clear h0 w0
        cases hmem : memB qm
        · have HM := Lib.hid hmem; clear hmem
          go_wp2_with fail
          refine (l7Member_is qm _ HM.out _).mono ?_
          rintro e w0 ⟨rfl, h0⟩
          rw [h0]
          clear h0 w0
          go_wp2
          go_ret
          exact ⟨ret_bool (pendB_not hlt (queStep_bad HX.out (by rw [queB_some (q := ⟨qr, qm, qd⟩) HF.out]; simp only [HM.out]; rfl))).symm, (bth HB (by repeat (first | exact Below.refl _ _ | refine Below.alloc ?_ (by first | exact Nat.le_refl _ | (simp <;> omega)) _ | refine Below.setCell ?_ (by first | exact Nat.le_refl _ | (simp <;> omega)) _)))⟩
        · have HM := Lib.hid hmem; clear hmem
          cases qd
          · go_wp2_with fail
            refine (l7Member_is qm _ HM.out _).mono ?_
            rintro e w0 ⟨rfl, h0⟩
            rw [h0]
            clear h0 w0
            go_upto_region 9 with fail
            clear g0 g1 g2 e3 e3' f0 f1 f2
            have HQB : Hid (queB rs ⟨qr, qm, false⟩ = true) := Lib.hid (by rw [queB_some (q := ⟨qr, qm, false⟩) HF.out]; simp only [HM.out]; rfl)
            cases k with
            | zero =>
              refine wp_region_kin (by kernel_rfl) (by kernel_rfl) ?_
              repeat (go_big_quiet_step ((fail)))
              refine wpQuiet_nil ?_
              intro K
              have hq2 : Below wr.heap.size wr K.world := bth (by repeat (first | exact Below.refl _ _ | refine Below.alloc ?_ (by first | exact Nat.le_refl _ | (simp <;> omega)) _ | refine Below.setCell ?_ (by first | exact Nat.le_refl _ | (simp <;> omega)) _)) K.below
              replace HB := bth HB hq2
              replace hR := hR.below hq2
              replace hQ := hQ.below hq2
              go_wp2
              go_roundw
              case rel => exact ⟨1, by omega, by go_num, allTo_go HL.out (by rw [queStep_zero HX.out]; exact HQB.out), (bth HB (by repeat (first | exact Below.refl _ _ | refine Below.alloc ?_ (by first | exact Nat.le_refl _ | (simp <;> omega)) _ | refine Below.setCell ?_ (by first | exact Nat.le_refl _ | (simp <;> omega)) _)))⟩
              case measure => simp [intOf]; omega
            | succ j =>
              obtain ⟨b', off', p, e', _, hy, hcy⟩ := hQ.at_ (Below.refl _ _) (k := j) (by omega)
              simp only [Option.some.injEq, Addr.mk.injEq, and_true] at e'
              obtain ⟨rfl, rfl⟩ := e'
              obtain ⟨t, htf⟩ := queB_found (queStep_queB (allTo_iff.1 HL.out j (by omega)) hy)
              obtain ⟨pr, pm, pd⟩ := p
              obtain ⟨tid, tn, tr, ts, td, ta, tnd, tok⟩ := t
              have y0 := hcy 0 _ rfl
              have y1 := hcy 1 _ rfl
              have y2 := hcy 2 _ rfl
              simp only [Nat.add_zero] at y0
              have HY := Lib.hid hy; clear hy hcy
              have HT := Lib.hid htf; clear htf
              have PR := Lib.hid hR
              cases hlk : lackB ⟨tid, tn, tr, ts, td, ta, tnd, tok⟩ ⟨pr, pm, pd⟩
              · have HK := Lib.hid hlk; clear hlk
                by_cases hrk : tr < rk
                · have hle : decide (rk ≤ tr) = false := decide_eq_false (by omega)
                  refine wp_region_kin (by kernel_rfl) (by kernel_rfl) ?_
                  repeat (go_big_quiet_step (fail))
                  go_big_quiet_step ((go_at_call 83; exact Kin.call _ (by first | exact Nat.le_refl _ | omega) (l7Lacks_is _ c rs hn ⟨pr, pm, pd⟩ ⟨tid, tn, tr, ts, td, ta, tnd, tok⟩ HT.out _ HK.out _ (PR.out.below (Kin.below _)))))
                  repeat (go_big_quiet_step (fail))
                  go_big_quiet_step ((go_at_call 84; exact Kin.call _ (by first | exact Nat.le_refl _ | omega) (l7Rank_is _ c rs hn ⟨pr, pm, pd⟩ ⟨tid, tn, tr, ts, td, ta, tnd, tok⟩ HT.out _ (PR.out.below (Kin.below _)))))
                  repeat (go_big_quiet_step (fail))
                  refine wpQuiet_nil ?_
                  intro K
                  go_wp2
                  go_roundw
                  case rel => exact ⟨j + 1 + 1, by omega, by go_num, allTo_go HL.out (by rw [queStep_succ HY.out HX.out, HQB.out, ordB_some HT.out HF.out, HK.out, decide_eq_true (show (Rul.rank ⟨tid, tn, tr, ts, td, ta, tnd, tok⟩) < (Rul.rank ⟨id, nm, rk, se, de, am, nd, hs⟩) from hrk)]; rfl), bth HB K.below⟩
                  case measure => simp [intOf]; omega
                · have hle : decide (rk ≤ tr) = true := decide_eq_true (by omega)
                  refine wp_region_kin (by kernel_rfl) (by kernel_rfl) ?_
                  repeat (go_big_quiet_step (fail))
                  go_big_quiet_step ((go_at_call 83; exact Kin.call _ (by first | exact Nat.le_refl _ | omega) (l7Lacks_is _ c rs hn ⟨pr, pm, pd⟩ ⟨tid, tn, tr, ts, td, ta, tnd, tok⟩ HT.out _ HK.out _ (PR.out.below (Kin.below _)))))
                  repeat (go_big_quiet_step (fail))
                  go_big_quiet_step ((go_at_call 84; exact Kin.call _ (by first | exact Nat.le_refl _ | omega) (l7Rank_is _ c rs hn ⟨pr, pm, pd⟩ ⟨tid, tn, tr, ts, td, ta, tnd, tok⟩ HT.out _ (PR.out.below (Kin.below _)))))
                  repeat (go_big_quiet_step (fail))
                  refine wpQuiet_nil ?_
                  intro K
                  go_wp2
                  go_ret
                  exact ⟨ret_bool (pendB_not hlt (by rw [queStep_succ HY.out HX.out, HQB.out, ordB_some HT.out HF.out, HK.out, decide_eq_false (show ¬ (Rul.rank ⟨tid, tn, tr, ts, td, ta, tnd, tok⟩) < (Rul.rank ⟨id, nm, rk, se, de, am, nd, hs⟩) from by show ¬ tr < rk; omega)]; rfl)).symm, bth HB K.below⟩
              · have HK := Lib.hid hlk; clear hlk
                refine wp_region_kin (by kernel_rfl) (by kernel_rfl) ?_
                repeat (go_big_quiet_step (fail))
                go_big_quiet_step ((go_at_call 83; exact Kin.call _ (by first | exact Nat.le_refl _ | omega) (l7Lacks_is _ c rs hn ⟨pr, pm, pd⟩ ⟨tid, tn, tr, ts, td, ta, tnd, tok⟩ HT.out _ HK.out _ (PR.out.below (Kin.below _)))))
                repeat (go_big_quiet_step (fail))
                refine wpQuiet_nil ?_
                intro K
                go_wp2
                go_ret
                exact ⟨ret_bool (pendB_not hlt (by rw [queStep_succ HY.out HX.out, HQB.out, ordB_some HT.out HF.out, HK.out]; rfl)).symm, bth HB K.below⟩
          · cases se
            · go_wp2_with fail
              refine (l7Member_is qm _ HM.out _).mono ?_
              rintro e w0 ⟨rfl, h0⟩
              rw [h0]
              clear h0 w0
              go_wp2
              go_ret
              exact ⟨ret_bool (pendB_not hlt (queStep_bad HX.out (by rw [queB_some (q := ⟨qr, qm, true⟩) HF.out]; simp only [HM.out]; rfl))).symm, (bth HB (by repeat (first | exact Below.refl _ _ | refine Below.alloc ?_ (by first | exact Nat.le_refl _ | (simp <;> omega)) _ | refine Below.setCell ?_ (by first | exact Nat.le_refl _ | (simp <;> omega)) _)))⟩
            · go_wp2_with fail
              refine (l7Member_is qm _ HM.out _).mono ?_
              rintro e w0 ⟨rfl, h0⟩
              rw [h0]
              clear h0 w0
              go_upto_region 9 with fail
              clear g0 g1 g2 e3 e3' f0 f1 f2
              have HQB : Hid (queB rs ⟨qr, qm, true⟩ = true) := Lib.hid (by rw [queB_some (q := ⟨qr, qm, true⟩) HF.out]; simp only [HM.out]; rfl)
              cases k with
              | zero =>
                refine wp_region_kin (by kernel_rfl) (by kernel_rfl) ?_
                repeat (go_big_quiet_step ((fail)))
                refine wpQuiet_nil ?_
                intro K
                have hq2 : Below wr.heap.size wr K.world := bth (by repeat (first | exact Below.refl _ _ | refine Below.alloc ?_ (by first | exact Nat.le_refl _ | (simp <;> omega)) _ | refine Below.setCell ?_ (by first | exact Nat.le_refl _ | (simp <;> omega)) _)) K.below
                replace HB := bth HB hq2
                replace hR := hR.below hq2
                replace hQ := hQ.below hq2
                go_wp2
                go_roundw
                case rel => exact ⟨1, by omega, by go_num, allTo_go HL.out (by rw [queStep_zero HX.out]; exact HQB.out), (bth HB (by repeat (first | exact Below.refl _ _ | refine Below.alloc ?_ (by first | exact Nat.le_refl _ | (simp <;> omega)) _ | refine Below.setCell ?_ (by first | exact Nat.le_refl _ | (simp <;> omega)) _)))⟩
                case measure => simp [intOf]; omega
              | succ j =>
                obtain ⟨b', off', p, e', _, hy, hcy⟩ := hQ.at_ (Below.refl _ _) (k := j) (by omega)
                simp only [Option.some.injEq, Addr.mk.injEq, and_true] at e'
                obtain ⟨rfl, rfl⟩ := e'
                obtain ⟨t, htf⟩ := queB_found (queStep_queB (allTo_iff.1 HL.out j (by omega)) hy)
                obtain ⟨pr, pm, pd⟩ := p
                obtain ⟨tid, tn, tr, ts, td, ta, tnd, tok⟩ := t
                have y0 := hcy 0 _ rfl
                have y1 := hcy 1 _ rfl
                have y2 := hcy 2 _ rfl
                simp only [Nat.add_zero] at y0
                have HY := Lib.hid hy; clear hy hcy
                have HT := Lib.hid htf; clear htf
                have PR := Lib.hid hR
                cases hlk : lackB ⟨tid, tn, tr, ts, td, ta, tnd, tok⟩ ⟨pr, pm, pd⟩
                · have HK := Lib.hid hlk; clear hlk
                  by_cases hrk : tr < rk
                  · have hle : decide (rk ≤ tr) = false := decide_eq_false (by omega)
                    refine wp_region_kin (by kernel_rfl) (by kernel_rfl) ?_
                    repeat (go_big_quiet_step (fail))
                    go_big_quiet_step ((go_at_call 83; exact Kin.call _ (by first | exact Nat.le_refl _ | omega) (l7Lacks_is _ c rs hn ⟨pr, pm, pd⟩ ⟨tid, tn, tr, ts, td, ta, tnd, tok⟩ HT.out _ HK.out _ (PR.out.below (Kin.below _)))))
                    repeat (go_big_quiet_step (fail))
                    go_big_quiet_step ((go_at_call 84; exact Kin.call _ (by first | exact Nat.le_refl _ | omega) (l7Rank_is _ c rs hn ⟨pr, pm, pd⟩ ⟨tid, tn, tr, ts, td, ta, tnd, tok⟩ HT.out _ (PR.out.below (Kin.below _)))))
                    repeat (go_big_quiet_step (fail))
                    refine wpQuiet_nil ?_
                    intro K
                    go_wp2
                    go_roundw
                    case rel => exact ⟨j + 1 + 1, by omega, by go_num, allTo_go HL.out (by rw [queStep_succ HY.out HX.out, HQB.out, ordB_some HT.out HF.out, HK.out, decide_eq_true (show (Rul.rank ⟨tid, tn, tr, ts, td, ta, tnd, tok⟩) < (Rul.rank ⟨id, nm, rk, true, de, am, nd, hs⟩) from hrk)]; rfl), bth HB K.below⟩
                    case measure => simp [intOf]; omega
                  · have hle : decide (rk ≤ tr) = true := decide_eq_true (by omega)
                    refine wp_region_kin (by kernel_rfl) (by kernel_rfl) ?_
                    repeat (go_big_quiet_step (fail))
                    go_big_quiet_step ((go_at_call 83; exact Kin.call _ (by first | exact Nat.le_refl _ | omega) (l7Lacks_is _ c rs hn ⟨pr, pm, pd⟩ ⟨tid, tn, tr, ts, td, ta, tnd, tok⟩ HT.out _ HK.out _ (PR.out.below (Kin.below _)))))
                    repeat (go_big_quiet_step (fail))
                    go_big_quiet_step ((go_at_call 84; exact Kin.call _ (by first | exact Nat.le_refl _ | omega) (l7Rank_is _ c rs hn ⟨pr, pm, pd⟩ ⟨tid, tn, tr, ts, td, ta, tnd, tok⟩ HT.out _ (PR.out.below (Kin.below _)))))
                    repeat (go_big_quiet_step (fail))
                    refine wpQuiet_nil ?_
                    intro K
                    go_wp2
                    go_ret
                    exact ⟨ret_bool (pendB_not hlt (by rw [queStep_succ HY.out HX.out, HQB.out, ordB_some HT.out HF.out, HK.out, decide_eq_false (show ¬ (Rul.rank ⟨tid, tn, tr, ts, td, ta, tnd, tok⟩) < (Rul.rank ⟨id, nm, rk, true, de, am, nd, hs⟩) from by show ¬ tr < rk; omega)]; rfl)).symm, bth HB K.below⟩
                · have HK := Lib.hid hlk; clear hlk
                  refine wp_region_kin (by kernel_rfl) (by kernel_rfl) ?_
                  repeat (go_big_quiet_step (fail))
                  go_big_quiet_step ((go_at_call 83; exact Kin.call _ (by first | exact Nat.le_refl _ | omega) (l7Lacks_is _ c rs hn ⟨pr, pm, pd⟩ ⟨tid, tn, tr, ts, td, ta, tnd, tok⟩ HT.out _ HK.out _ (PR.out.below (Kin.below _)))))
                  repeat (go_big_quiet_step (fail))
                  refine wpQuiet_nil ?_
                  intro K
                  go_wp2
                  go_ret
                  exact ⟨ret_bool (pendB_not hlt (by rw [queStep_succ HY.out HX.out, HQB.out, ordB_some HT.out HF.out, HK.out]; rfl)).symm, bth HB K.below⟩
    · obtain rfl : k = qs.length := by omega
      go_wp2
      go_ret
      exact ⟨ret_bool (by rw [pendB, HR.out, decide_eq_true hl6, HL.out]; rfl), (bth HB (by repeat (first | exact Below.refl _ _ | refine Below.alloc ?_ (by first | exact Nat.le_refl _ | (simp <;> omega)) _ | refine Below.setCell ?_ (by first | exact Nat.le_refl _ | (simp <;> omega)) _)))⟩
end Go.Proofs.YtpkagohflkcnkaaGreatDoor
