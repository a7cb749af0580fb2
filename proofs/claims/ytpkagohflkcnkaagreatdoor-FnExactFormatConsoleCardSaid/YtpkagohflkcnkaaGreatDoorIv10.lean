/- A meeting's validity. -/
import Derived.Test.YtpkagohflkcnkaaGreatDoorIv9
import Derived.Test.YtpkagohflkcnkaaGreatDoorIv6
import Derived.Deep.Cut
namespace Go.Proofs.YtpkagohflkcnkaaGreatDoor
open Go.RowKit Go.G9
structure Mee where
  rules : List Rul
  pend : List Que
  turns : Int
  secs : Int
  spk : Int
  wait : List Int
  shares : List Sha
  outs : List Out
def debB (rs : List Rul) (qs : List Que) : Bool := match qs[qs.length - 1]? with
  | some q => (match fnd rs q.rule with | some r => !lackB r q && r.debate | none => false)
  | none => false
def outB (rs : List Rul) (o : Out) : Bool := (fnd rs o.rule).isSome && memB o.mover
def quietB (sp : Int) (ws : List Int) : Bool := (sp == 0) && decide (ws.length = 0)
def meetP (rs : List Rul) (qs : List Que) (tu se sp : Int) (ws : List Int) (sh : List Sha) (os : List Out) : Bool :=
  pendB rs qs && (floB tu se sp ws sh && (decide (os.length ≤ 12) && (!os.any (fun o => !outB rs o) && (debB rs qs || quietB sp ws))))
def meetB (m : Mee) : Bool := meetP m.rules m.pend m.turns m.secs m.spk m.wait m.shares m.outs
theorem debB_nil {rs : List Rul} {qs : List Que} (h : qs.length = 0) : debB rs qs = false := by
  obtain rfl := List.length_eq_zero_iff.1 h; rfl
theorem debB_last {rs : List Rul} {qs : List Que} {j : Nat} {q : Que} {r : Rul} (hl : qs.length = j + 1) (hq : qs[j]? = some q) (hr : fnd rs q.rule = some r) : debB rs qs = (!lackB r q && r.debate) := by
  have : qs.length - 1 = j := by omega
  simp only [debB, this, hq, hr]
set_option maxHeartbeats 4000000 in
set_option maxRecDepth 100000 in
theorem isDebatable_is (rs : List Rul) (qs : List Que) (tu se sp : Int) (ws : List Int) (sh : List Sha) (os : List Out) (A0 A1 A2 A3 A4 : Option Addr) (c0 c1 c2 c3 c4 : Nat) (h0 : rs.length ≤ 1048576) (h1 : qs.length ≤ 1048576) (h2 : ws.length ≤ 1048576) (h3 : sh.length ≤ 1048576) (h4 : os.length ≤ 1048576) (hp : pendB rs qs = true) (v : Bool) (hv : debB rs qs = v) (w : World) (R0 : Rds 7 Rul.cells w A0 rs) (R1 : Rds 3 Que.cells w A1 qs) (R2 : Rds 1 intC w A2 ws) (R3 : Rds 3 Sha.cells w A3 sh) (R4 : Rds 3 Out.cells w A4 os) :
  Calls Tryz.prog 43 #[.agg #[.slice A0 rs.length c0, .slice A1 qs.length c1, .int .i64 tu, .int .i64 se, .int .i64 sp, .slice A2 ws.length c2, .slice A3 sh.length c3, .slice A4 os.length c4]] w fun e w' => e = .returned (.bool v) ∧ Below w.heap.size w w' := by
  subst hv
  rcases Nat.eq_zero_or_pos qs.length with hz | hz
  · rw [hz]
    have HZ := Lib.hid hz; clear hz
    go_enter Tryz.func43, Tryz.ntmps43
    go_upto_region 1 with fail
    have hq1 : Below w.heap.size w (World.alloc w (.cells #[.slice A0 rs.length c0, .slice A1 0 c1, .int .i64 tu, .int .i64 se, .int .i64 sp, .slice A2 ws.length c2, .slice A3 sh.length c3, .slice A4 os.length c4] 44)) := bl1 w _
    have hM : Blk (World.alloc w (.cells #[.slice A0 rs.length c0, .slice A1 0 c1, .int .i64 tu, .int .i64 se, .int .i64 sp, .slice A2 ws.length c2, .slice A3 sh.length c3, .slice A4 os.length c4] 44)) (w.heap.size) 44 #[.slice A0 rs.length c0, .slice A1 0 c1, .int .i64 tu, .int .i64 se, .int .i64 sp, .slice A2 ws.length c2, .slice A3 sh.length c3, .slice A4 os.length c4] := by repeat (first | exact Blk.new _ _ _ | exact Blk.new2 _ _ _ _ | exact Blk.new3 _ _ _ _ _ | exact Blk.new4 _ _ _ _ _ _ | refine Blk.alloc ?_ _)
    replace R0 := R0.below hq1
    replace R1 := R1.below hq1
    generalize World.alloc w (.cells #[.slice A0 rs.length c0, .slice A1 0 c1, .int .i64 tu, .int .i64 se, .int .i64 sp, .slice A2 ws.length c2, .slice A3 sh.length c3, .slice A4 os.length c4] 44) = wX at *
    have HB := hq1
    have b0 := (hM.cell 0).trans (show _ = some (.slice A0 rs.length c0) from rfl)
    have b1 := (hM.cell 1).trans (show _ = some (.slice A1 0 c1) from rfl)
    have b2 := (hM.cell 2).trans (show _ = some (.int .i64 tu) from rfl)
    have b3 := (hM.cell 3).trans (show _ = some (.int .i64 se) from rfl)
    have b4 := (hM.cell 4).trans (show _ = some (.int .i64 sp) from rfl)
    have b5 := (hM.cell 5).trans (show _ = some (.slice A2 ws.length c2) from rfl)
    have b6 := (hM.cell 6).trans (show _ = some (.slice A3 sh.length c3) from rfl)
    have b7 := (hM.cell 7).trans (show _ = some (.slice A4 os.length c4) from rfl)
    go_upto_region 2 with fail
    clear b0 b1 b2 b3 b4 b5 b6 b7
    have b0 := fun K : Kin wX.heap.size wX => ((hM.below K.below hM.lt).cell 0).trans (show _ = some (.slice A0 rs.length c0) from rfl)
    have b1 := fun K : Kin wX.heap.size wX => ((hM.below K.below hM.lt).cell 1).trans (show _ = some (.slice A1 0 c1) from rfl)
    have b2 := fun K : Kin wX.heap.size wX => ((hM.below K.below hM.lt).cell 2).trans (show _ = some (.int .i64 tu) from rfl)
    have b3 := fun K : Kin wX.heap.size wX => ((hM.below K.below hM.lt).cell 3).trans (show _ = some (.int .i64 se) from rfl)
    have b4 := fun K : Kin wX.heap.size wX => ((hM.below K.below hM.lt).cell 4).trans (show _ = some (.int .i64 sp) from rfl)
    have b5 := fun K : Kin wX.heap.size wX => ((hM.below K.below hM.lt).cell 5).trans (show _ = some (.slice A2 ws.length c2) from rfl)
    have b6 := fun K : Kin wX.heap.size wX => ((hM.below K.below hM.lt).cell 6).trans (show _ = some (.slice A3 sh.length c3) from rfl)
    have b7 := fun K : Kin wX.heap.size wX => ((hM.below K.below hM.lt).cell 7).trans (show _ = some (.slice A4 os.length c4) from rfl)
    refine wp_region_kin (by kernel_rfl) (by kernel_rfl) ?_
    repeat (go_big_quiet_step (fail))
    refine wpQuiet_nil ?_
    intro K
    go_wp2
    go_ret
    exact ⟨ret_bool (debB_nil HZ.out).symm, bth HB K.below⟩
  · obtain ⟨j, hj⟩ : ∃ j, qs.length = j + 1 := ⟨qs.length - 1, by omega⟩
    have hjl : j < qs.length := by omega
    have hjb : j ≤ 1048576 := by omega
    have hge : decide ((0 : Int) ≤ (j : Int)) = true := decide_eq_true (by omega)
    obtain ⟨q, hq⟩ : ∃ q, qs[j]? = some q := ⟨qs[j], List.getElem?_eq_getElem hjl⟩
    obtain ⟨r, hr⟩ := pendB_found hp hq
    have hd := debB_last hj hq hr
    rw [hd, hj]
    have HQ := Lib.hid hq; have HR := Lib.hid hr; have HJL := Lib.hid hjl
    clear hp hd hr hq hz hj hjl
    obtain ⟨id, nm, rk, sd, de, am, nd, hs⟩ := r
    obtain ⟨qr, qm, qd⟩ := q
    go_enter Tryz.func43, Tryz.ntmps43
    go_upto_region 1 with fail
    have hq1 : Below w.heap.size w (World.alloc w (.cells #[.slice A0 rs.length c0, .slice A1 (j + 1) c1, .int .i64 tu, .int .i64 se, .int .i64 sp, .slice A2 ws.length c2, .slice A3 sh.length c3, .slice A4 os.length c4] 44)) := bl1 w _
    have hM : Blk (World.alloc w (.cells #[.slice A0 rs.length c0, .slice A1 (j + 1) c1, .int .i64 tu, .int .i64 se, .int .i64 sp, .slice A2 ws.length c2, .slice A3 sh.length c3, .slice A4 os.length c4] 44)) (w.heap.size) 44 #[.slice A0 rs.length c0, .slice A1 (j + 1) c1, .int .i64 tu, .int .i64 se, .int .i64 sp, .slice A2 ws.length c2, .slice A3 sh.length c3, .slice A4 os.length c4] := by repeat (first | exact Blk.new _ _ _ | exact Blk.new2 _ _ _ _ | exact Blk.new3 _ _ _ _ _ | exact Blk.new4 _ _ _ _ _ _ | refine Blk.alloc ?_ _)
    replace R0 := R0.below hq1
    replace R1 := R1.below hq1
    generalize World.alloc w (.cells #[.slice A0 rs.length c0, .slice A1 (j + 1) c1, .int .i64 tu, .int .i64 se, .int .i64 sp, .slice A2 ws.length c2, .slice A3 sh.length c3, .slice A4 os.length c4] 44) = wX at *
    have HB := hq1
    have b0 := (hM.cell 0).trans (show _ = some (.slice A0 rs.length c0) from rfl)
    have b1 := (hM.cell 1).trans (show _ = some (.slice A1 (j + 1) c1) from rfl)
    have b2 := (hM.cell 2).trans (show _ = some (.int .i64 tu) from rfl)
    have b3 := (hM.cell 3).trans (show _ = some (.int .i64 se) from rfl)
    have b4 := (hM.cell 4).trans (show _ = some (.int .i64 sp) from rfl)
    have b5 := (hM.cell 5).trans (show _ = some (.slice A2 ws.length c2) from rfl)
    have b6 := (hM.cell 6).trans (show _ = some (.slice A3 sh.length c3) from rfl)
    have b7 := (hM.cell 7).trans (show _ = some (.slice A4 os.length c4) from rfl)
    go_upto_region 2 with fail
    obtain ⟨bq, oq, q', rfl, hbl, hx, hcx⟩ := R1.at_ (Below.refl _ _) HJL.out
    obtain rfl := Option.some.inj (HQ.out.symm.trans hx)
    clear b0 b1 b2 b3 b4 b5 b6 b7
    have b0 := (hM.cell 0).trans (show _ = some (.slice A0 rs.length c0) from rfl)
    have b1 := (hM.cell 1).trans (show _ = some (.slice (some ⟨bq, oq, none⟩) (j + 1) c1) from rfl)
    have b2 := (hM.cell 2).trans (show _ = some (.int .i64 tu) from rfl)
    have b3 := (hM.cell 3).trans (show _ = some (.int .i64 se) from rfl)
    have b4 := (hM.cell 4).trans (show _ = some (.int .i64 sp) from rfl)
    have b5 := (hM.cell 5).trans (show _ = some (.slice A2 ws.length c2) from rfl)
    have b6 := (hM.cell 6).trans (show _ = some (.slice A3 sh.length c3) from rfl)
    have b7 := (hM.cell 7).trans (show _ = some (.slice A4 os.length c4) from rfl)
    have p0 := hcx 0 _ rfl
    have p1 := hcx 1 _ rfl
    have p2 := hcx 2 _ rfl
    simp only [Nat.add_zero] at p0
    clear hx hcx
    have PR := Lib.hid R0
    have hfd : ∀ W : World, (Instr.field 65 (.agg #[.int .i64 id, .string nm, .int .i64 rk, .bool sd, .bool de, .bool am, .int .i64 nd]) 4).run Tryz.prog W = .ok (.bool de) W := fun _ => by kernel_rfl
    cases hl : lackB ⟨id, nm, rk, sd, de, am, nd, hs⟩ ⟨qr, qm, qd⟩
    · have HL := Lib.hid hl; clear hl
      clear b0 b1 b2 b3 b4 b5 b6 b7
      have b0 := fun K : Kin wX.heap.size wX => ((hM.below K.below hM.lt).cell 0).trans (show _ = some (.slice A0 rs.length c0) from rfl)
      have b1 := fun K : Kin wX.heap.size wX => ((hM.below K.below hM.lt).cell 1).trans (show _ = some (.slice (some ⟨bq, oq, none⟩) (j + 1) c1) from rfl)
      have b2 := fun K : Kin wX.heap.size wX => ((hM.below K.below hM.lt).cell 2).trans (show _ = some (.int .i64 tu) from rfl)
      have b3 := fun K : Kin wX.heap.size wX => ((hM.below K.below hM.lt).cell 3).trans (show _ = some (.int .i64 se) from rfl)
      have b4 := fun K : Kin wX.heap.size wX => ((hM.below K.below hM.lt).cell 4).trans (show _ = some (.int .i64 sp) from rfl)
      have b5 := fun K : Kin wX.heap.size wX => ((hM.below K.below hM.lt).cell 5).trans (show _ = some (.slice A2 ws.length c2) from rfl)
      have b6 := fun K : Kin wX.heap.size wX => ((hM.below K.below hM.lt).cell 6).trans (show _ = some (.slice A3 sh.length c3) from rfl)
      have b7 := fun K : Kin wX.heap.size wX => ((hM.below K.below hM.lt).cell 7).trans (show _ = some (.slice A4 os.length c4) from rfl)
      refine wp_region_kin (by kernel_rfl) (by kernel_rfl) ?_
      repeat (go_big_quiet_step (fail))
      go_big_quiet_step ((go_at_call 66; exact Kin.call _ (by first | exact Nat.le_refl _ | omega) (lacksSecond_is A0 c0 rs h0 ⟨qr, qm, qd⟩ ⟨id, nm, rk, sd, de, am, nd, hs⟩ HR.out _ HL.out _ (PR.out.below (Kin.below _)))))
      repeat (go_big_quiet_step (fail))
      go_big_quiet_step ((go_at_call 25; exact Kin.call _ (by first | exact Nat.le_refl _ | omega) (ruleOf_is A0 c0 rs h0 ⟨qr, qm, qd⟩ ⟨id, nm, rk, sd, de, am, nd, hs⟩ HR.out _ (PR.out.below (Kin.below _)))))
      repeat (go_big_quiet_step (fail))
      refine wpQuiet_nil ?_
      intro K
      go_wp2
      go_ret
      exact ⟨ret_bool (by rw [HL.out]; rfl), bth HB K.below⟩
    · have HL := Lib.hid hl; clear hl
      clear b0 b1 b2 b3 b4 b5 b6 b7
      have b0 := fun K : Kin wX.heap.size wX => ((hM.below K.below hM.lt).cell 0).trans (show _ = some (.slice A0 rs.length c0) from rfl)
      have b1 := fun K : Kin wX.heap.size wX => ((hM.below K.below hM.lt).cell 1).trans (show _ = some (.slice (some ⟨bq, oq, none⟩) (j + 1) c1) from rfl)
      have b2 := fun K : Kin wX.heap.size wX => ((hM.below K.below hM.lt).cell 2).trans (show _ = some (.int .i64 tu) from rfl)
      have b3 := fun K : Kin wX.heap.size wX => ((hM.below K.below hM.lt).cell 3).trans (show _ = some (.int .i64 se) from rfl)
      have b4 := fun K : Kin wX.heap.size wX => ((hM.below K.below hM.lt).cell 4).trans (show _ = some (.int .i64 sp) from rfl)
      have b5 := fun K : Kin wX.heap.size wX => ((hM.below K.below hM.lt).cell 5).trans (show _ = some (.slice A2 ws.length c2) from rfl)
      have b6 := fun K : Kin wX.heap.size wX => ((hM.below K.below hM.lt).cell 6).trans (show _ = some (.slice A3 sh.length c3) from rfl)
      have b7 := fun K : Kin wX.heap.size wX => ((hM.below K.below hM.lt).cell 7).trans (show _ = some (.slice A4 os.length c4) from rfl)
      refine wp_region_kin (by kernel_rfl) (by kernel_rfl) ?_
      repeat (go_big_quiet_step (fail))
      go_big_quiet_step ((go_at_call 66; exact Kin.call _ (by first | exact Nat.le_refl _ | omega) (lacksSecond_is A0 c0 rs h0 ⟨qr, qm, qd⟩ ⟨id, nm, rk, sd, de, am, nd, hs⟩ HR.out _ HL.out _ (PR.out.below (Kin.below _)))))
      repeat (go_big_quiet_step (fail))
      refine wpQuiet_nil ?_
      intro K
      go_wp2
      go_ret
      exact ⟨ret_bool (by rw [HL.out]; rfl), bth HB K.below⟩
set_option maxHeartbeats 4000000 in
set_option maxRecDepth 100000 in
theorem l25Debate_is (rs : List Rul) (qs : List Que) (A0 A1 : Option Addr) (c0 c1 : Nat) (h0 : rs.length ≤ 1048576) (h1 : qs.length ≤ 1048576) (hp : pendB rs qs = true) (v : Bool) (hv : debB rs qs = v) (w : World) (R0 : Rds 7 Rul.cells w A0 rs) (R1 : Rds 3 Que.cells w A1 qs) :
  Calls Tryz.prog 58 #[.slice A0 rs.length c0, .slice A1 qs.length c1] w fun e w' => e = .returned (.bool v) ∧ Below w.heap.size w w' := by
  subst hv
  rcases Nat.eq_zero_or_pos qs.length with hz | hz
  · rw [hz]
    have HZ := Lib.hid hz; clear hz
    go_enter Tryz.func58, Tryz.ntmps58
    go_wp2
    go_ret
    exact ⟨ret_bool (debB_nil HZ.out).symm, Below.refl _ _⟩
  · obtain ⟨j, hj⟩ : ∃ j, qs.length = j + 1 := ⟨qs.length - 1, by omega⟩
    have hjl : j < qs.length := by omega
    have hjb : j ≤ 1048576 := by omega
    have hge : decide ((0 : Int) ≤ (j : Int)) = true := decide_eq_true (by omega)
    obtain ⟨q, hq⟩ : ∃ q, qs[j]? = some q := ⟨qs[j], List.getElem?_eq_getElem hjl⟩
    obtain ⟨r, hr⟩ := pendB_found hp hq
    have hd := debB_last hj hq hr
    obtain ⟨m, hm, hmr⟩ := idxB_some hr
    have hml : m < rs.length := (List.getElem?_eq_some_iff.1 hmr).1
    rw [hd, hj]
    have HQ := Lib.hid hq; have HR := Lib.hid hr; have HJL := Lib.hid hjl; have HM := Lib.hid hm; have HMR := Lib.hid hmr; have HML := Lib.hid hml
    clear hp hd hr hq hz hj hjl hm hmr hml
    obtain ⟨id, nm, rk, sd, de, am, nd, hs⟩ := r
    obtain ⟨qr, qm, qd⟩ := q
    obtain ⟨bq, oq, q', rfl, hbl, hx, hcx⟩ := R1.at_ (Below.refl _ _) HJL.out
    obtain rfl := Option.some.inj (HQ.out.symm.trans hx)
    have p0 := hcx 0 _ rfl
    have p1 := hcx 1 _ rfl
    have p2 := hcx 2 _ rfl
    simp only [Nat.add_zero] at p0
    have g0 := p0 (Kin.self _)
    have g1 := p1 (Kin.self _)
    have g2 := p2 (Kin.self _)
    simp only [Kin.self] at g0
    simp only [Kin.self] at g1
    simp only [Kin.self] at g2
    clear hx hcx
    cases hl : lackB ⟨id, nm, rk, sd, de, am, nd, hs⟩ ⟨qr, qm, qd⟩
    · have HL := Lib.hid hl; clear hl
      go_enter Tryz.func58, Tryz.ntmps58
      go_wp2_with fail
      refine (l7Lacks_is A0 c0 rs h0 ⟨qr, qm, qd⟩ ⟨id, nm, rk, sd, de, am, nd, hs⟩ HR.out _ HL.out _ R0).mono ?_
      rintro e w1 ⟨rfl, hb1⟩
      obtain ⟨b2, o2, r', rfl, hbl2, hx2, hcx2⟩ := R0.at_ hb1 HML.out
      obtain rfl := Option.some.inj (HMR.out.symm.trans hx2)
      obtain ⟨b3, o3, q3, e3, hbl3, hx3, hcx3⟩ := R1.at_ hb1 HJL.out
      simp only [Option.some.injEq, Addr.mk.injEq, and_true] at e3
      obtain ⟨rfl, rfl⟩ := e3
      obtain rfl := Option.some.inj (HQ.out.symm.trans hx3)
      have y4 := hcx2 4 _ rfl (Kin.self _)
      have y0 := hcx3 0 _ rfl (Kin.self _)
      simp only [Nat.add_zero, Kin.self] at y4 y0
      clear hx2 hcx2 hx3 hcx3 p0 p1 p2 g0 g1 g2
      go_wp2_with fail
      refine (l2Find_is _ c0 rs h0 qr _ HM.out _ (R0.below hb1)).mono ?_
      rintro e w0 ⟨rfl, hh0⟩
      rw [hh0]
      clear hh0 w0
      go_wp2
      go_ret
      exact ⟨rfl, hb1⟩
    · have HL := Lib.hid hl; clear hl
      go_enter Tryz.func58, Tryz.ntmps58
      go_wp2_with fail
      refine (l7Lacks_is A0 c0 rs h0 ⟨qr, qm, qd⟩ ⟨id, nm, rk, sd, de, am, nd, hs⟩ HR.out _ HL.out _ R0).mono ?_
      rintro e w1 ⟨rfl, hb1⟩
      go_wp2
      go_ret
      exact ⟨rfl, hb1⟩
set_option maxHeartbeats 1000000 in
set_option maxRecDepth 100000 in
theorem indexFunc_Out (A : Option Addr) (c : Nat) (xs : List Out) (hn : xs.length ≤ 1048576) (f : FuncId) (cv : Array Value) (hcall : ∀ args W, (callFunc f args).run Tryz.prog W = .ok (.enter f args) W) (p : Out → Bool) (v : Int) (hv : idxB p xs = v) (w : World) (hR : Rds 3 Out.cells w A xs)
    (hf : ∀ x, x ∈ xs → ∀ W, Below w.heap.size w W → Calls Tryz.prog f (#[.agg #[.int .i64 x.rule, .int .i64 x.mover, .bool x.ado]] ++ cv) W fun e w' => e = .returned (.bool (p x)) ∧ Below W.heap.size W w') :
  Calls Tryz.prog 71 #[.slice A xs.length c, .func (.func f) #[] cv] w fun e w' => e = .returned (.int .i64 v) ∧ Below w.heap.size w w' := by
  subst hv
  have HF := Lib.hid hf; clear hf
  go_enter Tryz.func71, Tryz.ntmps71
  go_wp2
  go_loopw [8] (fun i wr => ∃ k : Nat, k ≤ xs.length ∧ i = .int .i64 k ∧ allTo (fun i => !atB p xs i) k = true ∧ Below w.heap.size w wr) (fun i _ => xs.length - (intOf i).toNat)
  case atStart => exact ⟨0, Nat.zero_le _, rfl, rfl, Below.refl _ _⟩
  case round =>
    obtain ⟨k, hk, rfl, hl, hb⟩ := hrel
    have HL := Lib.hid hl; clear hl
    by_cases hlt : k < xs.length
    · obtain ⟨b, off, x, rfl, hbl, hx, hcx⟩ := hR.at_ hb hlt
      have HF' := Lib.hid (HF.out x (List.mem_of_getElem? hx))
      obtain ⟨or, om, oa⟩ := x
      have f0 := hcx 0 _ rfl
      have f1 := hcx 1 _ rfl
      have f2 := hcx 2 _ rfl
      simp only [Nat.add_zero] at f0
      have g0 := f0 (Kin.self _)
      have g1 := f1 (Kin.self _)
      have g2 := f2 (Kin.self _)
      simp only [Kin.self] at g0
      simp only [Kin.self] at g1
      simp only [Kin.self] at g2
      have HX := Lib.hid hx; clear hx hcx
      go_wp2_with fail
      refine (HF'.out _ hb).mono ?_
      rintro e w' ⟨rfl, hb'⟩
      cases hp : p ⟨or, om, oa⟩
      · go_wp2
        go_roundw
        case rel => exact ⟨k + 1, by omega, by go_num, allTo_go HL.out (by simp [atB, HX.out, hp]), bth hb hb'⟩
        case measure => simp [intOf]; omega
      · go_wp2
        go_ret
        exact ⟨ret_int (idxB_found hlt HL.out (by simp [atB, HX.out, hp])).symm, bth hb hb'⟩
    · obtain rfl : k = xs.length := by omega
      go_wp2
      go_ret
      exact ⟨ret_int (idxB_none HL.out).symm, hb⟩
theorem containsFunc_Out (A : Option Addr) (c : Nat) (xs : List Out) (hn : xs.length ≤ 1048576) (f : FuncId) (cv : Array Value) (hcall : ∀ args W, (callFunc f args).run Tryz.prog W = .ok (.enter f args) W) (p : Out → Bool) (v : Bool) (hv : xs.any p = v) (w : World) (hR : Rds 3 Out.cells w A xs)
    (hf : ∀ x, x ∈ xs → ∀ W, Below w.heap.size w W → Calls Tryz.prog f (#[.agg #[.int .i64 x.rule, .int .i64 x.mover, .bool x.ado]] ++ cv) W fun e w' => e = .returned (.bool (p x)) ∧ Below W.heap.size W w') :
  Calls Tryz.prog 39 #[.slice A xs.length c, .func (.func f) #[] cv] w fun e w' => e = .returned (.bool v) ∧ Below w.heap.size w w' := by
  subst hv
  have HF := Lib.hid hf; clear hf
  have hg := idxB_ge p xs
  have HG := Lib.hid hg; clear hg
  go_enter Tryz.func39, Tryz.ntmps39
  go_wp2_with fail
  refine (indexFunc_Out A c xs hn f cv hcall p _ rfl _ hR HF.out).mono ?_
  rintro e w' ⟨rfl, hb⟩
  go_wp2
  go_ret
  exact ⟨ret_bool HG.out, hb⟩
theorem outB_none {rs : List Rul} {o : Out} (h : fnd rs o.rule = none) : outB rs o = false := by simp [outB, h]
theorem outB_some {rs : List Rul} {o : Out} {r : Rul} (h : fnd rs o.rule = some r) : outB rs o = memB o.mover := by simp [outB, h]
set_option maxHeartbeats 1000000 in
set_option maxRecDepth 100000 in
theorem outF_is (rs : List Rul) (A0 : Option Addr) (c0 : Nat) (h0 : rs.length ≤ 1048576) (g : Nat) (x : Out) (W : World) (hg : W.cell? ⟨g, 0, none⟩ = some (.slice A0 rs.length c0)) (hl : g < W.heap.size) (R0 : Rds 7 Rul.cells W A0 rs) :
  Calls Tryz.prog 40 (#[.agg #[.int .i64 x.rule, .int .i64 x.mover, .bool x.ado]] ++ #[.pointer (some ⟨g, 0, none⟩)]) W fun e w' => e = .returned (.bool (!outB rs x)) ∧ Below W.heap.size W w' := by
  obtain ⟨xr, xm, xa⟩ := x
  cases hf : fnd rs xr with
  | none =>
    have HF := Lib.hid hf; clear hf
    rw [outB_none (o := ⟨xr, xm, xa⟩) HF.out]
    go_enter Tryz.func40, Tryz.ntmps40
    go_wp2_with fail
    refine (ruleIndex_is A0 c0 rs h0 xr _ (idxB_nil HF.out) _ (R0.below (bl1 _ _))).mono ?_
    rintro e w1 ⟨rfl, hb1⟩
    go_wp2
    go_ret
    exact ⟨rfl, bth (bl1 _ _) hb1⟩
  | some r =>
    obtain ⟨m, hm, _⟩ := idxB_some hf
    have HM := Lib.hid hm; clear hm
    rw [outB_some (o := ⟨xr, xm, xa⟩) hf]
    have hml := idxB_lt (fun r : Rul => r.id == xr) rs
    clear hml
    cases hb : memB xm
    all_goals
      have HB2 := Lib.hid hb
      go_enter Tryz.func40, Tryz.ntmps40
      go_wp2_with fail
      refine (ruleIndex_is A0 c0 rs h0 xr _ HM.out _ (R0.below (bl1 _ _))).mono ?_
      rintro e w1 ⟨rfl, hb1⟩
      have hX := (Blk.new W 81 #[.int .i64 xr, .int .i64 xm, .bool xa]).below hb1 (by simp)
      have x1 := (hX.cell 1).trans (show _ = some (.int .i64 xm) from rfl)
      have hXl := hX.lt
      go_wp2_with fail
      refine (isMember_is xm _ HB2.out _).mono ?_
      rintro e w0 ⟨rfl, hh0⟩
      rw [hh0]
      clear hh0 w0
      go_wp2
      go_ret
      exact ⟨rfl, bth (bl1 _ _) hb1⟩
theorem meetP_1 {rs : List Rul} {qs : List Que} {tu se sp : Int} {ws : List Int} {sh : List Sha} {os : List Out} (h : pendB rs qs = false) : meetP rs qs tu se sp ws sh os = false := by rw [meetP, h]; rfl
theorem meetP_2 {rs : List Rul} {qs : List Que} {tu se sp : Int} {ws : List Int} {sh : List Sha} {os : List Out} (h : floB tu se sp ws sh = false) : meetP rs qs tu se sp ws sh os = false := by rw [meetP, h]; simp
theorem meetP_3 {rs : List Rul} {qs : List Que} {tu se sp : Int} {ws : List Int} {sh : List Sha} {os : List Out} (h : ¬ os.length ≤ 12) : meetP rs qs tu se sp ws sh os = false := by rw [meetP, decide_eq_false h]; simp
theorem meetP_4 {rs : List Rul} {qs : List Que} {tu se sp : Int} {ws : List Int} {sh : List Sha} {os : List Out} (h : os.any (fun o => !outB rs o) = true) : meetP rs qs tu se sp ws sh os = false := by rw [meetP, h]; simp
theorem meetP_5 {rs : List Rul} {qs : List Que} {tu se sp : Int} {ws : List Int} {sh : List Sha} {os : List Out} (h1 : pendB rs qs = true) (h2 : floB tu se sp ws sh = true) (h3 : os.length ≤ 12) (h4 : os.any (fun o => !outB rs o) = false) : meetP rs qs tu se sp ws sh os = (debB rs qs || quietB sp ws) := by rw [meetP, h1, h2, h4, decide_eq_true h3]; simp
theorem meetB_pend {m : Mee} (h : meetB m = true) : pendB m.rules m.pend = true := by
  simp only [meetB, meetP, Bool.and_eq_true] at h; exact h.1
set_option maxHeartbeats 8000000 in
set_option maxRecDepth 100000 in
theorem iMeet_is (rs : List Rul) (qs : List Que) (tu se sp : Int) (ws : List Int) (sh : List Sha) (os : List Out) (A0 A1 A2 A3 A4 : Option Addr) (c0 c1 c2 c3 c4 : Nat) (h0 : rs.length ≤ 1048576) (h1 : qs.length ≤ 1048576) (h2 : ws.length ≤ 1048576) (h3 : sh.length ≤ 1048576) (h4 : os.length ≤ 1048576) (v : Bool) (hv : meetP rs qs tu se sp ws sh os = v) (w : World) (R0 : Rds 7 Rul.cells w A0 rs) (R1 : Rds 3 Que.cells w A1 qs) (R2 : Rds 1 intC w A2 ws) (R3 : Rds 3 Sha.cells w A3 sh) (R4 : Rds 3 Out.cells w A4 os) (k0 : rs.length ≤ c0) (k2 : ws.length ≤ c2) :
  Calls Tryz.prog 17 #[.agg #[.slice A0 rs.length c0, .slice A1 qs.length c1, .int .i64 tu, .int .i64 se, .int .i64 sp, .slice A2 ws.length c2, .slice A3 sh.length c3, .slice A4 os.length c4]] w fun e w' => e = .returned (.bool v) ∧ Below w.heap.size w w' := by
  subst hv
  cases h1' : pendB rs qs
  · have G1 := Lib.hid h1'; clear h1'
    go_enter Tryz.func17, Tryz.ntmps17
    go_upto_region 1 with fail
    have hq1 : Below w.heap.size w (World.alloc w (.cells #[.slice A0 rs.length c0, .slice A1 qs.length c1, .int .i64 tu, .int .i64 se, .int .i64 sp, .slice A2 ws.length c2, .slice A3 sh.length c3, .slice A4 os.length c4] 44)) := bl1 w _
    have hM : Blk (World.alloc w (.cells #[.slice A0 rs.length c0, .slice A1 qs.length c1, .int .i64 tu, .int .i64 se, .int .i64 sp, .slice A2 ws.length c2, .slice A3 sh.length c3, .slice A4 os.length c4] 44)) (w.heap.size) 44 #[.slice A0 rs.length c0, .slice A1 qs.length c1, .int .i64 tu, .int .i64 se, .int .i64 sp, .slice A2 ws.length c2, .slice A3 sh.length c3, .slice A4 os.length c4] := by repeat (first | exact Blk.new _ _ _ | exact Blk.new2 _ _ _ _ | exact Blk.new3 _ _ _ _ _ | exact Blk.new4 _ _ _ _ _ _ | refine Blk.alloc ?_ _)
    replace R0 := R0.below hq1
    replace R1 := R1.below hq1
    replace R2 := R2.below hq1
    replace R3 := R3.below hq1
    replace R4 := R4.below hq1
    generalize World.alloc w (.cells #[.slice A0 rs.length c0, .slice A1 qs.length c1, .int .i64 tu, .int .i64 se, .int .i64 sp, .slice A2 ws.length c2, .slice A3 sh.length c3, .slice A4 os.length c4] 44) = wX at *
    have HB := hq1
    have b0 := (hM.cell 0).trans (show _ = some (.slice A0 rs.length c0) from rfl)
    have b1 := (hM.cell 1).trans (show _ = some (.slice A1 qs.length c1) from rfl)
    have b2 := (hM.cell 2).trans (show _ = some (.int .i64 tu) from rfl)
    have b3 := (hM.cell 3).trans (show _ = some (.int .i64 se) from rfl)
    have b4 := (hM.cell 4).trans (show _ = some (.int .i64 sp) from rfl)
    have b5 := (hM.cell 5).trans (show _ = some (.slice A2 ws.length c2) from rfl)
    have b6 := (hM.cell 6).trans (show _ = some (.slice A3 sh.length c3) from rfl)
    have b7 := (hM.cell 7).trans (show _ = some (.slice A4 os.length c4) from rfl)
    go_wp2_with fail
    refine (arePending_is A0 c0 rs h0 k0 A1 c1 qs h1 _ G1.out _ (R0.below (by repeat (first | exact Below.refl _ _ | refine Below.alloc ?_ (by first | exact Nat.le_refl _ | (simp <;> omega)) _ | refine Below.setCell ?_ (by first | exact Nat.le_refl _ | (simp <;> omega)) _))) (R1.below (by repeat (first | exact Below.refl _ _ | refine Below.alloc ?_ (by first | exact Nat.le_refl _ | (simp <;> omega)) _ | refine Below.setCell ?_ (by first | exact Nat.le_refl _ | (simp <;> omega)) _)))).mono ?_
    rintro e w2 ⟨rfl, hb2⟩
    have hq2 : Below wX.heap.size wX w2 := bth (by repeat (first | exact Below.refl _ _ | refine Below.alloc ?_ (by first | exact Nat.le_refl _ | (simp <;> omega)) _ | refine Below.setCell ?_ (by first | exact Nat.le_refl _ | (simp <;> omega)) _)) hb2
    replace HB := bth HB hq2
    replace R0 := R0.below hq2
    replace R1 := R1.below hq2
    replace R2 := R2.below hq2
    replace R3 := R3.below hq2
    replace R4 := R4.below hq2
    replace hM := hM.below hq2 hM.lt
    replace b0 := (hM.cell 0).trans (show _ = some (.slice A0 rs.length c0) from rfl)
    replace b1 := (hM.cell 1).trans (show _ = some (.slice A1 qs.length c1) from rfl)
    replace b2 := (hM.cell 2).trans (show _ = some (.int .i64 tu) from rfl)
    replace b3 := (hM.cell 3).trans (show _ = some (.int .i64 se) from rfl)
    replace b4 := (hM.cell 4).trans (show _ = some (.int .i64 sp) from rfl)
    replace b5 := (hM.cell 5).trans (show _ = some (.slice A2 ws.length c2) from rfl)
    replace b6 := (hM.cell 6).trans (show _ = some (.slice A3 sh.length c3) from rfl)
    replace b7 := (hM.cell 7).trans (show _ = some (.slice A4 os.length c4) from rfl)
    go_wp2
    go_ret
    exact ⟨ret_bool (meetP_1 G1.out).symm, (bth HB (by repeat (first | exact Below.refl _ _ | refine Below.alloc ?_ (by first | exact Nat.le_refl _ | (simp <;> omega)) _ | refine Below.setCell ?_ (by first | exact Nat.le_refl _ | (simp <;> omega)) _)))⟩
  have H1 := Lib.hid h1'; have G1 := Lib.hid h1'; clear h1'
  cases h2' : floB tu se sp ws sh
  · have G2 := Lib.hid h2'; clear h2'
    go_enter Tryz.func17, Tryz.ntmps17
    go_upto_region 1 with fail
    have hq1 : Below w.heap.size w (World.alloc w (.cells #[.slice A0 rs.length c0, .slice A1 qs.length c1, .int .i64 tu, .int .i64 se, .int .i64 sp, .slice A2 ws.length c2, .slice A3 sh.length c3, .slice A4 os.length c4] 44)) := bl1 w _
    have hM : Blk (World.alloc w (.cells #[.slice A0 rs.length c0, .slice A1 qs.length c1, .int .i64 tu, .int .i64 se, .int .i64 sp, .slice A2 ws.length c2, .slice A3 sh.length c3, .slice A4 os.length c4] 44)) (w.heap.size) 44 #[.slice A0 rs.length c0, .slice A1 qs.length c1, .int .i64 tu, .int .i64 se, .int .i64 sp, .slice A2 ws.length c2, .slice A3 sh.length c3, .slice A4 os.length c4] := by repeat (first | exact Blk.new _ _ _ | exact Blk.new2 _ _ _ _ | exact Blk.new3 _ _ _ _ _ | exact Blk.new4 _ _ _ _ _ _ | refine Blk.alloc ?_ _)
    replace R0 := R0.below hq1
    replace R1 := R1.below hq1
    replace R2 := R2.below hq1
    replace R3 := R3.below hq1
    replace R4 := R4.below hq1
    generalize World.alloc w (.cells #[.slice A0 rs.length c0, .slice A1 qs.length c1, .int .i64 tu, .int .i64 se, .int .i64 sp, .slice A2 ws.length c2, .slice A3 sh.length c3, .slice A4 os.length c4] 44) = wX at *
    have HB := hq1
    have b0 := (hM.cell 0).trans (show _ = some (.slice A0 rs.length c0) from rfl)
    have b1 := (hM.cell 1).trans (show _ = some (.slice A1 qs.length c1) from rfl)
    have b2 := (hM.cell 2).trans (show _ = some (.int .i64 tu) from rfl)
    have b3 := (hM.cell 3).trans (show _ = some (.int .i64 se) from rfl)
    have b4 := (hM.cell 4).trans (show _ = some (.int .i64 sp) from rfl)
    have b5 := (hM.cell 5).trans (show _ = some (.slice A2 ws.length c2) from rfl)
    have b6 := (hM.cell 6).trans (show _ = some (.slice A3 sh.length c3) from rfl)
    have b7 := (hM.cell 7).trans (show _ = some (.slice A4 os.length c4) from rfl)
    go_wp2_with fail
    refine (arePending_is A0 c0 rs h0 k0 A1 c1 qs h1 _ G1.out _ (R0.below (by repeat (first | exact Below.refl _ _ | refine Below.alloc ?_ (by first | exact Nat.le_refl _ | (simp <;> omega)) _ | refine Below.setCell ?_ (by first | exact Nat.le_refl _ | (simp <;> omega)) _))) (R1.below (by repeat (first | exact Below.refl _ _ | refine Below.alloc ?_ (by first | exact Nat.le_refl _ | (simp <;> omega)) _ | refine Below.setCell ?_ (by first | exact Nat.le_refl _ | (simp <;> omega)) _)))).mono ?_
    rintro e w2 ⟨rfl, hb2⟩
    have hq2 : Below wX.heap.size wX w2 := bth (by repeat (first | exact Below.refl _ _ | refine Below.alloc ?_ (by first | exact Nat.le_refl _ | (simp <;> omega)) _ | refine Below.setCell ?_ (by first | exact Nat.le_refl _ | (simp <;> omega)) _)) hb2
    replace HB := bth HB hq2
    replace R0 := R0.below hq2
    replace R1 := R1.below hq2
    replace R2 := R2.below hq2
    replace R3 := R3.below hq2
    replace R4 := R4.below hq2
    replace hM := hM.below hq2 hM.lt
    replace b0 := (hM.cell 0).trans (show _ = some (.slice A0 rs.length c0) from rfl)
    replace b1 := (hM.cell 1).trans (show _ = some (.slice A1 qs.length c1) from rfl)
    replace b2 := (hM.cell 2).trans (show _ = some (.int .i64 tu) from rfl)
    replace b3 := (hM.cell 3).trans (show _ = some (.int .i64 se) from rfl)
    replace b4 := (hM.cell 4).trans (show _ = some (.int .i64 sp) from rfl)
    replace b5 := (hM.cell 5).trans (show _ = some (.slice A2 ws.length c2) from rfl)
    replace b6 := (hM.cell 6).trans (show _ = some (.slice A3 sh.length c3) from rfl)
    replace b7 := (hM.cell 7).trans (show _ = some (.slice A4 os.length c4) from rfl)
    go_wp2_with fail
    refine (isValidFloor_is tu se sp A2 ws c2 A3 c3 sh h2 h3 k2 _ G2.out _ (R2.below (by repeat (first | exact Below.refl _ _ | refine Below.alloc ?_ (by first | exact Nat.le_refl _ | (simp <;> omega)) _ | refine Below.setCell ?_ (by first | exact Nat.le_refl _ | (simp <;> omega)) _))) (R3.below (by repeat (first | exact Below.refl _ _ | refine Below.alloc ?_ (by first | exact Nat.le_refl _ | (simp <;> omega)) _ | refine Below.setCell ?_ (by first | exact Nat.le_refl _ | (simp <;> omega)) _)))).mono ?_
    rintro e w3 ⟨rfl, hb3⟩
    have hq3 : Below w2.heap.size w2 w3 := bth (by repeat (first | exact Below.refl _ _ | refine Below.alloc ?_ (by first | exact Nat.le_refl _ | (simp <;> omega)) _ | refine Below.setCell ?_ (by first | exact Nat.le_refl _ | (simp <;> omega)) _)) hb3
    replace HB := bth HB hq3
    replace R0 := R0.below hq3
    replace R1 := R1.below hq3
    replace R2 := R2.below hq3
    replace R3 := R3.below hq3
    replace R4 := R4.below hq3
    replace hM := hM.below hq3 hM.lt
    replace b0 := (hM.cell 0).trans (show _ = some (.slice A0 rs.length c0) from rfl)
    replace b1 := (hM.cell 1).trans (show _ = some (.slice A1 qs.length c1) from rfl)
    replace b2 := (hM.cell 2).trans (show _ = some (.int .i64 tu) from rfl)
    replace b3 := (hM.cell 3).trans (show _ = some (.int .i64 se) from rfl)
    replace b4 := (hM.cell 4).trans (show _ = some (.int .i64 sp) from rfl)
    replace b5 := (hM.cell 5).trans (show _ = some (.slice A2 ws.length c2) from rfl)
    replace b6 := (hM.cell 6).trans (show _ = some (.slice A3 sh.length c3) from rfl)
    replace b7 := (hM.cell 7).trans (show _ = some (.slice A4 os.length c4) from rfl)
    go_wp2
    go_ret
    exact ⟨ret_bool (meetP_2 G2.out).symm, (bth HB (by repeat (first | exact Below.refl _ _ | refine Below.alloc ?_ (by first | exact Nat.le_refl _ | (simp <;> omega)) _ | refine Below.setCell ?_ (by first | exact Nat.le_refl _ | (simp <;> omega)) _)))⟩
  have H2 := Lib.hid h2'; have G2 := Lib.hid h2'; clear h2'
  by_cases h3' : os.length ≤ 12
  case neg =>
    go_enter Tryz.func17, Tryz.ntmps17
    go_upto_region 1 with fail
    have hq1 : Below w.heap.size w (World.alloc w (.cells #[.slice A0 rs.length c0, .slice A1 qs.length c1, .int .i64 tu, .int .i64 se, .int .i64 sp, .slice A2 ws.length c2, .slice A3 sh.length c3, .slice A4 os.length c4] 44)) := bl1 w _
    have hM : Blk (World.alloc w (.cells #[.slice A0 rs.length c0, .slice A1 qs.length c1, .int .i64 tu, .int .i64 se, .int .i64 sp, .slice A2 ws.length c2, .slice A3 sh.length c3, .slice A4 os.length c4] 44)) (w.heap.size) 44 #[.slice A0 rs.length c0, .slice A1 qs.length c1, .int .i64 tu, .int .i64 se, .int .i64 sp, .slice A2 ws.length c2, .slice A3 sh.length c3, .slice A4 os.length c4] := by repeat (first | exact Blk.new _ _ _ | exact Blk.new2 _ _ _ _ | exact Blk.new3 _ _ _ _ _ | exact Blk.new4 _ _ _ _ _ _ | refine Blk.alloc ?_ _)
    replace R0 := R0.below hq1
    replace R1 := R1.below hq1
    replace R2 := R2.below hq1
    replace R3 := R3.below hq1
    replace R4 := R4.below hq1
    generalize World.alloc w (.cells #[.slice A0 rs.length c0, .slice A1 qs.length c1, .int .i64 tu, .int .i64 se, .int .i64 sp, .slice A2 ws.length c2, .slice A3 sh.length c3, .slice A4 os.length c4] 44) = wX at *
    have HB := hq1
    have b0 := (hM.cell 0).trans (show _ = some (.slice A0 rs.length c0) from rfl)
    have b1 := (hM.cell 1).trans (show _ = some (.slice A1 qs.length c1) from rfl)
    have b2 := (hM.cell 2).trans (show _ = some (.int .i64 tu) from rfl)
    have b3 := (hM.cell 3).trans (show _ = some (.int .i64 se) from rfl)
    have b4 := (hM.cell 4).trans (show _ = some (.int .i64 sp) from rfl)
    have b5 := (hM.cell 5).trans (show _ = some (.slice A2 ws.length c2) from rfl)
    have b6 := (hM.cell 6).trans (show _ = some (.slice A3 sh.length c3) from rfl)
    have b7 := (hM.cell 7).trans (show _ = some (.slice A4 os.length c4) from rfl)
    go_wp2_with fail
    refine (arePending_is A0 c0 rs h0 k0 A1 c1 qs h1 _ G1.out _ (R0.below (by repeat (first | exact Below.refl _ _ | refine Below.alloc ?_ (by first | exact Nat.le_refl _ | (simp <;> omega)) _ | refine Below.setCell ?_ (by first | exact Nat.le_refl _ | (simp <;> omega)) _))) (R1.below (by repeat (first | exact Below.refl _ _ | refine Below.alloc ?_ (by first | exact Nat.le_refl _ | (simp <;> omega)) _ | refine Below.setCell ?_ (by first | exact Nat.le_refl _ | (simp <;> omega)) _)))).mono ?_
    rintro e w2 ⟨rfl, hb2⟩
    have hq2 : Below wX.heap.size wX w2 := bth (by repeat (first | exact Below.refl _ _ | refine Below.alloc ?_ (by first | exact Nat.le_refl _ | (simp <;> omega)) _ | refine Below.setCell ?_ (by first | exact Nat.le_refl _ | (simp <;> omega)) _)) hb2
    replace HB := bth HB hq2
    replace R0 := R0.below hq2
    replace R1 := R1.below hq2
    replace R2 := R2.below hq2
    replace R3 := R3.below hq2
    replace R4 := R4.below hq2
    replace hM := hM.below hq2 hM.lt
    replace b0 := (hM.cell 0).trans (show _ = some (.slice A0 rs.length c0) from rfl)
    replace b1 := (hM.cell 1).trans (show _ = some (.slice A1 qs.length c1) from rfl)
    replace b2 := (hM.cell 2).trans (show _ = some (.int .i64 tu) from rfl)
    replace b3 := (hM.cell 3).trans (show _ = some (.int .i64 se) from rfl)
    replace b4 := (hM.cell 4).trans (show _ = some (.int .i64 sp) from rfl)
    replace b5 := (hM.cell 5).trans (show _ = some (.slice A2 ws.length c2) from rfl)
    replace b6 := (hM.cell 6).trans (show _ = some (.slice A3 sh.length c3) from rfl)
    replace b7 := (hM.cell 7).trans (show _ = some (.slice A4 os.length c4) from rfl)
    go_wp2_with fail
    refine (isValidFloor_is tu se sp A2 ws c2 A3 c3 sh h2 h3 k2 _ G2.out _ (R2.below (by repeat (first | exact Below.refl _ _ | refine Below.alloc ?_ (by first | exact Nat.le_refl _ | (simp <;> omega)) _ | refine Below.setCell ?_ (by first | exact Nat.le_refl _ | (simp <;> omega)) _))) (R3.below (by repeat (first | exact Below.refl _ _ | refine Below.alloc ?_ (by first | exact Nat.le_refl _ | (simp <;> omega)) _ | refine Below.setCell ?_ (by first | exact Nat.le_refl _ | (simp <;> omega)) _)))).mono ?_
    rintro e w3 ⟨rfl, hb3⟩
    have hq3 : Below w2.heap.size w2 w3 := bth (by repeat (first | exact Below.refl _ _ | refine Below.alloc ?_ (by first | exact Nat.le_refl _ | (simp <;> omega)) _ | refine Below.setCell ?_ (by first | exact Nat.le_refl _ | (simp <;> omega)) _)) hb3
    replace HB := bth HB hq3
    replace R0 := R0.below hq3
    replace R1 := R1.below hq3
    replace R2 := R2.below hq3
    replace R3 := R3.below hq3
    replace R4 := R4.below hq3
    replace hM := hM.below hq3 hM.lt
    replace b0 := (hM.cell 0).trans (show _ = some (.slice A0 rs.length c0) from rfl)
    replace b1 := (hM.cell 1).trans (show _ = some (.slice A1 qs.length c1) from rfl)
    replace b2 := (hM.cell 2).trans (show _ = some (.int .i64 tu) from rfl)
    replace b3 := (hM.cell 3).trans (show _ = some (.int .i64 se) from rfl)
    replace b4 := (hM.cell 4).trans (show _ = some (.int .i64 sp) from rfl)
    replace b5 := (hM.cell 5).trans (show _ = some (.slice A2 ws.length c2) from rfl)
    replace b6 := (hM.cell 6).trans (show _ = some (.slice A3 sh.length c3) from rfl)
    replace b7 := (hM.cell 7).trans (show _ = some (.slice A4 os.length c4) from rfl)
    go_wp2
    go_ret
    exact ⟨ret_bool (meetP_3 h3').symm, (bth HB (by repeat (first | exact Below.refl _ _ | refine Below.alloc ?_ (by first | exact Nat.le_refl _ | (simp <;> omega)) _ | refine Below.setCell ?_ (by first | exact Nat.le_refl _ | (simp <;> omega)) _)))⟩
  have H3 := Lib.hid h3'
  go_enter Tryz.func17, Tryz.ntmps17
  go_upto_region 1 with fail
  have hq1 : Below w.heap.size w (World.alloc w (.cells #[.slice A0 rs.length c0, .slice A1 qs.length c1, .int .i64 tu, .int .i64 se, .int .i64 sp, .slice A2 ws.length c2, .slice A3 sh.length c3, .slice A4 os.length c4] 44)) := bl1 w _
  have hM : Blk (World.alloc w (.cells #[.slice A0 rs.length c0, .slice A1 qs.length c1, .int .i64 tu, .int .i64 se, .int .i64 sp, .slice A2 ws.length c2, .slice A3 sh.length c3, .slice A4 os.length c4] 44)) (w.heap.size) 44 #[.slice A0 rs.length c0, .slice A1 qs.length c1, .int .i64 tu, .int .i64 se, .int .i64 sp, .slice A2 ws.length c2, .slice A3 sh.length c3, .slice A4 os.length c4] := by repeat (first | exact Blk.new _ _ _ | exact Blk.new2 _ _ _ _ | exact Blk.new3 _ _ _ _ _ | exact Blk.new4 _ _ _ _ _ _ | refine Blk.alloc ?_ _)
  replace R0 := R0.below hq1
  replace R1 := R1.below hq1
  replace R2 := R2.below hq1
  replace R3 := R3.below hq1
  replace R4 := R4.below hq1
  generalize World.alloc w (.cells #[.slice A0 rs.length c0, .slice A1 qs.length c1, .int .i64 tu, .int .i64 se, .int .i64 sp, .slice A2 ws.length c2, .slice A3 sh.length c3, .slice A4 os.length c4] 44) = wX at *
  have HB := hq1
  have b0 := (hM.cell 0).trans (show _ = some (.slice A0 rs.length c0) from rfl)
  have b1 := (hM.cell 1).trans (show _ = some (.slice A1 qs.length c1) from rfl)
  have b2 := (hM.cell 2).trans (show _ = some (.int .i64 tu) from rfl)
  have b3 := (hM.cell 3).trans (show _ = some (.int .i64 se) from rfl)
  have b4 := (hM.cell 4).trans (show _ = some (.int .i64 sp) from rfl)
  have b5 := (hM.cell 5).trans (show _ = some (.slice A2 ws.length c2) from rfl)
  have b6 := (hM.cell 6).trans (show _ = some (.slice A3 sh.length c3) from rfl)
  have b7 := (hM.cell 7).trans (show _ = some (.slice A4 os.length c4) from rfl)
  go_wp2_with fail
  refine (arePending_is A0 c0 rs h0 k0 A1 c1 qs h1 _ G1.out _ (R0.below (by repeat (first | exact Below.refl _ _ | refine Below.alloc ?_ (by first | exact Nat.le_refl _ | (simp <;> omega)) _ | refine Below.setCell ?_ (by first | exact Nat.le_refl _ | (simp <;> omega)) _))) (R1.below (by repeat (first | exact Below.refl _ _ | refine Below.alloc ?_ (by first | exact Nat.le_refl _ | (simp <;> omega)) _ | refine Below.setCell ?_ (by first | exact Nat.le_refl _ | (simp <;> omega)) _)))).mono ?_
  rintro e w2 ⟨rfl, hb2⟩
  have hq2 : Below wX.heap.size wX w2 := bth (by repeat (first | exact Below.refl _ _ | refine Below.alloc ?_ (by first | exact Nat.le_refl _ | (simp <;> omega)) _ | refine Below.setCell ?_ (by first | exact Nat.le_refl _ | (simp <;> omega)) _)) hb2
  replace HB := bth HB hq2
  replace R0 := R0.below hq2
  replace R1 := R1.below hq2
  replace R2 := R2.below hq2
  replace R3 := R3.below hq2
  replace R4 := R4.below hq2
  replace hM := hM.below hq2 hM.lt
  replace b0 := (hM.cell 0).trans (show _ = some (.slice A0 rs.length c0) from rfl)
  replace b1 := (hM.cell 1).trans (show _ = some (.slice A1 qs.length c1) from rfl)
  replace b2 := (hM.cell 2).trans (show _ = some (.int .i64 tu) from rfl)
  replace b3 := (hM.cell 3).trans (show _ = some (.int .i64 se) from rfl)
  replace b4 := (hM.cell 4).trans (show _ = some (.int .i64 sp) from rfl)
  replace b5 := (hM.cell 5).trans (show _ = some (.slice A2 ws.length c2) from rfl)
  replace b6 := (hM.cell 6).trans (show _ = some (.slice A3 sh.length c3) from rfl)
  replace b7 := (hM.cell 7).trans (show _ = some (.slice A4 os.length c4) from rfl)
  go_wp2_with fail
  refine (isValidFloor_is tu se sp A2 ws c2 A3 c3 sh h2 h3 k2 _ G2.out _ (R2.below (by repeat (first | exact Below.refl _ _ | refine Below.alloc ?_ (by first | exact Nat.le_refl _ | (simp <;> omega)) _ | refine Below.setCell ?_ (by first | exact Nat.le_refl _ | (simp <;> omega)) _))) (R3.below (by repeat (first | exact Below.refl _ _ | refine Below.alloc ?_ (by first | exact Nat.le_refl _ | (simp <;> omega)) _ | refine Below.setCell ?_ (by first | exact Nat.le_refl _ | (simp <;> omega)) _)))).mono ?_
  rintro e w3 ⟨rfl, hb3⟩
  have hq3 : Below w2.heap.size w2 w3 := bth (by repeat (first | exact Below.refl _ _ | refine Below.alloc ?_ (by first | exact Nat.le_refl _ | (simp <;> omega)) _ | refine Below.setCell ?_ (by first | exact Nat.le_refl _ | (simp <;> omega)) _)) hb3
  replace HB := bth HB hq3
  replace R0 := R0.below hq3
  replace R1 := R1.below hq3
  replace R2 := R2.below hq3
  replace R3 := R3.below hq3
  replace R4 := R4.below hq3
  replace hM := hM.below hq3 hM.lt
  replace b0 := (hM.cell 0).trans (show _ = some (.slice A0 rs.length c0) from rfl)
  replace b1 := (hM.cell 1).trans (show _ = some (.slice A1 qs.length c1) from rfl)
  replace b2 := (hM.cell 2).trans (show _ = some (.int .i64 tu) from rfl)
  replace b3 := (hM.cell 3).trans (show _ = some (.int .i64 se) from rfl)
  replace b4 := (hM.cell 4).trans (show _ = some (.int .i64 sp) from rfl)
  replace b5 := (hM.cell 5).trans (show _ = some (.slice A2 ws.length c2) from rfl)
  replace b6 := (hM.cell 6).trans (show _ = some (.slice A3 sh.length c3) from rfl)
  replace b7 := (hM.cell 7).trans (show _ = some (.slice A4 os.length c4) from rfl)
  have HCF : Hid (∀ d, os.any (fun o => !outB rs o) = d → Calls Tryz.prog 39 #[.slice A4 os.length c4, .func (.func 40) #[] #[.pointer (some ⟨w.heap.size, 0, none⟩)]] w3 fun e w' => e = .returned (.bool d) ∧ Below w3.heap.size w3 w') := Lib.hid fun d hd =>
    containsFunc_Out A4 c4 os h4 40 #[.pointer (some ⟨w.heap.size, 0, none⟩)] (run_enter Tryz.func40 (by kernel_rfl) (by kernel_rfl)) (fun o => !outB rs o) d hd w3 R4 (fun x _ V hV => outF_is rs A0 c0 h0 w.heap.size x V ((hM.below hV hM.lt).cell 0) (hM.below hV hM.lt).lt (R0.below hV))
  by_cases h4' : os.any (fun o => !outB rs o) = true
  · have H4 := Lib.hid h4'; clear h4'
    go_wp2_with fail
    refine (HCF.out _ H4.out).mono ?_
    rintro e w4 ⟨rfl, hb4⟩
    have hq4 : Below w3.heap.size w3 w4 := bth (by repeat (first | exact Below.refl _ _ | refine Below.alloc ?_ (by first | exact Nat.le_refl _ | (simp <;> omega)) _ | refine Below.setCell ?_ (by first | exact Nat.le_refl _ | (simp <;> omega)) _)) hb4
    replace HB := bth HB hq4
    replace R0 := R0.below hq4
    replace R1 := R1.below hq4
    replace R2 := R2.below hq4
    replace R3 := R3.below hq4
    replace R4 := R4.below hq4
    replace hM := hM.below hq4 hM.lt
    replace b0 := (hM.cell 0).trans (show _ = some (.slice A0 rs.length c0) from rfl)
    replace b1 := (hM.cell 1).trans (show _ = some (.slice A1 qs.length c1) from rfl)
    replace b2 := (hM.cell 2).trans (show _ = some (.int .i64 tu) from rfl)
    replace b3 := (hM.cell 3).trans (show _ = some (.int .i64 se) from rfl)
    replace b4 := (hM.cell 4).trans (show _ = some (.int .i64 sp) from rfl)
    replace b5 := (hM.cell 5).trans (show _ = some (.slice A2 ws.length c2) from rfl)
    replace b6 := (hM.cell 6).trans (show _ = some (.slice A3 sh.length c3) from rfl)
    replace b7 := (hM.cell 7).trans (show _ = some (.slice A4 os.length c4) from rfl)
    go_wp2
    go_ret
    exact ⟨ret_bool (meetP_4 H4.out).symm, (bth HB (by repeat (first | exact Below.refl _ _ | refine Below.alloc ?_ (by first | exact Nat.le_refl _ | (simp <;> omega)) _ | refine Below.setCell ?_ (by first | exact Nat.le_refl _ | (simp <;> omega)) _)))⟩
  replace h4' := Bool.eq_false_iff.2 h4'
  have H4 := Lib.hid h4'; clear h4'
  go_wp2_with fail
  refine (HCF.out _ H4.out).mono ?_
  rintro e w4 ⟨rfl, hb4⟩
  have hq4 : Below w3.heap.size w3 w4 := bth (by repeat (first | exact Below.refl _ _ | refine Below.alloc ?_ (by first | exact Nat.le_refl _ | (simp <;> omega)) _ | refine Below.setCell ?_ (by first | exact Nat.le_refl _ | (simp <;> omega)) _)) hb4
  replace HB := bth HB hq4
  replace R0 := R0.below hq4
  replace R1 := R1.below hq4
  replace R2 := R2.below hq4
  replace R3 := R3.below hq4
  replace R4 := R4.below hq4
  replace hM := hM.below hq4 hM.lt
  replace b0 := (hM.cell 0).trans (show _ = some (.slice A0 rs.length c0) from rfl)
  replace b1 := (hM.cell 1).trans (show _ = some (.slice A1 qs.length c1) from rfl)
  replace b2 := (hM.cell 2).trans (show _ = some (.int .i64 tu) from rfl)
  replace b3 := (hM.cell 3).trans (show _ = some (.int .i64 se) from rfl)
  replace b4 := (hM.cell 4).trans (show _ = some (.int .i64 sp) from rfl)
  replace b5 := (hM.cell 5).trans (show _ = some (.slice A2 ws.length c2) from rfl)
  replace b6 := (hM.cell 6).trans (show _ = some (.slice A3 sh.length c3) from rfl)
  replace b7 := (hM.cell 7).trans (show _ = some (.slice A4 os.length c4) from rfl)
  by_cases hd : debB rs qs = true
  · have HD := Lib.hid hd; clear hd
    go_wp2_with fail
    refine (isDebatable_is rs qs tu se sp ws sh os A0 A1 A2 A3 A4 c0 c1 c2 c3 c4 h0 h1 h2 h3 h4 H1.out _ HD.out _ (R0.below (by repeat (first | exact Below.refl _ _ | refine Below.alloc ?_ (by first | exact Nat.le_refl _ | (simp <;> omega)) _ | refine Below.setCell ?_ (by first | exact Nat.le_refl _ | (simp <;> omega)) _))) (R1.below (by repeat (first | exact Below.refl _ _ | refine Below.alloc ?_ (by first | exact Nat.le_refl _ | (simp <;> omega)) _ | refine Below.setCell ?_ (by first | exact Nat.le_refl _ | (simp <;> omega)) _))) (R2.below (by repeat (first | exact Below.refl _ _ | refine Below.alloc ?_ (by first | exact Nat.le_refl _ | (simp <;> omega)) _ | refine Below.setCell ?_ (by first | exact Nat.le_refl _ | (simp <;> omega)) _))) (R3.below (by repeat (first | exact Below.refl _ _ | refine Below.alloc ?_ (by first | exact Nat.le_refl _ | (simp <;> omega)) _ | refine Below.setCell ?_ (by first | exact Nat.le_refl _ | (simp <;> omega)) _))) (R4.below (by repeat (first | exact Below.refl _ _ | refine Below.alloc ?_ (by first | exact Nat.le_refl _ | (simp <;> omega)) _ | refine Below.setCell ?_ (by first | exact Nat.le_refl _ | (simp <;> omega)) _)))).mono ?_
    rintro e w5 ⟨rfl, hb5⟩
    have hq5 : Below w4.heap.size w4 w5 := bth (by repeat (first | exact Below.refl _ _ | refine Below.alloc ?_ (by first | exact Nat.le_refl _ | (simp <;> omega)) _ | refine Below.setCell ?_ (by first | exact Nat.le_refl _ | (simp <;> omega)) _)) hb5
    replace HB := bth HB hq5
    replace R0 := R0.below hq5
    replace R1 := R1.below hq5
    replace R2 := R2.below hq5
    replace R3 := R3.below hq5
    replace R4 := R4.below hq5
    replace hM := hM.below hq5 hM.lt
    replace b0 := (hM.cell 0).trans (show _ = some (.slice A0 rs.length c0) from rfl)
    replace b1 := (hM.cell 1).trans (show _ = some (.slice A1 qs.length c1) from rfl)
    replace b2 := (hM.cell 2).trans (show _ = some (.int .i64 tu) from rfl)
    replace b3 := (hM.cell 3).trans (show _ = some (.int .i64 se) from rfl)
    replace b4 := (hM.cell 4).trans (show _ = some (.int .i64 sp) from rfl)
    replace b5 := (hM.cell 5).trans (show _ = some (.slice A2 ws.length c2) from rfl)
    replace b6 := (hM.cell 6).trans (show _ = some (.slice A3 sh.length c3) from rfl)
    replace b7 := (hM.cell 7).trans (show _ = some (.slice A4 os.length c4) from rfl)
    go_wp2
    go_ret
    exact ⟨ret_bool (by rw [meetP_5 H1.out H2.out H3.out H4.out, HD.out]; rfl), (bth HB (by repeat (first | exact Below.refl _ _ | refine Below.alloc ?_ (by first | exact Nat.le_refl _ | (simp <;> omega)) _ | refine Below.setCell ?_ (by first | exact Nat.le_refl _ | (simp <;> omega)) _)))⟩
  replace hd := Bool.eq_false_iff.2 hd
  have HD := Lib.hid hd; clear hd
  by_cases hs : sp = 0
  · have hse : (sp == 0) = true := beq_iff_eq.2 hs
    have HSE := Lib.hid hse; clear hs
    by_cases hw : ws.length = 0
    · have hwe : ((ws.length : Int) == 0) = true := by simp [hw]
      have HW := Lib.hid hw; clear hw
      go_wp2_with fail
      refine (isDebatable_is rs qs tu se sp ws sh os A0 A1 A2 A3 A4 c0 c1 c2 c3 c4 h0 h1 h2 h3 h4 H1.out _ HD.out _ (R0.below (by repeat (first | exact Below.refl _ _ | refine Below.alloc ?_ (by first | exact Nat.le_refl _ | (simp <;> omega)) _ | refine Below.setCell ?_ (by first | exact Nat.le_refl _ | (simp <;> omega)) _))) (R1.below (by repeat (first | exact Below.refl _ _ | refine Below.alloc ?_ (by first | exact Nat.le_refl _ | (simp <;> omega)) _ | refine Below.setCell ?_ (by first | exact Nat.le_refl _ | (simp <;> omega)) _))) (R2.below (by repeat (first | exact Below.refl _ _ | refine Below.alloc ?_ (by first | exact Nat.le_refl _ | (simp <;> omega)) _ | refine Below.setCell ?_ (by first | exact Nat.le_refl _ | (simp <;> omega)) _))) (R3.below (by repeat (first | exact Below.refl _ _ | refine Below.alloc ?_ (by first | exact Nat.le_refl _ | (simp <;> omega)) _ | refine Below.setCell ?_ (by first | exact Nat.le_refl _ | (simp <;> omega)) _))) (R4.below (by repeat (first | exact Below.refl _ _ | refine Below.alloc ?_ (by first | exact Nat.le_refl _ | (simp <;> omega)) _ | refine Below.setCell ?_ (by first | exact Nat.le_refl _ | (simp <;> omega)) _)))).mono ?_
      rintro e w5 ⟨rfl, hb5⟩
      have hq5 : Below w4.heap.size w4 w5 := bth (by repeat (first | exact Below.refl _ _ | refine Below.alloc ?_ (by first | exact Nat.le_refl _ | (simp <;> omega)) _ | refine Below.setCell ?_ (by first | exact Nat.le_refl _ | (simp <;> omega)) _)) hb5
      replace HB := bth HB hq5
      replace R0 := R0.below hq5
      replace R1 := R1.below hq5
      replace R2 := R2.below hq5
      replace R3 := R3.below hq5
      replace R4 := R4.below hq5
      replace hM := hM.below hq5 hM.lt
      replace b0 := (hM.cell 0).trans (show _ = some (.slice A0 rs.length c0) from rfl)
      replace b1 := (hM.cell 1).trans (show _ = some (.slice A1 qs.length c1) from rfl)
      replace b2 := (hM.cell 2).trans (show _ = some (.int .i64 tu) from rfl)
      replace b3 := (hM.cell 3).trans (show _ = some (.int .i64 se) from rfl)
      replace b4 := (hM.cell 4).trans (show _ = some (.int .i64 sp) from rfl)
      replace b5 := (hM.cell 5).trans (show _ = some (.slice A2 ws.length c2) from rfl)
      replace b6 := (hM.cell 6).trans (show _ = some (.slice A3 sh.length c3) from rfl)
      replace b7 := (hM.cell 7).trans (show _ = some (.slice A4 os.length c4) from rfl)
      go_wp2
      go_ret
      exact ⟨ret_bool (by rw [meetP_5 H1.out H2.out H3.out H4.out, HD.out, quietB, HSE.out, decide_eq_true HW.out]; rfl), (bth HB (by repeat (first | exact Below.refl _ _ | refine Below.alloc ?_ (by first | exact Nat.le_refl _ | (simp <;> omega)) _ | refine Below.setCell ?_ (by first | exact Nat.le_refl _ | (simp <;> omega)) _)))⟩
    · have hwe : ((ws.length : Int) == 0) = false := by simpa using hw
      have HW := Lib.hid hw; clear hw
      go_wp2_with fail
      refine (isDebatable_is rs qs tu se sp ws sh os A0 A1 A2 A3 A4 c0 c1 c2 c3 c4 h0 h1 h2 h3 h4 H1.out _ HD.out _ (R0.below (by repeat (first | exact Below.refl _ _ | refine Below.alloc ?_ (by first | exact Nat.le_refl _ | (simp <;> omega)) _ | refine Below.setCell ?_ (by first | exact Nat.le_refl _ | (simp <;> omega)) _))) (R1.below (by repeat (first | exact Below.refl _ _ | refine Below.alloc ?_ (by first | exact Nat.le_refl _ | (simp <;> omega)) _ | refine Below.setCell ?_ (by first | exact Nat.le_refl _ | (simp <;> omega)) _))) (R2.below (by repeat (first | exact Below.refl _ _ | refine Below.alloc ?_ (by first | exact Nat.le_refl _ | (simp <;> omega)) _ | refine Below.setCell ?_ (by first | exact Nat.le_refl _ | (simp <;> omega)) _))) (R3.below (by repeat (first | exact Below.refl _ _ | refine Below.alloc ?_ (by first | exact Nat.le_refl _ | (simp <;> omega)) _ | refine Below.setCell ?_ (by first | exact Nat.le_refl _ | (simp <;> omega)) _))) (R4.below (by repeat (first | exact Below.refl _ _ | refine Below.alloc ?_ (by first | exact Nat.le_refl _ | (simp <;> omega)) _ | refine Below.setCell ?_ (by first | exact Nat.le_refl _ | (simp <;> omega)) _)))).mono ?_
      rintro e w5 ⟨rfl, hb5⟩
      have hq5 : Below w4.heap.size w4 w5 := bth (by repeat (first | exact Below.refl _ _ | refine Below.alloc ?_ (by first | exact Nat.le_refl _ | (simp <;> omega)) _ | refine Below.setCell ?_ (by first | exact Nat.le_refl _ | (simp <;> omega)) _)) hb5
      replace HB := bth HB hq5
      replace R0 := R0.below hq5
      replace R1 := R1.below hq5
      replace R2 := R2.below hq5
      replace R3 := R3.below hq5
      replace R4 := R4.below hq5
      replace hM := hM.below hq5 hM.lt
      replace b0 := (hM.cell 0).trans (show _ = some (.slice A0 rs.length c0) from rfl)
      replace b1 := (hM.cell 1).trans (show _ = some (.slice A1 qs.length c1) from rfl)
      replace b2 := (hM.cell 2).trans (show _ = some (.int .i64 tu) from rfl)
      replace b3 := (hM.cell 3).trans (show _ = some (.int .i64 se) from rfl)
      replace b4 := (hM.cell 4).trans (show _ = some (.int .i64 sp) from rfl)
      replace b5 := (hM.cell 5).trans (show _ = some (.slice A2 ws.length c2) from rfl)
      replace b6 := (hM.cell 6).trans (show _ = some (.slice A3 sh.length c3) from rfl)
      replace b7 := (hM.cell 7).trans (show _ = some (.slice A4 os.length c4) from rfl)
      go_wp2
      go_ret
      exact ⟨ret_bool (by rw [meetP_5 H1.out H2.out H3.out H4.out, HD.out, quietB, HSE.out, decide_eq_false HW.out]; rfl), (bth HB (by repeat (first | exact Below.refl _ _ | refine Below.alloc ?_ (by first | exact Nat.le_refl _ | (simp <;> omega)) _ | refine Below.setCell ?_ (by first | exact Nat.le_refl _ | (simp <;> omega)) _)))⟩
  · have hse : (sp == 0) = false := beq_eq_false_iff_ne.2 hs
    have HSE := Lib.hid hse; clear hs
    go_wp2_with fail
    refine (isDebatable_is rs qs tu se sp ws sh os A0 A1 A2 A3 A4 c0 c1 c2 c3 c4 h0 h1 h2 h3 h4 H1.out _ HD.out _ (R0.below (by repeat (first | exact Below.refl _ _ | refine Below.alloc ?_ (by first | exact Nat.le_refl _ | (simp <;> omega)) _ | refine Below.setCell ?_ (by first | exact Nat.le_refl _ | (simp <;> omega)) _))) (R1.below (by repeat (first | exact Below.refl _ _ | refine Below.alloc ?_ (by first | exact Nat.le_refl _ | (simp <;> omega)) _ | refine Below.setCell ?_ (by first | exact Nat.le_refl _ | (simp <;> omega)) _))) (R2.below (by repeat (first | exact Below.refl _ _ | refine Below.alloc ?_ (by first | exact Nat.le_refl _ | (simp <;> omega)) _ | refine Below.setCell ?_ (by first | exact Nat.le_refl _ | (simp <;> omega)) _))) (R3.below (by repeat (first | exact Below.refl _ _ | refine Below.alloc ?_ (by first | exact Nat.le_refl _ | (simp <;> omega)) _ | refine Below.setCell ?_ (by first | exact Nat.le_refl _ | (simp <;> omega)) _))) (R4.below (by repeat (first | exact Below.refl _ _ | refine Below.alloc ?_ (by first | exact Nat.le_refl _ | (simp <;> omega)) _ | refine Below.setCell ?_ (by first | exact Nat.le_refl _ | (simp <;> omega)) _)))).mono ?_
    rintro e w5 ⟨rfl, hb5⟩
    have hq5 : Below w4.heap.size w4 w5 := bth (by repeat (first | exact Below.refl _ _ | refine Below.alloc ?_ (by first | exact Nat.le_refl _ | (simp <;> omega)) _ | refine Below.setCell ?_ (by first | exact Nat.le_refl _ | (simp <;> omega)) _)) hb5
    replace HB := bth HB hq5
    replace R0 := R0.below hq5
    replace R1 := R1.below hq5
    replace R2 := R2.below hq5
    replace R3 := R3.below hq5
    replace R4 := R4.below hq5
    replace hM := hM.below hq5 hM.lt
    replace b0 := (hM.cell 0).trans (show _ = some (.slice A0 rs.length c0) from rfl)
    replace b1 := (hM.cell 1).trans (show _ = some (.slice A1 qs.length c1) from rfl)
    replace b2 := (hM.cell 2).trans (show _ = some (.int .i64 tu) from rfl)
    replace b3 := (hM.cell 3).trans (show _ = some (.int .i64 se) from rfl)
    replace b4 := (hM.cell 4).trans (show _ = some (.int .i64 sp) from rfl)
    replace b5 := (hM.cell 5).trans (show _ = some (.slice A2 ws.length c2) from rfl)
    replace b6 := (hM.cell 6).trans (show _ = some (.slice A3 sh.length c3) from rfl)
    replace b7 := (hM.cell 7).trans (show _ = some (.slice A4 os.length c4) from rfl)
    go_wp2
    go_ret
    exact ⟨ret_bool (by rw [meetP_5 H1.out H2.out H3.out H4.out, HD.out, quietB, HSE.out]; rfl), (bth HB (by repeat (first | exact Below.refl _ _ | refine Below.alloc ?_ (by first | exact Nat.le_refl _ | (simp <;> omega)) _ | refine Below.setCell ?_ (by first | exact Nat.le_refl _ | (simp <;> omega)) _)))⟩
set_option maxHeartbeats 8000000 in
set_option maxRecDepth 100000 in
theorem sMeet_is (rs : List Rul) (qs : List Que) (tu se sp : Int) (ws : List Int) (sh : List Sha) (os : List Out) (A0 A1 A2 A3 A4 : Option Addr) (c0 c1 c2 c3 c4 : Nat) (h0 : rs.length ≤ 1048576) (h1 : qs.length ≤ 1048576) (h2 : ws.length ≤ 1048576) (h3 : sh.length ≤ 1048576) (h4 : os.length ≤ 1048576) (v : Bool) (hv : meetP rs qs tu se sp ws sh os = v) (w : World) (R0 : Rds 7 Rul.cells w A0 rs) (R1 : Rds 3 Que.cells w A1 qs) (R2 : Rds 1 intC w A2 ws) (R3 : Rds 3 Sha.cells w A3 sh) (R4 : Rds 3 Out.cells w A4 os) (k0 : rs.length ≤ c0) (k2 : ws.length ≤ c2) :
  Calls Tryz.prog 31 #[.agg #[.slice A0 rs.length c0, .slice A1 qs.length c1, .int .i64 tu, .int .i64 se, .int .i64 sp, .slice A2 ws.length c2, .slice A3 sh.length c3, .slice A4 os.length c4]] w fun e w' => e = .returned (.bool v) ∧ Below w.heap.size w w' := by
  subst hv
  cases h1' : pendB rs qs
  · have G1 := Lib.hid h1'; clear h1'
    go_enter Tryz.func31, Tryz.ntmps31
    go_upto_region 1 with fail
    have hq1 : Below w.heap.size w (World.alloc w (.cells #[.slice A0 rs.length c0, .slice A1 qs.length c1, .int .i64 tu, .int .i64 se, .int .i64 sp, .slice A2 ws.length c2, .slice A3 sh.length c3, .slice A4 os.length c4] 44)) := bl1 w _
    have hM : Blk (World.alloc w (.cells #[.slice A0 rs.length c0, .slice A1 qs.length c1, .int .i64 tu, .int .i64 se, .int .i64 sp, .slice A2 ws.length c2, .slice A3 sh.length c3, .slice A4 os.length c4] 44)) (w.heap.size) 44 #[.slice A0 rs.length c0, .slice A1 qs.length c1, .int .i64 tu, .int .i64 se, .int .i64 sp, .slice A2 ws.length c2, .slice A3 sh.length c3, .slice A4 os.length c4] := by repeat (first | exact Blk.new _ _ _ | exact Blk.new2 _ _ _ _ | exact Blk.new3 _ _ _ _ _ | exact Blk.new4 _ _ _ _ _ _ | refine Blk.alloc ?_ _)
    replace R0 := R0.below hq1
    replace R1 := R1.below hq1
    replace R2 := R2.below hq1
    replace R3 := R3.below hq1
    replace R4 := R4.below hq1
    generalize World.alloc w (.cells #[.slice A0 rs.length c0, .slice A1 qs.length c1, .int .i64 tu, .int .i64 se, .int .i64 sp, .slice A2 ws.length c2, .slice A3 sh.length c3, .slice A4 os.length c4] 44) = wX at *
    have HB := hq1
    have b0 := (hM.cell 0).trans (show _ = some (.slice A0 rs.length c0) from rfl)
    have b1 := (hM.cell 1).trans (show _ = some (.slice A1 qs.length c1) from rfl)
    have b2 := (hM.cell 2).trans (show _ = some (.int .i64 tu) from rfl)
    have b3 := (hM.cell 3).trans (show _ = some (.int .i64 se) from rfl)
    have b4 := (hM.cell 4).trans (show _ = some (.int .i64 sp) from rfl)
    have b5 := (hM.cell 5).trans (show _ = some (.slice A2 ws.length c2) from rfl)
    have b6 := (hM.cell 6).trans (show _ = some (.slice A3 sh.length c3) from rfl)
    have b7 := (hM.cell 7).trans (show _ = some (.slice A4 os.length c4) from rfl)
    go_wp2_with fail
    refine (l7Good_is A0 c0 rs h0 A1 c1 qs h1 _ G1.out _ (R0.below (by repeat (first | exact Below.refl _ _ | refine Below.alloc ?_ (by first | exact Nat.le_refl _ | (simp <;> omega)) _ | refine Below.setCell ?_ (by first | exact Nat.le_refl _ | (simp <;> omega)) _))) (R1.below (by repeat (first | exact Below.refl _ _ | refine Below.alloc ?_ (by first | exact Nat.le_refl _ | (simp <;> omega)) _ | refine Below.setCell ?_ (by first | exact Nat.le_refl _ | (simp <;> omega)) _)))).mono ?_
    rintro e w2 ⟨rfl, hb2⟩
    have hq2 : Below wX.heap.size wX w2 := bth (by repeat (first | exact Below.refl _ _ | refine Below.alloc ?_ (by first | exact Nat.le_refl _ | (simp <;> omega)) _ | refine Below.setCell ?_ (by first | exact Nat.le_refl _ | (simp <;> omega)) _)) hb2
    replace HB := bth HB hq2
    replace R0 := R0.below hq2
    replace R1 := R1.below hq2
    replace R2 := R2.below hq2
    replace R3 := R3.below hq2
    replace R4 := R4.below hq2
    replace hM := hM.below hq2 hM.lt
    replace b0 := (hM.cell 0).trans (show _ = some (.slice A0 rs.length c0) from rfl)
    replace b1 := (hM.cell 1).trans (show _ = some (.slice A1 qs.length c1) from rfl)
    replace b2 := (hM.cell 2).trans (show _ = some (.int .i64 tu) from rfl)
    replace b3 := (hM.cell 3).trans (show _ = some (.int .i64 se) from rfl)
    replace b4 := (hM.cell 4).trans (show _ = some (.int .i64 sp) from rfl)
    replace b5 := (hM.cell 5).trans (show _ = some (.slice A2 ws.length c2) from rfl)
    replace b6 := (hM.cell 6).trans (show _ = some (.slice A3 sh.length c3) from rfl)
    replace b7 := (hM.cell 7).trans (show _ = some (.slice A4 os.length c4) from rfl)
    go_wp2
    go_ret
    exact ⟨ret_bool (meetP_1 G1.out).symm, (bth HB (by repeat (first | exact Below.refl _ _ | refine Below.alloc ?_ (by first | exact Nat.le_refl _ | (simp <;> omega)) _ | refine Below.setCell ?_ (by first | exact Nat.le_refl _ | (simp <;> omega)) _)))⟩
  have H1 := Lib.hid h1'; have G1 := Lib.hid h1'; clear h1'
  cases h2' : floB tu se sp ws sh
  · have G2 := Lib.hid h2'; clear h2'
    go_enter Tryz.func31, Tryz.ntmps31
    go_upto_region 1 with fail
    have hq1 : Below w.heap.size w (World.alloc w (.cells #[.slice A0 rs.length c0, .slice A1 qs.length c1, .int .i64 tu, .int .i64 se, .int .i64 sp, .slice A2 ws.length c2, .slice A3 sh.length c3, .slice A4 os.length c4] 44)) := bl1 w _
    have hM : Blk (World.alloc w (.cells #[.slice A0 rs.length c0, .slice A1 qs.length c1, .int .i64 tu, .int .i64 se, .int .i64 sp, .slice A2 ws.length c2, .slice A3 sh.length c3, .slice A4 os.length c4] 44)) (w.heap.size) 44 #[.slice A0 rs.length c0, .slice A1 qs.length c1, .int .i64 tu, .int .i64 se, .int .i64 sp, .slice A2 ws.length c2, .slice A3 sh.length c3, .slice A4 os.length c4] := by repeat (first | exact Blk.new _ _ _ | exact Blk.new2 _ _ _ _ | exact Blk.new3 _ _ _ _ _ | exact Blk.new4 _ _ _ _ _ _ | refine Blk.alloc ?_ _)
    replace R0 := R0.below hq1
    replace R1 := R1.below hq1
    replace R2 := R2.below hq1
    replace R3 := R3.below hq1
    replace R4 := R4.below hq1
    generalize World.alloc w (.cells #[.slice A0 rs.length c0, .slice A1 qs.length c1, .int .i64 tu, .int .i64 se, .int .i64 sp, .slice A2 ws.length c2, .slice A3 sh.length c3, .slice A4 os.length c4] 44) = wX at *
    have HB := hq1
    have b0 := (hM.cell 0).trans (show _ = some (.slice A0 rs.length c0) from rfl)
    have b1 := (hM.cell 1).trans (show _ = some (.slice A1 qs.length c1) from rfl)
    have b2 := (hM.cell 2).trans (show _ = some (.int .i64 tu) from rfl)
    have b3 := (hM.cell 3).trans (show _ = some (.int .i64 se) from rfl)
    have b4 := (hM.cell 4).trans (show _ = some (.int .i64 sp) from rfl)
    have b5 := (hM.cell 5).trans (show _ = some (.slice A2 ws.length c2) from rfl)
    have b6 := (hM.cell 6).trans (show _ = some (.slice A3 sh.length c3) from rfl)
    have b7 := (hM.cell 7).trans (show _ = some (.slice A4 os.length c4) from rfl)
    go_wp2_with fail
    refine (l7Good_is A0 c0 rs h0 A1 c1 qs h1 _ G1.out _ (R0.below (by repeat (first | exact Below.refl _ _ | refine Below.alloc ?_ (by first | exact Nat.le_refl _ | (simp <;> omega)) _ | refine Below.setCell ?_ (by first | exact Nat.le_refl _ | (simp <;> omega)) _))) (R1.below (by repeat (first | exact Below.refl _ _ | refine Below.alloc ?_ (by first | exact Nat.le_refl _ | (simp <;> omega)) _ | refine Below.setCell ?_ (by first | exact Nat.le_refl _ | (simp <;> omega)) _)))).mono ?_
    rintro e w2 ⟨rfl, hb2⟩
    have hq2 : Below wX.heap.size wX w2 := bth (by repeat (first | exact Below.refl _ _ | refine Below.alloc ?_ (by first | exact Nat.le_refl _ | (simp <;> omega)) _ | refine Below.setCell ?_ (by first | exact Nat.le_refl _ | (simp <;> omega)) _)) hb2
    replace HB := bth HB hq2
    replace R0 := R0.below hq2
    replace R1 := R1.below hq2
    replace R2 := R2.below hq2
    replace R3 := R3.below hq2
    replace R4 := R4.below hq2
    replace hM := hM.below hq2 hM.lt
    replace b0 := (hM.cell 0).trans (show _ = some (.slice A0 rs.length c0) from rfl)
    replace b1 := (hM.cell 1).trans (show _ = some (.slice A1 qs.length c1) from rfl)
    replace b2 := (hM.cell 2).trans (show _ = some (.int .i64 tu) from rfl)
    replace b3 := (hM.cell 3).trans (show _ = some (.int .i64 se) from rfl)
    replace b4 := (hM.cell 4).trans (show _ = some (.int .i64 sp) from rfl)
    replace b5 := (hM.cell 5).trans (show _ = some (.slice A2 ws.length c2) from rfl)
    replace b6 := (hM.cell 6).trans (show _ = some (.slice A3 sh.length c3) from rfl)
    replace b7 := (hM.cell 7).trans (show _ = some (.slice A4 os.length c4) from rfl)
    go_wp2_with fail
    refine (l8Good_is tu se sp A2 ws c2 A3 c3 sh h2 h3 k2 _ G2.out _ (R2.below (by repeat (first | exact Below.refl _ _ | refine Below.alloc ?_ (by first | exact Nat.le_refl _ | (simp <;> omega)) _ | refine Below.setCell ?_ (by first | exact Nat.le_refl _ | (simp <;> omega)) _))) (R3.below (by repeat (first | exact Below.refl _ _ | refine Below.alloc ?_ (by first | exact Nat.le_refl _ | (simp <;> omega)) _ | refine Below.setCell ?_ (by first | exact Nat.le_refl _ | (simp <;> omega)) _)))).mono ?_
    rintro e w3 ⟨rfl, hb3⟩
    have hq3 : Below w2.heap.size w2 w3 := bth (by repeat (first | exact Below.refl _ _ | refine Below.alloc ?_ (by first | exact Nat.le_refl _ | (simp <;> omega)) _ | refine Below.setCell ?_ (by first | exact Nat.le_refl _ | (simp <;> omega)) _)) hb3
    replace HB := bth HB hq3
    replace R0 := R0.below hq3
    replace R1 := R1.below hq3
    replace R2 := R2.below hq3
    replace R3 := R3.below hq3
    replace R4 := R4.below hq3
    replace hM := hM.below hq3 hM.lt
    replace b0 := (hM.cell 0).trans (show _ = some (.slice A0 rs.length c0) from rfl)
    replace b1 := (hM.cell 1).trans (show _ = some (.slice A1 qs.length c1) from rfl)
    replace b2 := (hM.cell 2).trans (show _ = some (.int .i64 tu) from rfl)
    replace b3 := (hM.cell 3).trans (show _ = some (.int .i64 se) from rfl)
    replace b4 := (hM.cell 4).trans (show _ = some (.int .i64 sp) from rfl)
    replace b5 := (hM.cell 5).trans (show _ = some (.slice A2 ws.length c2) from rfl)
    replace b6 := (hM.cell 6).trans (show _ = some (.slice A3 sh.length c3) from rfl)
    replace b7 := (hM.cell 7).trans (show _ = some (.slice A4 os.length c4) from rfl)
    go_wp2
    go_ret
    exact ⟨ret_bool (meetP_2 G2.out).symm, (bth HB (by repeat (first | exact Below.refl _ _ | refine Below.alloc ?_ (by first | exact Nat.le_refl _ | (simp <;> omega)) _ | refine Below.setCell ?_ (by first | exact Nat.le_refl _ | (simp <;> omega)) _)))⟩
  have H2 := Lib.hid h2'; have G2 := Lib.hid h2'; clear h2'
  by_cases h3' : os.length ≤ 12
  case neg =>
    go_enter Tryz.func31, Tryz.ntmps31
    go_upto_region 1 with fail
    have hq1 : Below w.heap.size w (World.alloc w (.cells #[.slice A0 rs.length c0, .slice A1 qs.length c1, .int .i64 tu, .int .i64 se, .int .i64 sp, .slice A2 ws.length c2, .slice A3 sh.length c3, .slice A4 os.length c4] 44)) := bl1 w _
    have hM : Blk (World.alloc w (.cells #[.slice A0 rs.length c0, .slice A1 qs.length c1, .int .i64 tu, .int .i64 se, .int .i64 sp, .slice A2 ws.length c2, .slice A3 sh.length c3, .slice A4 os.length c4] 44)) (w.heap.size) 44 #[.slice A0 rs.length c0, .slice A1 qs.length c1, .int .i64 tu, .int .i64 se, .int .i64 sp, .slice A2 ws.length c2, .slice A3 sh.length c3, .slice A4 os.length c4] := by repeat (first | exact Blk.new _ _ _ | exact Blk.new2 _ _ _ _ | exact Blk.new3 _ _ _ _ _ | exact Blk.new4 _ _ _ _ _ _ | refine Blk.alloc ?_ _)
    replace R0 := R0.below hq1
    replace R1 := R1.below hq1
    replace R2 := R2.below hq1
    replace R3 := R3.below hq1
    replace R4 := R4.below hq1
    generalize World.alloc w (.cells #[.slice A0 rs.length c0, .slice A1 qs.length c1, .int .i64 tu, .int .i64 se, .int .i64 sp, .slice A2 ws.length c2, .slice A3 sh.length c3, .slice A4 os.length c4] 44) = wX at *
    have HB := hq1
    have b0 := (hM.cell 0).trans (show _ = some (.slice A0 rs.length c0) from rfl)
    have b1 := (hM.cell 1).trans (show _ = some (.slice A1 qs.length c1) from rfl)
    have b2 := (hM.cell 2).trans (show _ = some (.int .i64 tu) from rfl)
    have b3 := (hM.cell 3).trans (show _ = some (.int .i64 se) from rfl)
    have b4 := (hM.cell 4).trans (show _ = some (.int .i64 sp) from rfl)
    have b5 := (hM.cell 5).trans (show _ = some (.slice A2 ws.length c2) from rfl)
    have b6 := (hM.cell 6).trans (show _ = some (.slice A3 sh.length c3) from rfl)
    have b7 := (hM.cell 7).trans (show _ = some (.slice A4 os.length c4) from rfl)
    go_wp2_with fail
    refine (l7Good_is A0 c0 rs h0 A1 c1 qs h1 _ G1.out _ (R0.below (by repeat (first | exact Below.refl _ _ | refine Below.alloc ?_ (by first | exact Nat.le_refl _ | (simp <;> omega)) _ | refine Below.setCell ?_ (by first | exact Nat.le_refl _ | (simp <;> omega)) _))) (R1.below (by repeat (first | exact Below.refl _ _ | refine Below.alloc ?_ (by first | exact Nat.le_refl _ | (simp <;> omega)) _ | refine Below.setCell ?_ (by first | exact Nat.le_refl _ | (simp <;> omega)) _)))).mono ?_
    rintro e w2 ⟨rfl, hb2⟩
    have hq2 : Below wX.heap.size wX w2 := bth (by repeat (first | exact Below.refl _ _ | refine Below.alloc ?_ (by first | exact Nat.le_refl _ | (simp <;> omega)) _ | refine Below.setCell ?_ (by first | exact Nat.le_refl _ | (simp <;> omega)) _)) hb2
    replace HB := bth HB hq2
    replace R0 := R0.below hq2
    replace R1 := R1.below hq2
    replace R2 := R2.below hq2
    replace R3 := R3.below hq2
    replace R4 := R4.below hq2
    replace hM := hM.below hq2 hM.lt
    replace b0 := (hM.cell 0).trans (show _ = some (.slice A0 rs.length c0) from rfl)
    replace b1 := (hM.cell 1).trans (show _ = some (.slice A1 qs.length c1) from rfl)
    replace b2 := (hM.cell 2).trans (show _ = some (.int .i64 tu) from rfl)
    replace b3 := (hM.cell 3).trans (show _ = some (.int .i64 se) from rfl)
    replace b4 := (hM.cell 4).trans (show _ = some (.int .i64 sp) from rfl)
    replace b5 := (hM.cell 5).trans (show _ = some (.slice A2 ws.length c2) from rfl)
    replace b6 := (hM.cell 6).trans (show _ = some (.slice A3 sh.length c3) from rfl)
    replace b7 := (hM.cell 7).trans (show _ = some (.slice A4 os.length c4) from rfl)
    go_wp2_with fail
    refine (l8Good_is tu se sp A2 ws c2 A3 c3 sh h2 h3 k2 _ G2.out _ (R2.below (by repeat (first | exact Below.refl _ _ | refine Below.alloc ?_ (by first | exact Nat.le_refl _ | (simp <;> omega)) _ | refine Below.setCell ?_ (by first | exact Nat.le_refl _ | (simp <;> omega)) _))) (R3.below (by repeat (first | exact Below.refl _ _ | refine Below.alloc ?_ (by first | exact Nat.le_refl _ | (simp <;> omega)) _ | refine Below.setCell ?_ (by first | exact Nat.le_refl _ | (simp <;> omega)) _)))).mono ?_
    rintro e w3 ⟨rfl, hb3⟩
    have hq3 : Below w2.heap.size w2 w3 := bth (by repeat (first | exact Below.refl _ _ | refine Below.alloc ?_ (by first | exact Nat.le_refl _ | (simp <;> omega)) _ | refine Below.setCell ?_ (by first | exact Nat.le_refl _ | (simp <;> omega)) _)) hb3
    replace HB := bth HB hq3
    replace R0 := R0.below hq3
    replace R1 := R1.below hq3
    replace R2 := R2.below hq3
    replace R3 := R3.below hq3
    replace R4 := R4.below hq3
    replace hM := hM.below hq3 hM.lt
    replace b0 := (hM.cell 0).trans (show _ = some (.slice A0 rs.length c0) from rfl)
    replace b1 := (hM.cell 1).trans (show _ = some (.slice A1 qs.length c1) from rfl)
    replace b2 := (hM.cell 2).trans (show _ = some (.int .i64 tu) from rfl)
    replace b3 := (hM.cell 3).trans (show _ = some (.int .i64 se) from rfl)
    replace b4 := (hM.cell 4).trans (show _ = some (.int .i64 sp) from rfl)
    replace b5 := (hM.cell 5).trans (show _ = some (.slice A2 ws.length c2) from rfl)
    replace b6 := (hM.cell 6).trans (show _ = some (.slice A3 sh.length c3) from rfl)
    replace b7 := (hM.cell 7).trans (show _ = some (.slice A4 os.length c4) from rfl)
    go_wp2
    go_ret
    exact ⟨ret_bool (meetP_3 h3').symm, (bth HB (by repeat (first | exact Below.refl _ _ | refine Below.alloc ?_ (by first | exact Nat.le_refl _ | (simp <;> omega)) _ | refine Below.setCell ?_ (by first | exact Nat.le_refl _ | (simp <;> omega)) _)))⟩
  have H3 := Lib.hid h3'
  go_enter Tryz.func31, Tryz.ntmps31
  go_upto_region 1 with fail
  have hq1 : Below w.heap.size w (World.alloc w (.cells #[.slice A0 rs.length c0, .slice A1 qs.length c1, .int .i64 tu, .int .i64 se, .int .i64 sp, .slice A2 ws.length c2, .slice A3 sh.length c3, .slice A4 os.length c4] 44)) := bl1 w _
  have hM : Blk (World.alloc w (.cells #[.slice A0 rs.length c0, .slice A1 qs.length c1, .int .i64 tu, .int .i64 se, .int .i64 sp, .slice A2 ws.length c2, .slice A3 sh.length c3, .slice A4 os.length c4] 44)) (w.heap.size) 44 #[.slice A0 rs.length c0, .slice A1 qs.length c1, .int .i64 tu, .int .i64 se, .int .i64 sp, .slice A2 ws.length c2, .slice A3 sh.length c3, .slice A4 os.length c4] := by repeat (first | exact Blk.new _ _ _ | exact Blk.new2 _ _ _ _ | exact Blk.new3 _ _ _ _ _ | exact Blk.new4 _ _ _ _ _ _ | refine Blk.alloc ?_ _)
  replace R0 := R0.below hq1
  replace R1 := R1.below hq1
  replace R2 := R2.below hq1
  replace R3 := R3.below hq1
  replace R4 := R4.below hq1
  generalize World.alloc w (.cells #[.slice A0 rs.length c0, .slice A1 qs.length c1, .int .i64 tu, .int .i64 se, .int .i64 sp, .slice A2 ws.length c2, .slice A3 sh.length c3, .slice A4 os.length c4] 44) = wX at *
  have HB := hq1
  have b0 := (hM.cell 0).trans (show _ = some (.slice A0 rs.length c0) from rfl)
  have b1 := (hM.cell 1).trans (show _ = some (.slice A1 qs.length c1) from rfl)
  have b2 := (hM.cell 2).trans (show _ = some (.int .i64 tu) from rfl)
  have b3 := (hM.cell 3).trans (show _ = some (.int .i64 se) from rfl)
  have b4 := (hM.cell 4).trans (show _ = some (.int .i64 sp) from rfl)
  have b5 := (hM.cell 5).trans (show _ = some (.slice A2 ws.length c2) from rfl)
  have b6 := (hM.cell 6).trans (show _ = some (.slice A3 sh.length c3) from rfl)
  have b7 := (hM.cell 7).trans (show _ = some (.slice A4 os.length c4) from rfl)
  go_wp2_with fail
  refine (l7Good_is A0 c0 rs h0 A1 c1 qs h1 _ G1.out _ (R0.below (by repeat (first | exact Below.refl _ _ | refine Below.alloc ?_ (by first | exact Nat.le_refl _ | (simp <;> omega)) _ | refine Below.setCell ?_ (by first | exact Nat.le_refl _ | (simp <;> omega)) _))) (R1.below (by repeat (first | exact Below.refl _ _ | refine Below.alloc ?_ (by first | exact Nat.le_refl _ | (simp <;> omega)) _ | refine Below.setCell ?_ (by first | exact Nat.le_refl _ | (simp <;> omega)) _)))).mono ?_
  rintro e w2 ⟨rfl, hb2⟩
  have hq2 : Below wX.heap.size wX w2 := bth (by repeat (first | exact Below.refl _ _ | refine Below.alloc ?_ (by first | exact Nat.le_refl _ | (simp <;> omega)) _ | refine Below.setCell ?_ (by first | exact Nat.le_refl _ | (simp <;> omega)) _)) hb2
  replace HB := bth HB hq2
  replace R0 := R0.below hq2
  replace R1 := R1.below hq2
  replace R2 := R2.below hq2
  replace R3 := R3.below hq2
  replace R4 := R4.below hq2
  replace hM := hM.below hq2 hM.lt
  replace b0 := (hM.cell 0).trans (show _ = some (.slice A0 rs.length c0) from rfl)
  replace b1 := (hM.cell 1).trans (show _ = some (.slice A1 qs.length c1) from rfl)
  replace b2 := (hM.cell 2).trans (show _ = some (.int .i64 tu) from rfl)
  replace b3 := (hM.cell 3).trans (show _ = some (.int .i64 se) from rfl)
  replace b4 := (hM.cell 4).trans (show _ = some (.int .i64 sp) from rfl)
  replace b5 := (hM.cell 5).trans (show _ = some (.slice A2 ws.length c2) from rfl)
  replace b6 := (hM.cell 6).trans (show _ = some (.slice A3 sh.length c3) from rfl)
  replace b7 := (hM.cell 7).trans (show _ = some (.slice A4 os.length c4) from rfl)
  go_wp2_with fail
  refine (l8Good_is tu se sp A2 ws c2 A3 c3 sh h2 h3 k2 _ G2.out _ (R2.below (by repeat (first | exact Below.refl _ _ | refine Below.alloc ?_ (by first | exact Nat.le_refl _ | (simp <;> omega)) _ | refine Below.setCell ?_ (by first | exact Nat.le_refl _ | (simp <;> omega)) _))) (R3.below (by repeat (first | exact Below.refl _ _ | refine Below.alloc ?_ (by first | exact Nat.le_refl _ | (simp <;> omega)) _ | refine Below.setCell ?_ (by first | exact Nat.le_refl _ | (simp <;> omega)) _)))).mono ?_
  rintro e w3 ⟨rfl, hb3⟩
  have hq3 : Below w2.heap.size w2 w3 := bth (by repeat (first | exact Below.refl _ _ | refine Below.alloc ?_ (by first | exact Nat.le_refl _ | (simp <;> omega)) _ | refine Below.setCell ?_ (by first | exact Nat.le_refl _ | (simp <;> omega)) _)) hb3
  replace HB := bth HB hq3
  replace R0 := R0.below hq3
  replace R1 := R1.below hq3
  replace R2 := R2.below hq3
  replace R3 := R3.below hq3
  replace R4 := R4.below hq3
  replace hM := hM.below hq3 hM.lt
  replace b0 := (hM.cell 0).trans (show _ = some (.slice A0 rs.length c0) from rfl)
  replace b1 := (hM.cell 1).trans (show _ = some (.slice A1 qs.length c1) from rfl)
  replace b2 := (hM.cell 2).trans (show _ = some (.int .i64 tu) from rfl)
  replace b3 := (hM.cell 3).trans (show _ = some (.int .i64 se) from rfl)
  replace b4 := (hM.cell 4).trans (show _ = some (.int .i64 sp) from rfl)
  replace b5 := (hM.cell 5).trans (show _ = some (.slice A2 ws.length c2) from rfl)
  replace b6 := (hM.cell 6).trans (show _ = some (.slice A3 sh.length c3) from rfl)
  replace b7 := (hM.cell 7).trans (show _ = some (.slice A4 os.length c4) from rfl)
  go_wp2
  have HM := Lib.hid hM
  have S0 := Lib.hid R0; have S1 := Lib.hid R1; have S2 := Lib.hid R2; have S3 := Lib.hid R3; have S4 := Lib.hid R4
  clear b0 b1 b2 b3 b4 b5 b6 b7
  go_loopw [3] (fun i wr => ∃ k : Nat, k ≤ os.length ∧ i = .int .i64 k ∧ allTo (atB (outB rs) os) k = true ∧ Below w.heap.size w wr ∧ Below w3.heap.size w3 wr) (fun i _ => os.length - (intOf i).toNat)
  case atStart => exact ⟨0, Nat.zero_le _, rfl, rfl, HB, Below.refl _ _⟩
  case round =>
    obtain ⟨k, hk, rfl, hl, hbw, hb⟩ := hrel
    have HL := Lib.hid hl; clear hl R0 R1 R2 R3 R4 hM
    have R0 := S0.out; have R1 := S1.out; have R2 := S2.out; have R3 := S3.out; have R4 := S4.out
    have hM := HM.out
    have hq4 : Below w3.heap.size w3 wr := bth (by repeat (first | exact Below.refl _ _ | refine Below.alloc ?_ (by first | exact Nat.le_refl _ | (simp <;> omega)) _ | refine Below.setCell ?_ (by first | exact Nat.le_refl _ | (simp <;> omega)) _)) hb
    replace HB := bth HB hq4
    replace R0 := R0.below hq4
    replace R1 := R1.below hq4
    replace R2 := R2.below hq4
    replace R3 := R3.below hq4
    replace R4 := R4.below hq4
    replace hM := hM.below hb hM.lt
    have b0 := (hM.cell 0).trans (show _ = some (.slice A0 rs.length c0) from rfl)
    have b1 := (hM.cell 1).trans (show _ = some (.slice A1 qs.length c1) from rfl)
    have b2 := (hM.cell 2).trans (show _ = some (.int .i64 tu) from rfl)
    have b3 := (hM.cell 3).trans (show _ = some (.int .i64 se) from rfl)
    have b4 := (hM.cell 4).trans (show _ = some (.int .i64 sp) from rfl)
    have b5 := (hM.cell 5).trans (show _ = some (.slice A2 ws.length c2) from rfl)
    have b6 := (hM.cell 6).trans (show _ = some (.slice A3 sh.length c3) from rfl)
    have b7 := (hM.cell 7).trans (show _ = some (.slice A4 os.length c4) from rfl)
    by_cases hlt : k < os.length
    · obtain ⟨bq, oq, x, rfl, hbl, hx, hcx⟩ := R4.at_ (Below.refl _ _) hlt
      obtain ⟨xr, xm, xa⟩ := x
      clear b0 b1 b2 b3 b4 b5 b6 b7
      have b0 := (hM.cell 0).trans (show _ = some (.slice A0 rs.length c0) from rfl)
      have b1 := (hM.cell 1).trans (show _ = some (.slice A1 qs.length c1) from rfl)
      have b2 := (hM.cell 2).trans (show _ = some (.int .i64 tu) from rfl)
      have b3 := (hM.cell 3).trans (show _ = some (.int .i64 se) from rfl)
      have b4 := (hM.cell 4).trans (show _ = some (.int .i64 sp) from rfl)
      have b5 := (hM.cell 5).trans (show _ = some (.slice A2 ws.length c2) from rfl)
      have b6 := (hM.cell 6).trans (show _ = some (.slice A3 sh.length c3) from rfl)
      have b7 := (hM.cell 7).trans (show _ = some (.slice (some ⟨bq, oq, none⟩) os.length c4) from rfl)
      have p0 := hcx 0 _ rfl
      have p1 := hcx 1 _ rfl
      simp only [Nat.add_zero] at p0
      have HX := Lib.hid hx; clear hx hcx
      have PR := Lib.hid R0
      cases hf : fnd rs xr with
      | none =>
        have HF := Lib.hid hf; clear hf
        go_upto_region 6 with fail
        clear b0 b1 b2 b3 b4 b5 b6 b7
        have b0 := fun K : Kin wr.heap.size wr => ((hM.below K.below hM.lt).cell 0).trans (show _ = some (.slice A0 rs.length c0) from rfl)
        have b1 := fun K : Kin wr.heap.size wr => ((hM.below K.below hM.lt).cell 1).trans (show _ = some (.slice A1 qs.length c1) from rfl)
        have b2 := fun K : Kin wr.heap.size wr => ((hM.below K.below hM.lt).cell 2).trans (show _ = some (.int .i64 tu) from rfl)
        have b3 := fun K : Kin wr.heap.size wr => ((hM.below K.below hM.lt).cell 3).trans (show _ = some (.int .i64 se) from rfl)
        have b4 := fun K : Kin wr.heap.size wr => ((hM.below K.below hM.lt).cell 4).trans (show _ = some (.int .i64 sp) from rfl)
        have b5 := fun K : Kin wr.heap.size wr => ((hM.below K.below hM.lt).cell 5).trans (show _ = some (.slice A2 ws.length c2) from rfl)
        have b6 := fun K : Kin wr.heap.size wr => ((hM.below K.below hM.lt).cell 6).trans (show _ = some (.slice A3 sh.length c3) from rfl)
        have b7 := fun K : Kin wr.heap.size wr => ((hM.below K.below hM.lt).cell 7).trans (show _ = some (.slice (some ⟨bq, oq, none⟩) os.length c4) from rfl)
        refine wp_region_kin (by kernel_rfl) (by kernel_rfl) ?_
        repeat (go_big_quiet_step (fail))
        go_big_quiet_step ((go_at_call 22; exact Kin.same _ (l2Find_is A0 c0 rs h0 xr _ (idxB_nil HF.out) _ (PR.out.below (Kin.below _)))))
        repeat (go_big_quiet_step (fail))
        refine wpQuiet_nil ?_
        intro K
        go_wp2
        go_ret
        exact ⟨ret_bool (meetP_4 (List.any_eq_true.2 ⟨⟨xr, xm, xa⟩, List.mem_of_getElem? HX.out, by rw [outB_none (o := ⟨xr, xm, xa⟩) HF.out]; rfl⟩)).symm, bth hbw K.below⟩
      | some r =>
        have HF := Lib.hid hf; clear hf
        obtain ⟨m, hm, _⟩ := idxB_some HF.out
        have HMI := Lib.hid hm; clear hm
        have hneg : decide ((m : Int) < 0) = false := decide_eq_false (by omega)
        cases hb2 : memB xm
        · have HB2 := Lib.hid hb2; clear hb2
          go_upto_region 6 with fail
          clear b0 b1 b2 b3 b4 b5 b6 b7
          have b0 := fun K : Kin wr.heap.size wr => ((hM.below K.below hM.lt).cell 0).trans (show _ = some (.slice A0 rs.length c0) from rfl)
          have b1 := fun K : Kin wr.heap.size wr => ((hM.below K.below hM.lt).cell 1).trans (show _ = some (.slice A1 qs.length c1) from rfl)
          have b2 := fun K : Kin wr.heap.size wr => ((hM.below K.below hM.lt).cell 2).trans (show _ = some (.int .i64 tu) from rfl)
          have b3 := fun K : Kin wr.heap.size wr => ((hM.below K.below hM.lt).cell 3).trans (show _ = some (.int .i64 se) from rfl)
          have b4 := fun K : Kin wr.heap.size wr => ((hM.below K.below hM.lt).cell 4).trans (show _ = some (.int .i64 sp) from rfl)
          have b5 := fun K : Kin wr.heap.size wr => ((hM.below K.below hM.lt).cell 5).trans (show _ = some (.slice A2 ws.length c2) from rfl)
          have b6 := fun K : Kin wr.heap.size wr => ((hM.below K.below hM.lt).cell 6).trans (show _ = some (.slice A3 sh.length c3) from rfl)
          have b7 := fun K : Kin wr.heap.size wr => ((hM.below K.below hM.lt).cell 7).trans (show _ = some (.slice (some ⟨bq, oq, none⟩) os.length c4) from rfl)
          refine wp_region_kin (by kernel_rfl) (by kernel_rfl) ?_
          repeat (go_big_quiet_step (fail))
          go_big_quiet_step ((go_at_call 22; exact Kin.same _ (l2Find_is A0 c0 rs h0 xr _ HMI.out _ (PR.out.below (Kin.below _)))))
          repeat (go_big_quiet_step (fail))
          go_big_quiet_step ((go_at_call 57; exact Kin.same _ (l7Member_is xm _ HB2.out _)))
          repeat (go_big_quiet_step (fail))
          refine wpQuiet_nil ?_
          intro K
          go_wp2
          go_ret
          exact ⟨ret_bool (meetP_4 (List.any_eq_true.2 ⟨⟨xr, xm, xa⟩, List.mem_of_getElem? HX.out, by rw [outB_some (o := ⟨xr, xm, xa⟩) HF.out]; simp only [HB2.out]; rfl⟩)).symm, bth hbw K.below⟩
        · have HB2 := Lib.hid hb2; clear hb2
          go_upto_region 6 with fail
          clear b0 b1 b2 b3 b4 b5 b6 b7
          have b0 := fun K : Kin wr.heap.size wr => ((hM.below K.below hM.lt).cell 0).trans (show _ = some (.slice A0 rs.length c0) from rfl)
          have b1 := fun K : Kin wr.heap.size wr => ((hM.below K.below hM.lt).cell 1).trans (show _ = some (.slice A1 qs.length c1) from rfl)
          have b2 := fun K : Kin wr.heap.size wr => ((hM.below K.below hM.lt).cell 2).trans (show _ = some (.int .i64 tu) from rfl)
          have b3 := fun K : Kin wr.heap.size wr => ((hM.below K.below hM.lt).cell 3).trans (show _ = some (.int .i64 se) from rfl)
          have b4 := fun K : Kin wr.heap.size wr => ((hM.below K.below hM.lt).cell 4).trans (show _ = some (.int .i64 sp) from rfl)
          have b5 := fun K : Kin wr.heap.size wr => ((hM.below K.below hM.lt).cell 5).trans (show _ = some (.slice A2 ws.length c2) from rfl)
          have b6 := fun K : Kin wr.heap.size wr => ((hM.below K.below hM.lt).cell 6).trans (show _ = some (.slice A3 sh.length c3) from rfl)
          have b7 := fun K : Kin wr.heap.size wr => ((hM.below K.below hM.lt).cell 7).trans (show _ = some (.slice (some ⟨bq, oq, none⟩) os.length c4) from rfl)
          refine wp_region_kin (by kernel_rfl) (by kernel_rfl) ?_
          repeat (go_big_quiet_step (fail))
          go_big_quiet_step ((go_at_call 22; exact Kin.same _ (l2Find_is A0 c0 rs h0 xr _ HMI.out _ (PR.out.below (Kin.below _)))))
          repeat (go_big_quiet_step (fail))
          go_big_quiet_step ((go_at_call 57; exact Kin.same _ (l7Member_is xm _ HB2.out _)))
          repeat (go_big_quiet_step (fail))
          refine wpQuiet_nil ?_
          intro K
          go_wp2
          go_roundw
          case rel => exact ⟨k + 1, by omega, by go_num, allTo_go HL.out (by simp only [atB, HX.out]; rw [outB_some (o := ⟨xr, xm, xa⟩) HF.out]; exact HB2.out), bth hbw K.below, bth hb K.below⟩
          case measure => simp [intOf]; omega
    · obtain rfl : k = os.length := by omega
      have H4 : Hid (os.any (fun o => !outB rs o) = false) := Lib.hid (by
        rw [Bool.eq_false_iff]
        intro hc
        obtain ⟨x, hx, hp⟩ := List.any_eq_true.1 hc
        obtain ⟨i, hi⟩ := List.mem_iff_getElem?.1 hx
        have := allTo_iff.1 HL.out i (List.getElem?_eq_some_iff.1 hi).1
        simp only [atB, hi] at this
        rw [this] at hp; cases hp)
      by_cases hd : debB rs qs = true
      · have HD := Lib.hid hd; clear hd
        go_wp2_with fail
        refine (l25Debate_is rs qs A0 A1 c0 c1 h0 h1 H1.out _ HD.out _ (R0.below (by repeat (first | exact Below.refl _ _ | refine Below.alloc ?_ (by first | exact Nat.le_refl _ | (simp <;> omega)) _ | refine Below.setCell ?_ (by first | exact Nat.le_refl _ | (simp <;> omega)) _))) (R1.below (by repeat (first | exact Below.refl _ _ | refine Below.alloc ?_ (by first | exact Nat.le_refl _ | (simp <;> omega)) _ | refine Below.setCell ?_ (by first | exact Nat.le_refl _ | (simp <;> omega)) _)))).mono ?_
        rintro e w5 ⟨rfl, hb5⟩
        have hq5 : Below wr.heap.size wr w5 := bth (by repeat (first | exact Below.refl _ _ | refine Below.alloc ?_ (by first | exact Nat.le_refl _ | (simp <;> omega)) _ | refine Below.setCell ?_ (by first | exact Nat.le_refl _ | (simp <;> omega)) _)) hb5
        replace HB := bth HB hq5
        replace R0 := R0.below hq5
        replace R1 := R1.below hq5
        replace R2 := R2.below hq5
        replace R3 := R3.below hq5
        replace R4 := R4.below hq5
        replace hM := hM.below hq5 hM.lt
        replace b0 := (hM.cell 0).trans (show _ = some (.slice A0 rs.length c0) from rfl)
        replace b1 := (hM.cell 1).trans (show _ = some (.slice A1 qs.length c1) from rfl)
        replace b2 := (hM.cell 2).trans (show _ = some (.int .i64 tu) from rfl)
        replace b3 := (hM.cell 3).trans (show _ = some (.int .i64 se) from rfl)
        replace b4 := (hM.cell 4).trans (show _ = some (.int .i64 sp) from rfl)
        replace b5 := (hM.cell 5).trans (show _ = some (.slice A2 ws.length c2) from rfl)
        replace b6 := (hM.cell 6).trans (show _ = some (.slice A3 sh.length c3) from rfl)
        replace b7 := (hM.cell 7).trans (show _ = some (.slice A4 os.length c4) from rfl)
        go_wp2
        go_ret
        exact ⟨ret_bool (by rw [meetP_5 H1.out H2.out H3.out H4.out, HD.out]; rfl), (bth HB (by repeat (first | exact Below.refl _ _ | refine Below.alloc ?_ (by first | exact Nat.le_refl _ | (simp <;> omega)) _ | refine Below.setCell ?_ (by first | exact Nat.le_refl _ | (simp <;> omega)) _)))⟩
      replace hd := Bool.eq_false_iff.2 hd
      have HD := Lib.hid hd; clear hd
      by_cases hs : sp = 0
      · have hse : (sp == 0) = true := beq_iff_eq.2 hs
        have HSE := Lib.hid hse; clear hs
        by_cases hw : ws.length = 0
        · have hwe : ((ws.length : Int) == 0) = true := by simp [hw]
          have HW := Lib.hid hw; clear hw
          go_wp2_with fail
          refine (l25Debate_is rs qs A0 A1 c0 c1 h0 h1 H1.out _ HD.out _ (R0.below (by repeat (first | exact Below.refl _ _ | refine Below.alloc ?_ (by first | exact Nat.le_refl _ | (simp <;> omega)) _ | refine Below.setCell ?_ (by first | exact Nat.le_refl _ | (simp <;> omega)) _))) (R1.below (by repeat (first | exact Below.refl _ _ | refine Below.alloc ?_ (by first | exact Nat.le_refl _ | (simp <;> omega)) _ | refine Below.setCell ?_ (by first | exact Nat.le_refl _ | (simp <;> omega)) _)))).mono ?_
          rintro e w5 ⟨rfl, hb5⟩
          have hq5 : Below wr.heap.size wr w5 := bth (by repeat (first | exact Below.refl _ _ | refine Below.alloc ?_ (by first | exact Nat.le_refl _ | (simp <;> omega)) _ | refine Below.setCell ?_ (by first | exact Nat.le_refl _ | (simp <;> omega)) _)) hb5
          replace HB := bth HB hq5
          replace R0 := R0.below hq5
          replace R1 := R1.below hq5
          replace R2 := R2.below hq5
          replace R3 := R3.below hq5
          replace R4 := R4.below hq5
          replace hM := hM.below hq5 hM.lt
          replace b0 := (hM.cell 0).trans (show _ = some (.slice A0 rs.length c0) from rfl)
          replace b1 := (hM.cell 1).trans (show _ = some (.slice A1 qs.length c1) from rfl)
          replace b2 := (hM.cell 2).trans (show _ = some (.int .i64 tu) from rfl)
          replace b3 := (hM.cell 3).trans (show _ = some (.int .i64 se) from rfl)
          replace b4 := (hM.cell 4).trans (show _ = some (.int .i64 sp) from rfl)
          replace b5 := (hM.cell 5).trans (show _ = some (.slice A2 ws.length c2) from rfl)
          replace b6 := (hM.cell 6).trans (show _ = some (.slice A3 sh.length c3) from rfl)
          replace b7 := (hM.cell 7).trans (show _ = some (.slice A4 os.length c4) from rfl)
          go_wp2
          go_ret
          exact ⟨ret_bool (by rw [meetP_5 H1.out H2.out H3.out H4.out, HD.out, quietB, HSE.out, decide_eq_true HW.out]; rfl), (bth HB (by repeat (first | exact Below.refl _ _ | refine Below.alloc ?_ (by first | exact Nat.le_refl _ | (simp <;> omega)) _ | refine Below.setCell ?_ (by first | exact Nat.le_refl _ | (simp <;> omega)) _)))⟩
        · have hwe : ((ws.length : Int) == 0) = false := by simpa using hw
          have HW := Lib.hid hw; clear hw
          go_wp2_with fail
          refine (l25Debate_is rs qs A0 A1 c0 c1 h0 h1 H1.out _ HD.out _ (R0.below (by repeat (first | exact Below.refl _ _ | refine Below.alloc ?_ (by first | exact Nat.le_refl _ | (simp <;> omega)) _ | refine Below.setCell ?_ (by first | exact Nat.le_refl _ | (simp <;> omega)) _))) (R1.below (by repeat (first | exact Below.refl _ _ | refine Below.alloc ?_ (by first | exact Nat.le_refl _ | (simp <;> omega)) _ | refine Below.setCell ?_ (by first | exact Nat.le_refl _ | (simp <;> omega)) _)))).mono ?_
          rintro e w5 ⟨rfl, hb5⟩
          have hq5 : Below wr.heap.size wr w5 := bth (by repeat (first | exact Below.refl _ _ | refine Below.alloc ?_ (by first | exact Nat.le_refl _ | (simp <;> omega)) _ | refine Below.setCell ?_ (by first | exact Nat.le_refl _ | (simp <;> omega)) _)) hb5
          replace HB := bth HB hq5
          replace R0 := R0.below hq5
          replace R1 := R1.below hq5
          replace R2 := R2.below hq5
          replace R3 := R3.below hq5
          replace R4 := R4.below hq5
          replace hM := hM.below hq5 hM.lt
          replace b0 := (hM.cell 0).trans (show _ = some (.slice A0 rs.length c0) from rfl)
          replace b1 := (hM.cell 1).trans (show _ = some (.slice A1 qs.length c1) from rfl)
          replace b2 := (hM.cell 2).trans (show _ = some (.int .i64 tu) from rfl)
          replace b3 := (hM.cell 3).trans (show _ = some (.int .i64 se) from rfl)
          replace b4 := (hM.cell 4).trans (show _ = some (.int .i64 sp) from rfl)
          replace b5 := (hM.cell 5).trans (show _ = some (.slice A2 ws.length c2) from rfl)
          replace b6 := (hM.cell 6).trans (show _ = some (.slice A3 sh.length c3) from rfl)
          replace b7 := (hM.cell 7).trans (show _ = some (.slice A4 os.length c4) from rfl)
          go_wp2
          go_ret
          exact ⟨ret_bool (by rw [meetP_5 H1.out H2.out H3.out H4.out, HD.out, quietB, HSE.out, decide_eq_false HW.out]; rfl), (bth HB (by repeat (first | exact Below.refl _ _ | refine Below.alloc ?_ (by first | exact Nat.le_refl _ | (simp <;> omega)) _ | refine Below.setCell ?_ (by first | exact Nat.le_refl _ | (simp <;> omega)) _)))⟩
      · have hse : (sp == 0) = false := beq_eq_false_iff_ne.2 hs
        have HSE := Lib.hid hse; clear hs
        go_wp2_with fail
        refine (l25Debate_is rs qs A0 A1 c0 c1 h0 h1 H1.out _ HD.out _ (R0.below (by repeat (first | exact Below.refl _ _ | refine Below.alloc ?_ (by first | exact Nat.le_refl _ | (simp <;> omega)) _ | refine Below.setCell ?_ (by first | exact Nat.le_refl _ | (simp <;> omega)) _))) (R1.below (by repeat (first | exact Below.refl _ _ | refine Below.alloc ?_ (by first | exact Nat.le_refl _ | (simp <;> omega)) _ | refine Below.setCell ?_ (by first | exact Nat.le_refl _ | (simp <;> omega)) _)))).mono ?_
        rintro e w5 ⟨rfl, hb5⟩
        have hq5 : Below wr.heap.size wr w5 := bth (by repeat (first | exact Below.refl _ _ | refine Below.alloc ?_ (by first | exact Nat.le_refl _ | (simp <;> omega)) _ | refine Below.setCell ?_ (by first | exact Nat.le_refl _ | (simp <;> omega)) _)) hb5
        replace HB := bth HB hq5
        replace R0 := R0.below hq5
        replace R1 := R1.below hq5
        replace R2 := R2.below hq5
        replace R3 := R3.below hq5
        replace R4 := R4.below hq5
        replace hM := hM.below hq5 hM.lt
        replace b0 := (hM.cell 0).trans (show _ = some (.slice A0 rs.length c0) from rfl)
        replace b1 := (hM.cell 1).trans (show _ = some (.slice A1 qs.length c1) from rfl)
        replace b2 := (hM.cell 2).trans (show _ = some (.int .i64 tu) from rfl)
        replace b3 := (hM.cell 3).trans (show _ = some (.int .i64 se) from rfl)
        replace b4 := (hM.cell 4).trans (show _ = some (.int .i64 sp) from rfl)
        replace b5 := (hM.cell 5).trans (show _ = some (.slice A2 ws.length c2) from rfl)
        replace b6 := (hM.cell 6).trans (show _ = some (.slice A3 sh.length c3) from rfl)
        replace b7 := (hM.cell 7).trans (show _ = some (.slice A4 os.length c4) from rfl)
        go_wp2
        go_ret
        exact ⟨ret_bool (by rw [meetP_5 H1.out H2.out H3.out H4.out, HD.out, quietB, HSE.out]; rfl), (bth HB (by repeat (first | exact Below.refl _ _ | refine Below.alloc ?_ (by first | exact Nat.le_refl _ | (simp <;> omega)) _ | refine Below.setCell ?_ (by first | exact Nat.le_refl _ | (simp <;> omega)) _)))⟩
end Go.Proofs.YtpkagohflkcnkaaGreatDoor
