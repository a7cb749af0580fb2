/- Texts of the proof: walks of the functions, and what they compute. -/
import Derived.Deep.Cut
import Derived.Test.YtjimibkgocieoaaGreatRb7
import Derived.Test.YtjimibkgocieoaaGreatRb5
import Derived.Test.YtjimibkgocieoaaGreatRb0
import Derived.Test.YtjimibkgocieoaaGreatRb4
import Derived.Test.YtjimibkgocieoaaGreatRb3
import Derived.Test.YtjimibkgocieoaaGreatRb6
set_option maxHeartbeats 16000000
set_option maxRecDepth 100000
namespace Go.Proofs.YtjimibkgocieoaaGreat
open Go.RowKit Go.G9
structure Mee where
 rules : List Rul
 pend : List Que
 turns : Int
 secs : Int
 spk : Int
 wait : List Int
 shares : List Sha
 outs : List Out
def debB (rs : List Rul) (qs : List Que) : Bool := match qs[qs.length - 1]? with
 | some q => (match fnd rs q.rule with | some r => !lackB r q && r.debate | none => false)
 | none => false
def outB (rs : List Rul) (o : Out) : Bool := (fnd rs o.rule).isSome && memB o.mover
def quietB (sp : Int) (ws : List Int) : Bool := (sp == 0) && decide (ws.length = 0)
def meetP (rs : List Rul) (qs : List Que) (tu se sp : Int) (ws : List Int) (sh : List Sha) (os : List Out) : Bool :=
 pendB rs qs && (floB tu se sp ws sh && (decide (os.length ≤ 12) && (!os.any (fun o => !outB rs o) && (debB rs qs || quietB sp ws))))
def meetB (m : Mee) : Bool := meetP m.rules m.pend m.turns m.secs m.spk m.wait m.shares m.outs
theorem debB_nil {rs : List Rul} {qs : List Que} (h : qs.length = 0) : debB rs qs = false := by
 obtain rfl := List.length_eq_zero_iff.1 h; rfl
theorem debB_last {rs : List Rul} {qs : List Que} {j : Nat} {q : Que} {r : Rul} (hl : qs.length = j + 1) (hq : qs[j]? = some q) (hr : fnd rs q.rule = some r) : debB rs qs = (!lackB r q && r.debate) := by
 have : qs.length - 1 = j := by omega
 simp only [debB, this, hq, hr]
theorem zb124 {p : Prop} (h : p := by
 repeat (go_big_quiet_step (fail))
 refine wpQuiet_nil ?_
 intro K
 go_wp2
 go_ret
 exact ⟨ret_bool (by rw [HL.out]; rfl), bth HB K.below⟩) : p := h
theorem isDebatable_is (rs : List Rul) (qs : List Que) (tu se sp : Int) (ws : List Int) (sh : List Sha) (os : List Out) (A0 A1 A2 A3 A4 : Option Addr) (c0 c1 c2 c3 c4 : Nat) (h0 : rs.length ≤ 1048576) (h1 : qs.length ≤ 1048576) (h2 : ws.length ≤ 1048576) (h3 : sh.length ≤ 1048576) (h4 : os.length ≤ 1048576) (hp : pendB rs qs = true) (v : Bool) (hv : debB rs qs = v) (w : World) (R0 : Rds 7 Rul.cells w A0 rs) (R1 : Rds 3 Que.cells w A1 qs) (R2 : Rds 1 intC w A2 ws) (R3 : Rds 3 Sha.cells w A3 sh) (R4 : Rds 3 Out.cells w A4 os) :
 Calls Tryz.prog 58 #[.agg #[.slice A0 rs.length c0, .slice A1 qs.length c1, .int .i64 tu, .int .i64 se, .int .i64 sp, .slice A2 ws.length c2, .slice A3 sh.length c3, .slice A4 os.length c4]] w fun e w' => e = .returned (.bool v) ∧ Below w.heap.size w w' := by
 subst hv
 rcases Nat.eq_zero_or_pos qs.length with hz | hz
 ·rw [hz]
  have HZ := lh hz; clear hz
  go_in
  go_upto_region 1 with fail
  refine lay1 fun wX hq1 hM => ?_
  replace R0 := R0.below hq1; replace R1 := R1.below hq1; have HB := hq1; have b' := hM.cs8
  go_upto_region 2 with fail
  clear b'; have b' := Blk.cs8K (fun K : Kin wX.heap.size wX => (hM.below K.below hM.lt))
  refine wp_region_kin (by kernel_rfl) (by kernel_rfl) ?_
  repeat (go_big_quiet_step (fail))
  refine wpQuiet_nil ?_
  intro K
  go_wp2
  go_ret
  exact ⟨ret_bool (debB_nil HZ.out).symm, bth HB K.below⟩
 ·obtain ⟨j, hj⟩ : ∃ j, qs.length = j + 1 := ⟨qs.length - 1, by omega⟩
  have hjl : j < qs.length := by omega
  have hjb : j ≤ 1048576 := by omega
  have hge : decide ((0 : Int) ≤ (j : Int)) = true := decide_eq_true (by omega)
  obtain ⟨q, hq⟩ : ∃ q, qs[j]? = some q := ⟨qs[j], List.getElem?_eq_getElem hjl⟩
  obtain ⟨r, hr⟩ := pendB_found hp hq
  have hd := debB_last hj hq hr
  rw [hd, hj]
  have HQ := lh hq; have HR := lh hr; have HJL := lh hjl; clear hp hd hr hq hz hj hjl
  obtain ⟨id, nm, rk, sd, de, am, nd, hs⟩ := r
  obtain ⟨qr, qm, qd⟩ := q
  go_in
  go_upto_region 1 with fail
  refine lay1 fun wX hq1 hM => ?_
  replace R0 := R0.below hq1; replace R1 := R1.below hq1; have HB := hq1; have b' := hM.cs8
  go_upto_region 2 with fail
  obtain ⟨bq, oq, q', rfl, hbl, hx, hcx⟩ := R1.at_ (Below.refl _ _) HJL.out
  obtain rfl := Option.some.inj (HQ.out.symm.trans hx)
  clear b'; have b' := hM.cs8; have p0 := hcx 0 _ rfl; have p1 := hcx 1 _ rfl; have p2 := hcx 2 _ rfl
  simp only [Nat.add_zero] at p0
  clear hx hcx; have PR := lh R0
  have hfd : ∀ W : World, (Instr.field 48 (.agg #[.int .i64 id, .string nm, .int .i64 rk, .bool sd, .bool de, .bool am, .int .i64 nd]) 4).run Tryz.prog W = .ok (.bool de) W := fun _ => by kernel_rfl
  cases hl : lackB ⟨id, nm, rk, sd, de, am, nd, hs⟩ ⟨qr, qm, qd⟩
  ·have HL := lh hl; clear hl
   clear b'; have b' := Blk.cs8K (fun K : Kin wX.heap.size wX => (hM.below K.below hM.lt))
   refine wp_region_kin (by kernel_rfl) (by kernel_rfl) ?_
   repeat (go_big_quiet_step (fail))
   go_big_quiet_step ((go_at_call 117; exact Kin.call _ (by first | exact Nat.le_refl _ | omega) (lacksSecond_is A0 c0 rs h0 ⟨qr, qm, qd⟩ ⟨id, nm, rk, sd, de, am, nd, hs⟩ HR.out _ HL.out _ (PR.out.below (Kin.below _)))))
   repeat (go_big_quiet_step (fail))
   go_big_quiet_step ((go_at_call 64; exact Kin.call _ (by first | exact Nat.le_refl _ | omega) (ruleOf_is A0 c0 rs h0 ⟨qr, qm, qd⟩ ⟨id, nm, rk, sd, de, am, nd, hs⟩ HR.out _ (PR.out.below (Kin.below _)))))
   exact zb124
  ·have HL := lh hl; clear hl
   clear b'; have b' := Blk.cs8K (fun K : Kin wX.heap.size wX => (hM.below K.below hM.lt))
   refine wp_region_kin (by kernel_rfl) (by kernel_rfl) ?_
   repeat (go_big_quiet_step (fail))
   go_big_quiet_step ((go_at_call 117; exact Kin.call _ (by first | exact Nat.le_refl _ | omega) (lacksSecond_is A0 c0 rs h0 ⟨qr, qm, qd⟩ ⟨id, nm, rk, sd, de, am, nd, hs⟩ HR.out _ HL.out _ (PR.out.below (Kin.below _)))))
   exact zb124
theorem l25Debate_is (rs : List Rul) (qs : List Que) (A0 A1 : Option Addr) (c0 c1 : Nat) (h0 : rs.length ≤ 1048576) (h1 : qs.length ≤ 1048576) (hp : pendB rs qs = true) (v : Bool) (hv : debB rs qs = v) (w : World) (R0 : Rds 7 Rul.cells w A0 rs) (R1 : Rds 3 Que.cells w A1 qs) :
 Calls Tryz.prog 63 #[.slice A0 rs.length c0, .slice A1 qs.length c1] w fun e w' => e = .returned (.bool v) ∧ Below w.heap.size w w' := by
 subst hv
 rcases Nat.eq_zero_or_pos qs.length with hz | hz
 ·rw [hz]
  have HZ := lh hz; clear hz
  go_in
  go_wp2
  go_ret
  exact ⟨ret_bool (debB_nil HZ.out).symm, Below.refl _ _⟩
 ·obtain ⟨j, hj⟩ : ∃ j, qs.length = j + 1 := ⟨qs.length - 1, by omega⟩
  have hjl : j < qs.length := by omega
  have hjb : j ≤ 1048576 := by omega
  have hge : decide ((0 : Int) ≤ (j : Int)) = true := decide_eq_true (by omega)
  obtain ⟨q, hq⟩ : ∃ q, qs[j]? = some q := ⟨qs[j], List.getElem?_eq_getElem hjl⟩
  obtain ⟨r, hr⟩ := pendB_found hp hq
  have hd := debB_last hj hq hr
  obtain ⟨m, hm, hmr⟩ := idxB_some hr
  have hml : m < rs.length := (List.getElem?_eq_some_iff.1 hmr).1
  rw [hd, hj]
  have HQ := lh hq; have HR := lh hr; have HJL := lh hjl; have HM := lh hm; have HMR := lh hmr; have HML := lh hml; clear hp hd hr hq hz hj hjl hm hmr hml
  obtain ⟨id, nm, rk, sd, de, am, nd, hs⟩ := r
  obtain ⟨qr, qm, qd⟩ := q
  obtain ⟨bq, oq, q', rfl, hbl, hx, hcx⟩ := R1.at_ (Below.refl _ _) HJL.out
  obtain rfl := Option.some.inj (HQ.out.symm.trans hx)
  have p0 := hcx 0 _ rfl; have p1 := hcx 1 _ rfl; have p2 := hcx 2 _ rfl
  simp only [Nat.add_zero] at p0
  have g0 := p0 (Kin.self _); have g1 := p1 (Kin.self _); have g2 := p2 (Kin.self _)
  simp only [Kin.self] at g0
  simp only [Kin.self] at g1
  simp only [Kin.self] at g2
  clear hx hcx
  cases hl : lackB ⟨id, nm, rk, sd, de, am, nd, hs⟩ ⟨qr, qm, qd⟩
  ·have HL := lh hl; clear hl
   go_in
   go_wp2_with fail
   refine (l7Lacks_is A0 c0 rs h0 ⟨qr, qm, qd⟩ ⟨id, nm, rk, sd, de, am, nd, hs⟩ HR.out _ HL.out _ R0).mono ?_
   rintro e w1 ⟨rfl, hb1⟩
   obtain ⟨b2, o2, r', rfl, hbl2, hx2, hcx2⟩ := R0.at_ hb1 HML.out
   obtain rfl := Option.some.inj (HMR.out.symm.trans hx2)
   obtain ⟨b3, o3, q3, e3, hbl3, hx3, hcx3⟩ := R1.at_ hb1 HJL.out
   simp only [Option.some.injEq, Addr.mk.injEq, and_true] at e3
   obtain ⟨rfl, rfl⟩ := e3
   obtain rfl := Option.some.inj (HQ.out.symm.trans hx3)
   have y4 := hcx2 4 _ rfl (Kin.self _); have y0 := hcx3 0 _ rfl (Kin.self _)
   simp only [Nat.add_zero, Kin.self] at y4 y0
   clear hx2 hcx2 hx3 hcx3 p0 p1 p2 g0 g1 g2
   go_wp2_with fail
   refine (l2Find_is _ c0 rs h0 qr _ HM.out _ (R0.below hb1)).mono ?_
   rintro e w0 ⟨rfl, hh0⟩
   rw [hh0]
   clear hh0 w0
   go_wp2
   go_ret
   exact ⟨rfl, hb1⟩
  ·have HL := lh hl; clear hl
   go_in
   go_wp2_with fail
   refine (l7Lacks_is A0 c0 rs h0 ⟨qr, qm, qd⟩ ⟨id, nm, rk, sd, de, am, nd, hs⟩ HR.out _ HL.out _ R0).mono ?_
   rintro e w1 ⟨rfl, hb1⟩
   go_wp2
   go_ret
   exact ⟨rfl, hb1⟩
theorem indexFunc_Out (A : Option Addr) (c : Nat) (xs : List Out) (hn : xs.length ≤ 1048576) (f : FuncId) (cv : Array Value) (hcall : ∀ args W, (callFunc f args).run Tryz.prog W = .ok (.enter f args) W) (p : Out → Bool) (v : Int) (hv : idxB p xs = v) (w : World) (hR : Rds 3 Out.cells w A xs)
  (hf : ∀ x, x ∈ xs → ∀ W, Below w.heap.size w W → Calls Tryz.prog f (#[.agg #[.int .i64 x.rule, .int .i64 x.mover, .bool x.ado]] ++ cv) W fun e w' => e = .returned (.bool (p x)) ∧ Below W.heap.size W w') :
 Calls Tryz.prog 122 #[.slice A xs.length c, .func (.func f) #[] cv] w fun e w' => e = .returned (.int .i64 v) ∧ Below w.heap.size w w' := by
 subst hv
 have HF := lh hf; clear hf
 go_in
 go_wp2
 go_loopw [8] (fun i wr => ∃ k : Nat, k ≤ xs.length ∧ i = .int .i64 k ∧ allTo (fun i => !atB p xs i) k = true ∧ Below w.heap.size w wr) (fun i _ => xs.length - (intOf i).toNat)
 case atStart => exact ⟨0, Nat.zero_le _, rfl, rfl, Below.refl _ _⟩
 case round =>
  obtain ⟨k, hk, rfl, hl, hb⟩ := hrel
  have HL := lh hl; clear hl
  by_cases hlt : k < xs.length
  ·obtain ⟨b, off, x, rfl, hbl, hx, hcx⟩ := hR.at_ hb hlt
   have HF' := lh (HF.out x (List.mem_of_getElem? hx))
   obtain ⟨or, om, oa⟩ := x
   have f0 := hcx 0 _ rfl; have f1 := hcx 1 _ rfl; have f2 := hcx 2 _ rfl
   simp only [Nat.add_zero] at f0
   have g0 := f0 (Kin.self _); have g1 := f1 (Kin.self _); have g2 := f2 (Kin.self _)
   simp only [Kin.self] at g0
   simp only [Kin.self] at g1
   simp only [Kin.self] at g2
   have HX := lh hx; clear hx hcx
   go_wp2_with fail
   refine (HF'.out _ hb).mono ?_
   rintro e w' ⟨rfl, hb'⟩
   cases hp : p ⟨or, om, oa⟩
   ·exact zb112
   ·exact zb144
  ·exact zb146
theorem containsFunc_Out (A : Option Addr) (c : Nat) (xs : List Out) (hn : xs.length ≤ 1048576) (f : FuncId) (cv : Array Value) (hcall : ∀ args W, (callFunc f args).run Tryz.prog W = .ok (.enter f args) W) (p : Out → Bool) (v : Bool) (hv : xs.any p = v) (w : World) (hR : Rds 3 Out.cells w A xs)
  (hf : ∀ x, x ∈ xs → ∀ W, Below w.heap.size w W → Calls Tryz.prog f (#[.agg #[.int .i64 x.rule, .int .i64 x.mover, .bool x.ado]] ++ cv) W fun e w' => e = .returned (.bool (p x)) ∧ Below W.heap.size W w') :
 Calls Tryz.prog 54 #[.slice A xs.length c, .func (.func f) #[] cv] w fun e w' => e = .returned (.bool v) ∧ Below w.heap.size w w' := by
 subst hv
 have HF := lh hf; clear hf; have hg := idxB_ge p xs; have HG := lh hg; clear hg
 go_in
 go_wp2_with fail
 refine (indexFunc_Out A c xs hn f cv hcall p _ rfl _ hR HF.out).mono ?_
 rintro e w' ⟨rfl, hb⟩
 go_wp2
 go_ret
 exact ⟨ret_bool HG.out, hb⟩
theorem outB_none {rs : List Rul} {o : Out} (h : fnd rs o.rule = none) : outB rs o = false := by simp [outB, h]
theorem outB_some {rs : List Rul} {o : Out} {r : Rul} (h : fnd rs o.rule = some r) : outB rs o = memB o.mover := by simp [outB, h]
theorem outF_is (rs : List Rul) (A0 : Option Addr) (c0 : Nat) (h0 : rs.length ≤ 1048576) (g : Nat) (x : Out) (W : World) (hg : W.cell? ⟨g, 0, none⟩ = some (.slice A0 rs.length c0)) (hl : g < W.heap.size) (R0 : Rds 7 Rul.cells W A0 rs) :
 Calls Tryz.prog 55 (#[.agg #[.int .i64 x.rule, .int .i64 x.mover, .bool x.ado]] ++ #[.pointer (some ⟨g, 0, none⟩)]) W fun e w' => e = .returned (.bool (!outB rs x)) ∧ Below W.heap.size W w' := by
 obtain ⟨xr, xm, xa⟩ := x
 cases hf : fnd rs xr with
 | none =>
  have HF := lh hf; clear hf
  rw [outB_none (o := ⟨xr, xm, xa⟩) HF.out]
  go_in
  go_wp2_with fail
  refine (ruleIndex_is A0 c0 rs h0 xr _ (idxB_nil HF.out) _ (R0.below (bl1 _ _))).mono ?_
  rintro e w1 ⟨rfl, hb1⟩
  go_wp2
  go_ret
  exact ⟨rfl, bth (bl1 _ _) hb1⟩
 | some r =>
  obtain ⟨m, hm, _⟩ := idxB_some hf
  have HM := lh hm; clear hm
  rw [outB_some (o := ⟨xr, xm, xa⟩) hf]
  have hml := idxB_lt (fun r : Rul => r.id == xr) rs; clear hml
  cases hb : memB xm
  all_goals
   have HB2 := lh hb
   go_in
   go_wp2_with fail
   refine (ruleIndex_is A0 c0 rs h0 xr _ HM.out _ (R0.below (bl1 _ _))).mono ?_
   rintro e w1 ⟨rfl, hb1⟩
   have hX := (Blk.new W 44 #[.int .i64 xr, .int .i64 xm, .bool xa]).below hb1 (by simp); have x1 := (hX.cell 1).trans (show _ = some (.int .i64 xm) from rfl); have hXl := hX.lt
   go_wp2_with fail
   refine (isMember_is xm _ HB2.out _).mono ?_
   rintro e w0 ⟨rfl, hh0⟩
   rw [hh0]
   clear hh0 w0
   go_wp2
   go_ret
   exact ⟨rfl, bth (bl1 _ _) hb1⟩
theorem meetP_1 {rs : List Rul} {qs : List Que} {tu se sp : Int} {ws : List Int} {sh : List Sha} {os : List Out} (h : pendB rs qs = false) : meetP rs qs tu se sp ws sh os = false := by rw [meetP, h]; rfl
theorem meetP_2 {rs : List Rul} {qs : List Que} {tu se sp : Int} {ws : List Int} {sh : List Sha} {os : List Out} (h : floB tu se sp ws sh = false) : meetP rs qs tu se sp ws sh os = false := by rw [meetP, h]; simp
theorem meetP_3 {rs : List Rul} {qs : List Que} {tu se sp : Int} {ws : List Int} {sh : List Sha} {os : List Out} (h : ¬ os.length ≤ 12) : meetP rs qs tu se sp ws sh os = false := by rw [meetP, decide_eq_false h]; simp
theorem meetP_4 {rs : List Rul} {qs : List Que} {tu se sp : Int} {ws : List Int} {sh : List Sha} {os : List Out} (h : os.any (fun o => !outB rs o) = true) : meetP rs qs tu se sp ws sh os = false := by rw [meetP, h]; simp
theorem meetP_5 {rs : List Rul} {qs : List Que} {tu se sp : Int} {ws : List Int} {sh : List Sha} {os : List Out} (h1 : pendB rs qs = true) (h2 : floB tu se sp ws sh = true) (h3 : os.length ≤ 12) (h4 : os.any (fun o => !outB rs o) = false) : meetP rs qs tu se sp ws sh os = (debB rs qs || quietB sp ws) := by rw [meetP, h1, h2, h4, decide_eq_true h3]; simp
theorem zb62 {p : Prop} (h : p := by
 rintro e w2 ⟨rfl, hb2⟩
 have hq2 := be wX hb2; replace HB := bth HB hq2; replace R0 := R0.below hq2; replace R1 := R1.below hq2; replace R2 := R2.below hq2; replace R3 := R3.below hq2; replace R4 := R4.below hq2; replace hM := hM.to hq2; clear b'; have b' := hM.cs8
 go_wp2
 go_ret
 exact ⟨ret_bool (meetP_1 G1.out).symm, (bth HB bel)⟩) : p := h
theorem zb63 {p : Prop} (h : p := by
 rintro e w3 ⟨rfl, hb3⟩
 have hq3 := be w2 hb3; replace HB := bth HB hq3; replace R0 := R0.below hq3; replace R1 := R1.below hq3; replace R2 := R2.below hq3; replace R3 := R3.below hq3; replace R4 := R4.below hq3; replace hM := hM.to hq3; clear b'; have b' := hM.cs8
 go_wp2
 go_ret
 exact ⟨ret_bool (meetP_2 G2.out).symm, (bth HB bel)⟩) : p := h
theorem zb65 {p : Prop} (h : p := by
 rintro e w3 ⟨rfl, hb3⟩
 have hq3 := be w2 hb3; replace HB := bth HB hq3; replace R0 := R0.below hq3; replace R1 := R1.below hq3; replace R2 := R2.below hq3; replace R3 := R3.below hq3; replace R4 := R4.below hq3; replace hM := hM.to hq3; clear b'; have b' := hM.cs8
 go_wp2
 go_ret
 exact ⟨ret_bool (meetP_3 h3').symm, (bth HB bel)⟩) : p := h
theorem zb66 {p : Prop} (h : p := by
 replace HB := bth HB hq5; replace R0 := R0.below hq5; replace R1 := R1.below hq5; replace R2 := R2.below hq5; replace R3 := R3.below hq5; replace R4 := R4.below hq5; replace hM := hM.to hq5; clear b'; have b' := hM.cs8
 go_wp2
 go_ret
 exact ⟨ret_bool (by rw [meetP_5 H1.out H2.out H3.out H4.out, HD.out]; rfl), (bth HB bel)⟩) : p := h
theorem zb57 {p : Prop} (h : p := by
 replace HB := bth HB hq5; replace R0 := R0.below hq5; replace R1 := R1.below hq5; replace R2 := R2.below hq5; replace R3 := R3.below hq5; replace R4 := R4.below hq5; replace hM := hM.to hq5; clear b'; have b' := hM.cs8
 go_wp2
 go_ret
 exact ⟨ret_bool (by rw [meetP_5 H1.out H2.out H3.out H4.out, HD.out, quietB, HSE.out, decide_eq_true HW.out]; rfl), (bth HB bel)⟩) : p := h
theorem zb56 {p : Prop} (h : p := by
 replace HB := bth HB hq5; replace R0 := R0.below hq5; replace R1 := R1.below hq5; replace R2 := R2.below hq5; replace R3 := R3.below hq5; replace R4 := R4.below hq5; replace hM := hM.to hq5; clear b'; have b' := hM.cs8
 go_wp2
 go_ret
 exact ⟨ret_bool (by rw [meetP_5 H1.out H2.out H3.out H4.out, HD.out, quietB, HSE.out, decide_eq_false HW.out]; rfl), (bth HB bel)⟩) : p := h
theorem zb60 {p : Prop} (h : p := by
 replace HB := bth HB hq5; replace R0 := R0.below hq5; replace R1 := R1.below hq5; replace R2 := R2.below hq5; replace R3 := R3.below hq5; replace R4 := R4.below hq5; replace hM := hM.to hq5; clear b'; have b' := hM.cs8
 go_wp2
 go_ret
 exact ⟨ret_bool (by rw [meetP_5 H1.out H2.out H3.out H4.out, HD.out, quietB, HSE.out]; rfl), (bth HB bel)⟩) : p := h
theorem iMeet_is (rs : List Rul) (qs : List Que) (tu se sp : Int) (ws : List Int) (sh : List Sha) (os : List Out) (A0 A1 A2 A3 A4 : Option Addr) (c0 c1 c2 c3 c4 : Nat) (h0 : rs.length ≤ 1048576) (h1 : qs.length ≤ 1048576) (h2 : ws.length ≤ 1048576) (h3 : sh.length ≤ 1048576) (h4 : os.length ≤ 1048576) (v : Bool) (hv : meetP rs qs tu se sp ws sh os = v) (w : World) (R0 : Rds 7 Rul.cells w A0 rs) (R1 : Rds 3 Que.cells w A1 qs) (R2 : Rds 1 intC w A2 ws) (R3 : Rds 3 Sha.cells w A3 sh) (R4 : Rds 3 Out.cells w A4 os) (k0 : rs.length ≤ c0) (k2 : ws.length ≤ c2) :
 Calls Tryz.prog 12 #[.agg #[.slice A0 rs.length c0, .slice A1 qs.length c1, .int .i64 tu, .int .i64 se, .int .i64 sp, .slice A2 ws.length c2, .slice A3 sh.length c3, .slice A4 os.length c4]] w fun e w' => e = .returned (.bool v) ∧ Below w.heap.size w w' := by
 subst hv
 cases h1' : pendB rs qs
 ·have G1 := lh h1'; clear h1'
  go_in
  go_upto_region 1 with fail
  refine lay1 fun wX hq1 hM => ?_
  replace R0 := R0.below hq1; replace R1 := R1.below hq1; replace R2 := R2.below hq1; replace R3 := R3.below hq1; replace R4 := R4.below hq1; have HB := hq1; have b' := hM.cs8
  go_wp2_with fail
  refine (arePending_is A0 c0 rs h0 k0 A1 c1 qs h1 _ G1.out _ (R0.below bel) (R1.below bel)).mono ?_
  exact zb62
 have H1 := lh h1'; have G1 := lh h1'; clear h1'
 cases h2' : floB tu se sp ws sh
 ·have G2 := lh h2'; clear h2'
  go_in
  go_upto_region 1 with fail
  refine lay1 fun wX hq1 hM => ?_
  replace R0 := R0.below hq1; replace R1 := R1.below hq1; replace R2 := R2.below hq1; replace R3 := R3.below hq1; replace R4 := R4.below hq1; have HB := hq1; have b' := hM.cs8
  go_wp2_with fail
  refine (arePending_is A0 c0 rs h0 k0 A1 c1 qs h1 _ G1.out _ (R0.below bel) (R1.below bel)).mono ?_
  rintro e w2 ⟨rfl, hb2⟩
  have hq2 := be wX hb2; replace HB := bth HB hq2; replace R0 := R0.below hq2; replace R1 := R1.below hq2; replace R2 := R2.below hq2; replace R3 := R3.below hq2; replace R4 := R4.below hq2; replace hM := hM.to hq2; clear b'; have b' := hM.cs8
  go_wp2_with fail
  refine (isValidFloor_is tu se sp A2 ws c2 A3 c3 sh h2 h3 k2 _ G2.out _ (R2.below bel) (R3.below bel)).mono ?_
  exact zb63
 have H2 := lh h2'; have G2 := lh h2'; clear h2'
 by_cases h3' : os.length ≤ 12
 case neg =>
  go_in
  go_upto_region 1 with fail
  refine lay1 fun wX hq1 hM => ?_
  replace R0 := R0.below hq1; replace R1 := R1.below hq1; replace R2 := R2.below hq1; replace R3 := R3.below hq1; replace R4 := R4.below hq1; have HB := hq1; have b' := hM.cs8
  go_wp2_with fail
  refine (arePending_is A0 c0 rs h0 k0 A1 c1 qs h1 _ G1.out _ (R0.below bel) (R1.below bel)).mono ?_
  rintro e w2 ⟨rfl, hb2⟩
  have hq2 := be wX hb2; replace HB := bth HB hq2; replace R0 := R0.below hq2; replace R1 := R1.below hq2; replace R2 := R2.below hq2; replace R3 := R3.below hq2; replace R4 := R4.below hq2; replace hM := hM.to hq2; clear b'; have b' := hM.cs8
  go_wp2_with fail
  refine (isValidFloor_is tu se sp A2 ws c2 A3 c3 sh h2 h3 k2 _ G2.out _ (R2.below bel) (R3.below bel)).mono ?_
  exact zb65
 have H3 := lh h3'
 go_in
 go_upto_region 1 with fail
 refine lay1 fun wX hq1 hM => ?_
 replace R0 := R0.below hq1; replace R1 := R1.below hq1; replace R2 := R2.below hq1; replace R3 := R3.below hq1; replace R4 := R4.below hq1; have HB := hq1; have b' := hM.cs8
 go_wp2_with fail
 refine (arePending_is A0 c0 rs h0 k0 A1 c1 qs h1 _ G1.out _ (R0.below bel) (R1.below bel)).mono ?_
 rintro e w2 ⟨rfl, hb2⟩
 have hq2 := be wX hb2; replace HB := bth HB hq2; replace R0 := R0.below hq2; replace R1 := R1.below hq2; replace R2 := R2.below hq2; replace R3 := R3.below hq2; replace R4 := R4.below hq2; replace hM := hM.to hq2; clear b'; have b' := hM.cs8
 go_wp2_with fail
 refine (isValidFloor_is tu se sp A2 ws c2 A3 c3 sh h2 h3 k2 _ G2.out _ (R2.below bel) (R3.below bel)).mono ?_
 rintro e w3 ⟨rfl, hb3⟩
 have hq3 := be w2 hb3; replace HB := bth HB hq3; replace R0 := R0.below hq3; replace R1 := R1.below hq3; replace R2 := R2.below hq3; replace R3 := R3.below hq3; replace R4 := R4.below hq3; replace hM := hM.to hq3; clear b'; have b' := hM.cs8
 have HCF : Hid (∀ d, os.any (fun o => !outB rs o) = d → Calls Tryz.prog 54 #[.slice A4 os.length c4, .func (.func 55) #[] #[.pointer (some ⟨w.heap.size, 0, none⟩)]] w3 fun e w' => e = .returned (.bool d) ∧ Below w3.heap.size w3 w') := lh fun d hd =>
  containsFunc_Out A4 c4 os h4 55 #[.pointer (some ⟨w.heap.size, 0, none⟩)] (run_enter Tryz.func55 (by kernel_rfl) (by kernel_rfl)) (fun o => !outB rs o) d hd w3 R4 (fun x _ V hV => outF_is rs A0 c0 h0 w.heap.size x V ((hM.to hV).cell 0) (hM.to hV).lt (R0.below hV))
 by_cases h4' : os.any (fun o => !outB rs o) = true
 ·have H4 := lh h4'; clear h4'
  go_wp2_with fail
  refine (HCF.out _ H4.out).mono ?_
  rintro e w4 ⟨rfl, hb4⟩
  have hq4 := be w3 hb4; replace HB := bth HB hq4; replace R0 := R0.below hq4; replace R1 := R1.below hq4; replace R2 := R2.below hq4; replace R3 := R3.below hq4; replace R4 := R4.below hq4; replace hM := hM.to hq4; clear b'; have b' := hM.cs8
  go_wp2
  go_ret
  exact ⟨ret_bool (meetP_4 H4.out).symm, (bth HB bel)⟩
 replace h4' := Bool.eq_false_iff.2 h4'; have H4 := lh h4'; clear h4'
 go_wp2_with fail
 refine (HCF.out _ H4.out).mono ?_
 rintro e w4 ⟨rfl, hb4⟩
 have hq4 := be w3 hb4; replace HB := bth HB hq4; replace R0 := R0.below hq4; replace R1 := R1.below hq4; replace R2 := R2.below hq4; replace R3 := R3.below hq4; replace R4 := R4.below hq4; replace hM := hM.to hq4; clear b'; have b' := hM.cs8
 by_cases hd : debB rs qs = true
 ·have HD := lh hd; clear hd
  go_wp2_with fail
  refine (isDebatable_is rs qs tu se sp ws sh os A0 A1 A2 A3 A4 c0 c1 c2 c3 c4 h0 h1 h2 h3 h4 H1.out _ HD.out _ (R0.below bel) (R1.below bel) (R2.below bel) (R3.below bel) (R4.below bel)).mono ?_
  rintro e w5 ⟨rfl, hb5⟩
  have hq5 := be w4 hb5
  exact zb66
 replace hd := Bool.eq_false_iff.2 hd; have HD := lh hd; clear hd
 by_cases hs : sp = 0
 ·have hse : (sp == 0) = true := beq_iff_eq.2 hs
  have HSE := lh hse; clear hs
  by_cases hw : ws.length = 0
  ·have hwe : ((ws.length : Int) == 0) = true := by simp [hw]
   have HW := lh hw; clear hw
   go_wp2_with fail
   refine (isDebatable_is rs qs tu se sp ws sh os A0 A1 A2 A3 A4 c0 c1 c2 c3 c4 h0 h1 h2 h3 h4 H1.out _ HD.out _ (R0.below bel) (R1.below bel) (R2.below bel) (R3.below bel) (R4.below bel)).mono ?_
   rintro e w5 ⟨rfl, hb5⟩
   have hq5 := be w4 hb5
   exact zb57
  ·have hwe : ((ws.length : Int) == 0) = false := by simpa using hw
   have HW := lh hw; clear hw
   go_wp2_with fail
   refine (isDebatable_is rs qs tu se sp ws sh os A0 A1 A2 A3 A4 c0 c1 c2 c3 c4 h0 h1 h2 h3 h4 H1.out _ HD.out _ (R0.below bel) (R1.below bel) (R2.below bel) (R3.below bel) (R4.below bel)).mono ?_
   rintro e w5 ⟨rfl, hb5⟩
   have hq5 := be w4 hb5
   exact zb56
 ·have hse : (sp == 0) = false := beq_eq_false_iff_ne.2 hs
  have HSE := lh hse; clear hs
  go_wp2_with fail
  refine (isDebatable_is rs qs tu se sp ws sh os A0 A1 A2 A3 A4 c0 c1 c2 c3 c4 h0 h1 h2 h3 h4 H1.out _ HD.out _ (R0.below bel) (R1.below bel) (R2.below bel) (R3.below bel) (R4.below bel)).mono ?_
  rintro e w5 ⟨rfl, hb5⟩
  have hq5 := be w4 hb5
  exact zb60
theorem sMeet_is (rs : List Rul) (qs : List Que) (tu se sp : Int) (ws : List Int) (sh : List Sha) (os : List Out) (A0 A1 A2 A3 A4 : Option Addr) (c0 c1 c2 c3 c4 : Nat) (h0 : rs.length ≤ 1048576) (h1 : qs.length ≤ 1048576) (h2 : ws.length ≤ 1048576) (h3 : sh.length ≤ 1048576) (h4 : os.length ≤ 1048576) (v : Bool) (hv : meetP rs qs tu se sp ws sh os = v) (w : World) (R0 : Rds 7 Rul.cells w A0 rs) (R1 : Rds 3 Que.cells w A1 qs) (R2 : Rds 1 intC w A2 ws) (R3 : Rds 3 Sha.cells w A3 sh) (R4 : Rds 3 Out.cells w A4 os) (k0 : rs.length ≤ c0) (k2 : ws.length ≤ c2) :
 Calls Tryz.prog 47 #[.agg #[.slice A0 rs.length c0, .slice A1 qs.length c1, .int .i64 tu, .int .i64 se, .int .i64 sp, .slice A2 ws.length c2, .slice A3 sh.length c3, .slice A4 os.length c4]] w fun e w' => e = .returned (.bool v) ∧ Below w.heap.size w w' := by
 subst hv
 cases h1' : pendB rs qs
 ·have G1 := lh h1'; clear h1'
  go_in
  go_upto_region 1 with fail
  refine lay1 fun wX hq1 hM => ?_
  replace R0 := R0.below hq1; replace R1 := R1.below hq1; replace R2 := R2.below hq1; replace R3 := R3.below hq1; replace R4 := R4.below hq1; have HB := hq1; have b' := hM.cs8
  go_wp2_with fail
  refine (l7Good_is A0 c0 rs h0 A1 c1 qs h1 _ G1.out _ (R0.below bel) (R1.below bel)).mono ?_
  exact zb62
 have H1 := lh h1'; have G1 := lh h1'; clear h1'
 cases h2' : floB tu se sp ws sh
 ·have G2 := lh h2'; clear h2'
  go_in
  go_upto_region 1 with fail
  refine lay1 fun wX hq1 hM => ?_
  replace R0 := R0.below hq1; replace R1 := R1.below hq1; replace R2 := R2.below hq1; replace R3 := R3.below hq1; replace R4 := R4.below hq1; have HB := hq1; have b' := hM.cs8
  go_wp2_with fail
  refine (l7Good_is A0 c0 rs h0 A1 c1 qs h1 _ G1.out _ (R0.below bel) (R1.below bel)).mono ?_
  rintro e w2 ⟨rfl, hb2⟩
  have hq2 := be wX hb2; replace HB := bth HB hq2; replace R0 := R0.below hq2; replace R1 := R1.below hq2; replace R2 := R2.below hq2; replace R3 := R3.below hq2; replace R4 := R4.below hq2; replace hM := hM.to hq2; clear b'; have b' := hM.cs8
  go_wp2_with fail
  refine (l8Good_is tu se sp A2 ws c2 A3 c3 sh h2 h3 k2 _ G2.out _ (R2.below bel) (R3.below bel)).mono ?_
  exact zb63
 have H2 := lh h2'; have G2 := lh h2'; clear h2'
 by_cases h3' : os.length ≤ 12
 case neg =>
  go_in
  go_upto_region 1 with fail
  refine lay1 fun wX hq1 hM => ?_
  replace R0 := R0.below hq1; replace R1 := R1.below hq1; replace R2 := R2.below hq1; replace R3 := R3.below hq1; replace R4 := R4.below hq1; have HB := hq1; have b' := hM.cs8
  go_wp2_with fail
  refine (l7Good_is A0 c0 rs h0 A1 c1 qs h1 _ G1.out _ (R0.below bel) (R1.below bel)).mono ?_
  rintro e w2 ⟨rfl, hb2⟩
  have hq2 := be wX hb2; replace HB := bth HB hq2; replace R0 := R0.below hq2; replace R1 := R1.below hq2; replace R2 := R2.below hq2; replace R3 := R3.below hq2; replace R4 := R4.below hq2; replace hM := hM.to hq2; clear b'; have b' := hM.cs8
  go_wp2_with fail
  refine (l8Good_is tu se sp A2 ws c2 A3 c3 sh h2 h3 k2 _ G2.out _ (R2.below bel) (R3.below bel)).mono ?_
  exact zb65
 have H3 := lh h3'
 go_in
 go_upto_region 1 with fail
 refine lay1 fun wX hq1 hM => ?_
 replace R0 := R0.below hq1; replace R1 := R1.below hq1; replace R2 := R2.below hq1; replace R3 := R3.below hq1; replace R4 := R4.below hq1; have HB := hq1; have b' := hM.cs8
 go_wp2_with fail
 refine (l7Good_is A0 c0 rs h0 A1 c1 qs h1 _ G1.out _ (R0.below bel) (R1.below bel)).mono ?_
 rintro e w2 ⟨rfl, hb2⟩
 have hq2 := be wX hb2; replace HB := bth HB hq2; replace R0 := R0.below hq2; replace R1 := R1.below hq2; replace R2 := R2.below hq2; replace R3 := R3.below hq2; replace R4 := R4.below hq2; replace hM := hM.to hq2; clear b'; have b' := hM.cs8
 go_wp2_with fail
 refine (l8Good_is tu se sp A2 ws c2 A3 c3 sh h2 h3 k2 _ G2.out _ (R2.below bel) (R3.below bel)).mono ?_
 rintro e w3 ⟨rfl, hb3⟩
 have hq3 := be w2 hb3; replace HB := bth HB hq3; replace R0 := R0.below hq3; replace R1 := R1.below hq3; replace R2 := R2.below hq3; replace R3 := R3.below hq3; replace R4 := R4.below hq3; replace hM := hM.to hq3; clear b'; have b' := hM.cs8
 go_wp2
 have HM := lh hM; have S0 := lh R0; have S1 := lh R1; have S2 := lh R2; have S3 := lh R3; have S4 := lh R4; clear b'
 go_loopw [3] (fun i wr => ∃ k : Nat, k ≤ os.length ∧ i = .int .i64 k ∧ allTo (atB (outB rs) os) k = true ∧ Below w.heap.size w wr ∧ Below w3.heap.size w3 wr) (fun i _ => os.length - (intOf i).toNat)
 case atStart => exact ⟨0, Nat.zero_le _, rfl, rfl, HB, Below.refl _ _⟩
 case round =>
  obtain ⟨k, hk, rfl, hl, hbw, hb⟩ := hrel
  have HL := lh hl; clear hl R0 R1 R2 R3 R4 hM; have R0 := S0.out; have R1 := S1.out; have R2 := S2.out; have R3 := S3.out; have R4 := S4.out; have hM := HM.out; have hq4 := be w3 hb; replace HB := bth HB hq4; replace R0 := R0.below hq4; replace R1 := R1.below hq4; replace R2 := R2.below hq4; replace R3 := R3.below hq4; replace R4 := R4.below hq4; replace hM := hM.to hb; have b' := hM.cs8
  by_cases hlt : k < os.length
  ·obtain ⟨bq, oq, x, rfl, hbl, hx, hcx⟩ := R4.at_ (Below.refl _ _) hlt
   obtain ⟨xr, xm, xa⟩ := x
   clear b'; have b' := hM.cs8; have p0 := hcx 0 _ rfl; have p1 := hcx 1 _ rfl
   simp only [Nat.add_zero] at p0
   have HX := lh hx; clear hx hcx; have PR := lh R0
   cases hf : fnd rs xr with
   | none =>
    have HF := lh hf; clear hf
    go_upto_region 6 with fail
    clear b'; have b' := Blk.cs8K (fun K : Kin wr.heap.size wr => (hM.below K.below hM.lt))
    refine wp_region_kin (by kernel_rfl) (by kernel_rfl) ?_
    repeat (go_big_quiet_step (fail))
    go_big_quiet_step ((go_at_call 65; exact Kin.same _ (l2Find_is A0 c0 rs h0 xr _ (idxB_nil HF.out) _ (PR.out.below (Kin.below _)))))
    repeat (go_big_quiet_step (fail))
    refine wpQuiet_nil ?_
    intro K
    go_wp2
    go_ret
    exact ⟨ret_bool (meetP_4 (List.any_eq_true.2 ⟨⟨xr, xm, xa⟩, List.mem_of_getElem? HX.out, by rw [outB_none (o := ⟨xr, xm, xa⟩) HF.out]; rfl⟩)).symm, bth hbw K.below⟩
   | some r =>
    have HF := lh hf; clear hf
    obtain ⟨m, hm, _⟩ := idxB_some HF.out
    have HMI := lh hm; clear hm; have hneg : decide ((m : Int) < 0) = false := decide_eq_false (by omega)
    cases hb2 : memB xm
    ·have HB2 := lh hb2; clear hb2
     go_upto_region 6 with fail
     clear b'; have b' := Blk.cs8K (fun K : Kin wr.heap.size wr => (hM.below K.below hM.lt))
     refine wp_region_kin (by kernel_rfl) (by kernel_rfl) ?_
     repeat (go_big_quiet_step (fail))
     go_big_quiet_step ((go_at_call 65; exact Kin.same _ (l2Find_is A0 c0 rs h0 xr _ HMI.out _ (PR.out.below (Kin.below _)))))
     repeat (go_big_quiet_step (fail))
     go_big_quiet_step ((go_at_call 77; exact Kin.same _ (l7Member_is xm _ HB2.out _)))
     repeat (go_big_quiet_step (fail))
     refine wpQuiet_nil ?_
     intro K
     go_wp2
     go_ret
     exact ⟨ret_bool (meetP_4 (List.any_eq_true.2 ⟨⟨xr, xm, xa⟩, List.mem_of_getElem? HX.out, by rw [outB_some (o := ⟨xr, xm, xa⟩) HF.out]; simp only [HB2.out]; rfl⟩)).symm, bth hbw K.below⟩
    ·have HB2 := lh hb2; clear hb2
     go_upto_region 6 with fail
     clear b'; have b' := Blk.cs8K (fun K : Kin wr.heap.size wr => (hM.below K.below hM.lt))
     refine wp_region_kin (by kernel_rfl) (by kernel_rfl) ?_
     repeat (go_big_quiet_step (fail))
     go_big_quiet_step ((go_at_call 65; exact Kin.same _ (l2Find_is A0 c0 rs h0 xr _ HMI.out _ (PR.out.below (Kin.below _)))))
     repeat (go_big_quiet_step (fail))
     go_big_quiet_step ((go_at_call 77; exact Kin.same _ (l7Member_is xm _ HB2.out _)))
     repeat (go_big_quiet_step (fail))
     refine wpQuiet_nil ?_
     intro K
     go_wp2
     go_roundw
     case rel => exact ⟨k + 1, by omega, by go_num, allTo_go HL.out (by simp only [atB, HX.out]; rw [outB_some (o := ⟨xr, xm, xa⟩) HF.out]; exact HB2.out), bth hbw K.below, bth hb K.below⟩
     case measure => simp [intOf]; omega
  ·obtain rfl : k = os.length := by omega
   have H4 : Hid (os.any (fun o => !outB rs o) = false) := lh (by
    rw [Bool.eq_false_iff]
    intro hc
    obtain ⟨x, hx, hp⟩ := List.any_eq_true.1 hc
    obtain ⟨i, hi⟩ := List.mem_iff_getElem?.1 hx
    have := allTo_iff.1 HL.out i (List.getElem?_eq_some_iff.1 hi).1
    simp only [atB, hi] at this
    rw [this] at hp; cases hp)
   by_cases hd : debB rs qs = true
   ·have HD := lh hd; clear hd
    go_wp2_with fail
    refine (l25Debate_is rs qs A0 A1 c0 c1 h0 h1 H1.out _ HD.out _ (R0.below bel) (R1.below bel)).mono ?_
    rintro e w5 ⟨rfl, hb5⟩
    have hq5 := be wr hb5
    exact zb66
   replace hd := Bool.eq_false_iff.2 hd; have HD := lh hd; clear hd
   by_cases hs : sp = 0
   ·have hse : (sp == 0) = true := beq_iff_eq.2 hs
    have HSE := lh hse; clear hs
    by_cases hw : ws.length = 0
    ·have hwe : ((ws.length : Int) == 0) = true := by simp [hw]
     have HW := lh hw; clear hw
     go_wp2_with fail
     refine (l25Debate_is rs qs A0 A1 c0 c1 h0 h1 H1.out _ HD.out _ (R0.below bel) (R1.below bel)).mono ?_
     rintro e w5 ⟨rfl, hb5⟩
     have hq5 := be wr hb5
     exact zb57
    ·have hwe : ((ws.length : Int) == 0) = false := by simpa using hw
     have HW := lh hw; clear hw
     go_wp2_with fail
     refine (l25Debate_is rs qs A0 A1 c0 c1 h0 h1 H1.out _ HD.out _ (R0.below bel) (R1.below bel)).mono ?_
     rintro e w5 ⟨rfl, hb5⟩
     have hq5 := be wr hb5
     exact zb56
   ·have hse : (sp == 0) = false := beq_eq_false_iff_ne.2 hs
    have HSE := lh hse; clear hs
    go_wp2_with fail
    refine (l25Debate_is rs qs A0 A1 c0 c1 h0 h1 H1.out _ HD.out _ (R0.below bel) (R1.below bel)).mono ?_
    rintro e w5 ⟨rfl, hb5⟩
    have hq5 := be wr hb5
    exact zb60
open Go.RowKit Go.G9
structure Ac where
 kind : Int
 mem : Int
 val : Int
 yes : Int
 no : Int
 abst : Int
def Mee.fl (m : Mee) : Fl := ⟨m.turns, m.secs, m.spk, m.wait, m.shares⟩
def Mee.withP (m : Mee) (qs : List Que) : Mee := { m with pend := qs, spk := 0, wait := [], shares := [] }
def Mee.withF (m : Mee) (f : Fl) : Mee := { m with turns := f.tu, secs := f.se, spk := f.sp, wait := f.ws, shares := f.sh }
def Mee.withQ (m : Mee) (qs : List Que) : Mee := { m with pend := qs }
def Mee.withO (m : Mee) (qs : List Que) (o : Out) : Mee := { m with pend := qs, spk := 0, wait := [], shares := [], outs := m.outs ++ [o] }
def needOf (rs : List Rul) (q : Que) : Int := match fnd rs q.rule with | some r => r.need | none => 0
def votA (m : Mee) (a : Ac) : Option Mee := match dsQ m.rules m.pend with
 | some (ps, q) => if tallyB a.yes a.no a.abst && !decide (m.outs.length = 12) then some (m.withO ps ⟨q.rule, q.mover, adoB (needOf m.rules q) a.yes a.no⟩) else none
 | none => none
def floA (m : Mee) (a : Ac) : Option Mee :=
 if a.kind = 3 then if akB m.fl a.mem && debB m.rules m.pend then some (m.withF (akF m.fl a.mem)) else none
 else if a.kind = 4 then if nxB m.fl && debB m.rules m.pend then (nxM m.fl).map (fun p => m.withF (nxF m.fl p)) else none
 else if a.kind = 5 then if spB m.fl a.val && debB m.rules m.pend then some (m.withF (spF m.fl a.val)) else none
 else if a.kind = 6 then if yldB m.fl && debB m.rules m.pend then some (m.withF (yldF m.fl)) else none
 else none
def mkA (m : Mee) (a : Ac) : Option Mee :=
 if a.kind = 1 then if m.spk == 0 then (mvQ m.rules m.pend a.val a.mem).map m.withP else none
 else if a.kind = 2 then (sdQ m.rules m.pend a.mem).map m.withQ
 else if a.kind = 7 then if m.spk == 0 then votA m a else none
 else if a.kind = 8 then if m.spk == 0 then (wdQ m.rules m.pend a.mem).map m.withP else none
 else if a.kind = 9 then if (m.spk == 0) && (pendB m.rules m.pend && lstB m.rules m.pend) then some (m.withP (dpL m.rules m.pend)) else none
 else floA m a
structure MeeOk (m : Mee) : Prop where
 pd : pendB m.rules m.pend = true
 fl : m.fl.ok = true
 ol : m.outs.length ≤ 12
 oo : ∀ o, o ∈ m.outs → outB m.rules o = true
 dq : debB m.rules m.pend = true ∨ (m.spk = 0 ∧ m.wait = [])
theorem mee_ok {m : Mee} : meetB m = true ↔ MeeOk m := by
 unfold meetB meetP quietB
 simp only [Bool.and_eq_true, Bool.or_eq_true, beq_iff_eq, decide_eq_true_eq, Bool.not_eq_true', List.length_eq_zero_iff]
 constructor
 ·rintro ⟨h1, h2, h3, h4, h5⟩
  refine ⟨h1, h2, h3, fun o ho => ?_, h5⟩
  rw [List.any_eq_false] at h4
  have := h4 o ho
  simpa using this
 ·rintro ⟨h1, h2, h3, h4, h5⟩
  refine ⟨h1, h2, h3, ?_, h5⟩
  rw [List.any_eq_false]
  intro o ho
  simp [h4 o ho]
theorem flo_new {tu se : Int} (h1 : 1 ≤ tu ∧ tu ≤ 3) (h2 : 1 ≤ se ∧ se ≤ 3600) : floB tu se 0 [] [] = true :=
 floOk_iff.2 ⟨h1, h2, Or.inl rfl, by simp, by simp, List.Pairwise.nil, by simp, List.Pairwise.nil, Or.inl rfl⟩
theorem withP_ok {m : Mee} {qs : List Que} (h : MeeOk m) (hp : pendB m.rules qs = true) : MeeOk (m.withP qs) := by
 have H := fl_ok.1 h.fl
 exact ⟨hp, flo_new H.t H.s, h.ol, h.oo, Or.inr ⟨rfl, rfl⟩⟩
theorem withF_ok {m : Mee} {f : Fl} (h : MeeOk m) (hf : f.ok = true) (hd : debB m.rules m.pend = true) : MeeOk (m.withF f) := by
 exact ⟨h.pd, hf, h.ol, h.oo, Or.inl hd⟩
theorem debB_lst {rs : List Rul} {qs : List Que} (h : lstB rs qs = true) : debB rs qs = false := by
 unfold lstB at h; unfold debB
 cases hq : qs[qs.length - 1]? with
 | none => rfl
 | some q =>
  rw [hq] at h
  dsimp only at h ⊢
  cases hr : fnd rs q.rule with
  | none => rfl
  | some r => rw [hr] at h; dsimp only at h ⊢; rw [h]; rfl
theorem votA_parts {m n : Mee} {a : Ac} (h : votA m a = some n) : ∃ ps q, dsQ m.rules m.pend = some (ps, q) ∧ tallyB a.yes a.no a.abst = true ∧ m.outs.length ≠ 12 ∧ n = m.withO ps ⟨q.rule, q.mover, adoB (needOf m.rules q) a.yes a.no⟩ := by
 unfold votA at h
 split at h
 ·rename_i ps q hd
  split at h
  ·rename_i hc
   simp only [Bool.and_eq_true, Bool.not_eq_true', decide_eq_false_iff_not] at hc
   cases h
   exact ⟨ps, q, hd, hc.1, hc.2, rfl⟩
  ·cases h
 ·cases h
theorem votA_ok {m n : Mee} {a : Ac} (h : MeeOk m) (hv : votA m a = some n) : MeeOk n := by
 obtain ⟨ps, q, hd, ht, ho, rfl⟩ := votA_parts hv
 obtain ⟨h1, h2, j, hj, hq, rfl⟩ := dsQ_pend hd
 have H := fl_ok.1 h.fl
 obtain ⟨r, hr⟩ := pendB_found h.pd hq
 refine ⟨h1, flo_new H.t H.s, ?_, ?_, Or.inr ⟨rfl, rfl⟩⟩
 ·have := h.ol; simp only [Mee.withO, List.length_append, List.length_cons, List.length_nil]; omega
 ·intro o hm
  simp only [Mee.withO, List.mem_append, List.mem_cons, List.not_mem_nil, or_false] at hm
  rcases hm with hm | rfl
  ·exact h.oo o hm
  ·simp only [outB, Mee.withO, hr, Option.isSome_some, Bool.true_and]
   exact pendB_mover h.pd hq
theorem floA_ok {m n : Mee} {a : Ac} (h : MeeOk m) (hv : floA m a = some n) : MeeOk n := by
 unfold floA at hv
 split at hv
 ·split at hv
  ·rename_i hc; simp only [Bool.and_eq_true] at hc
   cases hv; exact withF_ok h (akF_ok hc.1) hc.2
  ·cases hv
 split at hv
 ·split at hv
  ·rename_i hc; simp only [Bool.and_eq_true] at hc
   cases hm : nxM m.fl with
   | none => rw [hm] at hv; cases hv
   | some p =>
    rw [hm] at hv; cases hv
    exact withF_ok h (nxF_ok hc.1 (List.mem_of_getElem? hm)) hc.2
  ·cases hv
 split at hv
 ·split at hv
  ·rename_i hc; simp only [Bool.and_eq_true] at hc
   cases hv; exact withF_ok h (spF_ok hc.1) hc.2
  ·cases hv
 split at hv
 ·split at hv
  ·rename_i hc; simp only [Bool.and_eq_true] at hc
   cases hv; exact withF_ok h (yldF_ok hc.1) hc.2
  ·cases hv
 ·cases hv
theorem mkA_ok {m n : Mee} {a : Ac} (h : MeeOk m) (hv : mkA m a = some n) : MeeOk n := by
 unfold mkA at hv
 split at hv
 ·split at hv
  ·cases hq : mvQ m.rules m.pend a.val a.mem with
   | none => rw [hq] at hv; cases hv
   | some qs => rw [hq] at hv; cases hv; exact withP_ok h (mvQ_pend hq)
  ·cases hv
 split at hv
 ·cases hq : sdQ m.rules m.pend a.mem with
  | none => rw [hq] at hv; cases hv
  | some qs =>
   rw [hq] at hv; cases hv
   have hl : lstB m.rules m.pend = true := by
    unfold sdQ at hq
    split at hq
    ·rename_i hc; simp only [Bool.and_eq_true] at hc; exact hc.2.1
    ·cases hq
   refine ⟨sdQ_pend hq, h.fl, h.ol, h.oo, Or.inr (h.dq.resolve_left ?_)⟩
   rw [debB_lst hl]; simp
 split at hv
 ·split at hv
  ·exact votA_ok h hv
  ·cases hv
 split at hv
 ·split at hv
  ·cases hq : wdQ m.rules m.pend a.mem with
   | none => rw [hq] at hv; cases hv
   | some qs => rw [hq] at hv; cases hv; exact withP_ok h (wdQ_pend hq)
  ·cases hv
 split at hv
 ·split at hv
  ·rename_i hc; simp only [Bool.and_eq_true] at hc
   cases hv
   exact withP_ok h (dpQ_pend (show dpQ m.rules m.pend = some _ by rw [dpQ, if_pos hc.2.1]))
  ·cases hv
 ·exact floA_ok h hv
theorem deb_of_wait {m : Mee} (h : MeeOk m) (hw : 0 < m.wait.length) : debB m.rules m.pend = true := by
 rcases h.dq with h1 | h1
 ·exact h1
 ·rw [h1.2] at hw; simp at hw
theorem deb_of_spk {m : Mee} (h : MeeOk m) (hw : m.spk ≠ 0) : debB m.rules m.pend = true := by
 rcases h.dq with h1 | h1
 ·exact h1
 ·exact absurd h1.1 hw
theorem spk_of_lst {m : Mee} (h : MeeOk m) (hl : lstB m.rules m.pend = true) : m.spk = 0 := by
 rcases h.dq with h1 | h1
 ·rw [debB_lst hl] at h1; cases h1
 ·exact h1.1
theorem lt_len {N : Nat} : ∀ {xs : List Sha} {lo : Int}, xs.Pairwise (fun a b => a.mem < b.mem) → (∀ x, x ∈ xs → lo < x.mem ∧ x.mem ≤ lo + N) → xs.length ≤ N
 | [], _, _, _ => by simp
 | x :: xs, lo, h, hb => by
  obtain ⟨h1, h2⟩ := List.pairwise_cons.1 h
  have hx := hb x List.mem_cons_self
  cases N with
  | zero => omega
  | succ N =>
   have := lt_len (N := N) (lo := lo + 1) h2 (fun y hy => by
    have a := h1 y hy; have b := hb y (List.mem_cons_of_mem _ hy)
    constructor <;> omega)
   simp; omega
theorem mee_len {m : Mee} (h : MeeOk m) : m.rules.length ≤ 8 ∧ m.pend.length ≤ 6 ∧ m.wait.length ≤ 10 ∧ m.shares.length ≤ 99 ∧ m.outs.length ≤ 12 := by
 obtain ⟨hr, hq, _⟩ := pendB_parts h.pd
 have H := fl_ok.1 h.fl
 refine ⟨?_, hq, H.l, ?_, h.ol⟩
 ·unfold rulesB at hr; simp only [Bool.and_eq_true, decide_eq_true_eq] at hr; exact hr.2
 ·refine lt_len (N := 99) (lo := 0) H.ord fun x hx => ?_
  have := shaOk_iff.1 (H.ok x hx); have := inB_iff.1 this.1
  omega
theorem mkA_rules {m n : Mee} {a : Ac} (hv : mkA m a = some n) : n.rules = m.rules := by
 unfold mkA floA at hv
 repeat' split at hv
 all_goals first
  | cases hv; rfl
  | (obtain ⟨ps, q, _, _, _, rfl⟩ := votA_parts hv; rfl)
  | (obtain ⟨_, _, rfl⟩ := Option.map_eq_some_iff.1 hv; rfl)
  | cases hv
def runN (m : Mee) (al : List Ac) : Nat → Mee × Nat
 | 0 => (m, 0)
 | k + 1 => match al[k]? with
  | some a => (match mkA (runN m al k).1 a with | some n => (n, (runN m al k).2 + 1) | none => runN m al k)
  | none => runN m al k
theorem runN_ok {m : Mee} (h : MeeOk m) (al : List Ac) : ∀ k, MeeOk (runN m al k).1 ∧ (runN m al k).2 ≤ k
 | 0 => ⟨h, Nat.le_refl _⟩
 | k + 1 => by
  have ih := runN_ok h al k
  unfold runN
  split
  ·split
   ·rename_i n hn; exact ⟨mkA_ok ih.1 hn, by dsimp only; omega⟩
   ·exact ⟨ih.1, by omega⟩
  ·exact ⟨ih.1, by omega⟩
theorem runN_some {m n : Mee} {al : List Ac} {k : Nat} {a : Ac} (ha : al[k]? = some a) (hn : mkA (runN m al k).1 a = some n) : runN m al (k + 1) = (n, (runN m al k).2 + 1) := by
 rw [runN, ha]; dsimp only; rw [hn]
theorem runN_none {m : Mee} {al : List Ac} {k : Nat} {a : Ac} (ha : al[k]? = some a) (hn : mkA (runN m al k).1 a = none) : runN m al (k + 1) = runN m al k := by
 rw [runN, ha]; dsimp only; rw [hn]
open Go.RowKit Go.G9
def Ac.cells (a : Ac) : List Value := [.int .i64 a.kind, .int .i64 a.mem, .int .i64 a.val, .int .i64 a.yes, .int .i64 a.no, .int .i64 a.abst]
theorem ac_len (x : Ac) : (Ac.cells x).length = 6 := rfl
theorem ac_one (x : Ac) : ∀ u, u ∈ Ac.cells x → u.oneCell' = true := by
 intro u hu
 simp only [Ac.cells, List.mem_cons, List.not_mem_nil, or_false] at hu
 rcases hu with rfl | rfl | rfl | rfl | rfl | rfl <;> rfl
theorem info_Ac : (Tryz.prog.info? 36).map (fun i => (i.zero, i.size, i.bytes)) = some (some (.agg #[.int .i64 0, .int .i64 0, .int .i64 0, .int .i64 0, .int .i64 0, .int .i64 0]), 6, 48) := by kernel_rfl
open Go.RowKit Go.G9
def nfB (tu se : Int) : Bool := floB tu se 0 [] []
def nfOut (tu se : Int) (b : Bool) : Value := if b then .tuple #[.agg #[.int .i64 tu, .int .i64 se, .int .i64 0, .slice none 0 0, .slice none 0 0], .bool true] else .tuple #[.agg #[.int .i64 0, .int .i64 0, .int .i64 0, .slice none 0 0, .slice none 0 0], .bool false]
theorem rds_nilS {T : Type} {sz : Nat} {f : T → List Value} {w : World} {A : Option Addr} : Rds sz f w A ([] : List T) := fun h => absurd h (by simp)
theorem sNewFloor_is (tu se : Int) (b : Bool) (hb : nfB tu se = b) (w : World) :
 Calls Tryz.prog 70 #[.int .i64 tu, .int .i64 se] w fun e w' => e = .returned (nfOut tu se b) ∧ Below w.heap.size w w' := by
 have HV := lh hb; clear hb
 cases b
 ·go_in
  go_upto_region 2 with fail
  refine lay2 fun wX hq1 hZ hF => ?_
  have HB := hq1; have z' := hZ.cs5; have f' := hF.cs5; have hz0 := hZ.lt; have hf0 := hF.lt
  go_wp2_with fail
  refine (l8Good_is tu se 0 none [] 0 none 0 [] (by simp) (by simp) (by simp) _ HV.out _ rds_nilS rds_nilS).mono ?_
  rintro e w2 ⟨rfl, hb2⟩
  have hq2 := be wX hb2; replace HB := bth HB hq2; replace hZ := hZ.to hq2; clear z'; have z' := hZ.cs5; replace hF := hF.to hq2; clear f'; have f' := hF.cs5; have fhZ' := hZ.fz5; have yhZ := hZ.lt; have yhF := hF.lt
  go_wp2
  clear z' f'
  refine st5 0 fun W9 tW9 => ?_
  replace HB := tW9.hc HB; replace hZ := tW9.all5 hZ; replace hF := tW9.fa hF; have szW9 := tW9.sz; have z' := hZ.cs5; have f' := hF.cs5
  refine bodyPost_ret (v := .tuple #[.agg #[.int .i64 0, .int .i64 0, .int .i64 0, .slice none 0 0, .slice none 0 0], .bool false]) (by simp [results, Tryz.results70, go_sem, z']) rfl ?_
  exact ⟨rfl, HB⟩
 ·go_in
  go_upto_region 2 with fail
  refine lay2 fun wX hq1 hZ hF => ?_
  have HB := hq1; have z' := hZ.cs5; have f' := hF.cs5; have hz0 := hZ.lt; have hf0 := hF.lt
  go_wp2_with fail
  refine (l8Good_is tu se 0 none [] 0 none 0 [] (by simp) (by simp) (by simp) _ HV.out _ rds_nilS rds_nilS).mono ?_
  rintro e w2 ⟨rfl, hb2⟩
  have hq2 := be wX hb2; replace HB := bth HB hq2; replace hZ := hZ.to hq2; clear z'; have z' := hZ.cs5; replace hF := hF.to hq2; clear f'; have f' := hF.cs5; have fhZ' := hZ.fz5; have yhZ := hZ.lt; have yhF := hF.lt
  go_wp2
  clear z' f'
  refine st5 0 fun W9 tW9 => ?_
  replace HB := tW9.hc HB; replace hZ := tW9.all5 hZ; replace hF := tW9.fa hF; have szW9 := tW9.sz; have z' := hZ.cs5; have f' := hF.cs5
  refine bodyPost_ret (v := .tuple #[.agg #[.int .i64 tu, .int .i64 se, .int .i64 0, .slice none 0 0, .slice none 0 0], .bool true]) (by simp [results, Tryz.results70, go_sem, z']) rfl ?_
  exact ⟨rfl, HB⟩
theorem sNewFloorT_is (tu se : Int) (hb : nfB tu se = true) (w : World) : Calls Tryz.prog 70 #[.int .i64 tu, .int .i64 se] w fun e w' => e = .returned (.tuple #[.agg #[.int .i64 tu, .int .i64 se, .int .i64 0, .slice none 0 0, .slice none 0 0], .bool true]) ∧ Below w.heap.size w w' := sNewFloor_is tu se true hb w
theorem sNewFloorF_is (tu se : Int) (hb : nfB tu se = false) (w : World) : Calls Tryz.prog 70 #[.int .i64 tu, .int .i64 se] w fun e w' => e = .returned (.tuple #[.agg #[.int .i64 0, .int .i64 0, .int .i64 0, .slice none 0 0, .slice none 0 0], .bool false]) ∧ Below w.heap.size w w' := sNewFloor_is tu se false hb w
open Go.RowKit Go.G9
def movd (os : List Out) (n : Int) : Nat → Int × Int
 | 0 => (0, 0)
 | k + 1 => match os[k]? with | some o => if o.mover == n then ((movd os n k).1 + 1, (movd os n k).2 + (if o.ado then 1 else 0)) else movd os n k | none => movd os n k
theorem movd_bd (os : List Out) (n : Int) : ∀ k, 0 ≤ (movd os n k).1 ∧ (movd os n k).1 ≤ k ∧ 0 ≤ (movd os n k).2 ∧ (movd os n k).2 ≤ k
 | 0 => by simp [movd]
 | k + 1 => by
  have := movd_bd os n k
  unfold movd
  split
  ·split
   ·dsimp only; split <;> omega
   ·omega
  ·omega
def mvOut (m : Mee) (n : Int) : Value := if meetB m && memB n then .tuple #[.int .i64 (movd m.outs n m.outs.length).1, .int .i64 (movd m.outs n m.outs.length).2, .bool true] else .tuple #[.int .i64 0, .int .i64 0, .bool false]
theorem mvOut_form (m : Mee) (n : Int) : ∃ a b c, mvOut m n = .tuple #[.int .i64 a, .int .i64 b, .bool c] := by unfold mvOut; split <;> exact ⟨_, _, _, rfl⟩
theorem iIsValidMeeting_is (m : Mee) (A0 A1 A2 A3 A4 : Option Addr) (c0 c1 c2 c3 c4 : Nat) (h0 : m.rules.length ≤ 1048576) (h1 : m.pend.length ≤ 1048576) (h2 : m.wait.length ≤ 1048576) (h3 : m.shares.length ≤ 1048576) (h4 : m.outs.length ≤ 1048576) (v : Bool) (hv : meetB m = v) (w : World) (R0 : Rds 7 Rul.cells w A0 m.rules) (R1 : Rds 3 Que.cells w A1 m.pend) (R2 : Rds 1 intC w A2 m.wait) (R3 : Rds 3 Sha.cells w A3 m.shares) (R4 : Rds 3 Out.cells w A4 m.outs) (k0 : m.rules.length ≤ c0) (k1 : m.pend.length ≤ c1) (k2 : m.wait.length ≤ c2) (k3 : m.shares.length ≤ c3) (k4 : m.outs.length ≤ c4) :
 Calls Tryz.prog 12 #[.agg #[.slice A0 m.rules.length c0, .slice A1 m.pend.length c1, .int .i64 m.turns, .int .i64 m.secs, .int .i64 m.spk, .slice A2 m.wait.length c2, .slice A3 m.shares.length c3, .slice A4 m.outs.length c4]] w fun e w' => e = .returned (.bool v) ∧ Below w.heap.size w w' :=
 iMeet_is m.rules m.pend m.turns m.secs m.spk m.wait m.shares m.outs A0 A1 A2 A3 A4 c0 c1 c2 c3 c4 h0 h1 h2 h3 h4 v hv w R0 R1 R2 R3 R4 k0 k2
theorem l25Good_is (m : Mee) (A0 A1 A2 A3 A4 : Option Addr) (c0 c1 c2 c3 c4 : Nat) (h0 : m.rules.length ≤ 1048576) (h1 : m.pend.length ≤ 1048576) (h2 : m.wait.length ≤ 1048576) (h3 : m.shares.length ≤ 1048576) (h4 : m.outs.length ≤ 1048576) (v : Bool) (hv : meetB m = v) (w : World) (R0 : Rds 7 Rul.cells w A0 m.rules) (R1 : Rds 3 Que.cells w A1 m.pend) (R2 : Rds 1 intC w A2 m.wait) (R3 : Rds 3 Sha.cells w A3 m.shares) (R4 : Rds 3 Out.cells w A4 m.outs) (k0 : m.rules.length ≤ c0) (k1 : m.pend.length ≤ c1) (k2 : m.wait.length ≤ c2) (k3 : m.shares.length ≤ c3) (k4 : m.outs.length ≤ c4) :
 Calls Tryz.prog 47 #[.agg #[.slice A0 m.rules.length c0, .slice A1 m.pend.length c1, .int .i64 m.turns, .int .i64 m.secs, .int .i64 m.spk, .slice A2 m.wait.length c2, .slice A3 m.shares.length c3, .slice A4 m.outs.length c4]] w fun e w' => e = .returned (.bool v) ∧ Below w.heap.size w w' :=
 sMeet_is m.rules m.pend m.turns m.secs m.spk m.wait m.shares m.outs A0 A1 A2 A3 A4 c0 c1 c2 c3 c4 h0 h1 h2 h3 h4 v hv w R0 R1 R2 R3 R4 k0 k2
end Go.Proofs.YtjimibkgocieoaaGreat
