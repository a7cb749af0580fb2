/- A floor's validity. -/
import Derived.Test.YtpkagohflkcnkaaGreatDoorIv7
import Derived.Deep.Cut
namespace Go.Proofs.YtpkagohflkcnkaaGreatDoor
open Go.RowKit Go.G9
def shaOk (tu se : Int) (s : Sha) : Bool := memB s.mem && (inB s.turns 0 tu && inB s.secs 0 se)
def shaStep (tu se : Int) (xs : List Sha) : Nat → Bool
  | 0 => match xs[0]? with | some x => shaOk tu se x | none => true
  | j + 1 => match xs[j]?, xs[j + 1]? with | some y, some x => shaOk tu se x && decide (y.mem < x.mem) | _, _ => true
def waitStep (tu se sp : Int) (ws : List Int) (sh : List Sha) (i : Nat) : Bool := match ws[i]? with | some m => memB m && (!(m == sp) && (!hasB (ws.take i) m && entB tu se (shareF sh m))) | none => true
def spkB (tu sp : Int) (sh : List Sha) : Bool := (sp == 0) || decide ((shareF sh sp).turns < tu)
def sharesB (tu se : Int) (sh : List Sha) : Bool := allTo (shaStep tu se sh) sh.length
def floB (tu se sp : Int) (ws : List Int) (sh : List Sha) : Bool :=
  inB tu 1 3 && (inB se 1 3600 && (((sp == 0) || memB sp) && (decide (ws.length ≤ 10) && (sharesB tu se sh && (allTo (waitStep tu se sp ws sh) ws.length && spkB tu sp sh)))))
theorem shaStep_zero {tu se : Int} {xs : List Sha} {x : Sha} (hx : xs[0]? = some x) : shaStep tu se xs 0 = shaOk tu se x := by simp only [shaStep, hx]
theorem shaStep_succ {tu se : Int} {xs : List Sha} {j : Nat} {x y : Sha} (hy : xs[j]? = some y) (hx : xs[j + 1]? = some x) : shaStep tu se xs (j + 1) = (shaOk tu se x && decide (y.mem < x.mem)) := by simp only [shaStep, hx, hy]
theorem waitStep_at {tu se sp : Int} {ws : List Int} {sh : List Sha} {i : Nat} {m : Int} (hm : ws[i]? = some m) : waitStep tu se sp ws sh i = (memB m && (!(m == sp) && (!hasB (ws.take i) m && entB tu se (shareF sh m)))) := by simp only [waitStep, hm]
theorem sharesB_not {tu se : Int} {xs : List Sha} {k : Nat} (hk : k < xs.length) (h : shaStep tu se xs k = false) : sharesB tu se xs = false := allTo_not hk h
theorem floB_sh {tu se sp : Int} {ws : List Int} {sh : List Sha} (h : sharesB tu se sh = false) : floB tu se sp ws sh = false := by rw [floB, h]; simp
theorem floB_wait {tu se sp : Int} {ws : List Int} {sh : List Sha} {k : Nat} (hk : k < ws.length) (h : waitStep tu se sp ws sh k = false) : floB tu se sp ws sh = false := by rw [floB, allTo_not hk h]; simp
set_option maxHeartbeats 8000000 in
set_option maxRecDepth 100000 in
theorem l8Shares_is (tu se sp : Int) (W : Option Addr) (ws : List Int) (wc : Nat) (S : Option Addr) (sc : Nat) (sh : List Sha) (hw : ws.length ≤ 1048576) (hn : sh.length ≤ 1048576) (v : Bool) (hv : sharesB tu se sh = v) (w : World) (hW : Rds 1 intC w W ws) (hS : Rds 3 Sha.cells w S sh) :
  Calls Tryz.prog 86 #[.agg #[.int .i64 tu, .int .i64 se, .int .i64 sp, .slice W ws.length wc, .slice S sh.length sc]] w fun e w' => e = .returned (.bool v) ∧ Below w.heap.size w w' := by
  subst hv
  go_enter Tryz.func86, Tryz.ntmps86
  have hS0 := Lib.hid hS
  have hW0 := Lib.hid hW
  go_upto_region 1 with fail
  have hq1 : Below w.heap.size w (World.alloc w (.cells #[.int .i64 tu, .int .i64 se, .int .i64 sp, .slice W ws.length wc, .slice S sh.length sc] 41)) := bl1 w _
  have hF : Blk (World.alloc w (.cells #[.int .i64 tu, .int .i64 se, .int .i64 sp, .slice W ws.length wc, .slice S sh.length sc] 41)) (w.heap.size) 41 #[.int .i64 tu, .int .i64 se, .int .i64 sp, .slice W ws.length wc, .slice S sh.length sc] := by repeat (first | exact Blk.new _ _ _ | exact Blk.new2 _ _ _ _ | exact Blk.new3 _ _ _ _ _ | exact Blk.new4 _ _ _ _ _ _ | refine Blk.alloc ?_ _)
  replace hS := hS.below hq1
  replace hW := hW.below hq1
  generalize World.alloc w (.cells #[.int .i64 tu, .int .i64 se, .int .i64 sp, .slice W ws.length wc, .slice S sh.length sc] 41) = wX at *
  have HB := hq1
  have f0 := (hF.cell 0).trans (show _ = some (.int .i64 tu) from rfl)
  have f1 := (hF.cell 1).trans (show _ = some (.int .i64 se) from rfl)
  have f2 := (hF.cell 2).trans (show _ = some (.int .i64 sp) from rfl)
  have f3 := (hF.cell 3).trans (show _ = some (.slice W ws.length wc) from rfl)
  have f4 := (hF.cell 4).trans (show _ = some (.slice S sh.length sc) from rfl)
  go_wp2
  go_loopw [3] (fun i wr => ∃ k : Nat, k ≤ sh.length ∧ i = .int .i64 k ∧ allTo (shaStep tu se sh) k = true ∧ Below w.heap.size w wr ∧ Blk wr w.heap.size 41 #[.int .i64 tu, .int .i64 se, .int .i64 sp, .slice W ws.length wc, .slice S sh.length sc]) (fun i _ => sh.length - (intOf i).toNat)
  case atStart => exact ⟨0, Nat.zero_le _, rfl, rfl, HB, hF⟩
  case round =>
    clear hS hW HB f0 f1 f2 f3 f4 hF
    obtain ⟨k, hk, rfl, hl, hb, hF⟩ := hrel
    have HL := Lib.hid hl; clear hl
    have hS := hS0.out
    have hW := hW0.out
    have hq1 : Below w.heap.size w wr := bth (by repeat (first | exact Below.refl _ _ | refine Below.alloc ?_ (by first | exact Nat.le_refl _ | (simp <;> omega)) _ | refine Below.setCell ?_ (by first | exact Nat.le_refl _ | (simp <;> omega)) _)) hb
    have HB : Below w.heap.size w wr := hq1
    replace hS := hS.below hq1
    replace hW := hW.below hq1
    by_cases hlt : k < sh.length
    · obtain ⟨b, off, x, rfl, hbl, hx, hcx⟩ := hS.at_ (Below.refl _ _) hlt
      obtain ⟨xm, xt, xs⟩ := x
      have f4 := (hF.cell 4).trans (show _ = some (.slice (some ⟨b, off, none⟩) sh.length sc) from rfl)
      have p0 := hcx 0 _ rfl
      have p1 := hcx 1 _ rfl
      have p2 := hcx 2 _ rfl
      simp only [Nat.add_zero] at p0
      have g0 := p0 (Kin.self _)
      have g1 := p1 (Kin.self _)
      have g2 := p2 (Kin.self _)
      simp only [Kin.self] at g0
      simp only [Kin.self] at g1
      simp only [Kin.self] at g2
      have HX := Lib.hid hx; clear hx hcx
      go_upto_region 5 with fail
      clear f4
      have hq2 : Below wr.heap.size wr (World.alloc wr (.cells #[.int .i64 xm, .int .i64 xt, .int .i64 xs] 109)) := bl1 wr _
      have hX : Blk (World.alloc wr (.cells #[.int .i64 xm, .int .i64 xt, .int .i64 xs] 109)) (wr.heap.size) 109 #[.int .i64 xm, .int .i64 xt, .int .i64 xs] := by repeat (first | exact Blk.new _ _ _ | exact Blk.new2 _ _ _ _ | exact Blk.new3 _ _ _ _ _ | exact Blk.new4 _ _ _ _ _ _ | refine Blk.alloc ?_ _)
      replace hS := hS.below hq2
      replace hW := hW.below hq2
      generalize World.alloc wr (.cells #[.int .i64 xm, .int .i64 xt, .int .i64 xs] 109) = wX at *
      replace HB := bth HB hq2
      have x0 := (hX.cell 0).trans (show _ = some (.int .i64 xm) from rfl)
      have x1 := (hX.cell 1).trans (show _ = some (.int .i64 xt) from rfl)
      have x2 := (hX.cell 2).trans (show _ = some (.int .i64 xs) from rfl)
      replace hF := hF.below hq2 hF.lt
      have f0 := (hF.cell 0).trans (show _ = some (.int .i64 tu) from rfl)
      have f1 := (hF.cell 1).trans (show _ = some (.int .i64 se) from rfl)
      have f2 := (hF.cell 2).trans (show _ = some (.int .i64 sp) from rfl)
      have f3 := (hF.cell 3).trans (show _ = some (.slice W ws.length wc) from rfl)
      have f4 := (hF.cell 4).trans (show _ = some (.slice (some ⟨b, off, none⟩) sh.length sc) from rfl)
      clear p0 p1 p2 g0 g1 g2
      cases h1 : memB xm
      · have H1 := Lib.hid h1; clear h1
        clear x0 x1 x2
        have x0 := fun K : Kin wX.heap.size wX => ((hX.below K.below hX.lt).cell 0).trans (show _ = some (.int .i64 xm) from rfl)
        have x1 := fun K : Kin wX.heap.size wX => ((hX.below K.below hX.lt).cell 1).trans (show _ = some (.int .i64 xt) from rfl)
        have x2 := fun K : Kin wX.heap.size wX => ((hX.below K.below hX.lt).cell 2).trans (show _ = some (.int .i64 xs) from rfl)
        clear f0 f1 f2 f3 f4
        have f0 := fun K : Kin wX.heap.size wX => ((hF.below K.below hF.lt).cell 0).trans (show _ = some (.int .i64 tu) from rfl)
        have f1 := fun K : Kin wX.heap.size wX => ((hF.below K.below hF.lt).cell 1).trans (show _ = some (.int .i64 se) from rfl)
        have f2 := fun K : Kin wX.heap.size wX => ((hF.below K.below hF.lt).cell 2).trans (show _ = some (.int .i64 sp) from rfl)
        have f3 := fun K : Kin wX.heap.size wX => ((hF.below K.below hF.lt).cell 3).trans (show _ = some (.slice W ws.length wc) from rfl)
        have f4 := fun K : Kin wX.heap.size wX => ((hF.below K.below hF.lt).cell 4).trans (show _ = some (.slice (some ⟨b, off, none⟩) sh.length sc) from rfl)
        refine wp_region_kin (by kernel_rfl) (by kernel_rfl) ?_
        repeat (go_big_quiet_step (fail))
        go_big_quiet_step ((go_at_call 57; exact Kin.same _ (l7Member_is xm _ H1.out _)))
        repeat (go_big_quiet_step (fail))
        refine wpQuiet_nil ?_
        intro K
        go_wp2
        go_ret
        exact ⟨ret_bool (sharesB_not hlt (by cases k with | zero => (rw [shaStep_zero HX.out, shaOk]; simp only [H1.out]; simp) | succ j => (have hy : sh[j]? = some sh[j] := List.getElem?_eq_getElem (by omega); rw [shaStep_succ hy HX.out, shaOk]; simp only [H1.out]; simp))).symm, bth HB K.below⟩
      have H1 := Lib.hid h1; clear h1
      cases h2 : inB xt 0 tu
      · have H2 := Lib.hid h2; clear h2
        clear x0 x1 x2
        have x0 := fun K : Kin wX.heap.size wX => ((hX.below K.below hX.lt).cell 0).trans (show _ = some (.int .i64 xm) from rfl)
        have x1 := fun K : Kin wX.heap.size wX => ((hX.below K.below hX.lt).cell 1).trans (show _ = some (.int .i64 xt) from rfl)
        have x2 := fun K : Kin wX.heap.size wX => ((hX.below K.below hX.lt).cell 2).trans (show _ = some (.int .i64 xs) from rfl)
        clear f0 f1 f2 f3 f4
        have f0 := fun K : Kin wX.heap.size wX => ((hF.below K.below hF.lt).cell 0).trans (show _ = some (.int .i64 tu) from rfl)
        have f1 := fun K : Kin wX.heap.size wX => ((hF.below K.below hF.lt).cell 1).trans (show _ = some (.int .i64 se) from rfl)
        have f2 := fun K : Kin wX.heap.size wX => ((hF.below K.below hF.lt).cell 2).trans (show _ = some (.int .i64 sp) from rfl)
        have f3 := fun K : Kin wX.heap.size wX => ((hF.below K.below hF.lt).cell 3).trans (show _ = some (.slice W ws.length wc) from rfl)
        have f4 := fun K : Kin wX.heap.size wX => ((hF.below K.below hF.lt).cell 4).trans (show _ = some (.slice (some ⟨b, off, none⟩) sh.length sc) from rfl)
        refine wp_region_kin (by kernel_rfl) (by kernel_rfl) ?_
        repeat (go_big_quiet_step (fail))
        go_big_quiet_step ((go_at_call 57; exact Kin.same _ (l7Member_is xm _ H1.out _)))
        repeat (go_big_quiet_step (fail))
        go_big_quiet_step ((go_at_call 85; exact Kin.same _ (l1In_is xt 0 tu _ H2.out _)))
        repeat (go_big_quiet_step (fail))
        refine wpQuiet_nil ?_
        intro K
        go_wp2
        go_ret
        exact ⟨ret_bool (sharesB_not hlt (by cases k with | zero => (rw [shaStep_zero HX.out, shaOk]; simp only [H1.out, H2.out]; simp) | succ j => (have hy : sh[j]? = some sh[j] := List.getElem?_eq_getElem (by omega); rw [shaStep_succ hy HX.out, shaOk]; simp only [H1.out, H2.out]; simp))).symm, bth HB K.below⟩
      have H2 := Lib.hid h2; clear h2
      cases h3 : inB xs 0 se
      · have H3 := Lib.hid h3; clear h3
        clear x0 x1 x2
        have x0 := fun K : Kin wX.heap.size wX => ((hX.below K.below hX.lt).cell 0).trans (show _ = some (.int .i64 xm) from rfl)
        have x1 := fun K : Kin wX.heap.size wX => ((hX.below K.below hX.lt).cell 1).trans (show _ = some (.int .i64 xt) from rfl)
        have x2 := fun K : Kin wX.heap.size wX => ((hX.below K.below hX.lt).cell 2).trans (show _ = some (.int .i64 xs) from rfl)
        clear f0 f1 f2 f3 f4
        have f0 := fun K : Kin wX.heap.size wX => ((hF.below K.below hF.lt).cell 0).trans (show _ = some (.int .i64 tu) from rfl)
        have f1 := fun K : Kin wX.heap.size wX => ((hF.below K.below hF.lt).cell 1).trans (show _ = some (.int .i64 se) from rfl)
        have f2 := fun K : Kin wX.heap.size wX => ((hF.below K.below hF.lt).cell 2).trans (show _ = some (.int .i64 sp) from rfl)
        have f3 := fun K : Kin wX.heap.size wX => ((hF.below K.below hF.lt).cell 3).trans (show _ = some (.slice W ws.length wc) from rfl)
        have f4 := fun K : Kin wX.heap.size wX => ((hF.below K.below hF.lt).cell 4).trans (show _ = some (.slice (some ⟨b, off, none⟩) sh.length sc) from rfl)
        refine wp_region_kin (by kernel_rfl) (by kernel_rfl) ?_
        repeat (go_big_quiet_step (fail))
        go_big_quiet_step ((go_at_call 57; exact Kin.same _ (l7Member_is xm _ H1.out _)))
        repeat (go_big_quiet_step (fail))
        go_big_quiet_step ((go_at_call 85; exact Kin.same _ (l1In_is xt 0 tu _ H2.out _)))
        repeat (go_big_quiet_step (fail))
        go_big_quiet_step ((go_at_call 85; exact Kin.same _ (l1In_is xs 0 se _ H3.out _)))
        repeat (go_big_quiet_step (fail))
        refine wpQuiet_nil ?_
        intro K
        go_wp2
        go_ret
        exact ⟨ret_bool (sharesB_not hlt (by cases k with | zero => (rw [shaStep_zero HX.out, shaOk]; simp only [H1.out, H2.out, H3.out]; simp) | succ j => (have hy : sh[j]? = some sh[j] := List.getElem?_eq_getElem (by omega); rw [shaStep_succ hy HX.out, shaOk]; simp only [H1.out, H2.out, H3.out]; simp))).symm, bth HB K.below⟩
      have H3 := Lib.hid h3; clear h3
      have HO : Hid (shaOk tu se ⟨xm, xt, xs⟩ = true) := Lib.hid (by rw [shaOk]; simp only [H1.out, H2.out, H3.out]; rfl)
      cases k with
      | zero =>
        clear x0 x1 x2
        have x0 := fun K : Kin wX.heap.size wX => ((hX.below K.below hX.lt).cell 0).trans (show _ = some (.int .i64 xm) from rfl)
        have x1 := fun K : Kin wX.heap.size wX => ((hX.below K.below hX.lt).cell 1).trans (show _ = some (.int .i64 xt) from rfl)
        have x2 := fun K : Kin wX.heap.size wX => ((hX.below K.below hX.lt).cell 2).trans (show _ = some (.int .i64 xs) from rfl)
        clear f0 f1 f2 f3 f4
        have f0 := fun K : Kin wX.heap.size wX => ((hF.below K.below hF.lt).cell 0).trans (show _ = some (.int .i64 tu) from rfl)
        have f1 := fun K : Kin wX.heap.size wX => ((hF.below K.below hF.lt).cell 1).trans (show _ = some (.int .i64 se) from rfl)
        have f2 := fun K : Kin wX.heap.size wX => ((hF.below K.below hF.lt).cell 2).trans (show _ = some (.int .i64 sp) from rfl)
        have f3 := fun K : Kin wX.heap.size wX => ((hF.below K.below hF.lt).cell 3).trans (show _ = some (.slice W ws.length wc) from rfl)
        have f4 := fun K : Kin wX.heap.size wX => ((hF.below K.below hF.lt).cell 4).trans (show _ = some (.slice (some ⟨b, off, none⟩) sh.length sc) from rfl)
        refine wp_region_kin (by kernel_rfl) (by kernel_rfl) ?_
        repeat (go_big_quiet_step (fail))
        go_big_quiet_step ((go_at_call 57; exact Kin.same _ (l7Member_is xm _ H1.out _)))
        repeat (go_big_quiet_step (fail))
        go_big_quiet_step ((go_at_call 85; exact Kin.same _ (l1In_is xt 0 tu _ H2.out _)))
        repeat (go_big_quiet_step (fail))
        go_big_quiet_step ((go_at_call 85; exact Kin.same _ (l1In_is xs 0 se _ H3.out _)))
        repeat (go_big_quiet_step (fail))
        refine wpQuiet_nil ?_
        intro K
        go_wp2
        go_roundw
        case rel => exact ⟨1, by omega, by go_num, allTo_go HL.out (by rw [shaStep_zero HX.out]; exact HO.out), bth HB K.below, hF.below K.below hF.lt⟩
        case measure => simp [intOf]; omega
      | succ j =>
        obtain ⟨b', off', y, e', _, hy, hcy⟩ := hS.at_ (Below.refl _ _) (k := j) (by omega)
        simp only [Option.some.injEq, Addr.mk.injEq, and_true] at e'
        obtain ⟨rfl, rfl⟩ := e'
        obtain ⟨ym, yt, ys⟩ := y
        have q0 := hcy 0 _ rfl
        simp only [Nat.add_zero] at q0
        have HY := Lib.hid hy; clear hy hcy
        by_cases hlt2 : ym < xm
        · have hle : decide (xm ≤ ym) = false := decide_eq_false (by omega)
          clear x0 x1 x2
          have x0 := fun K : Kin wX.heap.size wX => ((hX.below K.below hX.lt).cell 0).trans (show _ = some (.int .i64 xm) from rfl)
          have x1 := fun K : Kin wX.heap.size wX => ((hX.below K.below hX.lt).cell 1).trans (show _ = some (.int .i64 xt) from rfl)
          have x2 := fun K : Kin wX.heap.size wX => ((hX.below K.below hX.lt).cell 2).trans (show _ = some (.int .i64 xs) from rfl)
          clear f0 f1 f2 f3 f4
          have f0 := fun K : Kin wX.heap.size wX => ((hF.below K.below hF.lt).cell 0).trans (show _ = some (.int .i64 tu) from rfl)
          have f1 := fun K : Kin wX.heap.size wX => ((hF.below K.below hF.lt).cell 1).trans (show _ = some (.int .i64 se) from rfl)
          have f2 := fun K : Kin wX.heap.size wX => ((hF.below K.below hF.lt).cell 2).trans (show _ = some (.int .i64 sp) from rfl)
          have f3 := fun K : Kin wX.heap.size wX => ((hF.below K.below hF.lt).cell 3).trans (show _ = some (.slice W ws.length wc) from rfl)
          have f4 := fun K : Kin wX.heap.size wX => ((hF.below K.below hF.lt).cell 4).trans (show _ = some (.slice (some ⟨b, off, none⟩) sh.length sc) from rfl)
          refine wp_region_kin (by kernel_rfl) (by kernel_rfl) ?_
          repeat (go_big_quiet_step (fail))
          go_big_quiet_step ((go_at_call 57; exact Kin.same _ (l7Member_is xm _ H1.out _)))
          repeat (go_big_quiet_step (fail))
          go_big_quiet_step ((go_at_call 85; exact Kin.same _ (l1In_is xt 0 tu _ H2.out _)))
          repeat (go_big_quiet_step (fail))
          go_big_quiet_step ((go_at_call 85; exact Kin.same _ (l1In_is xs 0 se _ H3.out _)))
          repeat (go_big_quiet_step (fail))
          refine wpQuiet_nil ?_
          intro K
          go_wp2
          go_roundw
          case rel => exact ⟨j + 1 + 1, by omega, by go_num, allTo_go HL.out (by rw [shaStep_succ HY.out HX.out, HO.out, decide_eq_true (show (Sha.mem ⟨ym, yt, ys⟩) < (Sha.mem ⟨xm, xt, xs⟩) from hlt2)]; rfl), bth HB K.below, hF.below K.below hF.lt⟩
          case measure => simp [intOf]; omega
        · have hle : decide (xm ≤ ym) = true := decide_eq_true (by omega)
          clear x0 x1 x2
          have x0 := fun K : Kin wX.heap.size wX => ((hX.below K.below hX.lt).cell 0).trans (show _ = some (.int .i64 xm) from rfl)
          have x1 := fun K : Kin wX.heap.size wX => ((hX.below K.below hX.lt).cell 1).trans (show _ = some (.int .i64 xt) from rfl)
          have x2 := fun K : Kin wX.heap.size wX => ((hX.below K.below hX.lt).cell 2).trans (show _ = some (.int .i64 xs) from rfl)
          clear f0 f1 f2 f3 f4
          have f0 := fun K : Kin wX.heap.size wX => ((hF.below K.below hF.lt).cell 0).trans (show _ = some (.int .i64 tu) from rfl)
          have f1 := fun K : Kin wX.heap.size wX => ((hF.below K.below hF.lt).cell 1).trans (show _ = some (.int .i64 se) from rfl)
          have f2 := fun K : Kin wX.heap.size wX => ((hF.below K.below hF.lt).cell 2).trans (show _ = some (.int .i64 sp) from rfl)
          have f3 := fun K : Kin wX.heap.size wX => ((hF.below K.below hF.lt).cell 3).trans (show _ = some (.slice W ws.length wc) from rfl)
          have f4 := fun K : Kin wX.heap.size wX => ((hF.below K.below hF.lt).cell 4).trans (show _ = some (.slice (some ⟨b, off, none⟩) sh.length sc) from rfl)
          refine wp_region_kin (by kernel_rfl) (by kernel_rfl) ?_
          repeat (go_big_quiet_step (fail))
          go_big_quiet_step ((go_at_call 57; exact Kin.same _ (l7Member_is xm _ H1.out _)))
          repeat (go_big_quiet_step (fail))
          go_big_quiet_step ((go_at_call 85; exact Kin.same _ (l1In_is xt 0 tu _ H2.out _)))
          repeat (go_big_quiet_step (fail))
          go_big_quiet_step ((go_at_call 85; exact Kin.same _ (l1In_is xs 0 se _ H3.out _)))
          repeat (go_big_quiet_step (fail))
          refine wpQuiet_nil ?_
          intro K
          go_wp2
          go_ret
          exact ⟨ret_bool (sharesB_not hlt (by rw [shaStep_succ HY.out HX.out, HO.out, decide_eq_false (show ¬ (Sha.mem ⟨ym, yt, ys⟩) < (Sha.mem ⟨xm, xt, xs⟩) from by show ¬ ym < xm; omega)]; rfl)).symm, bth HB K.below⟩
    · have f0 := (hF.cell 0).trans (show _ = some (.int .i64 tu) from rfl)
      have f1 := (hF.cell 1).trans (show _ = some (.int .i64 se) from rfl)
      have f2 := (hF.cell 2).trans (show _ = some (.int .i64 sp) from rfl)
      have f3 := (hF.cell 3).trans (show _ = some (.slice W ws.length wc) from rfl)
      have f4 := (hF.cell 4).trans (show _ = some (.slice S sh.length sc) from rfl)
      obtain rfl : k = sh.length := by omega
      go_wp2
      go_ret
      exact ⟨ret_bool HL.out.symm, (bth HB (by repeat (first | exact Below.refl _ _ | refine Below.alloc ?_ (by first | exact Nat.le_refl _ | (simp <;> omega)) _ | refine Below.setCell ?_ (by first | exact Nat.le_refl _ | (simp <;> omega)) _)))⟩
end Go.Proofs.YtpkagohflkcnkaaGreatDoor
