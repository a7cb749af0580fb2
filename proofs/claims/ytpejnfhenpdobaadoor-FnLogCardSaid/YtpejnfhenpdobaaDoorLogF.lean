/- The walk of the law of appended records. -/
import Derived.Test.YtpejnfhenpdobaaDoorLnP
import Derived.Test.YtpejnfhenpdobaaDoorCrL
import Derived.Test.YtpejnfhenpdobaaDoorCurA
namespace Go.Proofs.YtpejnfhenpdobaaDoor
open Go.RowKit Go.G9
theorem svAny_is {u : Value} {b : Bool} {w0 : World} (h : ∀ W, Calls Tryd.prog 21 #[u] W fun e w' => e = .returned (.bool b) ∧ Below W.heap.size W w') (K : Kin w0.heap.size w0) :
  Calls Tryd.prog 21 #[u] K.world fun e w' => e = .returned (.bool b) ∧ Below K.world.heap.size K.world w' := h _
theorem irAny_is {u : Value} {b : Bool} {w0 : World} (h : ∀ W, Calls Tryd.prog 37 #[u] W fun e w' => e = .returned (.bool b) ∧ Below W.heap.size W w') (K : Kin w0.heap.size w0) :
  Calls Tryd.prog 37 #[u] K.world fun e w' => e = .returned (.bool b) ∧ Below K.world.heap.size K.world w' := h _
theorem srAny_is {u : Value} {b : Bool} {w0 : World} (h : ∀ W, Calls Tryd.prog 38 #[u] W fun e w' => e = .returned (.bool b) ∧ Below W.heap.size W w') (K : Kin w0.heap.size w0) :
  Calls Tryd.prog 38 #[u] K.world fun e w' => e = .returned (.bool b) ∧ Below K.world.heap.size K.world w' := h _
set_option maxHeartbeats 8000000 in
set_option maxRecDepth 100000 in
theorem law_log (A : Option Addr) (c : Nat) (cs : List UInt8) (w : World) (hR : Rds 1 u8C w A cs) (HT : Tab w) :
  Calls Tryd.prog 10 #[.slice A cs.length c] w fun e w' => e = .returned (.bool true) ∧ Below w.heap.size w w' := by
  cases hv : decide (65536 < cs.length)
  case true =>
    go_enter Tryd.func10, Tryd.ntmps10
    go_wp2_with fail
    refine (vBig_is A c cs.length _ hv _).mono ?_
    rintro e _ ⟨rfl, rfl⟩
    go_wp2
    go_ret
    exact ⟨rfl, (by repeat (first | exact Below.refl _ _ | refine Below.alloc ?_ (by first | exact Nat.le_refl _ | (simp <;> omega)) _ | refine Below.setCell ?_ (by first | exact Nat.le_refl _ | (simp <;> omega)) _))⟩
  have hcs : cs.length ≤ 1048576 := by have := of_decide_eq_false hv; omega
  go_enter Tryd.func10, Tryd.ntmps10
  go_wp2_with fail
  refine (vBig_is A c cs.length _ hv _).mono ?_
  rintro e w0 ⟨rfl, h0⟩
  rw [h0]
  clear h0 w0
  go_wp2_with fail
  refine (drawAppendRecord_is A c cs hcs _ (hR.below (by repeat (first | exact Below.refl _ _ | refine Below.alloc ?_ (by first | exact Nat.le_refl _ | (simp <;> omega)) _ | refine Below.setCell ?_ (by first | exact Nat.le_refl _ | (simp <;> omega)) _)))).mono ?_
  rintro e w1 ⟨x, y, rfl, hx, ⟨hy1, hy2⟩, hb1⟩
  have hq1 : Below w.heap.size w w1 := bth (by repeat (first | exact Below.refl _ _ | refine Below.alloc ?_ (by first | exact Nat.le_refl _ | (simp <;> omega)) _ | refine Below.setCell ?_ (by first | exact Nat.le_refl _ | (simp <;> omega)) _)) hb1
  have HB : Below w.heap.size w w1 := hq1
  replace HT := HT.below hq1
  have hx' : x.dur.size + x.pen.size ≤ 1048576 := by omega
  have iA := iAppendRecordR_is x hx' y (by omega) (by omega)
  have sA := sAppendRecordR_is x hx' y (by omega) (by omega)
  have iV := iIsValidLogT_is x hx'
  have sV := sIsValidLogT_is x hx'
  have iW := isValidRecord_is y.cmd y.rep (by omega) (by omega) _ rfl
  have sW := sIsValidRecord_is y.cmd y.rep (by omega) (by omega) _ rfl
  have iB := iLogRecordsR_is x hx'
  have hsz := apT_size x y
  have IV := Lib.hid iV; have SV := Lib.hid sV; have IW := Lib.hid iW; have SW := Lib.hid sW
  clear iV sV iW sW
  generalize recB y.cmd y.rep = rv at *
  by_cases hco : apTC x y = 0
  · obtain ⟨f1, f2, f3, f4, f5, f6, f7⟩ := apT_law hco
    have iM := iLogRecordsR_is (apT x y) (by omega)
    have hms : ((apT x y).dur ++ (apT x y).pen).size = (apT x y).dur.size + (apT x y).pen.size := ByteArray.size_append
    have iR := iRecoverLogR_is ((apT x y).dur ++ (apT x y).pen) (by omega)
    have iS := iSyncLogR_is (apT x y) (by omega)
    have iK := iIsValidLogT_is (apT x y) (by omega)
    have hl1 := lrT_len x
    have hyl : (lrT (apT x y)).length = (lrT x).length + 1 := by rw [f3, List.length_append]; rfl
    rw [hco] at iA sA
    rw [f5, f6, ← f7] at iR
    rw [f2] at iM iS iK
    rw [f1] at iB
    have f4' : (apT x y).cnt = ((lrT x).length : Int) + 1 := by rw [f4, hyl]; omega
    rw [f4'] at iA sA iM iS iK
    rw [hyl] at iM
    clear f1 f2 f4 f5 f6 f7 f4' hco
    obtain ⟨md, hmd⟩ : ∃ md, md = (apT x y).dur := ⟨_, rfl⟩
    obtain ⟨mp, hmp⟩ : ∃ mp, mp = (apT x y).pen := ⟨_, rfl⟩
    obtain ⟨td, htd⟩ : ∃ td, td = (syncT (apT x y)).dur := ⟨_, rfl⟩
    obtain ⟨tp, htp⟩ : ∃ tp, tp = (syncT (apT x y)).pen := ⟨_, rfl⟩
    obtain ⟨tc, htc⟩ : ∃ tc, tc = (syncT (apT x y)).cnt := ⟨_, rfl⟩
    obtain ⟨ys, hys⟩ : ∃ ys, ys = lrT (apT x y) := ⟨_, rfl⟩
    obtain ⟨zs, hzs⟩ : ∃ zs, zs = lrT x := ⟨_, rfl⟩
    rw [← hmd, ← hmp] at iA sA iM iS iK iR hms hsz
    rw [← htd, ← htp, ← htc] at iR iS
    rw [← hys, ← hzs] at f3 hyl iM
    rw [← hzs] at iA sA iS iK iB hl1
    clear hmd hmp htd htp htc hys hzs
    have IA := Lib.hid iA; have SA := Lib.hid sA; have IM := Lib.hid iM; have IS := Lib.hid iS; have IK := Lib.hid iK; have IR := Lib.hid iR; have IB := Lib.hid iB; have F3 := Lib.hid f3; have HYL := Lib.hid hyl
    clear iA sA iM iS iK iR iB f3 hyl
    go_wp2_with fail
    refine (IA.out _ (HT.below (by repeat (first | exact Below.refl _ _ | refine Below.alloc ?_ (by first | exact Nat.le_refl _ | (simp <;> omega)) _ | refine Below.setCell ?_ (by first | exact Nat.le_refl _ | (simp <;> omega)) _)))).mono ?_
    rintro e w2 ⟨rfl, hb2⟩
    have hq2 : Below w1.heap.size w1 w2 := bth (by repeat (first | exact Below.refl _ _ | refine Below.alloc ?_ (by first | exact Nat.le_refl _ | (simp <;> omega)) _ | refine Below.setCell ?_ (by first | exact Nat.le_refl _ | (simp <;> omega)) _)) hb2
    replace HB := bth HB hq2
    replace HT := HT.below hq2
    have hL : Blk w2 (w1.heap.size) 31 #[.string x.dur, .string x.pen, .int .i64 x.cnt] := Blk.below (by repeat (first | exact Blk.new _ _ _ | exact Blk.new2 _ _ _ _ | exact Blk.new3 _ _ _ _ _ | exact Blk.new4 _ _ _ _ _ _ | refine Blk.alloc ?_ _)) hb2 (by simp <;> omega)
    have l0 := (hL.cell 0).trans (show _ = some (.string x.dur) from rfl)
    have l1 := (hL.cell 1).trans (show _ = some (.string x.pen) from rfl)
    have l2 := (hL.cell 2).trans (show _ = some (.int .i64 x.cnt) from rfl)
    have hY : Blk w2 ((w1.heap.size + 1)) 27 #[.string y.cmd, .string y.rep] := Blk.below (by repeat (first | exact Blk.new _ _ _ | exact Blk.new2 _ _ _ _ | exact Blk.new3 _ _ _ _ _ | exact Blk.new4 _ _ _ _ _ _ | refine Blk.alloc ?_ _)) hb2 (by simp <;> omega)
    have y0 := (hY.cell 0).trans (show _ = some (.string y.cmd) from rfl)
    have y1 := (hY.cell 1).trans (show _ = some (.string y.rep) from rfl)
    have yhL := hL.lt
    have yhY := hY.lt
    go_wp2_with fail
    refine (SA.out _).mono ?_
    rintro e w3 ⟨rfl, hb3⟩
    have hq3 : Below w2.heap.size w2 w3 := bth (by repeat (first | exact Below.refl _ _ | refine Below.alloc ?_ (by first | exact Nat.le_refl _ | (simp <;> omega)) _ | refine Below.setCell ?_ (by first | exact Nat.le_refl _ | (simp <;> omega)) _)) hb3
    replace HB := bth HB hq3
    replace HT := HT.below hq3
    replace hL := hL.below hq3 hL.lt
    replace l0 := (hL.cell 0).trans (show _ = some (.string x.dur) from rfl)
    replace l1 := (hL.cell 1).trans (show _ = some (.string x.pen) from rfl)
    replace l2 := (hL.cell 2).trans (show _ = some (.int .i64 x.cnt) from rfl)
    replace hY := hY.below hq3 hY.lt
    replace y0 := (hY.cell 0).trans (show _ = some (.string y.cmd) from rfl)
    replace y1 := (hY.cell 1).trans (show _ = some (.string y.rep) from rfl)
    have hM : Blk w3 (w2.heap.size) 31 #[.string md, .string mp, .int .i64 ((zs.length : Int) + 1)] := Blk.below (by repeat (first | exact Blk.new _ _ _ | exact Blk.new2 _ _ _ _ | exact Blk.new3 _ _ _ _ _ | exact Blk.new4 _ _ _ _ _ _ | refine Blk.alloc ?_ _)) hb3 (by simp <;> omega)
    have m0 := (hM.cell 0).trans (show _ = some (.string md) from rfl)
    have m1 := (hM.cell 1).trans (show _ = some (.string mp) from rfl)
    have m2 := (hM.cell 2).trans (show _ = some (.int .i64 ((zs.length : Int) + 1)) from rfl)
    have yhL := hL.lt
    have yhY := hY.lt
    have yhM := hM.lt
    go_upto_region 6 with fail
    have hN := Blk.new w3 31 #[.string md, .string mp, .int .i64 ((zs.length : Int) + 1)]
    have hbN := bl1 w3 (.cells #[.string md, .string mp, .int .i64 ((zs.length : Int) + 1)] 31)
    generalize (w3.alloc (.cells #[.string md, .string mp, .int .i64 ((zs.length : Int) + 1)] 31)) = wN at *
    have hq4 : Below w3.heap.size w3 wN := bth (by repeat (first | exact Below.refl _ _ | refine Below.alloc ?_ (by first | exact Nat.le_refl _ | (simp <;> omega)) _ | refine Below.setCell ?_ (by first | exact Nat.le_refl _ | (simp <;> omega)) _)) hbN
    replace HB := bth HB hq4
    replace HT := HT.below hq4
    replace hL := hL.below hq4 hL.lt
    replace l0 := (hL.cell 0).trans (show _ = some (.string x.dur) from rfl)
    replace l1 := (hL.cell 1).trans (show _ = some (.string x.pen) from rfl)
    replace l2 := (hL.cell 2).trans (show _ = some (.int .i64 x.cnt) from rfl)
    replace hY := hY.below hq4 hY.lt
    replace y0 := (hY.cell 0).trans (show _ = some (.string y.cmd) from rfl)
    replace y1 := (hY.cell 1).trans (show _ = some (.string y.rep) from rfl)
    replace hM := hM.below hq4 hM.lt
    replace m0 := (hM.cell 0).trans (show _ = some (.string md) from rfl)
    replace m1 := (hM.cell 1).trans (show _ = some (.string mp) from rfl)
    replace m2 := (hM.cell 2).trans (show _ = some (.int .i64 ((zs.length : Int) + 1)) from rfl)
    have n0 := (hN.cell 0).trans (show _ = some (.string md) from rfl)
    have n1 := (hN.cell 1).trans (show _ = some (.string mp) from rfl)
    have n2 := (hN.cell 2).trans (show _ = some (.int .i64 ((zs.length : Int) + 1)) from rfl)
    have HT2 := Lib.hid HT
    have yhL := hL.lt
    have yhY := hY.lt
    have yhM := hM.lt
    have yhN := hN.lt
    clear l0 l1 l2
    have l0 := fun K : Kin wN.heap.size wN => ((hL.below K.below hL.lt).cell 0).trans (show _ = some (.string x.dur) from rfl)
    have l1 := fun K : Kin wN.heap.size wN => ((hL.below K.below hL.lt).cell 1).trans (show _ = some (.string x.pen) from rfl)
    have l2 := fun K : Kin wN.heap.size wN => ((hL.below K.below hL.lt).cell 2).trans (show _ = some (.int .i64 x.cnt) from rfl)
    clear y0 y1
    have y0 := fun K : Kin wN.heap.size wN => ((hY.below K.below hY.lt).cell 0).trans (show _ = some (.string y.cmd) from rfl)
    have y1 := fun K : Kin wN.heap.size wN => ((hY.below K.below hY.lt).cell 1).trans (show _ = some (.string y.rep) from rfl)
    clear m0 m1 m2
    have m0 := fun K : Kin wN.heap.size wN => ((hM.below K.below hM.lt).cell 0).trans (show _ = some (.string md) from rfl)
    have m1 := fun K : Kin wN.heap.size wN => ((hM.below K.below hM.lt).cell 1).trans (show _ = some (.string mp) from rfl)
    have m2 := fun K : Kin wN.heap.size wN => ((hM.below K.below hM.lt).cell 2).trans (show _ = some (.int .i64 ((zs.length : Int) + 1)) from rfl)
    clear n0 n1 n2
    have n0 := fun K : Kin wN.heap.size wN => ((hN.below K.below hN.lt).cell 0).trans (show _ = some (.string md) from rfl)
    have n1 := fun K : Kin wN.heap.size wN => ((hN.below K.below hN.lt).cell 1).trans (show _ = some (.string mp) from rfl)
    have n2 := fun K : Kin wN.heap.size wN => ((hN.below K.below hN.lt).cell 2).trans (show _ = some (.int .i64 ((zs.length : Int) + 1)) from rfl)
    refine wp_region_kin (by kernel_rfl) (by kernel_rfl) ?_
    repeat (go_big_quiet_step ((first | (go_at_call 23; exact Kin.call _ (by first | exact Nat.le_refl _ | omega) (validAny_is IV.out HT2.out _)) | (go_at_call 21; exact Kin.call _ (by first | exact Nat.le_refl _ | omega) (svAny_is SV.out _)) | (go_at_call 37; exact Kin.call _ (by first | exact Nat.le_refl _ | omega) (irAny_is IW.out _)) | (go_at_call 38; exact Kin.call _ (by first | exact Nat.le_refl _ | omega) (srAny_is SW.out _)))))
    refine wpQuiet_nil ?_
    intro K
    clear l0 l1 l2
    clear y0 y1
    clear m0 m1 m2
    clear n0 n1 n2
    have hq5 : Below wN.heap.size wN K.world := bth (by repeat (first | exact Below.refl _ _ | refine Below.alloc ?_ (by first | exact Nat.le_refl _ | (simp <;> omega)) _ | refine Below.setCell ?_ (by first | exact Nat.le_refl _ | (simp <;> omega)) _)) K.below
    replace HB := bth HB hq5
    replace HT := HT.below hq5
    replace hL := hL.below hq5 hL.lt
    have l0 := (hL.cell 0).trans (show _ = some (.string x.dur) from rfl)
    have l1 := (hL.cell 1).trans (show _ = some (.string x.pen) from rfl)
    have l2 := (hL.cell 2).trans (show _ = some (.int .i64 x.cnt) from rfl)
    replace hY := hY.below hq5 hY.lt
    have y0 := (hY.cell 0).trans (show _ = some (.string y.cmd) from rfl)
    have y1 := (hY.cell 1).trans (show _ = some (.string y.rep) from rfl)
    replace hM := hM.below hq5 hM.lt
    have m0 := (hM.cell 0).trans (show _ = some (.string md) from rfl)
    have m1 := (hM.cell 1).trans (show _ = some (.string mp) from rfl)
    have m2 := (hM.cell 2).trans (show _ = some (.int .i64 ((zs.length : Int) + 1)) from rfl)
    replace hN := hN.below hq5 hN.lt
    have n0 := (hN.cell 0).trans (show _ = some (.string md) from rfl)
    have n1 := (hN.cell 1).trans (show _ = some (.string mp) from rfl)
    have n2 := (hN.cell 2).trans (show _ = some (.int .i64 ((zs.length : Int) + 1)) from rfl)
    clear HT2
    have yhL := hL.lt
    have yhY := hY.lt
    have yhM := hM.lt
    have yhN := hN.lt
    go_wp2_with fail
    refine (IM.out _ (HT.below (by repeat (first | exact Below.refl _ _ | refine Below.alloc ?_ (by first | exact Nat.le_refl _ | (simp <;> omega)) _ | refine Below.setCell ?_ (by first | exact Nat.le_refl _ | (simp <;> omega)) _)))).mono ?_
    rintro e w6 ⟨A1, c1, rfl, O1, hb6⟩
    have hq6 : Below K.world.heap.size K.world w6 := bth (by repeat (first | exact Below.refl _ _ | refine Below.alloc ?_ (by first | exact Nat.le_refl _ | (simp <;> omega)) _ | refine Below.setCell ?_ (by first | exact Nat.le_refl _ | (simp <;> omega)) _)) hb6
    replace HB := bth HB hq6
    replace HT := HT.below hq6
    replace hL := hL.below hq6 hL.lt
    replace l0 := (hL.cell 0).trans (show _ = some (.string x.dur) from rfl)
    replace l1 := (hL.cell 1).trans (show _ = some (.string x.pen) from rfl)
    replace l2 := (hL.cell 2).trans (show _ = some (.int .i64 x.cnt) from rfl)
    replace hY := hY.below hq6 hY.lt
    replace y0 := (hY.cell 0).trans (show _ = some (.string y.cmd) from rfl)
    replace y1 := (hY.cell 1).trans (show _ = some (.string y.rep) from rfl)
    replace hM := hM.below hq6 hM.lt
    replace m0 := (hM.cell 0).trans (show _ = some (.string md) from rfl)
    replace m1 := (hM.cell 1).trans (show _ = some (.string mp) from rfl)
    replace m2 := (hM.cell 2).trans (show _ = some (.int .i64 ((zs.length : Int) + 1)) from rfl)
    replace hN := hN.below hq6 hN.lt
    replace n0 := (hN.cell 0).trans (show _ = some (.string md) from rfl)
    replace n1 := (hN.cell 1).trans (show _ = some (.string mp) from rfl)
    replace n2 := (hN.cell 2).trans (show _ = some (.int .i64 ((zs.length : Int) + 1)) from rfl)
    have yhL := hL.lt
    have yhY := hY.lt
    have yhM := hM.lt
    have yhN := hN.lt
    go_wp2_with fail
    refine (IB.out _ (HT.below (by repeat (first | exact Below.refl _ _ | refine Below.alloc ?_ (by first | exact Nat.le_refl _ | (simp <;> omega)) _ | refine Below.setCell ?_ (by first | exact Nat.le_refl _ | (simp <;> omega)) _)))).mono ?_
    rintro e w7 ⟨A2, c2, rfl, O2, hb7⟩
    have hq7 : Below w6.heap.size w6 w7 := bth (by repeat (first | exact Below.refl _ _ | refine Below.alloc ?_ (by first | exact Nat.le_refl _ | (simp <;> omega)) _ | refine Below.setCell ?_ (by first | exact Nat.le_refl _ | (simp <;> omega)) _)) hb7
    replace HB := bth HB hq7
    replace HT := HT.below hq7
    replace O1 := O1.later hq7
    replace hL := hL.below hq7 hL.lt
    replace l0 := (hL.cell 0).trans (show _ = some (.string x.dur) from rfl)
    replace l1 := (hL.cell 1).trans (show _ = some (.string x.pen) from rfl)
    replace l2 := (hL.cell 2).trans (show _ = some (.int .i64 x.cnt) from rfl)
    replace hY := hY.below hq7 hY.lt
    replace y0 := (hY.cell 0).trans (show _ = some (.string y.cmd) from rfl)
    replace y1 := (hY.cell 1).trans (show _ = some (.string y.rep) from rfl)
    replace hM := hM.below hq7 hM.lt
    replace m0 := (hM.cell 0).trans (show _ = some (.string md) from rfl)
    replace m1 := (hM.cell 1).trans (show _ = some (.string mp) from rfl)
    replace m2 := (hM.cell 2).trans (show _ = some (.int .i64 ((zs.length : Int) + 1)) from rfl)
    replace hN := hN.below hq7 hN.lt
    replace n0 := (hN.cell 0).trans (show _ = some (.string md) from rfl)
    replace n1 := (hN.cell 1).trans (show _ = some (.string mp) from rfl)
    replace n2 := (hN.cell 2).trans (show _ = some (.int .i64 ((zs.length : Int) + 1)) from rfl)
    have yhL := hL.lt
    have yhY := hY.lt
    have yhM := hM.lt
    have yhN := hN.lt
    go_wp2_with fail
    refine (IR.out _ (HT.below (by repeat (first | exact Below.refl _ _ | refine Below.alloc ?_ (by first | exact Nat.le_refl _ | (simp <;> omega)) _ | refine Below.setCell ?_ (by first | exact Nat.le_refl _ | (simp <;> omega)) _)))).mono ?_
    rintro e w8 ⟨rfl, hb8⟩
    have hq8 : Below w7.heap.size w7 w8 := bth (by repeat (first | exact Below.refl _ _ | refine Below.alloc ?_ (by first | exact Nat.le_refl _ | (simp <;> omega)) _ | refine Below.setCell ?_ (by first | exact Nat.le_refl _ | (simp <;> omega)) _)) hb8
    replace HB := bth HB hq8
    replace HT := HT.below hq8
    replace O1 := O1.later hq8
    replace O2 := O2.later hq8
    replace hL := hL.below hq8 hL.lt
    replace l0 := (hL.cell 0).trans (show _ = some (.string x.dur) from rfl)
    replace l1 := (hL.cell 1).trans (show _ = some (.string x.pen) from rfl)
    replace l2 := (hL.cell 2).trans (show _ = some (.int .i64 x.cnt) from rfl)
    replace hY := hY.below hq8 hY.lt
    replace y0 := (hY.cell 0).trans (show _ = some (.string y.cmd) from rfl)
    replace y1 := (hY.cell 1).trans (show _ = some (.string y.rep) from rfl)
    replace hM := hM.below hq8 hM.lt
    replace m0 := (hM.cell 0).trans (show _ = some (.string md) from rfl)
    replace m1 := (hM.cell 1).trans (show _ = some (.string mp) from rfl)
    replace m2 := (hM.cell 2).trans (show _ = some (.int .i64 ((zs.length : Int) + 1)) from rfl)
    replace hN := hN.below hq8 hN.lt
    replace n0 := (hN.cell 0).trans (show _ = some (.string md) from rfl)
    replace n1 := (hN.cell 1).trans (show _ = some (.string mp) from rfl)
    replace n2 := (hN.cell 2).trans (show _ = some (.int .i64 ((zs.length : Int) + 1)) from rfl)
    have yhL := hL.lt
    have yhY := hY.lt
    have yhM := hM.lt
    have yhN := hN.lt
    go_wp2_with fail
    refine (IS.out _ (HT.below (by repeat (first | exact Below.refl _ _ | refine Below.alloc ?_ (by first | exact Nat.le_refl _ | (simp <;> omega)) _ | refine Below.setCell ?_ (by first | exact Nat.le_refl _ | (simp <;> omega)) _)))).mono ?_
    rintro e w9 ⟨rfl, hb9⟩
    have hq9 : Below w8.heap.size w8 w9 := bth (by repeat (first | exact Below.refl _ _ | refine Below.alloc ?_ (by first | exact Nat.le_refl _ | (simp <;> omega)) _ | refine Below.setCell ?_ (by first | exact Nat.le_refl _ | (simp <;> omega)) _)) hb9
    replace HB := bth HB hq9
    replace HT := HT.below hq9
    replace O1 := O1.later hq9
    replace O2 := O2.later hq9
    replace hL := hL.below hq9 hL.lt
    replace l0 := (hL.cell 0).trans (show _ = some (.string x.dur) from rfl)
    replace l1 := (hL.cell 1).trans (show _ = some (.string x.pen) from rfl)
    replace l2 := (hL.cell 2).trans (show _ = some (.int .i64 x.cnt) from rfl)
    replace hY := hY.below hq9 hY.lt
    replace y0 := (hY.cell 0).trans (show _ = some (.string y.cmd) from rfl)
    replace y1 := (hY.cell 1).trans (show _ = some (.string y.rep) from rfl)
    replace hM := hM.below hq9 hM.lt
    replace m0 := (hM.cell 0).trans (show _ = some (.string md) from rfl)
    replace m1 := (hM.cell 1).trans (show _ = some (.string mp) from rfl)
    replace m2 := (hM.cell 2).trans (show _ = some (.int .i64 ((zs.length : Int) + 1)) from rfl)
    replace hN := hN.below hq9 hN.lt
    replace n0 := (hN.cell 0).trans (show _ = some (.string md) from rfl)
    replace n1 := (hN.cell 1).trans (show _ = some (.string mp) from rfl)
    replace n2 := (hN.cell 2).trans (show _ = some (.int .i64 ((zs.length : Int) + 1)) from rfl)
    have hG : Blk w9 (w8.heap.size) 31 #[.string td, .string tp, .int .i64 tc] := Blk.below (by repeat (first | exact Blk.new _ _ _ | exact Blk.new2 _ _ _ _ | exact Blk.new3 _ _ _ _ _ | exact Blk.new4 _ _ _ _ _ _ | refine Blk.alloc ?_ _)) hb9 (by simp <;> omega)
    have g0 := (hG.cell 0).trans (show _ = some (.string td) from rfl)
    have g1 := (hG.cell 1).trans (show _ = some (.string tp) from rfl)
    have g2 := (hG.cell 2).trans (show _ = some (.int .i64 tc) from rfl)
    have yhL := hL.lt
    have yhY := hY.lt
    have yhM := hM.lt
    have yhN := hN.lt
    have yhG := hG.lt
    go_upto_region 13 with fail
    have hS := Blk.new w9 31 #[.string td, .string tp, .int .i64 tc]
    have hbS := bl1 w9 (.cells #[.string td, .string tp, .int .i64 tc] 31)
    generalize (w9.alloc (.cells #[.string td, .string tp, .int .i64 tc] 31)) = wS at *
    have hq10 : Below w9.heap.size w9 wS := bth (by repeat (first | exact Below.refl _ _ | refine Below.alloc ?_ (by first | exact Nat.le_refl _ | (simp <;> omega)) _ | refine Below.setCell ?_ (by first | exact Nat.le_refl _ | (simp <;> omega)) _)) hbS
    replace HB := bth HB hq10
    replace HT := HT.below hq10
    replace O1 := O1.later hq10
    replace O2 := O2.later hq10
    replace hL := hL.below hq10 hL.lt
    replace l0 := (hL.cell 0).trans (show _ = some (.string x.dur) from rfl)
    replace l1 := (hL.cell 1).trans (show _ = some (.string x.pen) from rfl)
    replace l2 := (hL.cell 2).trans (show _ = some (.int .i64 x.cnt) from rfl)
    replace hY := hY.below hq10 hY.lt
    replace y0 := (hY.cell 0).trans (show _ = some (.string y.cmd) from rfl)
    replace y1 := (hY.cell 1).trans (show _ = some (.string y.rep) from rfl)
    replace hM := hM.below hq10 hM.lt
    replace m0 := (hM.cell 0).trans (show _ = some (.string md) from rfl)
    replace m1 := (hM.cell 1).trans (show _ = some (.string mp) from rfl)
    replace m2 := (hM.cell 2).trans (show _ = some (.int .i64 ((zs.length : Int) + 1)) from rfl)
    replace hN := hN.below hq10 hN.lt
    replace n0 := (hN.cell 0).trans (show _ = some (.string md) from rfl)
    replace n1 := (hN.cell 1).trans (show _ = some (.string mp) from rfl)
    replace n2 := (hN.cell 2).trans (show _ = some (.int .i64 ((zs.length : Int) + 1)) from rfl)
    replace hG := hG.below hq10 hG.lt
    replace g0 := (hG.cell 0).trans (show _ = some (.string td) from rfl)
    replace g1 := (hG.cell 1).trans (show _ = some (.string tp) from rfl)
    replace g2 := (hG.cell 2).trans (show _ = some (.int .i64 tc) from rfl)
    have s0 := (hS.cell 0).trans (show _ = some (.string td) from rfl)
    have s1 := (hS.cell 1).trans (show _ = some (.string tp) from rfl)
    have s2 := (hS.cell 2).trans (show _ = some (.int .i64 tc) from rfl)
    have R1 := O1.rds (hf := LRec.cells_len)
    have R2 := O2.rds (hf := LRec.cells_len)
    have HT2 := Lib.hid HT; clear HT
    have yhL := hL.lt
    have yhY := hY.lt
    have yhM := hM.lt
    have yhN := hN.lt
    have yhG := hG.lt
    have yhS := hS.lt
    go_wp2
    go_loopw [2, 18] (fun _ i wr => ∃ k : Nat, k ≤ zs.length ∧ i = .int .i64 k ∧ Below wS.heap.size wS wr) (fun _ i _ => zs.length - (intOf i).toNat)
    case atStart => exact ⟨0, Nat.zero_le _, rfl, Below.refl _ _⟩
    case round =>
      obtain ⟨k, hk, rfl, hb⟩ := hrel
      clear l0 l1 l2 m0 m1 m2 y0 y1 n0 n1 n2 g0 g1 g2 s0 s1 s2
      by_cases hlt : k < zs.length
      · obtain ⟨b1, o1, u, rfl, hbl1, hu, hcu⟩ := R1.at_ hb (k := k) (by have := HYL.out; omega)
        obtain ⟨b2, o2, z, rfl, hbl2, hz, hcz⟩ := R2.at_ hb hlt
        have e : u = z := by
          rw [F3.out, List.getElem?_append_left hlt, hz] at hu
          exact (Option.some.inj hu).symm
        subst e
        obtain ⟨yc, yr⟩ := u
        have f0 := hcu 0 _ rfl
        have f1 := hcu 1 _ rfl
        simp only [Nat.add_zero] at f0
        have g0 := hcz 0 _ rfl
        have g1 := hcz 1 _ rfl
        simp only [Nat.add_zero] at g0
        clear hu hcu hz hcz
        go_wp2
        refine wp_region_kin (by kernel_rfl) (by kernel_rfl) ?_
        repeat (go_big_quiet_step ((fail)))
        refine wpQuiet_nil ?_
        intro K
        go_wp2
        go_roundw
        case rel => exact ⟨k + 1, by omega, by go_num, bth hb K.below⟩
        case measure => simp [intOf]; omega
      · obtain rfl : k = zs.length := by omega
        obtain ⟨b1, o1, u, rfl, hbl1, hu, hcu⟩ := R1.at_ hb (k := zs.length) (by have := HYL.out; omega)
        have e : u = y := by
          rw [F3.out] at hu
          simpa using hu.symm
        subst e
        have f0 := hcu 0 _ rfl
        have f1 := hcu 1 _ rfl
        simp only [Nat.add_zero] at f0
        clear hu hcu
        have HT3 := Lib.hid (HT2.out.below hb)
        have hM' := hM.below hb hM.lt
        have m0 := fun K : Kin wr.heap.size wr => ((hM'.below K.below hM'.lt).cell 0).trans (show _ = some (.string md) from rfl)
        have m1 := fun K : Kin wr.heap.size wr => ((hM'.below K.below hM'.lt).cell 1).trans (show _ = some (.string mp) from rfl)
        have m2 := fun K : Kin wr.heap.size wr => ((hM'.below K.below hM'.lt).cell 2).trans (show _ = some (.int .i64 ((zs.length : Int) + 1)) from rfl)
        have hY' := hY.below hb hY.lt
        have y0 := fun K : Kin wr.heap.size wr => ((hY'.below K.below hY'.lt).cell 0).trans (show _ = some (.string u.cmd) from rfl)
        have y1 := fun K : Kin wr.heap.size wr => ((hY'.below K.below hY'.lt).cell 1).trans (show _ = some (.string u.rep) from rfl)
        have hG' := hG.below hb hG.lt
        have g0 := fun K : Kin wr.heap.size wr => ((hG'.below K.below hG'.lt).cell 0).trans (show _ = some (.string td) from rfl)
        have g1 := fun K : Kin wr.heap.size wr => ((hG'.below K.below hG'.lt).cell 1).trans (show _ = some (.string tp) from rfl)
        have g2 := fun K : Kin wr.heap.size wr => ((hG'.below K.below hG'.lt).cell 2).trans (show _ = some (.int .i64 tc) from rfl)
        have hS' := hS.below hb hS.lt
        have s0 := fun K : Kin wr.heap.size wr => ((hS'.below K.below hS'.lt).cell 0).trans (show _ = some (.string td) from rfl)
        have s1 := fun K : Kin wr.heap.size wr => ((hS'.below K.below hS'.lt).cell 1).trans (show _ = some (.string tp) from rfl)
        have s2 := fun K : Kin wr.heap.size wr => ((hS'.below K.below hS'.lt).cell 2).trans (show _ = some (.int .i64 tc) from rfl)
        go_wp2
        refine wp_region_kin (by kernel_rfl) (by kernel_rfl) ?_
        repeat (go_big_quiet_step ((first | (go_at_call 23; exact Kin.call _ (by first | exact Nat.le_refl _ | omega) (validAny_is IK.out HT3.out _)))))
        refine wpQuiet_nil ?_
        intro K
        go_wp2
        go_ret
        exact ⟨rfl, bth (bth HB hb) K.below⟩
  · have ex := apT_no hco
    rw [ex] at iA sA
    generalize apTC x y = co at *
    have IA := Lib.hid iA; have SA := Lib.hid sA
    clear iA sA iB hsz ex
    go_wp2_with fail
    refine (IA.out _ (HT.below (by repeat (first | exact Below.refl _ _ | refine Below.alloc ?_ (by first | exact Nat.le_refl _ | (simp <;> omega)) _ | refine Below.setCell ?_ (by first | exact Nat.le_refl _ | (simp <;> omega)) _)))).mono ?_
    rintro e w2 ⟨rfl, hb2⟩
    have hq2 : Below w1.heap.size w1 w2 := bth (by repeat (first | exact Below.refl _ _ | refine Below.alloc ?_ (by first | exact Nat.le_refl _ | (simp <;> omega)) _ | refine Below.setCell ?_ (by first | exact Nat.le_refl _ | (simp <;> omega)) _)) hb2
    replace HB := bth HB hq2
    replace HT := HT.below hq2
    have hL : Blk w2 (w1.heap.size) 31 #[.string x.dur, .string x.pen, .int .i64 x.cnt] := Blk.below (by repeat (first | exact Blk.new _ _ _ | exact Blk.new2 _ _ _ _ | exact Blk.new3 _ _ _ _ _ | exact Blk.new4 _ _ _ _ _ _ | refine Blk.alloc ?_ _)) hb2 (by simp <;> omega)
    have l0 := (hL.cell 0).trans (show _ = some (.string x.dur) from rfl)
    have l1 := (hL.cell 1).trans (show _ = some (.string x.pen) from rfl)
    have l2 := (hL.cell 2).trans (show _ = some (.int .i64 x.cnt) from rfl)
    have hY : Blk w2 ((w1.heap.size + 1)) 27 #[.string y.cmd, .string y.rep] := Blk.below (by repeat (first | exact Blk.new _ _ _ | exact Blk.new2 _ _ _ _ | exact Blk.new3 _ _ _ _ _ | exact Blk.new4 _ _ _ _ _ _ | refine Blk.alloc ?_ _)) hb2 (by simp <;> omega)
    have y0 := (hY.cell 0).trans (show _ = some (.string y.cmd) from rfl)
    have y1 := (hY.cell 1).trans (show _ = some (.string y.rep) from rfl)
    have yhL := hL.lt
    have yhY := hY.lt
    go_wp2_with fail
    refine (SA.out _).mono ?_
    rintro e w3 ⟨rfl, hb3⟩
    have hq3 : Below w2.heap.size w2 w3 := bth (by repeat (first | exact Below.refl _ _ | refine Below.alloc ?_ (by first | exact Nat.le_refl _ | (simp <;> omega)) _ | refine Below.setCell ?_ (by first | exact Nat.le_refl _ | (simp <;> omega)) _)) hb3
    replace HB := bth HB hq3
    replace HT := HT.below hq3
    replace hL := hL.below hq3 hL.lt
    replace l0 := (hL.cell 0).trans (show _ = some (.string x.dur) from rfl)
    replace l1 := (hL.cell 1).trans (show _ = some (.string x.pen) from rfl)
    replace l2 := (hL.cell 2).trans (show _ = some (.int .i64 x.cnt) from rfl)
    replace hY := hY.below hq3 hY.lt
    replace y0 := (hY.cell 0).trans (show _ = some (.string y.cmd) from rfl)
    replace y1 := (hY.cell 1).trans (show _ = some (.string y.rep) from rfl)
    have hM : Blk w3 (w2.heap.size) 31 #[.string x.dur, .string x.pen, .int .i64 x.cnt] := Blk.below (by repeat (first | exact Blk.new _ _ _ | exact Blk.new2 _ _ _ _ | exact Blk.new3 _ _ _ _ _ | exact Blk.new4 _ _ _ _ _ _ | refine Blk.alloc ?_ _)) hb3 (by simp <;> omega)
    have m0 := (hM.cell 0).trans (show _ = some (.string x.dur) from rfl)
    have m1 := (hM.cell 1).trans (show _ = some (.string x.pen) from rfl)
    have m2 := (hM.cell 2).trans (show _ = some (.int .i64 x.cnt) from rfl)
    have yhL := hL.lt
    have yhY := hY.lt
    have yhM := hM.lt
    go_upto_region 6 with fail
    have hN := Blk.new w3 31 #[.string x.dur, .string x.pen, .int .i64 x.cnt]
    have hbN := bl1 w3 (.cells #[.string x.dur, .string x.pen, .int .i64 x.cnt] 31)
    have hgN : ∃ q, q = w3.heap.size := ⟨_, rfl⟩
    generalize (w3.alloc (.cells #[.string x.dur, .string x.pen, .int .i64 x.cnt] 31)) = wN at *
    have hq4 : Below w3.heap.size w3 wN := bth (by repeat (first | exact Below.refl _ _ | refine Below.alloc ?_ (by first | exact Nat.le_refl _ | (simp <;> omega)) _ | refine Below.setCell ?_ (by first | exact Nat.le_refl _ | (simp <;> omega)) _)) hbN
    replace HB := bth HB hq4
    replace HT := HT.below hq4
    replace hL := hL.below hq4 hL.lt
    replace l0 := (hL.cell 0).trans (show _ = some (.string x.dur) from rfl)
    replace l1 := (hL.cell 1).trans (show _ = some (.string x.pen) from rfl)
    replace l2 := (hL.cell 2).trans (show _ = some (.int .i64 x.cnt) from rfl)
    replace hY := hY.below hq4 hY.lt
    replace y0 := (hY.cell 0).trans (show _ = some (.string y.cmd) from rfl)
    replace y1 := (hY.cell 1).trans (show _ = some (.string y.rep) from rfl)
    replace hM := hM.below hq4 hM.lt
    replace m0 := (hM.cell 0).trans (show _ = some (.string x.dur) from rfl)
    replace m1 := (hM.cell 1).trans (show _ = some (.string x.pen) from rfl)
    replace m2 := (hM.cell 2).trans (show _ = some (.int .i64 x.cnt) from rfl)
    have n0 := (hN.cell 0).trans (show _ = some (.string x.dur) from rfl)
    have n1 := (hN.cell 1).trans (show _ = some (.string x.pen) from rfl)
    have n2 := (hN.cell 2).trans (show _ = some (.int .i64 x.cnt) from rfl)
    have HT2 := Lib.hid HT
    have yhL := hL.lt
    have yhY := hY.lt
    have yhM := hM.lt
    have yhN := hN.lt
    clear l0 l1 l2
    have l0 := fun K : Kin wN.heap.size wN => ((hL.below K.below hL.lt).cell 0).trans (show _ = some (.string x.dur) from rfl)
    have l1 := fun K : Kin wN.heap.size wN => ((hL.below K.below hL.lt).cell 1).trans (show _ = some (.string x.pen) from rfl)
    have l2 := fun K : Kin wN.heap.size wN => ((hL.below K.below hL.lt).cell 2).trans (show _ = some (.int .i64 x.cnt) from rfl)
    clear y0 y1
    have y0 := fun K : Kin wN.heap.size wN => ((hY.below K.below hY.lt).cell 0).trans (show _ = some (.string y.cmd) from rfl)
    have y1 := fun K : Kin wN.heap.size wN => ((hY.below K.below hY.lt).cell 1).trans (show _ = some (.string y.rep) from rfl)
    clear m0 m1 m2
    have m0 := fun K : Kin wN.heap.size wN => ((hM.below K.below hM.lt).cell 0).trans (show _ = some (.string x.dur) from rfl)
    have m1 := fun K : Kin wN.heap.size wN => ((hM.below K.below hM.lt).cell 1).trans (show _ = some (.string x.pen) from rfl)
    have m2 := fun K : Kin wN.heap.size wN => ((hM.below K.below hM.lt).cell 2).trans (show _ = some (.int .i64 x.cnt) from rfl)
    clear n0 n1 n2
    have n0 := fun K : Kin wN.heap.size wN => ((hN.below K.below hN.lt).cell 0).trans (show _ = some (.string x.dur) from rfl)
    have n1 := fun K : Kin wN.heap.size wN => ((hN.below K.below hN.lt).cell 1).trans (show _ = some (.string x.pen) from rfl)
    have n2 := fun K : Kin wN.heap.size wN => ((hN.below K.below hN.lt).cell 2).trans (show _ = some (.int .i64 x.cnt) from rfl)
    refine wp_region_kin (by kernel_rfl) (by kernel_rfl) ?_
    repeat (go_big_quiet_step ((first | (go_at_call 23; exact Kin.call _ (by first | exact Nat.le_refl _ | omega) (validAny_is IV.out HT2.out _)) | (go_at_call 21; exact Kin.call _ (by first | exact Nat.le_refl _ | omega) (svAny_is SV.out _)) | (go_at_call 37; exact Kin.call _ (by first | exact Nat.le_refl _ | omega) (irAny_is IW.out _)) | (go_at_call 38; exact Kin.call _ (by first | exact Nat.le_refl _ | omega) (srAny_is SW.out _)))))
    refine wpQuiet_nil ?_
    intro K
    clear l0 l1 l2
    clear y0 y1
    clear m0 m1 m2
    clear n0 n1 n2
    have hq5 : Below wN.heap.size wN K.world := bth (by repeat (first | exact Below.refl _ _ | refine Below.alloc ?_ (by first | exact Nat.le_refl _ | (simp <;> omega)) _ | refine Below.setCell ?_ (by first | exact Nat.le_refl _ | (simp <;> omega)) _)) K.below
    replace HB := bth HB hq5
    replace HT := HT.below hq5
    replace hL := hL.below hq5 hL.lt
    have l0 := (hL.cell 0).trans (show _ = some (.string x.dur) from rfl)
    have l1 := (hL.cell 1).trans (show _ = some (.string x.pen) from rfl)
    have l2 := (hL.cell 2).trans (show _ = some (.int .i64 x.cnt) from rfl)
    replace hY := hY.below hq5 hY.lt
    have y0 := (hY.cell 0).trans (show _ = some (.string y.cmd) from rfl)
    have y1 := (hY.cell 1).trans (show _ = some (.string y.rep) from rfl)
    replace hM := hM.below hq5 hM.lt
    have m0 := (hM.cell 0).trans (show _ = some (.string x.dur) from rfl)
    have m1 := (hM.cell 1).trans (show _ = some (.string x.pen) from rfl)
    have m2 := (hM.cell 2).trans (show _ = some (.int .i64 x.cnt) from rfl)
    replace hN := hN.below hq5 hN.lt
    have n0 := (hN.cell 0).trans (show _ = some (.string x.dur) from rfl)
    have n1 := (hN.cell 1).trans (show _ = some (.string x.pen) from rfl)
    have n2 := (hN.cell 2).trans (show _ = some (.int .i64 x.cnt) from rfl)
    clear HT2
    have hco' : (co == 0) = false := beq_eq_false_iff_ne.2 hco
    have yhL := hL.lt
    have yhY := hY.lt
    have yhM := hM.lt
    have yhN := hN.lt
    go_wp2
    go_ret
    exact ⟨rfl, (by repeat (first | exact HB | exact Below.refl _ _ | refine Below.alloc ?_ (by first | exact Nat.le_refl _ | (have hsz := HB.size; simp; omega) | (simp <;> omega)) _ | refine Below.setCell ?_ (by first | exact Nat.le_refl _ | (simp <;> omega)) _))⟩
end Go.Proofs.YtpejnfhenpdobaaDoor
