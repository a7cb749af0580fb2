/- The walk of the law of recovery behind a crash. -/
import Derived.Test.YtpejnfhenpdobaaDoorCrP
import Derived.Test.YtpejnfhenpdobaaDoorCurD
import Derived.Test.YtpejnfhenpdobaaDoorMk
import Derived.Deep.Cut
namespace Go.Proofs.YtpejnfhenpdobaaDoor
open Go.RowKit Go.G9
theorem vBig_is (A : Option Addr) (c n : Nat) (v : Bool) (hv : decide (65536 < n) = v) (w : World) : Calls Tryd.prog 35 #[.slice A n c] w fun e w' => e = .returned (.bool v) ∧ w' = w := by
  subst hv
  go_enter Tryd.func35, Tryd.ntmps35
  go_wp2
  go_ret
  exact ⟨by first | rfl | (congr 2; simp; omega) | (refine ret_bool ?_; simp; omega), rfl⟩
theorem crT_no {x : LogT} {k : Int} {t : Bool} (h : crTB x k t = false) : crT x k t = ⟨#[]⟩ := by
  unfold crT
  rw [if_neg]
  unfold crTB at h
  rw [h]; simp
theorem recT_pen (s : ByteArray) : (recT s).pen = ⟨#[]⟩ := rfl
theorem pre_at {T : Type} {xs ys : List T} (h : xs <+: ys) {k : Nat} {x : T} (hx : xs[k]? = some x) : ys[k]? = some x := by
  obtain ⟨zs, rfl⟩ := h
  obtain ⟨h1, h2⟩ := List.getElem?_eq_some_iff.1 hx
  rw [List.getElem?_append_left h1]; exact hx
theorem validAny_is {u : Value} {b : Bool} {w0 : World} (h : ∀ W, Tab W → Calls Tryd.prog 23 #[u] W fun e w' => e = .returned (.bool b) ∧ Below W.heap.size W w') (hT : Tab w0) (K : Kin w0.heap.size w0) :
  Calls Tryd.prog 23 #[u] K.world fun e w' => e = .returned (.bool b) ∧ Below K.world.heap.size K.world w' := h _ (hT.below K.below)
set_option maxHeartbeats 4000000 in
set_option maxRecDepth 100000 in
theorem law_crashRecovery (A : Option Addr) (c : Nat) (cs : List UInt8) (w : World) (hR : Rds 1 u8C w A cs) (HT : Tab w) :
  Calls Tryd.prog 12 #[.slice A cs.length c] w fun e w' => e = .returned (.bool true) ∧ Below w.heap.size w w' := by
  cases hv : decide (65536 < cs.length)
  case true =>
    go_enter Tryd.func12, Tryd.ntmps12
    go_wp2_with fail
    refine (vBig_is A c cs.length _ hv _).mono ?_
    rintro e _ ⟨rfl, rfl⟩
    go_wp2
    go_ret
    exact ⟨rfl, (by repeat (first | exact Below.refl _ _ | refine Below.alloc ?_ (by first | exact Nat.le_refl _ | (simp <;> omega)) _ | refine Below.setCell ?_ (by first | exact Nat.le_refl _ | (simp <;> omega)) _))⟩
  have hcs : cs.length ≤ 1048576 := by have := of_decide_eq_false hv; omega
  go_enter Tryd.func12, Tryd.ntmps12
  go_wp2_with fail
  refine (vBig_is A c cs.length _ hv _).mono ?_
  rintro e w0 ⟨rfl, h0⟩
  rw [h0]
  clear h0 w0
  go_wp2_with fail
  refine (drawCrashLog_is A c cs hcs _ (hR.below (by repeat (first | exact Below.refl _ _ | refine Below.alloc ?_ (by first | exact Nat.le_refl _ | (simp <;> omega)) _ | refine Below.setCell ?_ (by first | exact Nat.le_refl _ | (simp <;> omega)) _)))).mono ?_
  rintro e w1 ⟨x, k, t, rfl, hx, ⟨hk0, hk1⟩, hb1⟩
  have hq1 : Below w.heap.size w w1 := bth (by repeat (first | exact Below.refl _ _ | refine Below.alloc ?_ (by first | exact Nat.le_refl _ | (simp <;> omega)) _ | refine Below.setCell ?_ (by first | exact Nat.le_refl _ | (simp <;> omega)) _)) hb1
  have HB : Below w.heap.size w w1 := hq1
  replace HT := HT.below hq1
  have hx' : x.dur.size + x.pen.size ≤ 1048576 := by omega
  have iC := iCrashLogR_is x hx' k t
  have sC := sCrashLogR_is x hx' k t
  cases hok : crTB x k t
  · rw [hok, crT_no hok] at iC sC
    have IC := Lib.hid iC; have SC := Lib.hid sC; clear iC sC hok hx hk0 hk1
    go_wp2_with fail
    refine (IC.out _ (HT.below (by repeat (first | exact Below.refl _ _ | refine Below.alloc ?_ (by first | exact Nat.le_refl _ | (simp <;> omega)) _ | refine Below.setCell ?_ (by first | exact Nat.le_refl _ | (simp <;> omega)) _)))).mono ?_
    rintro e w2 ⟨rfl, hb2⟩
    have hq2 : Below w1.heap.size w1 w2 := bth (by repeat (first | exact Below.refl _ _ | refine Below.alloc ?_ (by first | exact Nat.le_refl _ | (simp <;> omega)) _ | refine Below.setCell ?_ (by first | exact Nat.le_refl _ | (simp <;> omega)) _)) hb2
    replace HB := bth HB hq2
    replace HT := HT.below hq2
    have hL : Blk w2 (w1.heap.size) 31 #[.string x.dur, .string x.pen, .int .i64 x.cnt] := Blk.below (by repeat (first | exact Blk.new _ _ _ | exact Blk.new2 _ _ _ _ | exact Blk.new3 _ _ _ _ _ | exact Blk.new4 _ _ _ _ _ _ | refine Blk.alloc ?_ _)) hb2 (by simp <;> omega)
    have l0 := (hL.cell 0).trans (show _ = some (.string x.dur) from rfl)
    have l1 := (hL.cell 1).trans (show _ = some (.string x.pen) from rfl)
    have l2 := (hL.cell 2).trans (show _ = some (.int .i64 x.cnt) from rfl)
    go_wp2_with fail
    refine (SC.out _).mono ?_
    rintro e w3 ⟨rfl, hb3⟩
    have hq3 : Below w2.heap.size w2 w3 := bth (by repeat (first | exact Below.refl _ _ | refine Below.alloc ?_ (by first | exact Nat.le_refl _ | (simp <;> omega)) _ | refine Below.setCell ?_ (by first | exact Nat.le_refl _ | (simp <;> omega)) _)) hb3
    replace HB := bth HB hq3
    replace HT := HT.below hq3
    replace hL := hL.below hq3 hL.lt
    replace l0 := (hL.cell 0).trans (show _ = some (.string x.dur) from rfl)
    replace l1 := (hL.cell 1).trans (show _ = some (.string x.pen) from rfl)
    replace l2 := (hL.cell 2).trans (show _ = some (.int .i64 x.cnt) from rfl)
    go_wp2
    go_ret
    exact ⟨rfl, (by repeat (first | exact HB | exact Below.refl _ _ | refine Below.alloc ?_ (by first | exact Nat.le_refl _ | (have hsz := HB.size; simp; omega) | (simp <;> omega)) _ | refine Below.setCell ?_ (by first | exact Nat.le_refl _ | (simp <;> omega)) _))⟩
  · obtain ⟨f1, f2, f3, f4, f5, f6, f7, f8⟩ := crash_law x k t hok
    have hn1 := lrT_len x
    rw [hok] at iC sC
    generalize crT x k t = s at *
    have hs0 : s.size ≤ 30000 := by
      have h1 : s.data.toList.length ≤ 30000 := by unfold recTB at f1; exact of_decide_eq_true f1
      rw [Array.length_toList] at h1; exact h1
    have hs : s.size ≤ 1048576 := by omega
    have hm : (recT s).dur.size + (recT s).pen.size ≤ 1048576 := by
      rw [f8, recT_pen, ByteArray.size_extract]
      show _ + 0 ≤ _
      omega
    have iR := iRecoverLogR_is s hs
    have iA := iLogRecordsR_is (recT s) hm
    have iB := sLogRecordsR_is x hx'
    have iV := iIsValidLogT_is (recT s) hm
    rw [f1] at iR
    rw [f5] at iA iV
    rw [f6] at iB
    have e9 : (recT s).pen = ⟨#[]⟩ := rfl
    rw [e9, f8] at iR iA iV
    have hn2 := lrT_len (recT s)
    generalize (recT s).cnt = mc at *
    generalize recTE s = en at *
    obtain ⟨ys, has⟩ : ∃ ys, ys = lrT (recT s) := ⟨_, rfl⟩
    obtain ⟨zs, hbs⟩ : ∃ zs, zs = lrT x := ⟨_, rfl⟩
    rw [← has] at iA f7 hn2
    rw [← hbs] at iB f7 hn1
    have hlen : ys.length ≤ zs.length := f7.length_le
    have IC := Lib.hid iC; have SC := Lib.hid sC; have IR := Lib.hid iR; have IA := Lib.hid iA; have IB := Lib.hid iB; have IV := Lib.hid iV; have F7 := Lib.hid f7
    clear iC sC iR iA iB iV f7 f8 hok hx hm f1 f5 f6 e9 has hbs
    go_wp2_with fail
    refine (IC.out _ (HT.below (by repeat (first | exact Below.refl _ _ | refine Below.alloc ?_ (by first | exact Nat.le_refl _ | (simp <;> omega)) _ | refine Below.setCell ?_ (by first | exact Nat.le_refl _ | (simp <;> omega)) _)))).mono ?_
    rintro e w2 ⟨rfl, hb2⟩
    have hq2 : Below w1.heap.size w1 w2 := bth (by repeat (first | exact Below.refl _ _ | refine Below.alloc ?_ (by first | exact Nat.le_refl _ | (simp <;> omega)) _ | refine Below.setCell ?_ (by first | exact Nat.le_refl _ | (simp <;> omega)) _)) hb2
    replace HB := bth HB hq2
    replace HT := HT.below hq2
    have hL : Blk w2 (w1.heap.size) 31 #[.string x.dur, .string x.pen, .int .i64 x.cnt] := Blk.below (by repeat (first | exact Blk.new _ _ _ | exact Blk.new2 _ _ _ _ | exact Blk.new3 _ _ _ _ _ | exact Blk.new4 _ _ _ _ _ _ | refine Blk.alloc ?_ _)) hb2 (by simp <;> omega)
    have l0 := (hL.cell 0).trans (show _ = some (.string x.dur) from rfl)
    have l1 := (hL.cell 1).trans (show _ = some (.string x.pen) from rfl)
    have l2 := (hL.cell 2).trans (show _ = some (.int .i64 x.cnt) from rfl)
    go_wp2_with fail
    refine (SC.out _).mono ?_
    rintro e w3 ⟨rfl, hb3⟩
    have hq3 : Below w2.heap.size w2 w3 := bth (by repeat (first | exact Below.refl _ _ | refine Below.alloc ?_ (by first | exact Nat.le_refl _ | (simp <;> omega)) _ | refine Below.setCell ?_ (by first | exact Nat.le_refl _ | (simp <;> omega)) _)) hb3
    replace HB := bth HB hq3
    replace HT := HT.below hq3
    replace hL := hL.below hq3 hL.lt
    replace l0 := (hL.cell 0).trans (show _ = some (.string x.dur) from rfl)
    replace l1 := (hL.cell 1).trans (show _ = some (.string x.pen) from rfl)
    replace l2 := (hL.cell 2).trans (show _ = some (.int .i64 x.cnt) from rfl)
    go_wp2_with fail
    refine (IR.out _ (HT.below (by repeat (first | exact Below.refl _ _ | refine Below.alloc ?_ (by first | exact Nat.le_refl _ | (simp <;> omega)) _ | refine Below.setCell ?_ (by first | exact Nat.le_refl _ | (simp <;> omega)) _)))).mono ?_
    rintro e w4 ⟨rfl, hb4⟩
    have hq4 : Below w3.heap.size w3 w4 := bth (by repeat (first | exact Below.refl _ _ | refine Below.alloc ?_ (by first | exact Nat.le_refl _ | (simp <;> omega)) _ | refine Below.setCell ?_ (by first | exact Nat.le_refl _ | (simp <;> omega)) _)) hb4
    replace HB := bth HB hq4
    replace HT := HT.below hq4
    replace hL := hL.below hq4 hL.lt
    replace l0 := (hL.cell 0).trans (show _ = some (.string x.dur) from rfl)
    replace l1 := (hL.cell 1).trans (show _ = some (.string x.pen) from rfl)
    replace l2 := (hL.cell 2).trans (show _ = some (.int .i64 x.cnt) from rfl)
    go_wp2_with fail
    refine (IA.out _ (HT.below (by repeat (first | exact Below.refl _ _ | refine Below.alloc ?_ (by first | exact Nat.le_refl _ | (simp <;> omega)) _ | refine Below.setCell ?_ (by first | exact Nat.le_refl _ | (simp <;> omega)) _)))).mono ?_
    rintro e w5 ⟨A1, c1, rfl, O1, hb5⟩
    have hq5 : Below w4.heap.size w4 w5 := bth (by repeat (first | exact Below.refl _ _ | refine Below.alloc ?_ (by first | exact Nat.le_refl _ | (simp <;> omega)) _ | refine Below.setCell ?_ (by first | exact Nat.le_refl _ | (simp <;> omega)) _)) hb5
    replace HB := bth HB hq5
    replace HT := HT.below hq5
    replace hL := hL.below hq5 hL.lt
    replace l0 := (hL.cell 0).trans (show _ = some (.string x.dur) from rfl)
    replace l1 := (hL.cell 1).trans (show _ = some (.string x.pen) from rfl)
    replace l2 := (hL.cell 2).trans (show _ = some (.int .i64 x.cnt) from rfl)
    have hM : Blk w5 (w4.heap.size) 31 #[.string (s.extract 0 en.toNat), .string ⟨#[]⟩, .int .i64 mc] := Blk.below (by repeat (first | exact Blk.new _ _ _ | exact Blk.new2 _ _ _ _ | exact Blk.new3 _ _ _ _ _ | exact Blk.new4 _ _ _ _ _ _ | refine Blk.alloc ?_ _)) hb5 (by simp <;> omega)
    have m0 := (hM.cell 0).trans (show _ = some (.string (s.extract 0 en.toNat)) from rfl)
    have m1 := (hM.cell 1).trans (show _ = some (.string ⟨#[]⟩) from rfl)
    have m2 := (hM.cell 2).trans (show _ = some (.int .i64 mc) from rfl)
    go_wp2_with fail
    refine (IB.out _).mono ?_
    rintro e w6 ⟨A2, c2, rfl, O2, hb6⟩
    have hq6 : Below w5.heap.size w5 w6 := bth (by repeat (first | exact Below.refl _ _ | refine Below.alloc ?_ (by first | exact Nat.le_refl _ | (simp <;> omega)) _ | refine Below.setCell ?_ (by first | exact Nat.le_refl _ | (simp <;> omega)) _)) hb6
    replace HB := bth HB hq6
    replace HT := HT.below hq6
    replace O1 := O1.later hq6
    replace hL := hL.below hq6 hL.lt
    replace l0 := (hL.cell 0).trans (show _ = some (.string x.dur) from rfl)
    replace l1 := (hL.cell 1).trans (show _ = some (.string x.pen) from rfl)
    replace l2 := (hL.cell 2).trans (show _ = some (.int .i64 x.cnt) from rfl)
    replace hM := hM.below hq6 hM.lt
    replace m0 := (hM.cell 0).trans (show _ = some (.string (s.extract 0 en.toNat)) from rfl)
    replace m1 := (hM.cell 1).trans (show _ = some (.string ⟨#[]⟩) from rfl)
    replace m2 := (hM.cell 2).trans (show _ = some (.int .i64 mc) from rfl)
    have R1 := O1.rds (hf := LRec.cells_len)
    have R2 := O2.rds (hf := LRec.cells_len)
    have HT2 := Lib.hid HT; clear HT
    have e1 : decide ((s.size : Int) < en) = false := by simp; omega
    have e2 : decide (en < (x.dur.size : Int)) = false := by simp; omega
    have e3 : decide (zs.length < ys.length) = false := by simp; omega
    go_wp2
    clear e1 e2 e3
    go_loopw [2, 17] (fun _ i wr => ∃ k : Nat, k ≤ ys.length ∧ i = .int .i64 k ∧ Below w6.heap.size w6 wr) (fun _ i _ => ys.length - (intOf i).toNat)
    case atStart => exact ⟨0, Nat.zero_le _, rfl, Below.refl _ _⟩
    case round =>
      obtain ⟨k, hk, rfl, hb⟩ := hrel
      clear l0 l1 l2 m0 m1 m2
      by_cases hlt : k < ys.length
      · obtain ⟨b1, o1, y, rfl, hbl1, hy, hcy⟩ := R1.at_ hb hlt
        obtain ⟨b2, o2, z, rfl, hbl2, hz, hcz⟩ := R2.at_ hb (k := k) (by omega)
        have e := pre_at F7.out hy
        rw [hz] at e
        obtain rfl := Option.some.inj e
        obtain ⟨yc, yr⟩ := z
        have f0 := hcy 0 _ rfl
        have f1 := hcy 1 _ rfl
        simp only [Nat.add_zero] at f0
        have g0 := hcz 0 _ rfl
        have g1 := hcz 1 _ rfl
        simp only [Nat.add_zero] at g0
        clear hy hcy hz hcz e
        go_wp2
        refine wp_region_kin (by kernel_rfl) (by kernel_rfl) ?_
        repeat (go_big_quiet_step ((fail)))
        refine wpQuiet_nil ?_
        intro K
        go_wp2
        go_roundw
        case rel => exact ⟨k + 1, by omega, by go_num, bth hb K.below⟩
        case measure => simp [intOf]; omega
      · obtain rfl : k = ys.length := by omega
        have hM2 := hM.below hb hM.lt
        have HT3 := Lib.hid (HT2.out.below hb)
        have m0 := fun K : Kin wr.heap.size wr => ((hM2.below K.below hM2.lt).cell 0).trans (show _ = some (.string (s.extract 0 en.toNat)) from rfl)
        have m1 := fun K : Kin wr.heap.size wr => ((hM2.below K.below hM2.lt).cell 1).trans (show _ = some (.string ⟨#[]⟩) from rfl)
        have m2 := fun K : Kin wr.heap.size wr => ((hM2.below K.below hM2.lt).cell 2).trans (show _ = some (.int .i64 mc) from rfl)
        go_wp2
        refine wp_region_kin (by kernel_rfl) (by kernel_rfl) ?_
        repeat (go_big_quiet_step ((first | (go_at_call 23; exact Kin.call _ (by first | exact Nat.le_refl _ | omega) (validAny_is IV.out HT3.out _)))))
        refine wpQuiet_nil ?_
        intro K
        go_wp2
        go_ret
        exact ⟨rfl, bth (bth HB hb) K.below⟩
end Go.Proofs.YtpejnfhenpdobaaDoor
