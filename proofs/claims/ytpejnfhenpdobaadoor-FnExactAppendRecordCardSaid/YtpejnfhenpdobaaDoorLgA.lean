/- The walk of the law of AppendRecord: the program's answer is the reference's. -/
import Derived.Test.YtpejnfhenpdobaaDoorLogU
import Derived.Test.YtpejnfhenpdobaaDoorLg
import Derived.Test.YtpejnfhenpdobaaDoorMkr
import Derived.Deep.RegionHeld3
namespace Go.Proofs.YtpejnfhenpdobaaDoor
open Go.RowKit Go.G9
def apS (x : LogT) (y : LRec) : MkSpec Nat where
  par := fun n => match n with | _ => []
  val := fun n g => match n with
    | 1 => .agg #[.string x.dur, .string x.pen, .int .i64 x.cnt]
    | 3 => .agg #[.string y.cmd, .string y.rep]
    | 4 => .tuple #[.agg #[.string (apT x y).dur, .string (apT x y).pen, .int .i64 (apT x y).cnt], .int .i64 (apTC x y)]
    | 8 => .pointer (some ⟨g, 0, none⟩)
    | _ => undef
  post := fun n _ g V0 V => match n with
    | 8 => V0.heap.size = g ∧ Blk V g 31 #[.string ⟨#[]⟩, .string ⟨#[]⟩, .int .i64 0]
    | _ => True
set_option maxHeartbeats 8000000 in
set_option maxRecDepth 100000 in
theorem law_appendRecord (x : LogT) (hx_s0 : x.dur.size ≤ maxLen) (hx_s1 : x.pen.size ≤ maxLen) (y : LRec) (hy_s0 : y.cmd.size ≤ maxLen) (hy_s1 : y.rep.size ≤ maxLen) (w : World) (HT : Tab w) :
  Calls Tryd.prog 8 #[.agg #[.string x.dur, .string x.pen, .int .i64 x.cnt], .agg #[.string y.cmd, .string y.rep]] w fun e w' => e = .returned (.bool true) ∧ Below w.heap.size w w' := by
  go_enter Tryd.func8, Tryd.ntmps8
  go_wp2_with fail
  refine (szLog_is x hx_s0 hx_s1 1048576 (by omega) (by omega) _).mono ?_
  rintro e w1 ⟨r0, rfl, hr0, hs0, hl0, hb1⟩
  have hq1 : Below w.heap.size w w1 := bth (by repeat (first | exact Below.refl _ _ | refine Below.alloc ?_ (by first | exact Nat.le_refl _ | (simp <;> omega)) _ | refine Below.setCell ?_ (by first | exact Nat.le_refl _ | (simp <;> omega)) _)) hb1
  have z1 := hq1.size
  have HB : Below w.heap.size w w1 := hq1
  have X1 : Blk w1 (w.heap.size) 36 #[.string x.dur, .string x.pen, .int .i64 x.cnt] := Blk.below (by repeat (first | exact Blk.new _ _ _ | exact Blk.new2 _ _ _ _ | refine Blk.alloc ?_ _)) hb1 (by simp <;> omega)
  have yX1 := X1.lt
  have X2 : Blk w1 (w.heap.size + 1) 23 #[.string y.cmd, .string y.rep] := Blk.below (by repeat (first | exact Blk.new _ _ _ | exact Blk.new2 _ _ _ _ | refine Blk.alloc ?_ _)) hb1 (by simp <;> omega)
  have yX2 := X2.lt
  have X1_0 := (X1.cell 0).trans (show _ = some (.string x.dur) from rfl)
  have X1_1 := (X1.cell 1).trans (show _ = some (.string x.pen) from rfl)
  have X1_2 := (X1.cell 2).trans (show _ = some (.int .i64 x.cnt) from rfl)
  have X2_0 := (X2.cell 0).trans (show _ = some (.string y.cmd) from rfl)
  have X2_1 := (X2.cell 1).trans (show _ = some (.string y.rep) from rfl)
  by_cases h00 : r0 < 0
  · go_wp2
    go_ret
    exact ⟨rfl, bth HB (by repeat (first | exact Below.refl _ _ | refine Below.alloc ?_ (by first | exact Nat.le_refl _ | (simp <;> omega)) _ | refine Below.setCell ?_ (by first | exact Nat.le_refl _ | (simp <;> omega)) _))⟩
  clear X1_0 X1_1 X1_2
  clear X2_0 X2_1
  have hx_t0 : x.dur.size + x.pen.size ≤ 1048576 := by omega
  clear hl0
  have X1_0 := (X1.cell 0).trans (show _ = some (.string x.dur) from rfl)
  have X1_1 := (X1.cell 1).trans (show _ = some (.string x.pen) from rfl)
  have X1_2 := (X1.cell 2).trans (show _ = some (.int .i64 x.cnt) from rfl)
  have X2_0 := (X2.cell 0).trans (show _ = some (.string y.cmd) from rfl)
  have X2_1 := (X2.cell 1).trans (show _ = some (.string y.rep) from rfl)
  go_wp2_with fail
  refine (szLogRecordR_is y hy_s0 hy_s1 r0 (by omega) (by omega) _).mono ?_
  rintro e w2 ⟨r1, rfl, hr1, hs1, hl1, hb2⟩
  clear X1_0 X1_1 X1_2
  clear X2_0 X2_1
  have hq2 : Below w1.heap.size w1 w2 := bth (by repeat (first | exact Below.refl _ _ | refine Below.alloc ?_ (by first | exact Nat.le_refl _ | (simp <;> omega)) _ | refine Below.setCell ?_ (by first | exact Nat.le_refl _ | (simp <;> omega)) _)) hb2
  have z2 := hq2.size
  replace HB := bth HB hq2
  replace X1 := X1.below hq2 X1.lt
  replace X2 := X2.below hq2 X2.lt
  have X1_0 := (X1.cell 0).trans (show _ = some (.string x.dur) from rfl)
  have X1_1 := (X1.cell 1).trans (show _ = some (.string x.pen) from rfl)
  have X1_2 := (X1.cell 2).trans (show _ = some (.int .i64 x.cnt) from rfl)
  have X2_0 := (X2.cell 0).trans (show _ = some (.string y.cmd) from rfl)
  have X2_1 := (X2.cell 1).trans (show _ = some (.string y.rep) from rfl)
  by_cases h01 : r1 < 0
  · go_wp2
    go_ret
    exact ⟨rfl, bth HB (by repeat (first | exact Below.refl _ _ | refine Below.alloc ?_ (by first | exact Nat.le_refl _ | (simp <;> omega)) _ | refine Below.setCell ?_ (by first | exact Nat.le_refl _ | (simp <;> omega)) _))⟩
  clear X1_0 X1_1 X1_2
  clear X2_0 X2_1
  have hy_t0 : y.cmd.size ≤ 1048576 := by omega
  have hy_t1 : y.rep.size ≤ 1048576 := by omega
  clear hl1
  have X1_0 := (X1.cell 0).trans (show _ = some (.string x.dur) from rfl)
  have X1_1 := (X1.cell 1).trans (show _ = some (.string x.pen) from rfl)
  have X1_2 := (X1.cell 2).trans (show _ = some (.int .i64 x.cnt) from rfl)
  have X2_0 := (X2.cell 0).trans (show _ = some (.string y.cmd) from rfl)
  have X2_1 := (X2.cell 1).trans (show _ = some (.string y.rep) from rfl)
  clear X1_0 X1_1 X1_2
  clear X2_0 X2_1
  have X1_0 := fun K : Hld (fun W => Below w2.heap.size w2 W) => ((X1.below K.holds X1.lt).cell 0).trans (show _ = some (.string x.dur) from rfl)
  have X1_1 := fun K : Hld (fun W => Below w2.heap.size w2 W) => ((X1.below K.holds X1.lt).cell 1).trans (show _ = some (.string x.pen) from rfl)
  have X1_2 := fun K : Hld (fun W => Below w2.heap.size w2 W) => ((X1.below K.holds X1.lt).cell 2).trans (show _ = some (.int .i64 x.cnt) from rfl)
  have X2_0 := fun K : Hld (fun W => Below w2.heap.size w2 W) => ((X2.below K.holds X2.lt).cell 0).trans (show _ = some (.string y.cmd) from rfl)
  have X2_1 := fun K : Hld (fun W => Below w2.heap.size w2 W) => ((X2.below K.holds X2.lt).cell 1).trans (show _ = some (.string y.rep) from rfl)
  go_wp2
  haveI : Nonempty (Hld (fun W => Below w2.heap.size w2 W)) := ⟨⟨w2, Below.refl _ _⟩⟩
  refine wp_region_mk (apS x y) (fun W => Below w2.heap.size w2 W) [([0], 1), ([2], 3), ([], 4), ([5, 6, 7], 8)] [] [([], 9)] [10] (by kernel_rfl) (by kernel_rfl) (Below.refl _ _).drew (fun W W' h k => h.trans (k.mono h.size)) ?_
  intro σ
  refine wpMk1_cons (some 22) rfl (.agg #[.string x.dur, .string x.pen, .int .i64 x.cnt]) rfl fun K1 hK1 => ?_
  change wpQuiet _ _ _ _ (_ :: []) _
  repeat (go_big_quiet_step (fail))
  refine wpQuiet_nil ?_
  refine ⟨fun k _ => ?_, hK1 _ ?_⟩
  · change wpList _ _ _ (_ :: []) _ _
    go_wp2_with fail
    refine (toLog_is x hx_t0 _).mono ?_
    rintro e w9 ⟨rfl, hb9⟩
    go_wp2
    exact Nrm_mk ⟨0, rfl, hb9, trivial⟩
  simp only [Act.put]
  go_simp
  refine wpMk1_cons (some 24) rfl (.agg #[.string y.cmd, .string y.rep]) rfl fun K1 hK1 => ?_
  change wpQuiet _ _ _ _ (_ :: []) _
  repeat (go_big_quiet_step (fail))
  refine wpQuiet_nil ?_
  refine ⟨fun k _ => ?_, hK1 _ ?_⟩
  · change wpList _ _ _ (_ :: []) _ _
    go_wp2_with fail
    refine (toLogRecordR_is y hy_t0 hy_t1 _).mono ?_
    rintro e w9 ⟨rfl, hb9⟩
    go_wp2
    exact Nrm_mk ⟨0, rfl, hb9, trivial⟩
  simp only [Act.put]
  go_simp
  refine wpMk1_cons (some 25) rfl (.tuple #[.agg #[.string (apT x y).dur, .string (apT x y).pen, .int .i64 (apT x y).cnt], .int .i64 (apTC x y)]) rfl fun K1 hK1 => ?_
  change wpQuiet _ _ _ _ ([]) _
  refine wpQuiet_nil ?_
  refine ⟨fun k _ => ?_, hK1 _ ?_⟩
  · change wpList _ _ _ (_ :: []) _ _
    go_wp2_with fail
    refine (sAppendRecordR_is x hx_t0 y hy_t0 hy_t1 _).mono ?_
    rintro e w9 ⟨rfl, hb9⟩
    go_wp2
    exact Nrm_mk ⟨0, rfl, hb9, trivial⟩
  simp only [Act.put]
  go_simp
  refine wpMk1_cons (some 6) rfl (.pointer (some ⟨σ 8, 0, none⟩)) rfl fun K1 hK1 => ?_
  change wpQuiet _ _ _ _ (_ :: _ :: _ :: []) _
  repeat (go_big_quiet_step (fail))
  refine wpQuiet_nil ?_
  refine ⟨fun k _ => ?_, hK1 _ ?_⟩
  · change wpList _ _ _ (_ :: []) _ _
    go_wp2
    exact Nrm_mk ⟨k.world.heap.size, rfl, bl1 _ _, rfl, Blk.new _ _ _⟩
  simp only [Act.put]
  go_simp
  refine wpMk1_last ?_
  change wpQuiet _ _ _ _ ([]) _
  refine wpQuiet_nil ?_
  intro V0 V W hM hW
  obtain ⟨hg8, hp8⟩ := hM.post 8 (by simp)
  have hl8 := hM.later 8 (by simp)
  have hG := hp8.below hl8 hp8.lt
  have hge := (hM.from0 8 (by simp)).size
  rw [hg8] at hge
  clear hM hp8 hl8 hg8
  generalize σ 8 = g8 at *
  refine wpMix_cons fun K2 hK2 => ?_
  change wpQuiet _ _ _ _ [] _
  refine wpQuiet_nil ?_
  change wpList _ _ _ (_ :: []) _ _
  have y0 := hG.frozen 0
  have y1 := hG.frozen 1
  have y2 := hG.frozen 2
  have g0 := (hG.cell 0).trans (show _ = some (.string ⟨#[]⟩) from rfl)
  have g1 := (hG.cell 1).trans (show _ = some (.string ⟨#[]⟩) from rfl)
  have g2 := (hG.cell 2).trans (show _ = some (.int .i64 0) from rfl)
  have yg := hG.lt
  clear X1_0 X1_1 X1_2
  clear X2_0 X2_1
  go_wp2
  have hWn : Below w2.heap.size w2 _ := ((hW.setCell hge (.string (apT x y).dur) (p := ⟨g8, 0, none⟩)).setCell hge (.string (apT x y).pen) (p := ⟨g8, 1, none⟩)).setCell hge (.int .i64 (apT x y).cnt) (p := ⟨g8, 2, none⟩)
  refine Nrm_intro hWn (hK2 _ _ ?_)
  have Hg8 : Blk (World.setCell (World.setCell (World.setCell W ⟨g8, 0, none⟩ (.string (apT x y).dur)) ⟨g8, 1, none⟩ (.string (apT x y).pen)) ⟨g8, 2, none⟩ (.int .i64 (apT x y).cnt)) g8 31 #[.string (apT x y).dur, .string (apT x y).pen, .int .i64 (apT x y).cnt] := ((hG.set_ 0 (.string (apT x y).dur)).set_ 1 (.string (apT x y).pen)).set_ 2 (.int .i64 (apT x y).cnt)
  clear y0 y1 y2 g0 g1 g2 hG hW yg
  generalize World.setCell (World.setCell (World.setCell W ⟨g8, 0, none⟩ (.string (apT x y).dur)) ⟨g8, 1, none⟩ (.string (apT x y).pen)) ⟨g8, 2, none⟩ (.int .i64 (apT x y).cnt) = w3 at *
  refine wpMix_last ?_
  change wpQuiet _ _ _ _ (_ :: []) _
  repeat (go_big_quiet_step (fail))
  refine wpQuiet_nil ?_
  have hgw3 := hge
  clear hge
  replace HB := bth HB hWn
  have zzw3 := hWn.size
  replace X1 := X1.below hWn X1.lt
  replace X2 := X2.below hWn X2.lt
  clear hWn
  have X1_0 := fun K : Hld (fun W => Below w3.heap.size w3 W) => ((X1.below K.holds X1.lt).cell 0).trans (show _ = some (.string x.dur) from rfl)
  have X1_1 := fun K : Hld (fun W => Below w3.heap.size w3 W) => ((X1.below K.holds X1.lt).cell 1).trans (show _ = some (.string x.pen) from rfl)
  have X1_2 := fun K : Hld (fun W => Below w3.heap.size w3 W) => ((X1.below K.holds X1.lt).cell 2).trans (show _ = some (.int .i64 x.cnt) from rfl)
  have X2_0 := fun K : Hld (fun W => Below w3.heap.size w3 W) => ((X2.below K.holds X2.lt).cell 0).trans (show _ = some (.string y.cmd) from rfl)
  have X2_1 := fun K : Hld (fun W => Below w3.heap.size w3 W) => ((X2.below K.holds X2.lt).cell 1).trans (show _ = some (.string y.rep) from rfl)
  have Hg8_0 := fun K : Hld (fun W => Below w3.heap.size w3 W) => ((Hg8.below K.holds Hg8.lt).cell 0).trans (show _ = some (.string (apT x y).dur) from rfl)
  have Hg8_1 := fun K : Hld (fun W => Below w3.heap.size w3 W) => ((Hg8.below K.holds Hg8.lt).cell 1).trans (show _ = some (.string (apT x y).pen) from rfl)
  have Hg8_2 := fun K : Hld (fun W => Below w3.heap.size w3 W) => ((Hg8.below K.holds Hg8.lt).cell 2).trans (show _ = some (.int .i64 (apT x y).cnt) from rfl)
  go_wp2
  haveI : Nonempty (Hld (fun W => Below w3.heap.size w3 W)) := ⟨⟨w3, Below.refl _ _⟩⟩
  refine wp_region_mk (apS x y) (fun W => Below w3.heap.size w3 W) [([0], 1), ([2], 3), ([], 4), ([5, 6, 7], 8)] [] [([], 9)] [10] (by kernel_rfl) (by kernel_rfl) (Below.refl _ _).drew (fun W W' h k => h.trans (k.mono h.size)) ?_
  intro σ
  refine wpMk1_cons (some 30) rfl (.agg #[.string x.dur, .string x.pen, .int .i64 x.cnt]) rfl fun K1 hK1 => ?_
  change wpQuiet _ _ _ _ (_ :: []) _
  repeat (go_big_quiet_step (fail))
  refine wpQuiet_nil ?_
  refine ⟨fun k _ => ?_, hK1 _ ?_⟩
  · change wpList _ _ _ (_ :: []) _ _
    go_wp2_with fail
    refine (toLog_is x hx_t0 _).mono ?_
    rintro e w9 ⟨rfl, hb9⟩
    go_wp2
    exact Nrm_mk ⟨0, rfl, hb9, trivial⟩
  simp only [Act.put]
  go_simp
  refine wpMk1_cons (some 32) rfl (.agg #[.string y.cmd, .string y.rep]) rfl fun K1 hK1 => ?_
  change wpQuiet _ _ _ _ (_ :: []) _
  repeat (go_big_quiet_step (fail))
  refine wpQuiet_nil ?_
  refine ⟨fun k _ => ?_, hK1 _ ?_⟩
  · change wpList _ _ _ (_ :: []) _ _
    go_wp2_with fail
    refine (toLogRecordR_is y hy_t0 hy_t1 _).mono ?_
    rintro e w9 ⟨rfl, hb9⟩
    go_wp2
    exact Nrm_mk ⟨0, rfl, hb9, trivial⟩
  simp only [Act.put]
  go_simp
  refine wpMk1_cons (some 33) rfl (.tuple #[.agg #[.string (apT x y).dur, .string (apT x y).pen, .int .i64 (apT x y).cnt], .int .i64 (apTC x y)]) rfl fun K1 hK1 => ?_
  change wpQuiet _ _ _ _ ([]) _
  refine wpQuiet_nil ?_
  refine ⟨fun k _ => ?_, hK1 _ ?_⟩
  · change wpList _ _ _ (_ :: []) _ _
    go_wp2_with fail
    refine (iAppendRecordR_is x hx_t0 y hy_t0 hy_t1 _ (HT.below (bth (bth HB k.holds) (Below.refl _ _)))).mono ?_
    rintro e w9 ⟨rfl, hb9⟩
    go_wp2
    exact Nrm_mk ⟨0, rfl, hb9, trivial⟩
  simp only [Act.put]
  go_simp
  refine wpMk1_cons (some 8) rfl (.pointer (some ⟨σ 8, 0, none⟩)) rfl fun K1 hK1 => ?_
  change wpQuiet _ _ _ _ (_ :: _ :: _ :: []) _
  repeat (go_big_quiet_step (fail))
  refine wpQuiet_nil ?_
  refine ⟨fun k _ => ?_, hK1 _ ?_⟩
  · change wpList _ _ _ (_ :: []) _ _
    go_wp2
    exact Nrm_mk ⟨k.world.heap.size, rfl, bl1 _ _, rfl, Blk.new _ _ _⟩
  simp only [Act.put]
  go_simp
  refine wpMk1_last ?_
  change wpQuiet _ _ _ _ ([]) _
  refine wpQuiet_nil ?_
  intro V0 V W hM hW
  obtain ⟨hg8, hp8⟩ := hM.post 8 (by simp)
  have hl8 := hM.later 8 (by simp)
  have hG := hp8.below hl8 hp8.lt
  have hge := (hM.from0 8 (by simp)).size
  rw [hg8] at hge
  clear hM hp8 hl8 hg8
  generalize σ 8 = g9 at *
  refine wpMix_cons fun K2 hK2 => ?_
  change wpQuiet _ _ _ _ [] _
  refine wpQuiet_nil ?_
  change wpList _ _ _ (_ :: []) _ _
  have y0 := hG.frozen 0
  have y1 := hG.frozen 1
  have y2 := hG.frozen 2
  have g0 := (hG.cell 0).trans (show _ = some (.string ⟨#[]⟩) from rfl)
  have g1 := (hG.cell 1).trans (show _ = some (.string ⟨#[]⟩) from rfl)
  have g2 := (hG.cell 2).trans (show _ = some (.int .i64 0) from rfl)
  have yg := hG.lt
  clear X1_0 X1_1 X1_2
  clear X2_0 X2_1
  clear Hg8_0 Hg8_1 Hg8_2
  go_wp2
  have hWn : Below w3.heap.size w3 _ := ((hW.setCell hge (.string (apT x y).dur) (p := ⟨g9, 0, none⟩)).setCell hge (.string (apT x y).pen) (p := ⟨g9, 1, none⟩)).setCell hge (.int .i64 (apT x y).cnt) (p := ⟨g9, 2, none⟩)
  refine Nrm_intro hWn (hK2 _ _ ?_)
  have Hg9 : Blk (World.setCell (World.setCell (World.setCell W ⟨g9, 0, none⟩ (.string (apT x y).dur)) ⟨g9, 1, none⟩ (.string (apT x y).pen)) ⟨g9, 2, none⟩ (.int .i64 (apT x y).cnt)) g9 31 #[.string (apT x y).dur, .string (apT x y).pen, .int .i64 (apT x y).cnt] := ((hG.set_ 0 (.string (apT x y).dur)).set_ 1 (.string (apT x y).pen)).set_ 2 (.int .i64 (apT x y).cnt)
  clear y0 y1 y2 g0 g1 g2 hG hW yg
  generalize World.setCell (World.setCell (World.setCell W ⟨g9, 0, none⟩ (.string (apT x y).dur)) ⟨g9, 1, none⟩ (.string (apT x y).pen)) ⟨g9, 2, none⟩ (.int .i64 (apT x y).cnt) = w4 at *
  refine wpMix_last ?_
  change wpQuiet _ _ _ _ (_ :: []) _
  repeat (go_big_quiet_step (fail))
  refine wpQuiet_nil ?_
  have hgw4 := hge
  clear hge
  replace HB := bth HB hWn
  have zzw4 := hWn.size
  replace X1 := X1.below hWn X1.lt
  replace X2 := X2.below hWn X2.lt
  replace Hg8 := Hg8.below hWn Hg8.lt
  clear hWn
  have Hg8_0 := (Hg8.cell 0).trans (show _ = some (.string (apT x y).dur) from rfl)
  have Hg8_1 := (Hg8.cell 1).trans (show _ = some (.string (apT x y).pen) from rfl)
  have Hg8_2 := (Hg8.cell 2).trans (show _ = some (.int .i64 (apT x y).cnt) from rfl)
  have Hg9_0 := (Hg9.cell 0).trans (show _ = some (.string (apT x y).dur) from rfl)
  have Hg9_1 := (Hg9.cell 1).trans (show _ = some (.string (apT x y).pen) from rfl)
  have Hg9_2 := (Hg9.cell 2).trans (show _ = some (.int .i64 (apT x y).cnt) from rfl)
  have y8 := Hg8.lt
  have y9 := Hg9.lt
  go_wp2_with fail
  refine (eqLog_is (apT x y) _).mono ?_
  rintro e w5 ⟨rfl, hb5⟩
  go_wp2
  go_ret
  exact ⟨rfl, bth HB hb5⟩
end Go.Proofs.YtpejnfhenpdobaaDoor
