/- The draw of AppendRecord. -/
import Derived.Test.YtpejnfhenpdobaaDoorCurL
import Derived.Test.YtpejnfhenpdobaaDoorMkr
import Derived.Deep.Cut
import Derived.Outline
namespace Go.Proofs.YtpejnfhenpdobaaDoor
open Go.RowKit Go.G9
set_option maxHeartbeats 2000000 in
set_option maxRecDepth 100000 in
theorem drawAppendRecord_is (A : Option Addr) (c : Nat) (cs : List UInt8) (hcs : cs.length ≤ 1048576) (w : World) (hR : Rds 1 u8C w A cs) :
  Calls Tryd.prog 36 #[.slice A cs.length c] w fun e w' => ∃ (x : LogT) (y : LRec), e = .returned (.tuple #[.agg #[.string x.dur, .string x.pen, .int .i64 x.cnt], .agg #[.string y.cmd, .string y.rep]]) ∧ (x.dur.size + x.pen.size ≤ 30000) ∧ (y.cmd.size ≤ 20 ∧ y.rep.size ≤ 20) ∧ Below w.heap.size w w' := by
  go_enter Tryd.func36, Tryd.ntmps36
  go_upto_region 2 with fail
  have hlt : ∀ ad, A = some ad → 0 < cs.length → ad.block < w.heap.size := fun ad h h0 => by
    obtain ⟨b, off, h1, h2, _⟩ := hR h0
    rw [h1] at h; cases h; exact h2
  have hZ := ((Blk.new w 31 #[.string ⟨#[]⟩, .string ⟨#[]⟩, .int .i64 0]).alloc (.cells #[.string ⟨#[]⟩, .string ⟨#[]⟩] 27)).alloc (.cells #[.slice A cs.length c, .int .i64 0, .int .u64 0] 74)
  have hQ := (Blk.new2 w (.cells #[.string ⟨#[]⟩, .string ⟨#[]⟩, .int .i64 0] 31) 27 #[.string ⟨#[]⟩, .string ⟨#[]⟩]).alloc (.cells #[.slice A cs.length c, .int .i64 0, .int .u64 0] 74)
  have hP := Blk.new3 w (.cells #[.string ⟨#[]⟩, .string ⟨#[]⟩, .int .i64 0] 31) (.cells #[.string ⟨#[]⟩, .string ⟨#[]⟩] 27) 74 #[.slice A cs.length c, .int .i64 0, .int .u64 0]
  have HB : Below w.heap.size w (((w.alloc (.cells #[.string ⟨#[]⟩, .string ⟨#[]⟩, .int .i64 0] 31)).alloc (.cells #[.string ⟨#[]⟩, .string ⟨#[]⟩] 27)).alloc (.cells #[.slice A cs.length c, .int .i64 0, .int .u64 0] 74)) := bl3 w _ _ _
  generalize (((w.alloc (.cells #[.string ⟨#[]⟩, .string ⟨#[]⟩, .int .i64 0] 31)).alloc (.cells #[.string ⟨#[]⟩, .string ⟨#[]⟩] 27)).alloc (.cells #[.slice A cs.length c, .int .i64 0, .int .u64 0] 74)) = wA at *
  have hC : Cur wA (w.heap.size + 1 + 1) A c cs 0 := ⟨⟨0, 0, hP, by decide, by decide⟩, hR.below HB, fun ad h h0 => by have := hlt ad h h0; omega⟩
  obtain ⟨p, hpe⟩ : ∃ p, p = w.heap.size + 1 + 1 := ⟨_, rfl⟩
  rw [← hpe] at hC
  obtain ⟨n0, hn0⟩ : ∃ n : Nat, n ≤ 0 := ⟨0, Nat.le_refl _⟩
  replace hC : Cur wA p A c cs n0 := hC.mono (Nat.zero_le _)
  simp only [← hpe]
  have hp := hC.lt
  have HG := grown_refl w (some p)
  replace HG : w.grownBy wA (some p) := below_grown HB _
  have szw : w.heap.size ≤ wA.heap.size := HB.size
  have hwp : w.heap.size + 1 < p := by omega
  clear hR hlt hP HB hpe
  have z0 := (hZ.cell 0).trans (show _ = some (.string ⟨#[]⟩) from rfl)
  have z1 := (hZ.cell 1).trans (show _ = some (.string ⟨#[]⟩) from rfl)
  have z2 := (hZ.cell 2).trans (show _ = some (.int .i64 0) from rfl)
  have q0 := (hQ.cell 0).trans (show _ = some (.string ⟨#[]⟩) from rfl)
  have q1 := (hQ.cell 1).trans (show _ = some (.string ⟨#[]⟩) from rfl)
  go_wp2_with fail
  refine (anyLog_is p A c cs hcs n0 (by omega) _ (hC.later (by repeat (first | exact Below.refl _ _ | refine Below.alloc ?_ (by first | exact Nat.le_refl _ | (simp <;> omega)) _ | refine Below.setCell ?_ (by first | exact Nat.le_refl _ | (simp <;> omega)) _)))).mono ?_
  rintro e w1 ⟨x, rfl, hx, hS1⟩
  clear z0 z1 z2
  clear q0 q1
  have hg1 : wA.grownBy w1 (some p) := grown_tr (below_grown (by repeat (first | exact Below.refl _ _ | refine Below.alloc ?_ (by first | exact Nat.le_refl _ | (simp <;> omega)) _ | refine Below.setCell ?_ (by first | exact Nat.le_refl _ | (simp <;> omega)) _)) _) hS1.2
  replace hC := hS1.1
  have sz1 := hg1.size
  replace HG := grown_tr HG hg1
  replace hZ := hZ.grownB hg1 (by omega)
  replace hQ := hQ.grownB hg1 (by omega)
  have z0 := (hZ.cell 0).trans (show _ = some (.string ⟨#[]⟩) from rfl)
  have z1 := (hZ.cell 1).trans (show _ = some (.string ⟨#[]⟩) from rfl)
  have z2 := (hZ.cell 2).trans (show _ = some (.int .i64 0) from rfl)
  have q0 := (hQ.cell 0).trans (show _ = some (.string ⟨#[]⟩) from rfl)
  have q1 := (hQ.cell 1).trans (show _ = some (.string ⟨#[]⟩) from rfl)
  go_upto_region 3 with fail
  have hb2 : Below w1.heap.size w1 (World.alloc w1 (.cells #[.string x.dur, .string x.pen, .int .i64 x.cnt] 31)) := bl1 w1 _
  have hL : Blk (World.alloc w1 (.cells #[.string x.dur, .string x.pen, .int .i64 x.cnt] 31)) (w1.heap.size) 31 #[.string x.dur, .string x.pen, .int .i64 x.cnt] := by repeat (first | exact Blk.new _ _ _ | exact Blk.new2 _ _ _ _ | exact Blk.new3 _ _ _ _ _ | exact Blk.new4 _ _ _ _ _ _ | refine Blk.alloc ?_ _)
  generalize World.alloc w1 (.cells #[.string x.dur, .string x.pen, .int .i64 x.cnt] 31) = wL at *
  replace hC := hC.later hb2
  replace HG := grown_tr HG (below_grown hb2 (some p))
  clear z0 z1 z2
  replace hZ := hZ.grownB (below_grown hb2 (some p)) (by omega)
  have z0 := (hZ.cell 0).trans (show _ = some (.string ⟨#[]⟩) from rfl)
  have z1 := (hZ.cell 1).trans (show _ = some (.string ⟨#[]⟩) from rfl)
  have z2 := (hZ.cell 2).trans (show _ = some (.int .i64 0) from rfl)
  clear q0 q1
  replace hQ := hQ.grownB (below_grown hb2 (some p)) (by omega)
  have q0 := (hQ.cell 0).trans (show _ = some (.string ⟨#[]⟩) from rfl)
  have q1 := (hQ.cell 1).trans (show _ = some (.string ⟨#[]⟩) from rfl)
  have sz2 := hb2.size
  have LhL := hL.lt
  have l0 := (hL.cell 0).trans (show _ = some (.string x.dur) from rfl)
  have l1 := (hL.cell 1).trans (show _ = some (.string x.pen) from rfl)
  have l2 := (hL.cell 2).trans (show _ = some (.int .i64 x.cnt) from rfl)
  have gL : p < w1.heap.size := by omega
  obtain ⟨g, hg⟩ : ∃ g, g = w1.heap.size := ⟨_, rfl⟩
  go_wp2_with fail
  refine (one_is 40 p A c cs hcs (n0 + 110) (by omega) (by omega) _ (hC.later (by repeat (first | exact Below.refl _ _ | refine Below.alloc ?_ (by first | exact Nat.le_refl _ | (simp <;> omega)) _ | refine Below.setCell ?_ (by first | exact Nat.le_refl _ | (simp <;> omega)) _)))).mono ?_
  rintro e w3 ⟨b, rfl, hS3⟩
  clear z0 z1 z2
  clear q0 q1
  clear l0 l1 l2
  have hg3 : wL.grownBy w3 (some p) := grown_tr (below_grown (by repeat (first | exact Below.refl _ _ | refine Below.alloc ?_ (by first | exact Nat.le_refl _ | (simp <;> omega)) _ | refine Below.setCell ?_ (by first | exact Nat.le_refl _ | (simp <;> omega)) _)) _) hS3.2
  replace hC := hS3.1
  have sz3 := hg3.size
  replace HG := grown_tr HG hg3
  replace hZ := hZ.grownB hg3 (by omega)
  replace hQ := hQ.grownB hg3 (by omega)
  replace hL := hL.grownB hg3 (by omega)
  have z0 := (hZ.cell 0).trans (show _ = some (.string ⟨#[]⟩) from rfl)
  have z1 := (hZ.cell 1).trans (show _ = some (.string ⟨#[]⟩) from rfl)
  have z2 := (hZ.cell 2).trans (show _ = some (.int .i64 0) from rfl)
  have q0 := (hQ.cell 0).trans (show _ = some (.string ⟨#[]⟩) from rfl)
  have q1 := (hQ.cell 1).trans (show _ = some (.string ⟨#[]⟩) from rfl)
  have l0 := (hL.cell 0).trans (show _ = some (.string x.dur) from rfl)
  have l1 := (hL.cell 1).trans (show _ = some (.string x.pen) from rfl)
  have l2 := (hL.cell 2).trans (show _ = some (.int .i64 x.cnt) from rfl)
  cases b
  · go_upto_region 9 with fail
    have hgl : ¬ w1.heap.size = w.heap.size ∧ ¬ w1.heap.size = w.heap.size + 1 := by omega
    haveI : Nonempty (Hld (fun V => Blk V w1.heap.size 31 #[.string x.dur, .string x.pen, .int .i64 x.cnt])) := ⟨⟨w3, hL⟩⟩
    haveI : Nonempty (Hld (fun _ => True)) := ⟨⟨w3, trivial⟩⟩
    have k0 := fun K : Hld (fun V => Blk V w1.heap.size 31 #[.string x.dur, .string x.pen, .int .i64 x.cnt]) => (K.holds.cell 0).trans (show _ = some (.string x.dur) from rfl)
    have k1 := fun K : Hld (fun V => Blk V w1.heap.size 31 #[.string x.dur, .string x.pen, .int .i64 x.cnt]) => (K.holds.cell 1).trans (show _ = some (.string x.pen) from rfl)
    have k2 := fun K : Hld (fun V => Blk V w1.heap.size 31 #[.string x.dur, .string x.pen, .int .i64 x.cnt]) => (K.holds.cell 2).trans (show _ = some (.int .i64 x.cnt) from rfl)
    refine wp_region_mx (fun V => Blk V w1.heap.size 31 #[.string x.dur, .string x.pen, .int .i64 x.cnt]) [([0, 1], [], 2, false), ([], [], 3, false), ([], [], 4, false)] [] [] (by kernel_rfl) (by kernel_rfl) hL.drew ?_
    refine wpMx_cons fun K hK => ?_
    change wpQuiet _ _ _ _ (_ :: _ :: []) _
    repeat (go_big_quiet_step (fail))
    refine wpQuiet_nil ?_
    refine wpQuiet_nil ?_
    change wpList _ _ _ (_ :: []) _ _
    replace hC := hC.later (Below.refl _ _).drew
    replace HG := grown_tr HG (below_grown (Below.refl w3.heap.size w3).drew (some p))
    clear z0 z1 z2
    replace hZ : Blk w3.drew (w.heap.size) 31 #[.string ⟨#[]⟩, .string ⟨#[]⟩, .int .i64 0] := hZ
    clear q0 q1
    replace hQ : Blk w3.drew ((w.heap.size + 1)) 27 #[.string ⟨#[]⟩, .string ⟨#[]⟩] := hQ
    clear l0 l1 l2
    replace hL : Blk w3.drew (w1.heap.size) 31 #[.string x.dur, .string x.pen, .int .i64 x.cnt] := hL
    have szd : w3.drew.heap.size = w3.heap.size := rfl
    generalize w3.drew = wD at *
    have z0 := (hZ.cell 0).trans (show _ = some (.string ⟨#[]⟩) from rfl)
    have z1 := (hZ.cell 1).trans (show _ = some (.string ⟨#[]⟩) from rfl)
    have z2 := (hZ.cell 2).trans (show _ = some (.int .i64 0) from rfl)
    have q0 := (hQ.cell 0).trans (show _ = some (.string ⟨#[]⟩) from rfl)
    have q1 := (hQ.cell 1).trans (show _ = some (.string ⟨#[]⟩) from rfl)
    have l0 := (hL.cell 0).trans (show _ = some (.string x.dur) from rfl)
    have l1 := (hL.cell 1).trans (show _ = some (.string x.pen) from rfl)
    have l2 := (hL.cell 2).trans (show _ = some (.int .i64 x.cnt) from rfl)
    go_wp2_with fail
    refine (logRecord_is p A c cs hcs (n0 + 110 + 2) (by omega) _ (hC.later (by repeat (first | exact Below.refl _ _ | refine Below.alloc ?_ (by first | exact Nat.le_refl _ | (simp <;> omega)) _ | refine Below.setCell ?_ (by first | exact Nat.le_refl _ | (simp <;> omega)) _)))).mono ?_
    rintro e w4 ⟨y, rfl, ⟨hy1, hy2⟩, hS4⟩
    clear z0 z1 z2
    clear q0 q1
    clear l0 l1 l2
    have hg4 : wD.grownBy w4 (some p) := grown_tr (below_grown (by repeat (first | exact Below.refl _ _ | refine Below.alloc ?_ (by first | exact Nat.le_refl _ | (simp <;> omega)) _ | refine Below.setCell ?_ (by first | exact Nat.le_refl _ | (simp <;> omega)) _)) _) hS4.2
    replace hC := hS4.1
    have sz4 := hg4.size
    replace HG := grown_tr HG hg4
    replace hZ := hZ.grownB hg4 (by omega)
    replace hQ := hQ.grownB hg4 (by omega)
    replace hL := hL.grownB hg4 (by omega)
    have z0 := (hZ.cell 0).trans (show _ = some (.string ⟨#[]⟩) from rfl)
    have z1 := (hZ.cell 1).trans (show _ = some (.string ⟨#[]⟩) from rfl)
    have z2 := (hZ.cell 2).trans (show _ = some (.int .i64 0) from rfl)
    have q0 := (hQ.cell 0).trans (show _ = some (.string ⟨#[]⟩) from rfl)
    have q1 := (hQ.cell 1).trans (show _ = some (.string ⟨#[]⟩) from rfl)
    have l0 := (hL.cell 0).trans (show _ = some (.string x.dur) from rfl)
    have l1 := (hL.cell 1).trans (show _ = some (.string x.pen) from rfl)
    have l2 := (hL.cell 2).trans (show _ = some (.int .i64 x.cnt) from rfl)
    go_wp2
    refine Nrm_keep hL (hK _ _ ?_)
    refine wpMx_cons fun K2 hK2 => ?_
    refine wpQuiet_nil ?_
    refine wpQuiet_nil ?_
    change wpList _ _ _ (_ :: []) _ _
    clear k0 k1 k2
    have fhZ0 := hZ.frozen 0
    have fhZ1 := hZ.frozen 1
    have fhZ2 := hZ.frozen 2
    have yhZ := hZ.lt
    have yhQ := hQ.lt
    have yhL := hL.lt
    go_wp2
    clear fhZ0 fhZ1 fhZ2 yhZ yhL yhQ z0 z1 z2 l0 l1 l2 q0 q1
    have HG2 : w.grownBy (((w4.setCell ⟨w.heap.size, 0, none⟩ (.string x.dur)).setCell ⟨w.heap.size, 1, none⟩ (.string x.pen)).setCell ⟨w.heap.size, 2, none⟩ (.int .i64 x.cnt)) (some p) := grown_store (grown_store (grown_store HG (g := w.heap.size) (Nat.le_refl _) 0 _) (Nat.le_refl _) 1 _) (Nat.le_refl _) 2 _
    have hgs := grown_set (j := 2) (grown_set (j := 1) (grown_set (j := 0) (grown_refl w4 (some w.heap.size)) (.string x.dur)) (.string x.pen)) (.int .i64 x.cnt)
    have hZ2 : Blk (((w4.setCell ⟨w.heap.size, 0, none⟩ (.string x.dur)).setCell ⟨w.heap.size, 1, none⟩ (.string x.pen)).setCell ⟨w.heap.size, 2, none⟩ (.int .i64 x.cnt)) w.heap.size 31 #[.string x.dur, .string x.pen, .int .i64 x.cnt] := ((hZ.set_ 0 (.string x.dur)).set_ 1 (.string x.pen)).set_ 2 (.int .i64 x.cnt)
    have hL2 := hL.grownB hgs (by omega)
    have hQ2 := hQ.grownB hgs (by omega)
    clear hZ HG hL hQ hgs hC
    generalize (((w4.setCell ⟨w.heap.size, 0, none⟩ (.string x.dur)).setCell ⟨w.heap.size, 1, none⟩ (.string x.pen)).setCell ⟨w.heap.size, 2, none⟩ (.int .i64 x.cnt)) = W8 at *
    refine Nrm_keep hL2 (hK2 _ _ ?_)
    refine wpMx_cons fun K3 hK3 => ?_
    refine wpQuiet_nil ?_
    refine wpQuiet_nil ?_
    change wpList _ _ _ (_ :: []) _ _
    have fq0 := hQ2.frozen 0
    have fq1 := hQ2.frozen 1
    have q0 := (hQ2.cell 0).trans (show _ = some (.string ⟨#[]⟩) from rfl)
    have q1 := (hQ2.cell 1).trans (show _ = some (.string ⟨#[]⟩) from rfl)
    have yQ := hQ2.lt
    go_wp2
    clear fq0 fq1 q0 q1 yQ
    have HG3 : w.grownBy ((W8.setCell ⟨w.heap.size + 1, 0, none⟩ (.string y.cmd)).setCell ⟨w.heap.size + 1, 1, none⟩ (.string y.rep)) (some p) := grown_store (grown_store HG2 (g := w.heap.size + 1) (by omega) 0 _) (by omega) 1 _
    have hgs := grown_set (j := 1) (grown_set (j := 0) (grown_refl W8 (some (w.heap.size + 1))) (.string y.cmd)) (.string y.rep)
    have hQ3 : Blk ((W8.setCell ⟨w.heap.size + 1, 0, none⟩ (.string y.cmd)).setCell ⟨w.heap.size + 1, 1, none⟩ (.string y.rep)) (w.heap.size + 1) 27 #[.string y.cmd, .string y.rep] := (hQ2.set_ 0 (.string y.cmd)).set_ 1 (.string y.rep)
    have hZ3 := hZ2.grownB hgs (by omega)
    have hL3 := hL2.grownB hgs (by omega)
    clear hZ2 hL2 hQ2 HG2 hgs
    generalize ((W8.setCell ⟨w.heap.size + 1, 0, none⟩ (.string y.cmd)).setCell ⟨w.heap.size + 1, 1, none⟩ (.string y.rep)) = W9 at *
    refine Nrm_keep hL3 (hK3 _ _ ?_)
    refine wpMx_last ?_
    refine wpQuiet_nil ?_
    refine wpQuiet_nil ?_
    have z0 := (hZ3.cell 0).trans (show _ = some (.string x.dur) from rfl)
    have z1 := (hZ3.cell 1).trans (show _ = some (.string x.pen) from rfl)
    have z2 := (hZ3.cell 2).trans (show _ = some (.int .i64 x.cnt) from rfl)
    have q0 := (hQ3.cell 0).trans (show _ = some (.string y.cmd) from rfl)
    have q1 := (hQ3.cell 1).trans (show _ = some (.string y.rep) from rfl)
    go_wp2
    refine bodyPost_ret (v := .tuple #[.agg #[.string x.dur, .string x.pen, .int .i64 x.cnt], .agg #[.string y.cmd, .string y.rep]]) (by simp [results, Tryd.results36, go_sem, z0, z1, z2, q0, q1]) rfl ?_
    exact ⟨x, y, rfl, by omega, ⟨hy1, hy2⟩, grown_below HG3 (Nat.le_refl _) (fun k hk => by cases hk; omega)⟩
  · have fhL0 := hL.frozen 0
    have fhL1 := hL.frozen 1
    have fhL2 := hL.frozen 2
    have yhZ := hZ.lt
    have yhQ := hQ.lt
    have yhL := hL.lt
    go_upto_region 5 with fail
    clear fhL0 fhL1 fhL2 yhZ yhL yhQ
    clear z0 z1 z2
    clear q0 q1
    clear l0 l1 l2
    replace HG : w.grownBy (World.setCell (World.setCell (World.setCell w3 ⟨w1.heap.size, 0, none⟩ (.string ⟨#[]⟩)) ⟨w1.heap.size, 1, none⟩ (.string ⟨#[]⟩)) ⟨w1.heap.size, 2, none⟩ (.int .i64 0)) (some p) := (grown_store (grown_store (grown_store HG (g := w1.heap.size) (by omega) 0 (.string ⟨#[]⟩)) (g := w1.heap.size) (by omega) 1 (.string ⟨#[]⟩)) (g := w1.heap.size) (by omega) 2 (.int .i64 0))
    replace hC := (((hC.store (g := w1.heap.size) (by omega) 0 (.string ⟨#[]⟩)).store (g := w1.heap.size) (by omega) 1 (.string ⟨#[]⟩)).store (g := w1.heap.size) (by omega) 2 (.int .i64 0))
    replace hZ := hZ.grownB (grown_set (j := 2) (grown_set (j := 1) (grown_set (j := 0) (grown_refl w3 (some (w1.heap.size))) (.string ⟨#[]⟩)) (.string ⟨#[]⟩)) (.int .i64 0)) (by omega)
    replace hQ := hQ.grownB (grown_set (j := 2) (grown_set (j := 1) (grown_set (j := 0) (grown_refl w3 (some (w1.heap.size))) (.string ⟨#[]⟩)) (.string ⟨#[]⟩)) (.int .i64 0)) (by omega)
    replace hL : Blk (World.setCell (World.setCell (World.setCell w3 ⟨w1.heap.size, 0, none⟩ (.string ⟨#[]⟩)) ⟨w1.heap.size, 1, none⟩ (.string ⟨#[]⟩)) ⟨w1.heap.size, 2, none⟩ (.int .i64 0)) (w1.heap.size) 31 #[.string ⟨#[]⟩, .string ⟨#[]⟩, .int .i64 0] := (((hL.set_ 0 (.string ⟨#[]⟩)).set_ 1 (.string ⟨#[]⟩)).set_ 2 (.int .i64 0))
    generalize World.setCell (World.setCell (World.setCell w3 ⟨w1.heap.size, 0, none⟩ (.string ⟨#[]⟩)) ⟨w1.heap.size, 1, none⟩ (.string ⟨#[]⟩)) ⟨w1.heap.size, 2, none⟩ (.int .i64 0) = wz at *
    have z0 := (hZ.cell 0).trans (show _ = some (.string ⟨#[]⟩) from rfl)
    have z1 := (hZ.cell 1).trans (show _ = some (.string ⟨#[]⟩) from rfl)
    have z2 := (hZ.cell 2).trans (show _ = some (.int .i64 0) from rfl)
    have q0 := (hQ.cell 0).trans (show _ = some (.string ⟨#[]⟩) from rfl)
    have q1 := (hQ.cell 1).trans (show _ = some (.string ⟨#[]⟩) from rfl)
    have l0 := (hL.cell 0).trans (show _ = some (.string ⟨#[]⟩) from rfl)
    have l1 := (hL.cell 1).trans (show _ = some (.string ⟨#[]⟩) from rfl)
    have l2 := (hL.cell 2).trans (show _ = some (.int .i64 0) from rfl)
    clear hx
    go_wp2_with fail
    refine (pick_is 2 p A c cs hcs (n0 + 110 + 2) (by omega) (by omega) _ (hC.later (by repeat (first | exact Below.refl _ _ | refine Below.alloc ?_ (by first | exact Nat.le_refl _ | (simp <;> omega)) _ | refine Below.setCell ?_ (by first | exact Nat.le_refl _ | (simp <;> omega)) _)))).mono ?_
    rintro e w4 ⟨r, rfl, ⟨hr0, _, hr1⟩, hS4⟩
    clear z0 z1 z2
    clear q0 q1
    clear l0 l1 l2
    have hg4 : wz.grownBy w4 (some p) := grown_tr (below_grown (by repeat (first | exact Below.refl _ _ | refine Below.alloc ?_ (by first | exact Nat.le_refl _ | (simp <;> omega)) _ | refine Below.setCell ?_ (by first | exact Nat.le_refl _ | (simp <;> omega)) _)) _) hS4.2
    replace hC := hS4.1
    have sz4 := hg4.size
    replace HG := grown_tr HG hg4
    replace hZ := hZ.grownB hg4 (by omega)
    replace hQ := hQ.grownB hg4 (by omega)
    replace hL := hL.grownB hg4 (by omega)
    have z0 := (hZ.cell 0).trans (show _ = some (.string ⟨#[]⟩) from rfl)
    have z1 := (hZ.cell 1).trans (show _ = some (.string ⟨#[]⟩) from rfl)
    have z2 := (hZ.cell 2).trans (show _ = some (.int .i64 0) from rfl)
    have q0 := (hQ.cell 0).trans (show _ = some (.string ⟨#[]⟩) from rfl)
    have q1 := (hQ.cell 1).trans (show _ = some (.string ⟨#[]⟩) from rfl)
    have l0 := (hL.cell 0).trans (show _ = some (.string ⟨#[]⟩) from rfl)
    have l1 := (hL.cell 1).trans (show _ = some (.string ⟨#[]⟩) from rfl)
    have l2 := (hL.cell 2).trans (show _ = some (.int .i64 0) from rfl)
    have hr2 := hr1 (by omega)
    obtain ⟨r', hre⟩ : ∃ r' : Nat, (r' : Int) = 59 + r := ⟨(59 + r).toNat, by omega⟩
    clear z0 z1 z2 l0 l1 l2 q0 q1 hr1
    go_upto_region 6 with fail
    simp only [← hre]
    have hr3 : r' ≤ 60 := by omega
    clear hre hr2 hr0
    go_loopw [6] (fun v6 wr => ∃ (m : Nat) (x : LogT), m ≤ 60 ∧ v6 = .int .i64 m ∧ x.dur.size + x.pen.size ≤ 400 * (60 - m) ∧ Blk wr w.heap.size 31 #[.string ⟨#[]⟩, .string ⟨#[]⟩, .int .i64 0] ∧ Blk wr (w.heap.size + 1) 27 #[.string ⟨#[]⟩, .string ⟨#[]⟩] ∧ Blk wr w1.heap.size 31 #[.string x.dur, .string x.pen, .int .i64 x.cnt] ∧ Cur wr p A c cs (n0 + 110 + 2 + 2) ∧ w.grownBy wr (some p)) (fun v6 _ => (intOf v6).toNat)
    case atStart => exact ⟨r', noLog, by omega, rfl, Nat.zero_le _, hZ, hQ, hL, hC, HG⟩
    case round =>
      clear hZ hQ hL hC HG
      obtain ⟨m, x, hm, rfl, hx, hZ, hQ, hL, hC, HG⟩ := hrel
      by_cases hlt : 0 < m
      · have z0 := (hZ.cell 0).trans (show _ = some (.string ⟨#[]⟩) from rfl)
        have z1 := (hZ.cell 1).trans (show _ = some (.string ⟨#[]⟩) from rfl)
        have z2 := (hZ.cell 2).trans (show _ = some (.int .i64 0) from rfl)
        have q0 := (hQ.cell 0).trans (show _ = some (.string ⟨#[]⟩) from rfl)
        have q1 := (hQ.cell 1).trans (show _ = some (.string ⟨#[]⟩) from rfl)
        have l0 := (hL.cell 0).trans (show _ = some (.string x.dur) from rfl)
        have l1 := (hL.cell 1).trans (show _ = some (.string x.pen) from rfl)
        have l2 := (hL.cell 2).trans (show _ = some (.int .i64 x.cnt) from rfl)
        have hmm : (m : Int) - 1 = ((m - 1 : Nat) : Int) := by omega
        have hxy := apT_size x ⟨⟨#[120]⟩, ⟨#[]⟩⟩
        have yhZ := hZ.lt
        have yhQ := hQ.lt
        have yhL := hL.lt
        go_wp2_with fail
        refine (sAppendRecordR_is x (by omega) ⟨⟨#[120]⟩, ⟨#[]⟩⟩ (by decide) (by decide) _).mono ?_
        rintro e w5 ⟨rfl, hS5⟩
        clear z0 z1 z2
        clear q0 q1
        clear l0 l1 l2
        have hb5 : Below wr.heap.size wr w5 := bth (by repeat (first | exact Below.refl _ _ | refine Below.alloc ?_ (by first | exact Nat.le_refl _ | (simp <;> omega)) _ | refine Below.setCell ?_ (by first | exact Nat.le_refl _ | (simp <;> omega)) _)) hS5
        have hg5 : wr.grownBy w5 (some p) := below_grown hb5 _
        replace hC := hC.later hb5
        have sz5 := hg5.size
        replace HG := grown_tr HG hg5
        replace hZ := hZ.grownB hg5 (by omega)
        replace hQ := hQ.grownB hg5 (by omega)
        replace hL := hL.grownB hg5 (by omega)
        have z0 := (hZ.cell 0).trans (show _ = some (.string ⟨#[]⟩) from rfl)
        have z1 := (hZ.cell 1).trans (show _ = some (.string ⟨#[]⟩) from rfl)
        have z2 := (hZ.cell 2).trans (show _ = some (.int .i64 0) from rfl)
        have q0 := (hQ.cell 0).trans (show _ = some (.string ⟨#[]⟩) from rfl)
        have q1 := (hQ.cell 1).trans (show _ = some (.string ⟨#[]⟩) from rfl)
        have l0 := (hL.cell 0).trans (show _ = some (.string x.dur) from rfl)
        have l1 := (hL.cell 1).trans (show _ = some (.string x.pen) from rfl)
        have l2 := (hL.cell 2).trans (show _ = some (.int .i64 x.cnt) from rfl)
        generalize apT x ⟨⟨#[120]⟩, ⟨#[]⟩⟩ = x2 at *
        have fhL0 := hL.frozen 0
        have fhL1 := hL.frozen 1
        have fhL2 := hL.frozen 2
        have yhZ := hZ.lt
        have yhQ := hQ.lt
        have yhL := hL.lt
        go_wp2
        clear fhL0 fhL1 fhL2 yhZ yhL yhQ
        clear z0 z1 z2
        clear q0 q1
        clear l0 l1 l2
        replace HG : w.grownBy (World.setCell (World.setCell (World.setCell w5 ⟨w1.heap.size, 0, none⟩ (.string x2.dur)) ⟨w1.heap.size, 1, none⟩ (.string x2.pen)) ⟨w1.heap.size, 2, none⟩ (.int .i64 x2.cnt)) (some p) := (grown_store (grown_store (grown_store HG (g := w1.heap.size) (by omega) 0 (.string x2.dur)) (g := w1.heap.size) (by omega) 1 (.string x2.pen)) (g := w1.heap.size) (by omega) 2 (.int .i64 x2.cnt))
        replace hC := (((hC.store (g := w1.heap.size) (by omega) 0 (.string x2.dur)).store (g := w1.heap.size) (by omega) 1 (.string x2.pen)).store (g := w1.heap.size) (by omega) 2 (.int .i64 x2.cnt))
        replace hZ := hZ.grownB (grown_set (j := 2) (grown_set (j := 1) (grown_set (j := 0) (grown_refl w5 (some (w1.heap.size))) (.string x2.dur)) (.string x2.pen)) (.int .i64 x2.cnt)) (by omega)
        replace hQ := hQ.grownB (grown_set (j := 2) (grown_set (j := 1) (grown_set (j := 0) (grown_refl w5 (some (w1.heap.size))) (.string x2.dur)) (.string x2.pen)) (.int .i64 x2.cnt)) (by omega)
        replace hL : Blk (World.setCell (World.setCell (World.setCell w5 ⟨w1.heap.size, 0, none⟩ (.string x2.dur)) ⟨w1.heap.size, 1, none⟩ (.string x2.pen)) ⟨w1.heap.size, 2, none⟩ (.int .i64 x2.cnt)) (w1.heap.size) 31 #[.string x2.dur, .string x2.pen, .int .i64 x2.cnt] := (((hL.set_ 0 (.string x2.dur)).set_ 1 (.string x2.pen)).set_ 2 (.int .i64 x2.cnt))
        generalize World.setCell (World.setCell (World.setCell w5 ⟨w1.heap.size, 0, none⟩ (.string x2.dur)) ⟨w1.heap.size, 1, none⟩ (.string x2.pen)) ⟨w1.heap.size, 2, none⟩ (.int .i64 x2.cnt) = wb at *
        have z0 := (hZ.cell 0).trans (show _ = some (.string ⟨#[]⟩) from rfl)
        have z1 := (hZ.cell 1).trans (show _ = some (.string ⟨#[]⟩) from rfl)
        have z2 := (hZ.cell 2).trans (show _ = some (.int .i64 0) from rfl)
        have q0 := (hQ.cell 0).trans (show _ = some (.string ⟨#[]⟩) from rfl)
        have q1 := (hQ.cell 1).trans (show _ = some (.string ⟨#[]⟩) from rfl)
        have l0 := (hL.cell 0).trans (show _ = some (.string x2.dur) from rfl)
        have l1 := (hL.cell 1).trans (show _ = some (.string x2.pen) from rfl)
        have l2 := (hL.cell 2).trans (show _ = some (.int .i64 x2.cnt) from rfl)
        exact ⟨⟨m - 1, x2, by omega, rfl, by omega, hZ, hQ, hL, hC, HG⟩, by simp [intOf]; omega⟩
      · obtain rfl : m = 0 := by omega
        have z0 := (hZ.cell 0).trans (show _ = some (.string ⟨#[]⟩) from rfl)
        have z1 := (hZ.cell 1).trans (show _ = some (.string ⟨#[]⟩) from rfl)
        have z2 := (hZ.cell 2).trans (show _ = some (.int .i64 0) from rfl)
        have q0 := (hQ.cell 0).trans (show _ = some (.string ⟨#[]⟩) from rfl)
        have q1 := (hQ.cell 1).trans (show _ = some (.string ⟨#[]⟩) from rfl)
        have l0 := (hL.cell 0).trans (show _ = some (.string x.dur) from rfl)
        have l1 := (hL.cell 1).trans (show _ = some (.string x.pen) from rfl)
        have l2 := (hL.cell 2).trans (show _ = some (.int .i64 x.cnt) from rfl)
        go_upto_region 9 with fail
        have hgl : ¬ w1.heap.size = w.heap.size ∧ ¬ w1.heap.size = w.heap.size + 1 := by omega
        haveI : Nonempty (Hld (fun V => Blk V w1.heap.size 31 #[.string x.dur, .string x.pen, .int .i64 x.cnt])) := ⟨⟨wr, hL⟩⟩
        haveI : Nonempty (Hld (fun _ => True)) := ⟨⟨wr, trivial⟩⟩
        have k0 := fun K : Hld (fun V => Blk V w1.heap.size 31 #[.string x.dur, .string x.pen, .int .i64 x.cnt]) => (K.holds.cell 0).trans (show _ = some (.string x.dur) from rfl)
        have k1 := fun K : Hld (fun V => Blk V w1.heap.size 31 #[.string x.dur, .string x.pen, .int .i64 x.cnt]) => (K.holds.cell 1).trans (show _ = some (.string x.pen) from rfl)
        have k2 := fun K : Hld (fun V => Blk V w1.heap.size 31 #[.string x.dur, .string x.pen, .int .i64 x.cnt]) => (K.holds.cell 2).trans (show _ = some (.int .i64 x.cnt) from rfl)
        refine wp_region_mx (fun V => Blk V w1.heap.size 31 #[.string x.dur, .string x.pen, .int .i64 x.cnt]) [([0, 1], [], 2, false), ([], [], 3, false), ([], [], 4, false)] [] [] (by kernel_rfl) (by kernel_rfl) hL.drew ?_
        refine wpMx_cons fun K hK => ?_
        change wpQuiet _ _ _ _ (_ :: _ :: []) _
        repeat (go_big_quiet_step (fail))
        refine wpQuiet_nil ?_
        refine wpQuiet_nil ?_
        change wpList _ _ _ (_ :: []) _ _
        replace hC := hC.later (Below.refl _ _).drew
        replace HG := grown_tr HG (below_grown (Below.refl wr.heap.size wr).drew (some p))
        clear z0 z1 z2
        replace hZ : Blk wr.drew (w.heap.size) 31 #[.string ⟨#[]⟩, .string ⟨#[]⟩, .int .i64 0] := hZ
        clear q0 q1
        replace hQ : Blk wr.drew ((w.heap.size + 1)) 27 #[.string ⟨#[]⟩, .string ⟨#[]⟩] := hQ
        clear l0 l1 l2
        replace hL : Blk wr.drew (w1.heap.size) 31 #[.string x.dur, .string x.pen, .int .i64 x.cnt] := hL
        have szd : wr.drew.heap.size = wr.heap.size := rfl
        generalize wr.drew = wD at *
        have z0 := (hZ.cell 0).trans (show _ = some (.string ⟨#[]⟩) from rfl)
        have z1 := (hZ.cell 1).trans (show _ = some (.string ⟨#[]⟩) from rfl)
        have z2 := (hZ.cell 2).trans (show _ = some (.int .i64 0) from rfl)
        have q0 := (hQ.cell 0).trans (show _ = some (.string ⟨#[]⟩) from rfl)
        have q1 := (hQ.cell 1).trans (show _ = some (.string ⟨#[]⟩) from rfl)
        have l0 := (hL.cell 0).trans (show _ = some (.string x.dur) from rfl)
        have l1 := (hL.cell 1).trans (show _ = some (.string x.pen) from rfl)
        have l2 := (hL.cell 2).trans (show _ = some (.int .i64 x.cnt) from rfl)
        go_wp2_with fail
        refine (logRecord_is p A c cs hcs (n0 + 110 + 2 + 2) (by omega) _ (hC.later (by repeat (first | exact Below.refl _ _ | refine Below.alloc ?_ (by first | exact Nat.le_refl _ | (simp <;> omega)) _ | refine Below.setCell ?_ (by first | exact Nat.le_refl _ | (simp <;> omega)) _)))).mono ?_
        rintro e w6 ⟨y, rfl, ⟨hy1, hy2⟩, hS6⟩
        clear z0 z1 z2
        clear q0 q1
        clear l0 l1 l2
        have hg6 : wD.grownBy w6 (some p) := grown_tr (below_grown (by repeat (first | exact Below.refl _ _ | refine Below.alloc ?_ (by first | exact Nat.le_refl _ | (simp <;> omega)) _ | refine Below.setCell ?_ (by first | exact Nat.le_refl _ | (simp <;> omega)) _)) _) hS6.2
        replace hC := hS6.1
        have sz6 := hg6.size
        replace HG := grown_tr HG hg6
        replace hZ := hZ.grownB hg6 (by omega)
        replace hQ := hQ.grownB hg6 (by omega)
        replace hL := hL.grownB hg6 (by omega)
        have z0 := (hZ.cell 0).trans (show _ = some (.string ⟨#[]⟩) from rfl)
        have z1 := (hZ.cell 1).trans (show _ = some (.string ⟨#[]⟩) from rfl)
        have z2 := (hZ.cell 2).trans (show _ = some (.int .i64 0) from rfl)
        have q0 := (hQ.cell 0).trans (show _ = some (.string ⟨#[]⟩) from rfl)
        have q1 := (hQ.cell 1).trans (show _ = some (.string ⟨#[]⟩) from rfl)
        have l0 := (hL.cell 0).trans (show _ = some (.string x.dur) from rfl)
        have l1 := (hL.cell 1).trans (show _ = some (.string x.pen) from rfl)
        have l2 := (hL.cell 2).trans (show _ = some (.int .i64 x.cnt) from rfl)
        go_wp2
        refine Nrm_keep hL (hK _ _ ?_)
        refine wpMx_cons fun K2 hK2 => ?_
        refine wpQuiet_nil ?_
        refine wpQuiet_nil ?_
        change wpList _ _ _ (_ :: []) _ _
        clear k0 k1 k2
        have fhZ0 := hZ.frozen 0
        have fhZ1 := hZ.frozen 1
        have fhZ2 := hZ.frozen 2
        have yhZ := hZ.lt
        have yhQ := hQ.lt
        have yhL := hL.lt
        go_wp2
        clear fhZ0 fhZ1 fhZ2 yhZ yhL yhQ z0 z1 z2 l0 l1 l2 q0 q1
        have HG2 : w.grownBy (((w6.setCell ⟨w.heap.size, 0, none⟩ (.string x.dur)).setCell ⟨w.heap.size, 1, none⟩ (.string x.pen)).setCell ⟨w.heap.size, 2, none⟩ (.int .i64 x.cnt)) (some p) := grown_store (grown_store (grown_store HG (g := w.heap.size) (Nat.le_refl _) 0 _) (Nat.le_refl _) 1 _) (Nat.le_refl _) 2 _
        have hgs := grown_set (j := 2) (grown_set (j := 1) (grown_set (j := 0) (grown_refl w6 (some w.heap.size)) (.string x.dur)) (.string x.pen)) (.int .i64 x.cnt)
        have hZ2 : Blk (((w6.setCell ⟨w.heap.size, 0, none⟩ (.string x.dur)).setCell ⟨w.heap.size, 1, none⟩ (.string x.pen)).setCell ⟨w.heap.size, 2, none⟩ (.int .i64 x.cnt)) w.heap.size 31 #[.string x.dur, .string x.pen, .int .i64 x.cnt] := ((hZ.set_ 0 (.string x.dur)).set_ 1 (.string x.pen)).set_ 2 (.int .i64 x.cnt)
        have hL2 := hL.grownB hgs (by omega)
        have hQ2 := hQ.grownB hgs (by omega)
        clear hZ HG hL hQ hgs hC
        generalize (((w6.setCell ⟨w.heap.size, 0, none⟩ (.string x.dur)).setCell ⟨w.heap.size, 1, none⟩ (.string x.pen)).setCell ⟨w.heap.size, 2, none⟩ (.int .i64 x.cnt)) = W8 at *
        refine Nrm_keep hL2 (hK2 _ _ ?_)
        refine wpMx_cons fun K3 hK3 => ?_
        refine wpQuiet_nil ?_
        refine wpQuiet_nil ?_
        change wpList _ _ _ (_ :: []) _ _
        have fq0 := hQ2.frozen 0
        have fq1 := hQ2.frozen 1
        have q0 := (hQ2.cell 0).trans (show _ = some (.string ⟨#[]⟩) from rfl)
        have q1 := (hQ2.cell 1).trans (show _ = some (.string ⟨#[]⟩) from rfl)
        have yQ := hQ2.lt
        go_wp2
        clear fq0 fq1 q0 q1 yQ
        have HG3 : w.grownBy ((W8.setCell ⟨w.heap.size + 1, 0, none⟩ (.string y.cmd)).setCell ⟨w.heap.size + 1, 1, none⟩ (.string y.rep)) (some p) := grown_store (grown_store HG2 (g := w.heap.size + 1) (by omega) 0 _) (by omega) 1 _
        have hgs := grown_set (j := 1) (grown_set (j := 0) (grown_refl W8 (some (w.heap.size + 1))) (.string y.cmd)) (.string y.rep)
        have hQ3 : Blk ((W8.setCell ⟨w.heap.size + 1, 0, none⟩ (.string y.cmd)).setCell ⟨w.heap.size + 1, 1, none⟩ (.string y.rep)) (w.heap.size + 1) 27 #[.string y.cmd, .string y.rep] := (hQ2.set_ 0 (.string y.cmd)).set_ 1 (.string y.rep)
        have hZ3 := hZ2.grownB hgs (by omega)
        have hL3 := hL2.grownB hgs (by omega)
        clear hZ2 hL2 hQ2 HG2 hgs
        generalize ((W8.setCell ⟨w.heap.size + 1, 0, none⟩ (.string y.cmd)).setCell ⟨w.heap.size + 1, 1, none⟩ (.string y.rep)) = W9 at *
        refine Nrm_keep hL3 (hK3 _ _ ?_)
        refine wpMx_last ?_
        refine wpQuiet_nil ?_
        refine wpQuiet_nil ?_
        have z0 := (hZ3.cell 0).trans (show _ = some (.string x.dur) from rfl)
        have z1 := (hZ3.cell 1).trans (show _ = some (.string x.pen) from rfl)
        have z2 := (hZ3.cell 2).trans (show _ = some (.int .i64 x.cnt) from rfl)
        have q0 := (hQ3.cell 0).trans (show _ = some (.string y.cmd) from rfl)
        have q1 := (hQ3.cell 1).trans (show _ = some (.string y.rep) from rfl)
        go_wp2
        refine bodyPost_ret (v := .tuple #[.agg #[.string x.dur, .string x.pen, .int .i64 x.cnt], .agg #[.string y.cmd, .string y.rep]]) (by simp [results, Tryd.results36, go_sem, z0, z1, z2, q0, q1]) rfl ?_
        exact ⟨x, y, rfl, by omega, ⟨hy1, hy2⟩, grown_below HG3 (Nat.le_refl _) (fun k hk => by cases hk; omega)⟩
end Go.Proofs.YtpejnfhenpdobaaDoor
