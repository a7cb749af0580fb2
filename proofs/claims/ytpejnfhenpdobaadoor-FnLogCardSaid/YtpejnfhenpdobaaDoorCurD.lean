/- The draws of the log's laws. -/
import Derived.Test.YtpejnfhenpdobaaDoorCurL
import Derived.Test.YtpejnfhenpdobaaDoorMkr
import Derived.Deep.Cut
import Derived.Outline
namespace Go.Proofs.YtpejnfhenpdobaaDoor
open Go.RowKit Go.G9
set_option maxHeartbeats 400000 in
set_option maxRecDepth 100000 in
theorem drawCrashLog_is (A : Option Addr) (c : Nat) (cs : List UInt8) (hcs : cs.length ≤ 1048576) (w : World) (hR : Rds 1 u8C w A cs) :
  Calls Tryd.prog 41 #[.slice A cs.length c] w fun e w' => ∃ (x : LogT) (k : Int) (b : Bool), e = .returned (.tuple #[.agg #[.string x.dur, .string x.pen, .int .i64 x.cnt], .int .i64 k, .bool b]) ∧ (x.dur.size + x.pen.size ≤ 7000) ∧ (-1 ≤ k ∧ k ≤ 8000) ∧ Below w.heap.size w w' := by
  go_enter Tryd.func41, Tryd.ntmps41
  go_upto_region 2 with fail
  have hlt : ∀ ad, A = some ad → 0 < cs.length → ad.block < w.heap.size := fun ad h h0 => by
    obtain ⟨b, off, h1, h2, _⟩ := hR h0
    rw [h1] at h; cases h; exact h2
  have hZ := (Blk.new w 31 #[.string ⟨#[]⟩, .string ⟨#[]⟩, .int .i64 0]).alloc (.cells #[.slice A cs.length c, .int .i64 0, .int .u64 0] 74)
  have hP := Blk.new2 w (.cells #[.string ⟨#[]⟩, .string ⟨#[]⟩, .int .i64 0] 31) 74 #[.slice A cs.length c, .int .i64 0, .int .u64 0]
  have HB : Below w.heap.size w ((w.alloc (.cells #[.string ⟨#[]⟩, .string ⟨#[]⟩, .int .i64 0] 31)).alloc (.cells #[.slice A cs.length c, .int .i64 0, .int .u64 0] 74)) := bl2 w _ _
  generalize ((w.alloc (.cells #[.string ⟨#[]⟩, .string ⟨#[]⟩, .int .i64 0] 31)).alloc (.cells #[.slice A cs.length c, .int .i64 0, .int .u64 0] 74)) = wA at *
  have hC : Cur wA (w.heap.size + 1) A c cs 0 := ⟨⟨0, 0, hP, by decide, by decide⟩, hR.below HB, fun ad h h0 => by have := hlt ad h h0; omega⟩
  obtain ⟨p, hpe⟩ : ∃ p, p = w.heap.size + 1 := ⟨_, rfl⟩
  rw [← hpe] at hC
  obtain ⟨n0, hn0⟩ : ∃ n : Nat, n ≤ 0 := ⟨0, Nat.le_refl _⟩
  replace hC : Cur wA p A c cs n0 := hC.mono (Nat.zero_le _)
  simp only [← hpe]
  have hp := hC.lt
  have HG := grown_refl w (some p)
  replace HG : w.grownBy wA (some p) := below_grown HB _
  have szw : w.heap.size ≤ wA.heap.size := HB.size
  have HPE := Lib.hid hpe
  have hwp : w.heap.size < p := by omega
  clear hR hlt hP HB hpe
  have z0 := (hZ.cell 0).trans (show _ = some (.string ⟨#[]⟩) from rfl)
  have z1 := (hZ.cell 1).trans (show _ = some (.string ⟨#[]⟩) from rfl)
  have z2 := (hZ.cell 2).trans (show _ = some (.int .i64 0) from rfl)
  go_wp2_with fail
  refine (anyLog_is p A c cs hcs n0 (by omega) _ (hC.later (by repeat (first | exact Below.refl _ _ | refine Below.alloc ?_ (by first | exact Nat.le_refl _ | (simp <;> omega)) _ | refine Below.setCell ?_ (by first | exact Nat.le_refl _ | (simp <;> omega)) _)))).mono ?_
  rintro e w1 ⟨x, rfl, hx, hS1⟩
  clear z0 z1 z2
  have hg1 : wA.grownBy w1 (some p) := grown_tr (below_grown (by repeat (first | exact Below.refl _ _ | refine Below.alloc ?_ (by first | exact Nat.le_refl _ | (simp <;> omega)) _ | refine Below.setCell ?_ (by first | exact Nat.le_refl _ | (simp <;> omega)) _)) _) hS1.2
  replace hC := hS1.1
  have sz1 := hg1.size
  replace HG := grown_tr HG hg1
  replace hZ := hZ.grownB hg1 (by omega)
  have z0 := (hZ.cell 0).trans (show _ = some (.string ⟨#[]⟩) from rfl)
  have z1 := (hZ.cell 1).trans (show _ = some (.string ⟨#[]⟩) from rfl)
  have z2 := (hZ.cell 2).trans (show _ = some (.int .i64 0) from rfl)
  go_upto_region 3 with fail
  have hb2 : Below w1.heap.size w1 (World.alloc w1 (.cells #[.string x.dur, .string x.pen, .int .i64 x.cnt] 31)) := bl1 w1 _
  have hL : Blk (World.alloc w1 (.cells #[.string x.dur, .string x.pen, .int .i64 x.cnt] 31)) (w1.heap.size) 31 #[.string x.dur, .string x.pen, .int .i64 x.cnt] := by repeat (first | exact Blk.new _ _ _ | exact Blk.new2 _ _ _ _ | exact Blk.new3 _ _ _ _ _ | exact Blk.new4 _ _ _ _ _ _ | refine Blk.alloc ?_ _)
  generalize World.alloc w1 (.cells #[.string x.dur, .string x.pen, .int .i64 x.cnt] 31) = wL at *
  replace hC := hC.later hb2
  replace HG := grown_tr HG (below_grown hb2 (some p))
  clear z0 z1 z2
  replace hZ := hZ.grownB (below_grown hb2 (some p)) (by omega)
  have z0 := (hZ.cell 0).trans (show _ = some (.string ⟨#[]⟩) from rfl)
  have z1 := (hZ.cell 1).trans (show _ = some (.string ⟨#[]⟩) from rfl)
  have z2 := (hZ.cell 2).trans (show _ = some (.int .i64 0) from rfl)
  have sz2 := hb2.size
  have LhL := hL.lt
  have l0 := (hL.cell 0).trans (show _ = some (.string x.dur) from rfl)
  have l1 := (hL.cell 1).trans (show _ = some (.string x.pen) from rfl)
  have l2 := (hL.cell 2).trans (show _ = some (.int .i64 x.cnt) from rfl)
  have hx3 : (x.pen.size : Int) + 3 ≤ 1048576 := by omega
  go_wp2_with fail
  refine (pick_is ((x.pen.size : Int) + 3) p A c cs hcs (n0 + 110) (by omega) (by omega) _ (hC.later (by repeat (first | exact Below.refl _ _ | refine Below.alloc ?_ (by first | exact Nat.le_refl _ | (simp <;> omega)) _ | refine Below.setCell ?_ (by first | exact Nat.le_refl _ | (simp <;> omega)) _)))).mono ?_
  rintro e w3 ⟨r, rfl, ⟨hr0, _, hr1⟩, hS3⟩
  clear z0 z1 z2
  clear l0 l1 l2
  have hg3 : wL.grownBy w3 (some p) := grown_tr (below_grown (by repeat (first | exact Below.refl _ _ | refine Below.alloc ?_ (by first | exact Nat.le_refl _ | (simp <;> omega)) _ | refine Below.setCell ?_ (by first | exact Nat.le_refl _ | (simp <;> omega)) _)) _) hS3.2
  replace hC := hS3.1
  have sz3 := hg3.size
  replace HG := grown_tr HG hg3
  replace hZ := hZ.grownB hg3 (by omega)
  replace hL := hL.grownB hg3 (by omega)
  have z0 := (hZ.cell 0).trans (show _ = some (.string ⟨#[]⟩) from rfl)
  have z1 := (hZ.cell 1).trans (show _ = some (.string ⟨#[]⟩) from rfl)
  have z2 := (hZ.cell 2).trans (show _ = some (.int .i64 0) from rfl)
  have l0 := (hL.cell 0).trans (show _ = some (.string x.dur) from rfl)
  have l1 := (hL.cell 1).trans (show _ = some (.string x.pen) from rfl)
  have l2 := (hL.cell 2).trans (show _ = some (.int .i64 x.cnt) from rfl)
  have hr2 := hr1 (by omega)
  clear hr1
  go_upto_region 4 with fail
  haveI : Nonempty (Hld (fun V => Blk V w1.heap.size 31 #[.string x.dur, .string x.pen, .int .i64 x.cnt])) := ⟨⟨w3, hL⟩⟩
  haveI : Nonempty (Hld (fun _ => True)) := ⟨⟨w3, trivial⟩⟩
  have k0 := fun K : Hld (fun V => Blk V w1.heap.size 31 #[.string x.dur, .string x.pen, .int .i64 x.cnt]) => (K.holds.cell 0).trans (show _ = some (.string x.dur) from rfl)
  have k1 := fun K : Hld (fun V => Blk V w1.heap.size 31 #[.string x.dur, .string x.pen, .int .i64 x.cnt]) => (K.holds.cell 1).trans (show _ = some (.string x.pen) from rfl)
  have k2 := fun K : Hld (fun V => Blk V w1.heap.size 31 #[.string x.dur, .string x.pen, .int .i64 x.cnt]) => (K.holds.cell 2).trans (show _ = some (.int .i64 x.cnt) from rfl)
  refine wp_region_mx (fun V => Blk V w1.heap.size 31 #[.string x.dur, .string x.pen, .int .i64 x.cnt]) [([0, 1, 2], [], 3, false), ([], [], 4, false)] [] [5, 6] (by kernel_rfl) (by kernel_rfl) hL.drew ?_
  refine wpMx_cons fun K hK => ?_
  change wpQuiet _ _ _ _ (_ :: _ :: _ :: []) _
  repeat (go_big_quiet_step (fail))
  refine wpQuiet_nil ?_
  refine wpQuiet_nil ?_
  change wpList _ _ _ (_ :: []) _ _
  replace hC := hC.later (Below.refl _ _).drew
  replace HG := grown_tr HG (below_grown (Below.refl w3.heap.size w3).drew (some p))
  clear z0 z1 z2
  replace hZ : Blk w3.drew (w.heap.size) 31 #[.string ⟨#[]⟩, .string ⟨#[]⟩, .int .i64 0] := hZ
  clear l0 l1 l2
  replace hL : Blk w3.drew (w1.heap.size) 31 #[.string x.dur, .string x.pen, .int .i64 x.cnt] := hL
  have szd : w3.drew.heap.size = w3.heap.size := rfl
  generalize w3.drew = wD at *
  have z0 := (hZ.cell 0).trans (show _ = some (.string ⟨#[]⟩) from rfl)
  have z1 := (hZ.cell 1).trans (show _ = some (.string ⟨#[]⟩) from rfl)
  have z2 := (hZ.cell 2).trans (show _ = some (.int .i64 0) from rfl)
  have l0 := (hL.cell 0).trans (show _ = some (.string x.dur) from rfl)
  have l1 := (hL.cell 1).trans (show _ = some (.string x.pen) from rfl)
  have l2 := (hL.cell 2).trans (show _ = some (.int .i64 x.cnt) from rfl)
  go_wp2_with fail
  refine (one_is 2 p A c cs hcs (n0 + 110 + 2) (by omega) (by omega) _ (hC.later (by repeat (first | exact Below.refl _ _ | refine Below.alloc ?_ (by first | exact Nat.le_refl _ | (simp <;> omega)) _ | refine Below.setCell ?_ (by first | exact Nat.le_refl _ | (simp <;> omega)) _)))).mono ?_
  rintro e w4 ⟨b, rfl, hS4⟩
  clear z0 z1 z2
  clear l0 l1 l2
  have hg4 : wD.grownBy w4 (some p) := grown_tr (below_grown (by repeat (first | exact Below.refl _ _ | refine Below.alloc ?_ (by first | exact Nat.le_refl _ | (simp <;> omega)) _ | refine Below.setCell ?_ (by first | exact Nat.le_refl _ | (simp <;> omega)) _)) _) hS4.2
  replace hC := hS4.1
  have sz4 := hg4.size
  replace HG := grown_tr HG hg4
  replace hZ := hZ.grownB hg4 (by omega)
  replace hL := hL.grownB hg4 (by omega)
  have z0 := (hZ.cell 0).trans (show _ = some (.string ⟨#[]⟩) from rfl)
  have z1 := (hZ.cell 1).trans (show _ = some (.string ⟨#[]⟩) from rfl)
  have z2 := (hZ.cell 2).trans (show _ = some (.int .i64 0) from rfl)
  have l0 := (hL.cell 0).trans (show _ = some (.string x.dur) from rfl)
  have l1 := (hL.cell 1).trans (show _ = some (.string x.pen) from rfl)
  have l2 := (hL.cell 2).trans (show _ = some (.int .i64 x.cnt) from rfl)
  go_wp2
  refine Nrm_keep hL (hK _ _ ?_)
  refine wpMx_cons fun K2 hK2 => ?_
  refine wpQuiet_nil ?_
  refine wpQuiet_nil ?_
  change wpList _ _ _ (_ :: []) _ _
  clear k0 k1 k2
  have fhZ0 := hZ.frozen 0
  have fhZ1 := hZ.frozen 1
  have fhZ2 := hZ.frozen 2
  have yhZ := hZ.lt
  have yhL := hL.lt
  go_wp2
  clear fhZ0 fhZ1 fhZ2 yhZ yhL z0 z1 z2 l0 l1 l2
  have HG2 : w.grownBy (((w4.setCell ⟨w.heap.size, 0, none⟩ (.string x.dur)).setCell ⟨w.heap.size, 1, none⟩ (.string x.pen)).setCell ⟨w.heap.size, 2, none⟩ (.int .i64 x.cnt)) (some p) := grown_store (grown_store (grown_store HG (g := w.heap.size) (Nat.le_refl _) 0 _) (Nat.le_refl _) 1 _) (Nat.le_refl _) 2 _
  have hZ2 : Blk (((w4.setCell ⟨w.heap.size, 0, none⟩ (.string x.dur)).setCell ⟨w.heap.size, 1, none⟩ (.string x.pen)).setCell ⟨w.heap.size, 2, none⟩ (.int .i64 x.cnt)) w.heap.size 31 #[.string x.dur, .string x.pen, .int .i64 x.cnt] := ((hZ.set_ 0 (.string x.dur)).set_ 1 (.string x.pen)).set_ 2 (.int .i64 x.cnt)
  have hL2 : Blk (((w4.setCell ⟨w.heap.size, 0, none⟩ (.string x.dur)).setCell ⟨w.heap.size, 1, none⟩ (.string x.pen)).setCell ⟨w.heap.size, 2, none⟩ (.int .i64 x.cnt)) w1.heap.size 31 #[.string x.dur, .string x.pen, .int .i64 x.cnt] := hL.grownB (grown_set (j := 2) (grown_set (j := 1) (grown_set (j := 0) (grown_refl w4 (some w.heap.size)) (.string x.dur)) (.string x.pen)) (.int .i64 x.cnt)) (by omega)
  clear hZ HG hL
  generalize (((w4.setCell ⟨w.heap.size, 0, none⟩ (.string x.dur)).setCell ⟨w.heap.size, 1, none⟩ (.string x.pen)).setCell ⟨w.heap.size, 2, none⟩ (.int .i64 x.cnt)) = W9 at *
  refine Nrm_keep hL2 (hK2 _ _ ?_)
  refine wpMx_last ?_
  refine wpQuiet_nil ?_
  change wpQuiet _ _ _ _ (_ :: _ :: []) _
  repeat (go_big_quiet_step (fail))
  refine wpQuiet_nil ?_
  have z0 := (hZ2.cell 0).trans (show _ = some (.string x.dur) from rfl)
  have z1 := (hZ2.cell 1).trans (show _ = some (.string x.pen) from rfl)
  have z2 := (hZ2.cell 2).trans (show _ = some (.int .i64 x.cnt) from rfl)
  go_wp2
  refine bodyPost_ret (v := .tuple #[.agg #[.string x.dur, .string x.pen, .int .i64 x.cnt], .int .i64 (r - 1), .bool b]) (by simp [results, Tryd.results41, go_sem, z0, z1, z2]) rfl ?_
  exact ⟨x, r - 1, b, rfl, hx, ⟨by omega, by omega⟩, grown_below HG2 (Nat.le_refl _) (fun k hk => by cases hk; omega)⟩
end Go.Proofs.YtpejnfhenpdobaaDoor
