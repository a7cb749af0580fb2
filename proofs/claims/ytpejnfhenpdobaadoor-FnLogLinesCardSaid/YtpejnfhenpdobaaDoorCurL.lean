/- Draws of the log: a record, a log. -/
import Derived.Test.YtpejnfhenpdobaaDoorCurS
import Derived.Test.YtpejnfhenpdobaaDoorLogU
import Derived.Test.YtpejnfhenpdobaaDoorMkr
import Derived.Deep.Cut
import Derived.Outline
namespace Go.Proofs.YtpejnfhenpdobaaDoor
open Go.RowKit Go.G9
theorem built_rds (w : World) (xs : List ByteArray) (hm : xs.length ≤ maxLen) : Rds 1 bC (w.alloc (.cells (xs.flatMap bC).toArray 9)) (some ⟨w.heap.size, 0, none⟩) xs := (OwnV.built (B := w.heap.size) (f := bC) w xs 9 (Nat.le_refl _) hm bC_len).rds (hf := bC_len)
theorem info_u8 : (Tryd.prog.info? 5).map (fun i => (i.zero, i.size, i.bytes)) = some (some (.int .u8 0), 1, 1) := by kernel_rfl
set_option maxHeartbeats 1000000 in
set_option maxRecDepth 100000 in
theorem logRecord_is (p : Nat) (A : Option Addr) (c : Nat) (cs : List UInt8) (hcs : cs.length ≤ 1048576) (N : Nat) (hN : N ≤ 800000) (w : World) (hC : Cur w p A c cs N) :
  Calls Tryd.prog 55 #[.pointer (some ⟨p, 0, none⟩)] w fun e w' => ∃ x : LRec, e = .returned (.agg #[.string x.cmd, .string x.rep]) ∧ (x.cmd.size ≤ 20 ∧ x.rep.size ≤ 20) ∧ Stepped w w' p A c cs (N + 10) := by
  go_enter Tryd.func55, Tryd.ntmps55
  have hp := hC.lt
  have HG := grown_refl w (some p)
  go_upto_region 1 with fail
  have hb1 : Below w.heap.size w (World.alloc w (.cells #[.string ⟨#[]⟩, .string ⟨#[]⟩] 27)) := bl1 w _
  have hZ : Blk (World.alloc w (.cells #[.string ⟨#[]⟩, .string ⟨#[]⟩] 27)) (w.heap.size) 27 #[.string ⟨#[]⟩, .string ⟨#[]⟩] := by repeat (first | exact Blk.new _ _ _ | exact Blk.new2 _ _ _ _ | exact Blk.new3 _ _ _ _ _ | exact Blk.new4 _ _ _ _ _ _ | refine Blk.alloc ?_ _)
  generalize World.alloc w (.cells #[.string ⟨#[]⟩, .string ⟨#[]⟩] 27) = w1 at *
  replace hC := hC.later hb1
  replace HG := grown_tr HG (below_grown hb1 (some p))
  have sz1 := hb1.size
  have LhZ := hZ.lt
  have z0 := (hZ.cell 0).trans (show _ = some (.string ⟨#[]⟩) from rfl)
  have z1 := (hZ.cell 1).trans (show _ = some (.string ⟨#[]⟩) from rfl)
  have hL1 := built_rds w1 [(⟨#[99, 111, 117, 110, 116]⟩ : ByteArray), (⟨#[115, 111, 114, 116, 32, 109, 101, 114, 103, 101]⟩ : ByteArray), (⟨#[120]⟩ : ByteArray), (⟨#[115, 101, 108, 101, 99, 116, 32, 50]⟩ : ByteArray), (⟨#[48, 32, 49]⟩ : ByteArray)] (by simp [maxLen])
  simp only [List.flatMap_cons, List.flatMap_nil, bC, List.append_nil, List.singleton_append] at hL1
  have HL1 := Lib.hid hL1; clear hL1
  have hpn : p < w1.heap.size := by omega
  go_wp2_with fail
  refine (of_is (some ⟨w1.heap.size, 0, none⟩) _ [(⟨#[99, 111, 117, 110, 116]⟩ : ByteArray), (⟨#[115, 111, 114, 116, 32, 109, 101, 114, 103, 101]⟩ : ByteArray), (⟨#[120]⟩ : ByteArray), (⟨#[115, 101, 108, 101, 99, 116, 32, 50]⟩ : ByteArray), (⟨#[48, 32, 49]⟩ : ByteArray)] (by simp) (by simp) p A c cs hcs N (by omega) _ (hC.later (by repeat (first | exact Below.refl _ _ | refine Below.alloc ?_ (by first | exact Nat.le_refl _ | (simp <;> omega)) _ | refine Below.setCell ?_ (by first | exact Nat.le_refl _ | (simp <;> omega)) _))) HL1.out (fun ad h _ => by cases h; show w1.heap.size ≠ p; omega)).mono ?_
  rintro e w2 ⟨s1, rfl, hm1, hS2⟩
  clear z0 z1
  have hg2 : w1.grownBy w2 (some p) := grown_tr (below_grown (by repeat (first | exact Below.refl _ _ | refine Below.alloc ?_ (by first | exact Nat.le_refl _ | (simp <;> omega)) _ | refine Below.setCell ?_ (by first | exact Nat.le_refl _ | (simp <;> omega)) _)) _) hS2.2
  replace hC := hS2.1
  have sz2 := hg2.size
  replace HG := grown_tr HG hg2
  replace hZ := hZ.grownB hg2 (by omega)
  have z0 := (hZ.cell 0).trans (show _ = some (.string ⟨#[]⟩) from rfl)
  have z1 := (hZ.cell 1).trans (show _ = some (.string ⟨#[]⟩) from rfl)
  have hz1 : s1.size ≤ 12 := by
    simp only [List.mem_cons, List.not_mem_nil, or_false] at hm1
    rcases hm1 with rfl | rfl | rfl | rfl | rfl <;> decide
  have hL2 := built_rds w2 [(⟨#[]⟩ : ByteArray), (⟨#[51]⟩ : ByteArray), (⟨#[63]⟩ : ByteArray), (⟨#[97, 64, 98]⟩ : ByteArray), (⟨#[51, 32, 49, 32, 50]⟩ : ByteArray)] (by simp [maxLen])
  simp only [List.flatMap_cons, List.flatMap_nil, bC, List.append_nil, List.singleton_append] at hL2
  have HL2 := Lib.hid hL2; clear hL2 hm1 HL1
  go_wp2_with fail
  refine (of_is (some ⟨w2.heap.size, 0, none⟩) _ [(⟨#[]⟩ : ByteArray), (⟨#[51]⟩ : ByteArray), (⟨#[63]⟩ : ByteArray), (⟨#[97, 64, 98]⟩ : ByteArray), (⟨#[51, 32, 49, 32, 50]⟩ : ByteArray)] (by simp) (by simp) p A c cs hcs (N + 2) (by omega) _ (hC.later (by repeat (first | exact Below.refl _ _ | refine Below.alloc ?_ (by first | exact Nat.le_refl _ | (simp <;> omega)) _ | refine Below.setCell ?_ (by first | exact Nat.le_refl _ | (simp <;> omega)) _))) HL2.out (fun ad h _ => by cases h; show w2.heap.size ≠ p; omega)).mono ?_
  rintro e w3 ⟨s2, rfl, hm2, hS3⟩
  clear z0 z1
  have hg3 : w2.grownBy w3 (some p) := grown_tr (below_grown (by repeat (first | exact Below.refl _ _ | refine Below.alloc ?_ (by first | exact Nat.le_refl _ | (simp <;> omega)) _ | refine Below.setCell ?_ (by first | exact Nat.le_refl _ | (simp <;> omega)) _)) _) hS3.2
  replace hC := hS3.1
  have sz3 := hg3.size
  replace HG := grown_tr HG hg3
  replace hZ := hZ.grownB hg3 (by omega)
  have z0 := (hZ.cell 0).trans (show _ = some (.string ⟨#[]⟩) from rfl)
  have z1 := (hZ.cell 1).trans (show _ = some (.string ⟨#[]⟩) from rfl)
  have hz2 : s2.size ≤ 12 := by
    simp only [List.mem_cons, List.not_mem_nil, or_false] at hm2
    rcases hm2 with rfl | rfl | rfl | rfl | rfl <;> decide
  clear hm2 HL2
  go_upto_region 2 with fail
  have hb4 : Below w3.heap.size w3 (World.alloc w3 (.cells #[.string s1, .string s2] 27)) := bl1 w3 _
  have hE : Blk (World.alloc w3 (.cells #[.string s1, .string s2] 27)) (w3.heap.size) 27 #[.string s1, .string s2] := by repeat (first | exact Blk.new _ _ _ | exact Blk.new2 _ _ _ _ | exact Blk.new3 _ _ _ _ _ | exact Blk.new4 _ _ _ _ _ _ | refine Blk.alloc ?_ _)
  generalize World.alloc w3 (.cells #[.string s1, .string s2] 27) = w4 at *
  replace hC := hC.later hb4
  replace HG := grown_tr HG (below_grown hb4 (some p))
  clear z0 z1
  replace hZ := hZ.grownB (below_grown hb4 (some p)) (by omega)
  have z0 := (hZ.cell 0).trans (show _ = some (.string ⟨#[]⟩) from rfl)
  have z1 := (hZ.cell 1).trans (show _ = some (.string ⟨#[]⟩) from rfl)
  have sz4 := hb4.size
  have LhE := hE.lt
  have e0 := (hE.cell 0).trans (show _ = some (.string s1) from rfl)
  have e1 := (hE.cell 1).trans (show _ = some (.string s2) from rfl)
  go_wp2_with fail
  refine (pick_is 24 p A c cs hcs (N + 2 + 2) (by omega) (by omega) _ (hC.later (by repeat (first | exact Below.refl _ _ | refine Below.alloc ?_ (by first | exact Nat.le_refl _ | (simp <;> omega)) _ | refine Below.setCell ?_ (by first | exact Nat.le_refl _ | (simp <;> omega)) _)))).mono ?_
  rintro e w5 ⟨r, rfl, ⟨hr0, _, _⟩, hS5⟩
  clear z0 z1
  clear e0 e1
  have hg5 : w4.grownBy w5 (some p) := grown_tr (below_grown (by repeat (first | exact Below.refl _ _ | refine Below.alloc ?_ (by first | exact Nat.le_refl _ | (simp <;> omega)) _ | refine Below.setCell ?_ (by first | exact Nat.le_refl _ | (simp <;> omega)) _)) _) hS5.2
  replace hC := hS5.1
  have sz5 := hg5.size
  replace HG := grown_tr HG hg5
  replace hZ := hZ.grownB hg5 (by omega)
  replace hE := hE.grownB hg5 (by omega)
  have z0 := (hZ.cell 0).trans (show _ = some (.string ⟨#[]⟩) from rfl)
  have z1 := (hZ.cell 1).trans (show _ = some (.string ⟨#[]⟩) from rfl)
  have e0 := (hE.cell 0).trans (show _ = some (.string s1) from rfl)
  have e1 := (hE.cell 1).trans (show _ = some (.string s2) from rfl)
  rcases Int.lt_trichotomy r 1 with hr | hr | hr
  · obtain rfl : r = 0 := by omega
    obtain ⟨i0, hi, hy0, hy1, hy2⟩ := info_parts info_u8
    have hmk : (Instr.makeSlice 53 (.int .i64 3) (.int .i64 3)).run Tryd.prog w5 = .ok (.slice (some ⟨w5.heap.size, 0, none⟩) 3 3) (w5.alloc (.cells #[.int .u8 0, .int .u8 0, .int .u8 0] 5)) := by
      have := run_make_rowN (P := Tryd.prog) 53 5 i0 _ Tryd.underlying53 hi hy0 .i64 .i64 3 3 (Nat.le_refl _) (by rw [hy2]; omega) (by omega) w5
      rw [hy1] at this
      have e : madeCells (Value.int .u8 0).cells (3 * 1) = #[.int .u8 0, .int .u8 0, .int .u8 0] := by kernel_rfl
      rw [e] at this
      exact this
    have hby : Lib.Bytes (w5.alloc (.cells #[.int .u8 0, .int .u8 0, .int .u8 0] 5)) w5.heap.size 0 ⟨#[0, 0, 0]⟩ := by
      intro i hi
      have h := (Blk.new w5 5 #[.int .u8 0, .int .u8 0, .int .u8 0]).cell (0 + i)
      have hi' : i < 3 := hi
      rw [h]
      match i, hi' with
      | 0, _ => rfl
      | 1, _ => rfl
      | 2, _ => rfl
    have kc := Lib.run_convert_whole (P := Tryd.prog) _ 53 5 9 Tryd.underlying53 Tryd.underlying5 Tryd.underlying9 w5.heap.size 0 ⟨#[0, 0, 0]⟩ hby 3
    rw [show (⟨#[0, 0, 0]⟩ : ByteArray).size = 3 from rfl] at kc
    have hL3 := built_rds (w5.alloc (.cells #[.int .u8 0, .int .u8 0, .int .u8 0] 5)) [(⟨#[]⟩ : ByteArray), (⟨#[97, 64, 98]⟩ : ByteArray), (⟨#[97, 35]⟩ : ByteArray), (⟨#[10]⟩ : ByteArray), ⟨#[0, 0, 0]⟩] (by simp [maxLen])
    rw [show (w5.alloc (.cells #[.int .u8 0, .int .u8 0, .int .u8 0] 5)).heap.size = w5.heap.size + 1 from by simp] at hL3
    simp only [List.flatMap_cons, List.flatMap_nil, bC, List.append_nil, List.singleton_append] at hL3
    have HL3 := Lib.hid hL3; clear hL3 hby
    go_wp2_with fail
    refine (of_is (some ⟨w5.heap.size + 1, 0, none⟩) _ [(⟨#[]⟩ : ByteArray), (⟨#[97, 64, 98]⟩ : ByteArray), (⟨#[97, 35]⟩ : ByteArray), (⟨#[10]⟩ : ByteArray), ⟨#[0, 0, 0]⟩] (by simp) (by simp) p A c cs hcs (N + 2 + 2 + 2) (by omega) _ (hC.later (by repeat (first | exact Below.refl _ _ | refine Below.alloc ?_ (by first | exact Nat.le_refl _ | (simp <;> omega)) _ | refine Below.setCell ?_ (by first | exact Nat.le_refl _ | (simp <;> omega)) _))) HL3.out (fun ad h _ => by cases h; show w5.heap.size + 1 ≠ p; omega)).mono ?_
    rintro e w6 ⟨s3, rfl, hm3, hS6⟩
    clear z0 z1
    clear e0 e1
    have hg6 : w5.grownBy w6 (some p) := grown_tr (below_grown (by repeat (first | exact Below.refl _ _ | refine Below.alloc ?_ (by first | exact Nat.le_refl _ | (simp <;> omega)) _ | refine Below.setCell ?_ (by first | exact Nat.le_refl _ | (simp <;> omega)) _)) _) hS6.2
    replace hC := hS6.1
    have sz6 := hg6.size
    replace HG := grown_tr HG hg6
    replace hZ := hZ.grownB hg6 (by omega)
    replace hE := hE.grownB hg6 (by omega)
    have z0 := (hZ.cell 0).trans (show _ = some (.string ⟨#[]⟩) from rfl)
    have z1 := (hZ.cell 1).trans (show _ = some (.string ⟨#[]⟩) from rfl)
    have e0 := (hE.cell 0).trans (show _ = some (.string s1) from rfl)
    have e1 := (hE.cell 1).trans (show _ = some (.string s2) from rfl)
    have hz3 : s3.size ≤ 12 := by
      simp only [List.mem_cons, List.not_mem_nil, or_false] at hm3
      rcases hm3 with rfl | rfl | rfl | rfl | rfl <;> decide
    clear hm3 HL3 hmk kc
    have fhE0 := hE.frozen 0
    have yhZ := hZ.lt
    have yhE := hE.lt
    go_upto_region 7 with fail
    clear fhE0 yhZ yhE
    clear z0 z1
    clear e0 e1
    replace HG : w.grownBy (World.setCell w6 ⟨w3.heap.size, 0, none⟩ (.string s3)) (some p) := (grown_store HG (g := w3.heap.size) (by omega) 0 (.string s3))
    replace hC := (hC.store (g := w3.heap.size) (by omega) 0 (.string s3))
    replace hZ := hZ.grownB (grown_set (j := 0) (grown_refl w6 (some (w3.heap.size))) (.string s3)) (by omega)
    replace hE : Blk (World.setCell w6 ⟨w3.heap.size, 0, none⟩ (.string s3)) (w3.heap.size) 27 #[.string s3, .string s2] := (hE.set_ 0 (.string s3))
    generalize World.setCell w6 ⟨w3.heap.size, 0, none⟩ (.string s3) = w7 at *
    have z0 := (hZ.cell 0).trans (show _ = some (.string ⟨#[]⟩) from rfl)
    have z1 := (hZ.cell 1).trans (show _ = some (.string ⟨#[]⟩) from rfl)
    have e0 := (hE.cell 0).trans (show _ = some (.string s3) from rfl)
    have e1 := (hE.cell 1).trans (show _ = some (.string s2) from rfl)
    have fhZ0 := hZ.frozen 0
    have fhZ1 := hZ.frozen 1
    have yhZ := hZ.lt
    have yhE := hE.lt
    go_wp2
    clear fhZ0 fhZ1 yhZ yhE
    clear z0 z1
    clear e0 e1
    replace HG : w.grownBy (World.setCell (World.setCell w7 ⟨w.heap.size, 0, none⟩ (.string s3)) ⟨w.heap.size, 1, none⟩ (.string s2)) (some p) := (grown_store (grown_store HG (g := w.heap.size) (by omega) 0 (.string s3)) (g := w.heap.size) (by omega) 1 (.string s2))
    replace hC := ((hC.store (g := w.heap.size) (by omega) 0 (.string s3)).store (g := w.heap.size) (by omega) 1 (.string s2))
    replace hZ : Blk (World.setCell (World.setCell w7 ⟨w.heap.size, 0, none⟩ (.string s3)) ⟨w.heap.size, 1, none⟩ (.string s2)) (w.heap.size) 27 #[.string s3, .string s2] := ((hZ.set_ 0 (.string s3)).set_ 1 (.string s2))
    replace hE := hE.grownB (grown_set (j := 1) (grown_set (j := 0) (grown_refl w7 (some (w.heap.size))) (.string s3)) (.string s2)) (by omega)
    generalize World.setCell (World.setCell w7 ⟨w.heap.size, 0, none⟩ (.string s3)) ⟨w.heap.size, 1, none⟩ (.string s2) = W9 at *
    have z0 := (hZ.cell 0).trans (show _ = some (.string s3) from rfl)
    have z1 := (hZ.cell 1).trans (show _ = some (.string s2) from rfl)
    have e0 := (hE.cell 0).trans (show _ = some (.string s3) from rfl)
    have e1 := (hE.cell 1).trans (show _ = some (.string s2) from rfl)
    refine bodyPost_ret (v := .agg #[.string s3, .string s2]) (by simp [results, Tryd.results55, go_sem, z0, z1]) rfl ?_
    exact ⟨⟨s3, s2⟩, rfl, ⟨by show s3.size ≤ 20; omega, by show s2.size ≤ 20; omega⟩, hC.mono (by omega), HG⟩
  · subst hr
    have hL3 := built_rds w5 [(⟨#[35]⟩ : ByteArray), (⟨#[10]⟩ : ByteArray), ⟨#[127]⟩] (by simp [maxLen])
    simp only [List.flatMap_cons, List.flatMap_nil, bC, List.append_nil, List.singleton_append] at hL3
    have HL3 := Lib.hid hL3; clear hL3
    go_wp2_with fail
    refine (of_is (some ⟨w5.heap.size, 0, none⟩) _ [(⟨#[35]⟩ : ByteArray), (⟨#[10]⟩ : ByteArray), ⟨#[127]⟩] (by simp) (by simp) p A c cs hcs (N + 2 + 2 + 2) (by omega) _ (hC.later (by repeat (first | exact Below.refl _ _ | refine Below.alloc ?_ (by first | exact Nat.le_refl _ | (simp <;> omega)) _ | refine Below.setCell ?_ (by first | exact Nat.le_refl _ | (simp <;> omega)) _))) HL3.out (fun ad h _ => by cases h; show w5.heap.size ≠ p; omega)).mono ?_
    rintro e w6 ⟨s3, rfl, hm3, hS6⟩
    clear z0 z1
    clear e0 e1
    have hg6 : w5.grownBy w6 (some p) := grown_tr (below_grown (by repeat (first | exact Below.refl _ _ | refine Below.alloc ?_ (by first | exact Nat.le_refl _ | (simp <;> omega)) _ | refine Below.setCell ?_ (by first | exact Nat.le_refl _ | (simp <;> omega)) _)) _) hS6.2
    replace hC := hS6.1
    have sz6 := hg6.size
    replace HG := grown_tr HG hg6
    replace hZ := hZ.grownB hg6 (by omega)
    replace hE := hE.grownB hg6 (by omega)
    have z0 := (hZ.cell 0).trans (show _ = some (.string ⟨#[]⟩) from rfl)
    have z1 := (hZ.cell 1).trans (show _ = some (.string ⟨#[]⟩) from rfl)
    have e0 := (hE.cell 0).trans (show _ = some (.string s1) from rfl)
    have e1 := (hE.cell 1).trans (show _ = some (.string s2) from rfl)
    have hz3 : s3.size ≤ 12 := by
      simp only [List.mem_cons, List.not_mem_nil, or_false] at hm3
      rcases hm3 with rfl | rfl | rfl <;> decide
    clear hm3 HL3
    have fhE1 := hE.frozen 1
    have yhZ := hZ.lt
    have yhE := hE.lt
    go_upto_region 7 with fail
    clear fhE1 yhZ yhE
    clear z0 z1
    clear e0 e1
    replace HG : w.grownBy (World.setCell w6 ⟨w3.heap.size, 1, none⟩ (.string s3)) (some p) := (grown_store HG (g := w3.heap.size) (by omega) 1 (.string s3))
    replace hC := (hC.store (g := w3.heap.size) (by omega) 1 (.string s3))
    replace hZ := hZ.grownB (grown_set (j := 1) (grown_refl w6 (some (w3.heap.size))) (.string s3)) (by omega)
    replace hE : Blk (World.setCell w6 ⟨w3.heap.size, 1, none⟩ (.string s3)) (w3.heap.size) 27 #[.string s1, .string s3] := (hE.set_ 1 (.string s3))
    generalize World.setCell w6 ⟨w3.heap.size, 1, none⟩ (.string s3) = w7 at *
    have z0 := (hZ.cell 0).trans (show _ = some (.string ⟨#[]⟩) from rfl)
    have z1 := (hZ.cell 1).trans (show _ = some (.string ⟨#[]⟩) from rfl)
    have e0 := (hE.cell 0).trans (show _ = some (.string s1) from rfl)
    have e1 := (hE.cell 1).trans (show _ = some (.string s3) from rfl)
    have fhZ0 := hZ.frozen 0
    have fhZ1 := hZ.frozen 1
    have yhZ := hZ.lt
    have yhE := hE.lt
    go_wp2
    clear fhZ0 fhZ1 yhZ yhE
    clear z0 z1
    clear e0 e1
    replace HG : w.grownBy (World.setCell (World.setCell w7 ⟨w.heap.size, 0, none⟩ (.string s1)) ⟨w.heap.size, 1, none⟩ (.string s3)) (some p) := (grown_store (grown_store HG (g := w.heap.size) (by omega) 0 (.string s1)) (g := w.heap.size) (by omega) 1 (.string s3))
    replace hC := ((hC.store (g := w.heap.size) (by omega) 0 (.string s1)).store (g := w.heap.size) (by omega) 1 (.string s3))
    replace hZ : Blk (World.setCell (World.setCell w7 ⟨w.heap.size, 0, none⟩ (.string s1)) ⟨w.heap.size, 1, none⟩ (.string s3)) (w.heap.size) 27 #[.string s1, .string s3] := ((hZ.set_ 0 (.string s1)).set_ 1 (.string s3))
    replace hE := hE.grownB (grown_set (j := 1) (grown_set (j := 0) (grown_refl w7 (some (w.heap.size))) (.string s1)) (.string s3)) (by omega)
    generalize World.setCell (World.setCell w7 ⟨w.heap.size, 0, none⟩ (.string s1)) ⟨w.heap.size, 1, none⟩ (.string s3) = W9 at *
    have z0 := (hZ.cell 0).trans (show _ = some (.string s1) from rfl)
    have z1 := (hZ.cell 1).trans (show _ = some (.string s3) from rfl)
    have e0 := (hE.cell 0).trans (show _ = some (.string s1) from rfl)
    have e1 := (hE.cell 1).trans (show _ = some (.string s3) from rfl)
    refine bodyPost_ret (v := .agg #[.string s1, .string s3]) (by simp [results, Tryd.results55, go_sem, z0, z1]) rfl ?_
    exact ⟨⟨s1, s3⟩, rfl, ⟨by show s1.size ≤ 20; omega, by show s3.size ≤ 20; omega⟩, hC.mono (by omega), HG⟩
  · have h0 : (r == 0) = false := beq_eq_false_iff_ne.2 (by omega)
    have h1 : (r == 1) = false := beq_eq_false_iff_ne.2 (by omega)
    have fhZ0 := hZ.frozen 0
    have fhZ1 := hZ.frozen 1
    have yhZ := hZ.lt
    have yhE := hE.lt
    go_wp2
    clear fhZ0 fhZ1 yhZ yhE
    clear z0 z1
    clear e0 e1
    replace HG : w.grownBy (World.setCell (World.setCell w5 ⟨w.heap.size, 0, none⟩ (.string s1)) ⟨w.heap.size, 1, none⟩ (.string s2)) (some p) := (grown_store (grown_store HG (g := w.heap.size) (by omega) 0 (.string s1)) (g := w.heap.size) (by omega) 1 (.string s2))
    replace hC := ((hC.store (g := w.heap.size) (by omega) 0 (.string s1)).store (g := w.heap.size) (by omega) 1 (.string s2))
    replace hZ : Blk (World.setCell (World.setCell w5 ⟨w.heap.size, 0, none⟩ (.string s1)) ⟨w.heap.size, 1, none⟩ (.string s2)) (w.heap.size) 27 #[.string s1, .string s2] := ((hZ.set_ 0 (.string s1)).set_ 1 (.string s2))
    replace hE := hE.grownB (grown_set (j := 1) (grown_set (j := 0) (grown_refl w5 (some (w.heap.size))) (.string s1)) (.string s2)) (by omega)
    generalize World.setCell (World.setCell w5 ⟨w.heap.size, 0, none⟩ (.string s1)) ⟨w.heap.size, 1, none⟩ (.string s2) = W9 at *
    have z0 := (hZ.cell 0).trans (show _ = some (.string s1) from rfl)
    have z1 := (hZ.cell 1).trans (show _ = some (.string s2) from rfl)
    have e0 := (hE.cell 0).trans (show _ = some (.string s1) from rfl)
    have e1 := (hE.cell 1).trans (show _ = some (.string s2) from rfl)
    refine bodyPost_ret (v := .agg #[.string s1, .string s2]) (by simp [results, Tryd.results55, go_sem, z0, z1]) rfl ?_
    exact ⟨⟨s1, s2⟩, rfl, ⟨by show s1.size ≤ 20; omega, by show s2.size ≤ 20; omega⟩, hC.mono (by omega), HG⟩
theorem apT_size (x : LogT) (y : LRec) : (apT x y).dur.size + (apT x y).pen.size ≤ x.dur.size + x.pen.size + 372 := by
  unfold apT apP
  split
  · rename_i h
    simp only [apOk, Bool.and_eq_true] at h
    have h1 := logS_n h.1.1
    have h2 := lineL_len (k := x.cnt) (by omega) (by omega) h.1.2
    simp only [bs_size, List.length_append, List.length_cons, List.length_nil]
    have : x.p.length = x.pen.size := by unfold LogT.p; exact Array.length_toList
    omega
  · rw [bs_p]; show x.dur.size + x.pen.size ≤ _; omega
theorem syncT_size (x : LogT) : (syncT x).dur.size + (syncT x).pen.size ≤ x.dur.size + x.pen.size := by
  unfold syncT
  split
  · show (x.dur ++ x.pen).size + _ ≤ _
    rw [ByteArray.size_append]; show _ + 0 ≤ _; omega
  · exact Nat.zero_le _
set_option maxHeartbeats 2000000 in
set_option maxRecDepth 100000 in
theorem drawLog_is (p : Nat) (A : Option Addr) (c : Nat) (cs : List UInt8) (hcs : cs.length ≤ 1048576) (N : Nat) (hN : N ≤ 700000) (w : World) (hC : Cur w p A c cs N) :
  Calls Tryd.prog 59 #[.pointer (some ⟨p, 0, none⟩)] w fun e w' => ∃ x : LogT, e = .returned (.agg #[.string x.dur, .string x.pen, .int .i64 x.cnt]) ∧ (x.dur.size + x.pen.size ≤ 3000) ∧ Stepped w w' p A c cs (N + 100) := by
  go_enter Tryd.func59, Tryd.ntmps59
  have hp := hC.lt
  have HG := grown_refl w (some p)
  go_upto_region 2 with fail
  have hb1 : Below w.heap.size w (World.alloc (World.alloc w (.cells #[.string ⟨#[]⟩, .string ⟨#[]⟩, .int .i64 0] 31)) (.cells #[.string ⟨#[]⟩, .string ⟨#[]⟩, .int .i64 0] 31)) := bl2 w _ _
  have hZ : Blk (World.alloc (World.alloc w (.cells #[.string ⟨#[]⟩, .string ⟨#[]⟩, .int .i64 0] 31)) (.cells #[.string ⟨#[]⟩, .string ⟨#[]⟩, .int .i64 0] 31)) (w.heap.size) 31 #[.string ⟨#[]⟩, .string ⟨#[]⟩, .int .i64 0] := by repeat (first | exact Blk.new _ _ _ | exact Blk.new2 _ _ _ _ | exact Blk.new3 _ _ _ _ _ | exact Blk.new4 _ _ _ _ _ _ | refine Blk.alloc ?_ _)
  have hL : Blk (World.alloc (World.alloc w (.cells #[.string ⟨#[]⟩, .string ⟨#[]⟩, .int .i64 0] 31)) (.cells #[.string ⟨#[]⟩, .string ⟨#[]⟩, .int .i64 0] 31)) (w.heap.size + 1) 31 #[.string ⟨#[]⟩, .string ⟨#[]⟩, .int .i64 0] := by repeat (first | exact Blk.new _ _ _ | exact Blk.new2 _ _ _ _ | exact Blk.new3 _ _ _ _ _ | exact Blk.new4 _ _ _ _ _ _ | refine Blk.alloc ?_ _)
  generalize World.alloc (World.alloc w (.cells #[.string ⟨#[]⟩, .string ⟨#[]⟩, .int .i64 0] 31)) (.cells #[.string ⟨#[]⟩, .string ⟨#[]⟩, .int .i64 0] 31) = w1 at *
  replace hC := hC.later hb1
  replace HG := grown_tr HG (below_grown hb1 (some p))
  have sz1 := hb1.size
  have LhZ := hZ.lt
  have z0 := (hZ.cell 0).trans (show _ = some (.string ⟨#[]⟩) from rfl)
  have z1 := (hZ.cell 1).trans (show _ = some (.string ⟨#[]⟩) from rfl)
  have z2 := (hZ.cell 2).trans (show _ = some (.int .i64 0) from rfl)
  have LhL := hL.lt
  have l0 := (hL.cell 0).trans (show _ = some (.string ⟨#[]⟩) from rfl)
  have l1 := (hL.cell 1).trans (show _ = some (.string ⟨#[]⟩) from rfl)
  have l2 := (hL.cell 2).trans (show _ = some (.int .i64 0) from rfl)
  go_wp2_with fail
  refine (pick_is 7 p A c cs hcs N (by omega) (by omega) _ (hC.later (by repeat (first | exact Below.refl _ _ | refine Below.alloc ?_ (by first | exact Nat.le_refl _ | (simp <;> omega)) _ | refine Below.setCell ?_ (by first | exact Nat.le_refl _ | (simp <;> omega)) _)))).mono ?_
  rintro e w2 ⟨r, rfl, ⟨hr0, _, hr1⟩, hS2⟩
  clear z0 z1 z2
  clear l0 l1 l2
  have hg2 : w1.grownBy w2 (some p) := grown_tr (below_grown (by repeat (first | exact Below.refl _ _ | refine Below.alloc ?_ (by first | exact Nat.le_refl _ | (simp <;> omega)) _ | refine Below.setCell ?_ (by first | exact Nat.le_refl _ | (simp <;> omega)) _)) _) hS2.2
  replace hC := hS2.1
  have sz2 := hg2.size
  replace HG := grown_tr HG hg2
  replace hZ := hZ.grownB hg2 (by omega)
  replace hL := hL.grownB hg2 (by omega)
  have z0 := (hZ.cell 0).trans (show _ = some (.string ⟨#[]⟩) from rfl)
  have z1 := (hZ.cell 1).trans (show _ = some (.string ⟨#[]⟩) from rfl)
  have z2 := (hZ.cell 2).trans (show _ = some (.int .i64 0) from rfl)
  have l0 := (hL.cell 0).trans (show _ = some (.string ⟨#[]⟩) from rfl)
  have l1 := (hL.cell 1).trans (show _ = some (.string ⟨#[]⟩) from rfl)
  have l2 := (hL.cell 2).trans (show _ = some (.int .i64 0) from rfl)
  have hr2 := hr1 (by omega)
  obtain ⟨r', rfl⟩ : ∃ r' : Nat, r = r' := ⟨r.toNat, by omega⟩
  clear z0 z1 z2 l0 l1 l2 hr1
  go_wp2
  go_loopw [4] (fun v4 wr => ∃ (m : Nat) (x : LogT), m ≤ 6 ∧ v4 = .int .i64 m ∧ x.dur.size + x.pen.size ≤ 400 * (6 - m) ∧ Blk wr w.heap.size 31 #[.string ⟨#[]⟩, .string ⟨#[]⟩, .int .i64 0] ∧ Blk wr (w.heap.size + 1) 31 #[.string x.dur, .string x.pen, .int .i64 x.cnt] ∧ Cur wr p A c cs (N + 2 + 16 * (6 - m)) ∧ w.grownBy wr (some p)) (fun v4 _ => (intOf v4).toNat)
  case atStart => exact ⟨r', noLog, by omega, rfl, Nat.zero_le _, hZ, hL, hC.mono (by omega), HG⟩
  case round =>
    clear hZ hL hC HG hr2 hr0
    obtain ⟨m, x, hm, rfl, hx, hZ, hL, hC, HG⟩ := hrel
    have yZ := hZ.lt
    have yL := hL.lt
    by_cases hlt : 0 < m
    · have z0 := (hZ.cell 0).trans (show _ = some (.string ⟨#[]⟩) from rfl)
      have z1 := (hZ.cell 1).trans (show _ = some (.string ⟨#[]⟩) from rfl)
      have z2 := (hZ.cell 2).trans (show _ = some (.int .i64 0) from rfl)
      have l0 := (hL.cell 0).trans (show _ = some (.string x.dur) from rfl)
      have l1 := (hL.cell 1).trans (show _ = some (.string x.pen) from rfl)
      have l2 := (hL.cell 2).trans (show _ = some (.int .i64 x.cnt) from rfl)
      have hmm : (m : Int) - 1 = ((m - 1 : Nat) : Int) := by omega
      go_upto_region 5 with fail
      haveI : Nonempty (Hld (fun V => Blk V (w.heap.size + 1) 31 #[.string x.dur, .string x.pen, .int .i64 x.cnt])) := ⟨⟨wr, hL⟩⟩
      haveI : Nonempty (Hld (fun _ => True)) := ⟨⟨wr, trivial⟩⟩
      have k0 := fun K : Hld (fun V => Blk V (w.heap.size + 1) 31 #[.string x.dur, .string x.pen, .int .i64 x.cnt]) => (K.holds.cell 0).trans (show _ = some (.string x.dur) from rfl)
      have k1 := fun K : Hld (fun V => Blk V (w.heap.size + 1) 31 #[.string x.dur, .string x.pen, .int .i64 x.cnt]) => (K.holds.cell 1).trans (show _ = some (.string x.pen) from rfl)
      have k2 := fun K : Hld (fun V => Blk V (w.heap.size + 1) 31 #[.string x.dur, .string x.pen, .int .i64 x.cnt]) => (K.holds.cell 2).trans (show _ = some (.int .i64 x.cnt) from rfl)
      refine wp_region_mx (fun V => Blk V (w.heap.size + 1) 31 #[.string x.dur, .string x.pen, .int .i64 x.cnt]) [([0, 1], [], 2, false), ([], [], 3, false), ([], [4, 5, 6], 7, true)] [] [] (by kernel_rfl) (by kernel_rfl) hL.drew ?_
      refine wpMx_cons fun K hK => ?_
      change wpQuiet _ _ _ _ (_ :: _ :: []) _
      repeat (go_big_quiet_step (fail))
      refine wpQuiet_nil ?_
      refine wpQuiet_nil ?_
      change wpList _ _ _ (_ :: []) _ _
      replace hC := hC.later (Below.refl _ _).drew
      replace HG := grown_tr HG (below_grown (Below.refl wr.heap.size wr).drew (some p))
      clear z0 z1 z2
      replace hZ : Blk wr.drew (w.heap.size) 31 #[.string ⟨#[]⟩, .string ⟨#[]⟩, .int .i64 0] := hZ
      clear l0 l1 l2
      replace hL : Blk wr.drew ((w.heap.size + 1)) 31 #[.string x.dur, .string x.pen, .int .i64 x.cnt] := hL
      have szd : wr.drew.heap.size = wr.heap.size := rfl
      generalize wr.drew = w5 at *
      have z0 := (hZ.cell 0).trans (show _ = some (.string ⟨#[]⟩) from rfl)
      have z1 := (hZ.cell 1).trans (show _ = some (.string ⟨#[]⟩) from rfl)
      have z2 := (hZ.cell 2).trans (show _ = some (.int .i64 0) from rfl)
      have l0 := (hL.cell 0).trans (show _ = some (.string x.dur) from rfl)
      have l1 := (hL.cell 1).trans (show _ = some (.string x.pen) from rfl)
      have l2 := (hL.cell 2).trans (show _ = some (.int .i64 x.cnt) from rfl)
      go_wp2_with fail
      refine (logRecord_is p A c cs hcs (N + 2 + 16 * (6 - m)) (by omega) _ (hC.later (by repeat (first | exact Below.refl _ _ | refine Below.alloc ?_ (by first | exact Nat.le_refl _ | (simp <;> omega)) _ | refine Below.setCell ?_ (by first | exact Nat.le_refl _ | (simp <;> omega)) _)))).mono ?_
      rintro e w3 ⟨y, rfl, ⟨hy1, hy2⟩, hS3⟩
      clear z0 z1 z2
      clear l0 l1 l2
      have hg3 : w5.grownBy w3 (some p) := grown_tr (below_grown (by repeat (first | exact Below.refl _ _ | refine Below.alloc ?_ (by first | exact Nat.le_refl _ | (simp <;> omega)) _ | refine Below.setCell ?_ (by first | exact Nat.le_refl _ | (simp <;> omega)) _)) _) hS3.2
      replace hC := hS3.1
      have sz3 := hg3.size
      replace HG := grown_tr HG hg3
      replace hZ := hZ.grownB hg3 (by omega)
      replace hL := hL.grownB hg3 (by omega)
      have z0 := (hZ.cell 0).trans (show _ = some (.string ⟨#[]⟩) from rfl)
      have z1 := (hZ.cell 1).trans (show _ = some (.string ⟨#[]⟩) from rfl)
      have z2 := (hZ.cell 2).trans (show _ = some (.int .i64 0) from rfl)
      have l0 := (hL.cell 0).trans (show _ = some (.string x.dur) from rfl)
      have l1 := (hL.cell 1).trans (show _ = some (.string x.pen) from rfl)
      have l2 := (hL.cell 2).trans (show _ = some (.int .i64 x.cnt) from rfl)
      go_wp2
      refine Nrm_keep hL (hK _ _ ?_)
      refine wpMx_cons fun K2 hK2 => ?_
      refine wpQuiet_nil ?_
      refine wpQuiet_nil ?_
      change wpList _ _ _ (_ :: []) _ _
      go_wp2_with fail
      refine (sAppendRecordR_is x (by omega) y (by omega) (by omega) _).mono ?_
      rintro e w4 ⟨rfl, hS4⟩
      clear z0 z1 z2
      clear l0 l1 l2
      have hb4 : Below w3.heap.size w3 w4 := bth (by repeat (first | exact Below.refl _ _ | refine Below.alloc ?_ (by first | exact Nat.le_refl _ | (simp <;> omega)) _ | refine Below.setCell ?_ (by first | exact Nat.le_refl _ | (simp <;> omega)) _)) hS4
      have hg4 : w3.grownBy w4 (some p) := below_grown hb4 _
      replace hC := hC.later hb4
      have sz4 := hg4.size
      replace HG := grown_tr HG hg4
      replace hZ := hZ.grownB hg4 (by omega)
      replace hL := hL.grownB hg4 (by omega)
      have z0 := (hZ.cell 0).trans (show _ = some (.string ⟨#[]⟩) from rfl)
      have z1 := (hZ.cell 1).trans (show _ = some (.string ⟨#[]⟩) from rfl)
      have z2 := (hZ.cell 2).trans (show _ = some (.int .i64 0) from rfl)
      have l0 := (hL.cell 0).trans (show _ = some (.string x.dur) from rfl)
      have l1 := (hL.cell 1).trans (show _ = some (.string x.pen) from rfl)
      have l2 := (hL.cell 2).trans (show _ = some (.int .i64 x.cnt) from rfl)
      go_wp2
      refine Nrm_keep hL (hK2 _ _ ?_)
      refine wpMx_cons fun K3 hK3 => ?_
      refine wpQuiet_nil ?_
      change wpQuiet _ _ _ _ (_ :: _ :: _ :: []) _
      repeat (go_big_quiet_step (fail))
      refine wpQuiet_nil ?_
      change wpList _ _ _ (_ :: []) _ _
      clear k0 k1 k2
      have fhL0 := hL.frozen 0
      have fhL1 := hL.frozen 1
      have fhL2 := hL.frozen 2
      have yhZ := hZ.lt
      have yhL := hL.lt
      go_wp2
      clear fhL0 fhL1 fhL2 yhZ yhL
      clear z0 z1 z2
      clear l0 l1 l2
      replace HG : w.grownBy (World.setCell (World.setCell (World.setCell w4 ⟨(w.heap.size + 1), 0, none⟩ (.string (apT x y).dur)) ⟨(w.heap.size + 1), 1, none⟩ (.string (apT x y).pen)) ⟨(w.heap.size + 1), 2, none⟩ (.int .i64 (apT x y).cnt)) (some p) := (grown_store (grown_store (grown_store HG (g := (w.heap.size + 1)) (by omega) 0 (.string (apT x y).dur)) (g := (w.heap.size + 1)) (by omega) 1 (.string (apT x y).pen)) (g := (w.heap.size + 1)) (by omega) 2 (.int .i64 (apT x y).cnt))
      replace hC := (((hC.store (g := (w.heap.size + 1)) (by omega) 0 (.string (apT x y).dur)).store (g := (w.heap.size + 1)) (by omega) 1 (.string (apT x y).pen)).store (g := (w.heap.size + 1)) (by omega) 2 (.int .i64 (apT x y).cnt))
      replace hZ := hZ.grownB (grown_set (j := 2) (grown_set (j := 1) (grown_set (j := 0) (grown_refl w4 (some ((w.heap.size + 1)))) (.string (apT x y).dur)) (.string (apT x y).pen)) (.int .i64 (apT x y).cnt)) (by omega)
      replace hL : Blk (World.setCell (World.setCell (World.setCell w4 ⟨(w.heap.size + 1), 0, none⟩ (.string (apT x y).dur)) ⟨(w.heap.size + 1), 1, none⟩ (.string (apT x y).pen)) ⟨(w.heap.size + 1), 2, none⟩ (.int .i64 (apT x y).cnt)) ((w.heap.size + 1)) 31 #[.string (apT x y).dur, .string (apT x y).pen, .int .i64 (apT x y).cnt] := (((hL.set_ 0 (.string (apT x y).dur)).set_ 1 (.string (apT x y).pen)).set_ 2 (.int .i64 (apT x y).cnt))
      generalize World.setCell (World.setCell (World.setCell w4 ⟨(w.heap.size + 1), 0, none⟩ (.string (apT x y).dur)) ⟨(w.heap.size + 1), 1, none⟩ (.string (apT x y).pen)) ⟨(w.heap.size + 1), 2, none⟩ (.int .i64 (apT x y).cnt) = w8 at *
      have z0 := (hZ.cell 0).trans (show _ = some (.string ⟨#[]⟩) from rfl)
      have z1 := (hZ.cell 1).trans (show _ = some (.string ⟨#[]⟩) from rfl)
      have z2 := (hZ.cell 2).trans (show _ = some (.int .i64 0) from rfl)
      have l0 := (hL.cell 0).trans (show _ = some (.string (apT x y).dur) from rfl)
      have l1 := (hL.cell 1).trans (show _ = some (.string (apT x y).pen) from rfl)
      have l2 := (hL.cell 2).trans (show _ = some (.int .i64 (apT x y).cnt) from rfl)
      refine Nrm_drop (hK3 _ _ ?_)
      refine wpMx_last ?_
      refine wpQuiet_nil ?_
      refine wpQuiet_nil ?_
      have hxy := apT_size x y
      have hys := syncT_size (apT x y)
      go_wp2_with fail
      refine (one_is 4 p A c cs hcs (N + 2 + 16 * (6 - m) + 10) (by omega) (by omega) _ (hC.later (by repeat (first | exact Below.refl _ _ | refine Below.alloc ?_ (by first | exact Nat.le_refl _ | (simp <;> omega)) _ | refine Below.setCell ?_ (by first | exact Nat.le_refl _ | (simp <;> omega)) _)))).mono ?_
      rintro e w5 ⟨b, rfl, hS5⟩
      clear z0 z1 z2
      clear l0 l1 l2
      have hg5 : w8.grownBy w5 (some p) := grown_tr (below_grown (by repeat (first | exact Below.refl _ _ | refine Below.alloc ?_ (by first | exact Nat.le_refl _ | (simp <;> omega)) _ | refine Below.setCell ?_ (by first | exact Nat.le_refl _ | (simp <;> omega)) _)) _) hS5.2
      replace hC := hS5.1
      have sz5 := hg5.size
      replace HG := grown_tr HG hg5
      replace hZ := hZ.grownB hg5 (by omega)
      replace hL := hL.grownB hg5 (by omega)
      have z0 := (hZ.cell 0).trans (show _ = some (.string ⟨#[]⟩) from rfl)
      have z1 := (hZ.cell 1).trans (show _ = some (.string ⟨#[]⟩) from rfl)
      have z2 := (hZ.cell 2).trans (show _ = some (.int .i64 0) from rfl)
      have l0 := (hL.cell 0).trans (show _ = some (.string (apT x y).dur) from rfl)
      have l1 := (hL.cell 1).trans (show _ = some (.string (apT x y).pen) from rfl)
      have l2 := (hL.cell 2).trans (show _ = some (.int .i64 (apT x y).cnt) from rfl)
      cases b
      · go_wp2
        exact ⟨⟨m - 1, apT x y, by omega, rfl, by omega, hZ, hL, hC.mono (by omega), HG⟩, by simp [intOf]; omega⟩
      · go_wp2_with fail
        refine (sSyncLogR_is (apT x y) (by omega) _).mono ?_
        rintro e w6 ⟨rfl, hS6⟩
        clear z0 z1 z2
        clear l0 l1 l2
        have hb6 : Below w5.heap.size w5 w6 := bth (by repeat (first | exact Below.refl _ _ | refine Below.alloc ?_ (by first | exact Nat.le_refl _ | (simp <;> omega)) _ | refine Below.setCell ?_ (by first | exact Nat.le_refl _ | (simp <;> omega)) _)) hS6
        have hg6 : w5.grownBy w6 (some p) := below_grown hb6 _
        replace hC := hC.later hb6
        have sz6 := hg6.size
        replace HG := grown_tr HG hg6
        replace hZ := hZ.grownB hg6 (by omega)
        replace hL := hL.grownB hg6 (by omega)
        have z0 := (hZ.cell 0).trans (show _ = some (.string ⟨#[]⟩) from rfl)
        have z1 := (hZ.cell 1).trans (show _ = some (.string ⟨#[]⟩) from rfl)
        have z2 := (hZ.cell 2).trans (show _ = some (.int .i64 0) from rfl)
        have l0 := (hL.cell 0).trans (show _ = some (.string (apT x y).dur) from rfl)
        have l1 := (hL.cell 1).trans (show _ = some (.string (apT x y).pen) from rfl)
        have l2 := (hL.cell 2).trans (show _ = some (.int .i64 (apT x y).cnt) from rfl)
        have fhL0 := hL.frozen 0
        have fhL1 := hL.frozen 1
        have fhL2 := hL.frozen 2
        have yhZ := hZ.lt
        have yhL := hL.lt
        go_wp2
        clear fhL0 fhL1 fhL2 yhZ yhL
        clear z0 z1 z2
        clear l0 l1 l2
        replace HG : w.grownBy (World.setCell (World.setCell (World.setCell w6 ⟨(w.heap.size + 1), 0, none⟩ (.string (syncT (apT x y)).dur)) ⟨(w.heap.size + 1), 1, none⟩ (.string (syncT (apT x y)).pen)) ⟨(w.heap.size + 1), 2, none⟩ (.int .i64 (syncT (apT x y)).cnt)) (some p) := (grown_store (grown_store (grown_store HG (g := (w.heap.size + 1)) (by omega) 0 (.string (syncT (apT x y)).dur)) (g := (w.heap.size + 1)) (by omega) 1 (.string (syncT (apT x y)).pen)) (g := (w.heap.size + 1)) (by omega) 2 (.int .i64 (syncT (apT x y)).cnt))
        replace hC := (((hC.store (g := (w.heap.size + 1)) (by omega) 0 (.string (syncT (apT x y)).dur)).store (g := (w.heap.size + 1)) (by omega) 1 (.string (syncT (apT x y)).pen)).store (g := (w.heap.size + 1)) (by omega) 2 (.int .i64 (syncT (apT x y)).cnt))
        replace hZ := hZ.grownB (grown_set (j := 2) (grown_set (j := 1) (grown_set (j := 0) (grown_refl w6 (some ((w.heap.size + 1)))) (.string (syncT (apT x y)).dur)) (.string (syncT (apT x y)).pen)) (.int .i64 (syncT (apT x y)).cnt)) (by omega)
        replace hL : Blk (World.setCell (World.setCell (World.setCell w6 ⟨(w.heap.size + 1), 0, none⟩ (.string (syncT (apT x y)).dur)) ⟨(w.heap.size + 1), 1, none⟩ (.string (syncT (apT x y)).pen)) ⟨(w.heap.size + 1), 2, none⟩ (.int .i64 (syncT (apT x y)).cnt)) ((w.heap.size + 1)) 31 #[.string (syncT (apT x y)).dur, .string (syncT (apT x y)).pen, .int .i64 (syncT (apT x y)).cnt] := (((hL.set_ 0 (.string (syncT (apT x y)).dur)).set_ 1 (.string (syncT (apT x y)).pen)).set_ 2 (.int .i64 (syncT (apT x y)).cnt))
        generalize World.setCell (World.setCell (World.setCell w6 ⟨(w.heap.size + 1), 0, none⟩ (.string (syncT (apT x y)).dur)) ⟨(w.heap.size + 1), 1, none⟩ (.string (syncT (apT x y)).pen)) ⟨(w.heap.size + 1), 2, none⟩ (.int .i64 (syncT (apT x y)).cnt) = wb at *
        have z0 := (hZ.cell 0).trans (show _ = some (.string ⟨#[]⟩) from rfl)
        have z1 := (hZ.cell 1).trans (show _ = some (.string ⟨#[]⟩) from rfl)
        have z2 := (hZ.cell 2).trans (show _ = some (.int .i64 0) from rfl)
        have l0 := (hL.cell 0).trans (show _ = some (.string (syncT (apT x y)).dur) from rfl)
        have l1 := (hL.cell 1).trans (show _ = some (.string (syncT (apT x y)).pen) from rfl)
        have l2 := (hL.cell 2).trans (show _ = some (.int .i64 (syncT (apT x y)).cnt) from rfl)
        exact ⟨⟨m - 1, syncT (apT x y), by omega, rfl, by omega, hZ, hL, hC.mono (by omega), HG⟩, by simp [intOf]; omega⟩
    · obtain rfl : m = 0 := by omega
      have z0 := (hZ.cell 0).trans (show _ = some (.string ⟨#[]⟩) from rfl)
      have z1 := (hZ.cell 1).trans (show _ = some (.string ⟨#[]⟩) from rfl)
      have z2 := (hZ.cell 2).trans (show _ = some (.int .i64 0) from rfl)
      have l0 := (hL.cell 0).trans (show _ = some (.string x.dur) from rfl)
      have l1 := (hL.cell 1).trans (show _ = some (.string x.pen) from rfl)
      have l2 := (hL.cell 2).trans (show _ = some (.int .i64 x.cnt) from rfl)
      have fhZ0 := hZ.frozen 0
      have fhZ1 := hZ.frozen 1
      have fhZ2 := hZ.frozen 2
      have yhZ := hZ.lt
      have yhL := hL.lt
      go_wp2
      clear fhZ0 fhZ1 fhZ2 yhZ yhL
      clear z0 z1 z2
      clear l0 l1 l2
      replace HG : w.grownBy (World.setCell (World.setCell (World.setCell wr ⟨w.heap.size, 0, none⟩ (.string x.dur)) ⟨w.heap.size, 1, none⟩ (.string x.pen)) ⟨w.heap.size, 2, none⟩ (.int .i64 x.cnt)) (some p) := (grown_store (grown_store (grown_store HG (g := w.heap.size) (by omega) 0 (.string x.dur)) (g := w.heap.size) (by omega) 1 (.string x.pen)) (g := w.heap.size) (by omega) 2 (.int .i64 x.cnt))
      replace hC := (((hC.store (g := w.heap.size) (by omega) 0 (.string x.dur)).store (g := w.heap.size) (by omega) 1 (.string x.pen)).store (g := w.heap.size) (by omega) 2 (.int .i64 x.cnt))
      replace hZ : Blk (World.setCell (World.setCell (World.setCell wr ⟨w.heap.size, 0, none⟩ (.string x.dur)) ⟨w.heap.size, 1, none⟩ (.string x.pen)) ⟨w.heap.size, 2, none⟩ (.int .i64 x.cnt)) (w.heap.size) 31 #[.string x.dur, .string x.pen, .int .i64 x.cnt] := (((hZ.set_ 0 (.string x.dur)).set_ 1 (.string x.pen)).set_ 2 (.int .i64 x.cnt))
      replace hL := hL.grownB (grown_set (j := 2) (grown_set (j := 1) (grown_set (j := 0) (grown_refl wr (some (w.heap.size))) (.string x.dur)) (.string x.pen)) (.int .i64 x.cnt)) (by omega)
      generalize World.setCell (World.setCell (World.setCell wr ⟨w.heap.size, 0, none⟩ (.string x.dur)) ⟨w.heap.size, 1, none⟩ (.string x.pen)) ⟨w.heap.size, 2, none⟩ (.int .i64 x.cnt) = W9 at *
      have z0 := (hZ.cell 0).trans (show _ = some (.string x.dur) from rfl)
      have z1 := (hZ.cell 1).trans (show _ = some (.string x.pen) from rfl)
      have z2 := (hZ.cell 2).trans (show _ = some (.int .i64 x.cnt) from rfl)
      have l0 := (hL.cell 0).trans (show _ = some (.string x.dur) from rfl)
      have l1 := (hL.cell 1).trans (show _ = some (.string x.pen) from rfl)
      have l2 := (hL.cell 2).trans (show _ = some (.int .i64 x.cnt) from rfl)
      refine bodyPost_ret (v := .agg #[.string x.dur, .string x.pen, .int .i64 x.cnt]) (by simp [results, Tryd.results59, go_sem, z0, z1, z2]) rfl ?_
      exact ⟨x, rfl, by omega, hC.mono (by omega), HG⟩
set_option maxHeartbeats 1000000 in
set_option maxRecDepth 100000 in
theorem anyLog_is (p : Nat) (A : Option Addr) (c : Nat) (cs : List UInt8) (hcs : cs.length ≤ 1048576) (N : Nat) (hN : N ≤ 600000) (w : World) (hC : Cur w p A c cs N) :
  Calls Tryd.prog 52 #[.pointer (some ⟨p, 0, none⟩)] w fun e w' => ∃ x : LogT, e = .returned (.agg #[.string x.dur, .string x.pen, .int .i64 x.cnt]) ∧ (x.dur.size + x.pen.size ≤ 7000) ∧ Stepped w w' p A c cs (N + 110) := by
  go_enter Tryd.func52, Tryd.ntmps52
  have hp := hC.lt
  have HG := grown_refl w (some p)
  go_upto_region 1 with fail
  have hb1 : Below w.heap.size w (World.alloc w (.cells #[.string ⟨#[]⟩, .string ⟨#[]⟩, .int .i64 0] 31)) := bl1 w _
  have hZ : Blk (World.alloc w (.cells #[.string ⟨#[]⟩, .string ⟨#[]⟩, .int .i64 0] 31)) (w.heap.size) 31 #[.string ⟨#[]⟩, .string ⟨#[]⟩, .int .i64 0] := by repeat (first | exact Blk.new _ _ _ | exact Blk.new2 _ _ _ _ | exact Blk.new3 _ _ _ _ _ | exact Blk.new4 _ _ _ _ _ _ | refine Blk.alloc ?_ _)
  generalize World.alloc w (.cells #[.string ⟨#[]⟩, .string ⟨#[]⟩, .int .i64 0] 31) = w1 at *
  replace hC := hC.later hb1
  replace HG := grown_tr HG (below_grown hb1 (some p))
  have sz1 := hb1.size
  have LhZ := hZ.lt
  have z0 := (hZ.cell 0).trans (show _ = some (.string ⟨#[]⟩) from rfl)
  have z1 := (hZ.cell 1).trans (show _ = some (.string ⟨#[]⟩) from rfl)
  have z2 := (hZ.cell 2).trans (show _ = some (.int .i64 0) from rfl)
  go_wp2_with fail
  refine (drawLog_is p A c cs hcs N (by omega) _ (hC.later (by repeat (first | exact Below.refl _ _ | refine Below.alloc ?_ (by first | exact Nat.le_refl _ | (simp <;> omega)) _ | refine Below.setCell ?_ (by first | exact Nat.le_refl _ | (simp <;> omega)) _)))).mono ?_
  rintro e w2 ⟨x, rfl, hx, hS2⟩
  clear z0 z1 z2
  have hg2 : w1.grownBy w2 (some p) := grown_tr (below_grown (by repeat (first | exact Below.refl _ _ | refine Below.alloc ?_ (by first | exact Nat.le_refl _ | (simp <;> omega)) _ | refine Below.setCell ?_ (by first | exact Nat.le_refl _ | (simp <;> omega)) _)) _) hS2.2
  replace hC := hS2.1
  have sz2 := hg2.size
  replace HG := grown_tr HG hg2
  replace hZ := hZ.grownB hg2 (by omega)
  have z0 := (hZ.cell 0).trans (show _ = some (.string ⟨#[]⟩) from rfl)
  have z1 := (hZ.cell 1).trans (show _ = some (.string ⟨#[]⟩) from rfl)
  have z2 := (hZ.cell 2).trans (show _ = some (.int .i64 0) from rfl)
  go_upto_region 2 with fail
  have hb3 : Below w2.heap.size w2 (World.alloc w2 (.cells #[.string x.dur, .string x.pen, .int .i64 x.cnt] 31)) := bl1 w2 _
  have hL : Blk (World.alloc w2 (.cells #[.string x.dur, .string x.pen, .int .i64 x.cnt] 31)) (w2.heap.size) 31 #[.string x.dur, .string x.pen, .int .i64 x.cnt] := by repeat (first | exact Blk.new _ _ _ | exact Blk.new2 _ _ _ _ | exact Blk.new3 _ _ _ _ _ | exact Blk.new4 _ _ _ _ _ _ | refine Blk.alloc ?_ _)
  generalize World.alloc w2 (.cells #[.string x.dur, .string x.pen, .int .i64 x.cnt] 31) = wL at *
  replace hC := hC.later hb3
  replace HG := grown_tr HG (below_grown hb3 (some p))
  clear z0 z1 z2
  replace hZ := hZ.grownB (below_grown hb3 (some p)) (by omega)
  have z0 := (hZ.cell 0).trans (show _ = some (.string ⟨#[]⟩) from rfl)
  have z1 := (hZ.cell 1).trans (show _ = some (.string ⟨#[]⟩) from rfl)
  have z2 := (hZ.cell 2).trans (show _ = some (.int .i64 0) from rfl)
  have sz3 := hb3.size
  have LhL := hL.lt
  have l0 := (hL.cell 0).trans (show _ = some (.string x.dur) from rfl)
  have l1 := (hL.cell 1).trans (show _ = some (.string x.pen) from rfl)
  have l2 := (hL.cell 2).trans (show _ = some (.int .i64 x.cnt) from rfl)
  go_wp2_with fail
  refine (pick_is 24 p A c cs hcs (N + 100) (by omega) (by omega) _ (hC.later (by repeat (first | exact Below.refl _ _ | refine Below.alloc ?_ (by first | exact Nat.le_refl _ | (simp <;> omega)) _ | refine Below.setCell ?_ (by first | exact Nat.le_refl _ | (simp <;> omega)) _)))).mono ?_
  rintro e w4 ⟨r, rfl, ⟨hr0, _, _⟩, hS4⟩
  clear z0 z1 z2
  clear l0 l1 l2
  have hg4 : wL.grownBy w4 (some p) := grown_tr (below_grown (by repeat (first | exact Below.refl _ _ | refine Below.alloc ?_ (by first | exact Nat.le_refl _ | (simp <;> omega)) _ | refine Below.setCell ?_ (by first | exact Nat.le_refl _ | (simp <;> omega)) _)) _) hS4.2
  replace hC := hS4.1
  have sz4 := hg4.size
  replace HG := grown_tr HG hg4
  replace hZ := hZ.grownB hg4 (by omega)
  replace hL := hL.grownB hg4 (by omega)
  have z0 := (hZ.cell 0).trans (show _ = some (.string ⟨#[]⟩) from rfl)
  have z1 := (hZ.cell 1).trans (show _ = some (.string ⟨#[]⟩) from rfl)
  have z2 := (hZ.cell 2).trans (show _ = some (.int .i64 0) from rfl)
  have l0 := (hL.cell 0).trans (show _ = some (.string x.dur) from rfl)
  have l1 := (hL.cell 1).trans (show _ = some (.string x.pen) from rfl)
  have l2 := (hL.cell 2).trans (show _ = some (.int .i64 x.cnt) from rfl)
  by_cases h0 : r = 0
  · subst h0
    have fhL2 := hL.frozen 2
    have yhZ := hZ.lt
    have yhL := hL.lt
    go_upto_region 9 with fail
    clear fhL2 yhZ yhL
    clear z0 z1 z2
    clear l0 l1 l2
    replace HG : w.grownBy (World.setCell w4 ⟨w2.heap.size, 2, none⟩ (.int .i64 (wrap64 (x.cnt + 1)))) (some p) := (grown_store HG (g := w2.heap.size) (by omega) 2 (.int .i64 (wrap64 (x.cnt + 1))))
    replace hC := (hC.store (g := w2.heap.size) (by omega) 2 (.int .i64 (wrap64 (x.cnt + 1))))
    replace hZ := hZ.grownB (grown_set (j := 2) (grown_refl w4 (some (w2.heap.size))) (.int .i64 (wrap64 (x.cnt + 1)))) (by omega)
    replace hL : Blk (World.setCell w4 ⟨w2.heap.size, 2, none⟩ (.int .i64 (wrap64 (x.cnt + 1)))) (w2.heap.size) 31 #[.string x.dur, .string x.pen, .int .i64 (wrap64 (x.cnt + 1))] := (hL.set_ 2 (.int .i64 (wrap64 (x.cnt + 1))))
    generalize World.setCell w4 ⟨w2.heap.size, 2, none⟩ (.int .i64 (wrap64 (x.cnt + 1))) = w7 at *
    have z0 := (hZ.cell 0).trans (show _ = some (.string ⟨#[]⟩) from rfl)
    have z1 := (hZ.cell 1).trans (show _ = some (.string ⟨#[]⟩) from rfl)
    have z2 := (hZ.cell 2).trans (show _ = some (.int .i64 0) from rfl)
    have l0 := (hL.cell 0).trans (show _ = some (.string x.dur) from rfl)
    have l1 := (hL.cell 1).trans (show _ = some (.string x.pen) from rfl)
    have l2 := (hL.cell 2).trans (show _ = some (.int .i64 (wrap64 (x.cnt + 1))) from rfl)
    have fhZ0 := hZ.frozen 0
    have fhZ1 := hZ.frozen 1
    have fhZ2 := hZ.frozen 2
    have yhZ := hZ.lt
    have yhL := hL.lt
    go_wp2
    clear fhZ0 fhZ1 fhZ2 yhZ yhL
    clear z0 z1 z2
    clear l0 l1 l2
    replace HG : w.grownBy (World.setCell (World.setCell (World.setCell w7 ⟨w.heap.size, 0, none⟩ (.string x.dur)) ⟨w.heap.size, 1, none⟩ (.string x.pen)) ⟨w.heap.size, 2, none⟩ (.int .i64 (wrap64 (x.cnt + 1)))) (some p) := (grown_store (grown_store (grown_store HG (g := w.heap.size) (by omega) 0 (.string x.dur)) (g := w.heap.size) (by omega) 1 (.string x.pen)) (g := w.heap.size) (by omega) 2 (.int .i64 (wrap64 (x.cnt + 1))))
    replace hC := (((hC.store (g := w.heap.size) (by omega) 0 (.string x.dur)).store (g := w.heap.size) (by omega) 1 (.string x.pen)).store (g := w.heap.size) (by omega) 2 (.int .i64 (wrap64 (x.cnt + 1))))
    replace hZ : Blk (World.setCell (World.setCell (World.setCell w7 ⟨w.heap.size, 0, none⟩ (.string x.dur)) ⟨w.heap.size, 1, none⟩ (.string x.pen)) ⟨w.heap.size, 2, none⟩ (.int .i64 (wrap64 (x.cnt + 1)))) (w.heap.size) 31 #[.string x.dur, .string x.pen, .int .i64 (wrap64 (x.cnt + 1))] := (((hZ.set_ 0 (.string x.dur)).set_ 1 (.string x.pen)).set_ 2 (.int .i64 (wrap64 (x.cnt + 1))))
    replace hL := hL.grownB (grown_set (j := 2) (grown_set (j := 1) (grown_set (j := 0) (grown_refl w7 (some (w.heap.size))) (.string x.dur)) (.string x.pen)) (.int .i64 (wrap64 (x.cnt + 1)))) (by omega)
    generalize World.setCell (World.setCell (World.setCell w7 ⟨w.heap.size, 0, none⟩ (.string x.dur)) ⟨w.heap.size, 1, none⟩ (.string x.pen)) ⟨w.heap.size, 2, none⟩ (.int .i64 (wrap64 (x.cnt + 1))) = W9 at *
    have z0 := (hZ.cell 0).trans (show _ = some (.string x.dur) from rfl)
    have z1 := (hZ.cell 1).trans (show _ = some (.string x.pen) from rfl)
    have z2 := (hZ.cell 2).trans (show _ = some (.int .i64 (wrap64 (x.cnt + 1))) from rfl)
    have l0 := (hL.cell 0).trans (show _ = some (.string x.dur) from rfl)
    have l1 := (hL.cell 1).trans (show _ = some (.string x.pen) from rfl)
    have l2 := (hL.cell 2).trans (show _ = some (.int .i64 (wrap64 (x.cnt + 1))) from rfl)
    refine bodyPost_ret (v := .agg #[.string x.dur, .string x.pen, .int .i64 (wrap64 (x.cnt + 1))]) (by simp [results, Tryd.results52, go_sem, z0, z1, z2]) rfl ?_
    exact ⟨⟨x.dur, x.pen, wrap64 (x.cnt + 1)⟩, rfl, by show x.dur.size + x.pen.size ≤ _; omega, hC.mono (by omega), HG⟩
  by_cases h1 : r = 1
  · subst h1
    go_wp2_with fail
    refine (spoilt_is x.pen ⟨#[35, 64, 10, 48, 49]⟩ (by omega) (by decide) (by decide) p A c cs hcs (N + 100 + 2) (by omega) _ (hC.later (by repeat (first | exact Below.refl _ _ | refine Below.alloc ?_ (by first | exact Nat.le_refl _ | (simp <;> omega)) _ | refine Below.setCell ?_ (by first | exact Nat.le_refl _ | (simp <;> omega)) _)))).mono ?_
    rintro e w5 ⟨s, rfl, hs, hS5⟩
    clear z0 z1 z2
    clear l0 l1 l2
    have hg5 : w4.grownBy w5 (some p) := grown_tr (below_grown (by repeat (first | exact Below.refl _ _ | refine Below.alloc ?_ (by first | exact Nat.le_refl _ | (simp <;> omega)) _ | refine Below.setCell ?_ (by first | exact Nat.le_refl _ | (simp <;> omega)) _)) _) hS5.2
    replace hC := hS5.1
    have sz5 := hg5.size
    replace HG := grown_tr HG hg5
    replace hZ := hZ.grownB hg5 (by omega)
    replace hL := hL.grownB hg5 (by omega)
    have z0 := (hZ.cell 0).trans (show _ = some (.string ⟨#[]⟩) from rfl)
    have z1 := (hZ.cell 1).trans (show _ = some (.string ⟨#[]⟩) from rfl)
    have z2 := (hZ.cell 2).trans (show _ = some (.int .i64 0) from rfl)
    have l0 := (hL.cell 0).trans (show _ = some (.string x.dur) from rfl)
    have l1 := (hL.cell 1).trans (show _ = some (.string x.pen) from rfl)
    have l2 := (hL.cell 2).trans (show _ = some (.int .i64 x.cnt) from rfl)
    have fhL1 := hL.frozen 1
    have yhZ := hZ.lt
    have yhL := hL.lt
    go_upto_region 9 with fail
    clear fhL1 yhZ yhL
    clear z0 z1 z2
    clear l0 l1 l2
    replace HG : w.grownBy (World.setCell w5 ⟨w2.heap.size, 1, none⟩ (.string s)) (some p) := (grown_store HG (g := w2.heap.size) (by omega) 1 (.string s))
    replace hC := (hC.store (g := w2.heap.size) (by omega) 1 (.string s))
    replace hZ := hZ.grownB (grown_set (j := 1) (grown_refl w5 (some (w2.heap.size))) (.string s)) (by omega)
    replace hL : Blk (World.setCell w5 ⟨w2.heap.size, 1, none⟩ (.string s)) (w2.heap.size) 31 #[.string x.dur, .string s, .int .i64 x.cnt] := (hL.set_ 1 (.string s))
    generalize World.setCell w5 ⟨w2.heap.size, 1, none⟩ (.string s) = w7 at *
    have z0 := (hZ.cell 0).trans (show _ = some (.string ⟨#[]⟩) from rfl)
    have z1 := (hZ.cell 1).trans (show _ = some (.string ⟨#[]⟩) from rfl)
    have z2 := (hZ.cell 2).trans (show _ = some (.int .i64 0) from rfl)
    have l0 := (hL.cell 0).trans (show _ = some (.string x.dur) from rfl)
    have l1 := (hL.cell 1).trans (show _ = some (.string s) from rfl)
    have l2 := (hL.cell 2).trans (show _ = some (.int .i64 x.cnt) from rfl)
    have fhZ0 := hZ.frozen 0
    have fhZ1 := hZ.frozen 1
    have fhZ2 := hZ.frozen 2
    have yhZ := hZ.lt
    have yhL := hL.lt
    go_wp2
    clear fhZ0 fhZ1 fhZ2 yhZ yhL
    clear z0 z1 z2
    clear l0 l1 l2
    replace HG : w.grownBy (World.setCell (World.setCell (World.setCell w7 ⟨w.heap.size, 0, none⟩ (.string x.dur)) ⟨w.heap.size, 1, none⟩ (.string s)) ⟨w.heap.size, 2, none⟩ (.int .i64 x.cnt)) (some p) := (grown_store (grown_store (grown_store HG (g := w.heap.size) (by omega) 0 (.string x.dur)) (g := w.heap.size) (by omega) 1 (.string s)) (g := w.heap.size) (by omega) 2 (.int .i64 x.cnt))
    replace hC := (((hC.store (g := w.heap.size) (by omega) 0 (.string x.dur)).store (g := w.heap.size) (by omega) 1 (.string s)).store (g := w.heap.size) (by omega) 2 (.int .i64 x.cnt))
    replace hZ : Blk (World.setCell (World.setCell (World.setCell w7 ⟨w.heap.size, 0, none⟩ (.string x.dur)) ⟨w.heap.size, 1, none⟩ (.string s)) ⟨w.heap.size, 2, none⟩ (.int .i64 x.cnt)) (w.heap.size) 31 #[.string x.dur, .string s, .int .i64 x.cnt] := (((hZ.set_ 0 (.string x.dur)).set_ 1 (.string s)).set_ 2 (.int .i64 x.cnt))
    replace hL := hL.grownB (grown_set (j := 2) (grown_set (j := 1) (grown_set (j := 0) (grown_refl w7 (some (w.heap.size))) (.string x.dur)) (.string s)) (.int .i64 x.cnt)) (by omega)
    generalize World.setCell (World.setCell (World.setCell w7 ⟨w.heap.size, 0, none⟩ (.string x.dur)) ⟨w.heap.size, 1, none⟩ (.string s)) ⟨w.heap.size, 2, none⟩ (.int .i64 x.cnt) = W9 at *
    have z0 := (hZ.cell 0).trans (show _ = some (.string x.dur) from rfl)
    have z1 := (hZ.cell 1).trans (show _ = some (.string s) from rfl)
    have z2 := (hZ.cell 2).trans (show _ = some (.int .i64 x.cnt) from rfl)
    have l0 := (hL.cell 0).trans (show _ = some (.string x.dur) from rfl)
    have l1 := (hL.cell 1).trans (show _ = some (.string s) from rfl)
    have l2 := (hL.cell 2).trans (show _ = some (.int .i64 x.cnt) from rfl)
    refine bodyPost_ret (v := .agg #[.string x.dur, .string s, .int .i64 x.cnt]) (by simp [results, Tryd.results52, go_sem, z0, z1, z2]) rfl ?_
    exact ⟨⟨x.dur, s, x.cnt⟩, rfl, by show x.dur.size + s.size ≤ _; omega, hC.mono (by omega), HG⟩
  by_cases h2 : r = 2
  · subst h2
    have fhL0 := hL.frozen 0
    have yhZ := hZ.lt
    have yhL := hL.lt
    go_upto_region 9 with fail
    clear fhL0 yhZ yhL
    clear z0 z1 z2
    clear l0 l1 l2
    replace HG : w.grownBy (World.setCell w4 ⟨w2.heap.size, 0, none⟩ (.string (x.dur ++ x.pen))) (some p) := (grown_store HG (g := w2.heap.size) (by omega) 0 (.string (x.dur ++ x.pen)))
    replace hC := (hC.store (g := w2.heap.size) (by omega) 0 (.string (x.dur ++ x.pen)))
    replace hZ := hZ.grownB (grown_set (j := 0) (grown_refl w4 (some (w2.heap.size))) (.string (x.dur ++ x.pen))) (by omega)
    replace hL : Blk (World.setCell w4 ⟨w2.heap.size, 0, none⟩ (.string (x.dur ++ x.pen))) (w2.heap.size) 31 #[.string (x.dur ++ x.pen), .string x.pen, .int .i64 x.cnt] := (hL.set_ 0 (.string (x.dur ++ x.pen)))
    generalize World.setCell w4 ⟨w2.heap.size, 0, none⟩ (.string (x.dur ++ x.pen)) = w7 at *
    have z0 := (hZ.cell 0).trans (show _ = some (.string ⟨#[]⟩) from rfl)
    have z1 := (hZ.cell 1).trans (show _ = some (.string ⟨#[]⟩) from rfl)
    have z2 := (hZ.cell 2).trans (show _ = some (.int .i64 0) from rfl)
    have l0 := (hL.cell 0).trans (show _ = some (.string (x.dur ++ x.pen)) from rfl)
    have l1 := (hL.cell 1).trans (show _ = some (.string x.pen) from rfl)
    have l2 := (hL.cell 2).trans (show _ = some (.int .i64 x.cnt) from rfl)
    have fhZ0 := hZ.frozen 0
    have fhZ1 := hZ.frozen 1
    have fhZ2 := hZ.frozen 2
    have yhZ := hZ.lt
    have yhL := hL.lt
    go_wp2
    clear fhZ0 fhZ1 fhZ2 yhZ yhL
    clear z0 z1 z2
    clear l0 l1 l2
    replace HG : w.grownBy (World.setCell (World.setCell (World.setCell w7 ⟨w.heap.size, 0, none⟩ (.string (x.dur ++ x.pen))) ⟨w.heap.size, 1, none⟩ (.string x.pen)) ⟨w.heap.size, 2, none⟩ (.int .i64 x.cnt)) (some p) := (grown_store (grown_store (grown_store HG (g := w.heap.size) (by omega) 0 (.string (x.dur ++ x.pen))) (g := w.heap.size) (by omega) 1 (.string x.pen)) (g := w.heap.size) (by omega) 2 (.int .i64 x.cnt))
    replace hC := (((hC.store (g := w.heap.size) (by omega) 0 (.string (x.dur ++ x.pen))).store (g := w.heap.size) (by omega) 1 (.string x.pen)).store (g := w.heap.size) (by omega) 2 (.int .i64 x.cnt))
    replace hZ : Blk (World.setCell (World.setCell (World.setCell w7 ⟨w.heap.size, 0, none⟩ (.string (x.dur ++ x.pen))) ⟨w.heap.size, 1, none⟩ (.string x.pen)) ⟨w.heap.size, 2, none⟩ (.int .i64 x.cnt)) (w.heap.size) 31 #[.string (x.dur ++ x.pen), .string x.pen, .int .i64 x.cnt] := (((hZ.set_ 0 (.string (x.dur ++ x.pen))).set_ 1 (.string x.pen)).set_ 2 (.int .i64 x.cnt))
    replace hL := hL.grownB (grown_set (j := 2) (grown_set (j := 1) (grown_set (j := 0) (grown_refl w7 (some (w.heap.size))) (.string (x.dur ++ x.pen))) (.string x.pen)) (.int .i64 x.cnt)) (by omega)
    generalize World.setCell (World.setCell (World.setCell w7 ⟨w.heap.size, 0, none⟩ (.string (x.dur ++ x.pen))) ⟨w.heap.size, 1, none⟩ (.string x.pen)) ⟨w.heap.size, 2, none⟩ (.int .i64 x.cnt) = W9 at *
    have z0 := (hZ.cell 0).trans (show _ = some (.string (x.dur ++ x.pen)) from rfl)
    have z1 := (hZ.cell 1).trans (show _ = some (.string x.pen) from rfl)
    have z2 := (hZ.cell 2).trans (show _ = some (.int .i64 x.cnt) from rfl)
    have l0 := (hL.cell 0).trans (show _ = some (.string (x.dur ++ x.pen)) from rfl)
    have l1 := (hL.cell 1).trans (show _ = some (.string x.pen) from rfl)
    have l2 := (hL.cell 2).trans (show _ = some (.int .i64 x.cnt) from rfl)
    refine bodyPost_ret (v := .agg #[.string (x.dur ++ x.pen), .string x.pen, .int .i64 x.cnt]) (by simp [results, Tryd.results52, go_sem, z0, z1, z2]) rfl ?_
    exact ⟨⟨x.dur ++ x.pen, x.pen, x.cnt⟩, rfl, by show (x.dur ++ x.pen).size + x.pen.size ≤ _; rw [ByteArray.size_append]; omega, hC.mono (by omega), HG⟩
  · have h0' : (r == 0) = false := beq_eq_false_iff_ne.2 h0
    have h1' : (r == 1) = false := beq_eq_false_iff_ne.2 h1
    have h2' : (r == 2) = false := beq_eq_false_iff_ne.2 h2
    have fhZ0 := hZ.frozen 0
    have fhZ1 := hZ.frozen 1
    have fhZ2 := hZ.frozen 2
    have yhZ := hZ.lt
    have yhL := hL.lt
    go_wp2
    clear fhZ0 fhZ1 fhZ2 yhZ yhL
    clear z0 z1 z2
    clear l0 l1 l2
    replace HG : w.grownBy (World.setCell (World.setCell (World.setCell w4 ⟨w.heap.size, 0, none⟩ (.string x.dur)) ⟨w.heap.size, 1, none⟩ (.string x.pen)) ⟨w.heap.size, 2, none⟩ (.int .i64 x.cnt)) (some p) := (grown_store (grown_store (grown_store HG (g := w.heap.size) (by omega) 0 (.string x.dur)) (g := w.heap.size) (by omega) 1 (.string x.pen)) (g := w.heap.size) (by omega) 2 (.int .i64 x.cnt))
    replace hC := (((hC.store (g := w.heap.size) (by omega) 0 (.string x.dur)).store (g := w.heap.size) (by omega) 1 (.string x.pen)).store (g := w.heap.size) (by omega) 2 (.int .i64 x.cnt))
    replace hZ : Blk (World.setCell (World.setCell (World.setCell w4 ⟨w.heap.size, 0, none⟩ (.string x.dur)) ⟨w.heap.size, 1, none⟩ (.string x.pen)) ⟨w.heap.size, 2, none⟩ (.int .i64 x.cnt)) (w.heap.size) 31 #[.string x.dur, .string x.pen, .int .i64 x.cnt] := (((hZ.set_ 0 (.string x.dur)).set_ 1 (.string x.pen)).set_ 2 (.int .i64 x.cnt))
    replace hL := hL.grownB (grown_set (j := 2) (grown_set (j := 1) (grown_set (j := 0) (grown_refl w4 (some (w.heap.size))) (.string x.dur)) (.string x.pen)) (.int .i64 x.cnt)) (by omega)
    generalize World.setCell (World.setCell (World.setCell w4 ⟨w.heap.size, 0, none⟩ (.string x.dur)) ⟨w.heap.size, 1, none⟩ (.string x.pen)) ⟨w.heap.size, 2, none⟩ (.int .i64 x.cnt) = W9 at *
    have z0 := (hZ.cell 0).trans (show _ = some (.string x.dur) from rfl)
    have z1 := (hZ.cell 1).trans (show _ = some (.string x.pen) from rfl)
    have z2 := (hZ.cell 2).trans (show _ = some (.int .i64 x.cnt) from rfl)
    have l0 := (hL.cell 0).trans (show _ = some (.string x.dur) from rfl)
    have l1 := (hL.cell 1).trans (show _ = some (.string x.pen) from rfl)
    have l2 := (hL.cell 2).trans (show _ = some (.int .i64 x.cnt) from rfl)
    refine bodyPost_ret (v := .agg #[.string x.dur, .string x.pen, .int .i64 x.cnt]) (by simp [results, Tryd.results52, go_sem, z0, z1, z2]) rfl ?_
    exact ⟨x, rfl, by omega, hC.mono (by omega), HG⟩
end Go.Proofs.YtpejnfhenpdobaaDoor
