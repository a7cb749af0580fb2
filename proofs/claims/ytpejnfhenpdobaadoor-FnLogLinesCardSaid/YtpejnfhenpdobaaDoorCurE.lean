/- The draw of EncodeRecord. -/
import Derived.Test.YtpejnfhenpdobaaDoorCurL
import Derived.Deep.Cut
import Derived.Outline
namespace Go.Proofs.YtpejnfhenpdobaaDoor
open Go.RowKit Go.G9
theorem built_rdsI (w : World) (xs : List Int) (hm : xs.length ≤ maxLen) : Rds 1 intC (w.alloc (.cells (xs.flatMap intC).toArray 3)) (some ⟨w.heap.size, 0, none⟩) xs := (OwnV.built (B := w.heap.size) (f := intC) w xs 3 (Nat.le_refl _) hm intC_len).rds (hf := intC_len)
set_option maxHeartbeats 400000 in
set_option maxRecDepth 100000 in
theorem drawEncodeRecord_is (A : Option Addr) (c : Nat) (cs : List UInt8) (hcs : cs.length ≤ 1048576) (w : World) (hR : Rds 1 u8C w A cs) :
  Calls Tryd.prog 39 #[.slice A cs.length c] w fun e w' => ∃ (k : Int) (x : LRec), e = .returned (.tuple #[.int .i64 k, .agg #[.string x.cmd, .string x.rep]]) ∧ (-1 ≤ k ∧ k ≤ 60) ∧ (x.cmd.size ≤ 20 ∧ x.rep.size ≤ 20) ∧ Below w.heap.size w w' := by
  go_enter Tryd.func39, Tryd.ntmps39
  go_upto_region 2 with fail
  have hlt : ∀ ad, A = some ad → 0 < cs.length → ad.block < w.heap.size := fun ad h h0 => by
    obtain ⟨b, off, h1, h2, _⟩ := hR h0
    rw [h1] at h; cases h; exact h2
  have hZ := (Blk.new w 27 #[.string ⟨#[]⟩, .string ⟨#[]⟩]).alloc (.cells #[.slice A cs.length c, .int .i64 0, .int .u64 0] 74)
  have hP := Blk.new2 w (.cells #[.string ⟨#[]⟩, .string ⟨#[]⟩] 27) 74 #[.slice A cs.length c, .int .i64 0, .int .u64 0]
  have HB : Below w.heap.size w ((w.alloc (.cells #[.string ⟨#[]⟩, .string ⟨#[]⟩] 27)).alloc (.cells #[.slice A cs.length c, .int .i64 0, .int .u64 0] 74)) := bl2 w _ _
  generalize ((w.alloc (.cells #[.string ⟨#[]⟩, .string ⟨#[]⟩] 27)).alloc (.cells #[.slice A cs.length c, .int .i64 0, .int .u64 0] 74)) = wA at *
  have hC : Cur wA (w.heap.size + 1) A c cs 0 := ⟨⟨0, 0, hP, by decide, by decide⟩, hR.below HB, fun ad h h0 => by have := hlt ad h h0; omega⟩
  obtain ⟨p, hpe⟩ : ∃ p, p = w.heap.size + 1 := ⟨_, rfl⟩
  rw [← hpe] at hC
  obtain ⟨n0, hn0⟩ : ∃ n : Nat, n ≤ 0 := ⟨0, Nat.le_refl _⟩
  replace hC : Cur wA p A c cs n0 := hC.mono (Nat.zero_le _)
  simp only [← hpe]
  have hp := hC.lt
  have HG := grown_refl w (some p)
  replace HG : w.grownBy wA (some p) := below_grown HB _
  have szw : w.heap.size ≤ wA.heap.size := HB.size
  have hwp : w.heap.size < p := by omega
  clear hR hlt hP HB hpe
  have z0 := (hZ.cell 0).trans (show _ = some (.string ⟨#[]⟩) from rfl)
  have z1 := (hZ.cell 1).trans (show _ = some (.string ⟨#[]⟩) from rfl)
  have hL1 := built_rdsI wA [0, 1, 12, 59, 60, -1] (by simp [maxLen])
  simp only [List.flatMap_cons, List.flatMap_nil, intC, List.append_nil, List.singleton_append] at hL1
  have HL1 := Lib.hid hL1; clear hL1
  go_wp2_with fail
  refine (among_is (some ⟨wA.heap.size, 0, none⟩) _ [0, 1, 12, 59, 60, -1] (by simp) (by simp) p A c cs hcs n0 (by omega) _ (hC.later (by repeat (first | exact Below.refl _ _ | refine Below.alloc ?_ (by first | exact Nat.le_refl _ | (simp <;> omega)) _ | refine Below.setCell ?_ (by first | exact Nat.le_refl _ | (simp <;> omega)) _))) HL1.out (fun ad h _ => by cases h; show wA.heap.size ≠ p; omega)).mono ?_
  rintro e w1 ⟨k, rfl, hk, hS1⟩
  clear z0 z1
  have hg1 : wA.grownBy w1 (some p) := grown_tr (below_grown (by repeat (first | exact Below.refl _ _ | refine Below.alloc ?_ (by first | exact Nat.le_refl _ | (simp <;> omega)) _ | refine Below.setCell ?_ (by first | exact Nat.le_refl _ | (simp <;> omega)) _)) _) hS1.2
  replace hC := hS1.1
  have sz1 := hg1.size
  replace HG := grown_tr HG hg1
  replace hZ := hZ.grownB hg1 (by omega)
  have z0 := (hZ.cell 0).trans (show _ = some (.string ⟨#[]⟩) from rfl)
  have z1 := (hZ.cell 1).trans (show _ = some (.string ⟨#[]⟩) from rfl)
  have hk1 : -1 ≤ k ∧ k ≤ 60 := by
    simp only [List.mem_cons, List.not_mem_nil, or_false] at hk
    omega
  clear hk HL1
  go_wp2_with fail
  refine (logRecord_is p A c cs hcs (n0 + 2) (by omega) _ (hC.later (by repeat (first | exact Below.refl _ _ | refine Below.alloc ?_ (by first | exact Nat.le_refl _ | (simp <;> omega)) _ | refine Below.setCell ?_ (by first | exact Nat.le_refl _ | (simp <;> omega)) _)))).mono ?_
  rintro e w2 ⟨x, rfl, hx, hS2⟩
  clear z0 z1
  have hg2 : w1.grownBy w2 (some p) := grown_tr (below_grown (by repeat (first | exact Below.refl _ _ | refine Below.alloc ?_ (by first | exact Nat.le_refl _ | (simp <;> omega)) _ | refine Below.setCell ?_ (by first | exact Nat.le_refl _ | (simp <;> omega)) _)) _) hS2.2
  replace hC := hS2.1
  have sz2 := hg2.size
  replace HG := grown_tr HG hg2
  replace hZ := hZ.grownB hg2 (by omega)
  have z0 := (hZ.cell 0).trans (show _ = some (.string ⟨#[]⟩) from rfl)
  have z1 := (hZ.cell 1).trans (show _ = some (.string ⟨#[]⟩) from rfl)
  have fhZ0 := hZ.frozen 0
  have fhZ1 := hZ.frozen 1
  have yhZ := hZ.lt
  go_wp2
  clear fhZ0 fhZ1 z0 z1
  have HG2 : w.grownBy ((w2.setCell ⟨w.heap.size, 0, none⟩ (.string x.cmd)).setCell ⟨w.heap.size, 1, none⟩ (.string x.rep)) (some p) := grown_store (grown_store HG (g := w.heap.size) (Nat.le_refl _) 0 _) (Nat.le_refl _) 1 _
  have hZ2 : Blk ((w2.setCell ⟨w.heap.size, 0, none⟩ (.string x.cmd)).setCell ⟨w.heap.size, 1, none⟩ (.string x.rep)) w.heap.size 27 #[.string x.cmd, .string x.rep] := (hZ.set_ 0 (.string x.cmd)).set_ 1 (.string x.rep)
  clear hZ HG
  generalize ((w2.setCell ⟨w.heap.size, 0, none⟩ (.string x.cmd)).setCell ⟨w.heap.size, 1, none⟩ (.string x.rep)) = W9 at *
  have z0 := (hZ2.cell 0).trans (show _ = some (.string x.cmd) from rfl)
  have z1 := (hZ2.cell 1).trans (show _ = some (.string x.rep) from rfl)
  refine bodyPost_ret (v := .tuple #[.int .i64 k, .agg #[.string x.cmd, .string x.rep]]) (by simp [results, Tryd.results39, go_sem, z0, z1]) rfl ?_
  exact ⟨k, x, rfl, hk1, hx, grown_below HG2 (Nat.le_refl _) (fun k hk => by cases hk; omega)⟩
end Go.Proofs.YtpejnfhenpdobaaDoor
