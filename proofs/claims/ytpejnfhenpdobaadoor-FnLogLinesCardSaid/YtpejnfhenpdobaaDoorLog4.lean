/- The log, by the reference: a line is read. -/
import Derived.Test.YtpejnfhenpdobaaDoorLog3
import Derived.Test.YtpejnfhenpdobaaDoorMix
import Derived.Test.YtpejnfhenpdobaaDoorBlk
namespace Go.G9
open Go.RowKit
theorem Blk.drew {w : World} {g : Nat} {t : TypeId} {cs : Array Value} (h : Blk w g t cs) : Blk w.drew g t cs := h
end Go.G9
namespace Go.Proofs.YtpejnfhenpdobaaDoor
open Go.RowKit Go.G9
theorem l1Split1_is (l : L8) (c : UInt8) (hl : l.length ≤ 1048576) (w : World) : Calls Tryd.prog 67 #[.string (bs l), .int .u8 (c.toNat : Int)] w fun e w' => ∃ g m n, e = .returned (.slice (some ⟨g, 0, none⟩) m n) ∧ 1 ≤ m ∧ m ≤ l.length + 1 ∧ ((2 ≤ m) ↔ hasC c l = true) ∧ w'.cell? ⟨g, 0, none⟩ = some (.string (bs (bef c l))) ∧ w.heap.size ≤ g ∧ g < w'.heap.size ∧ Below w.heap.size w w' := by
  refine (l1Split_is l c hl w).mono ?_
  rintro e w' ⟨A, n, ys, rfl, hO, hS, hb⟩
  have hp : 0 < ys.length := by have := hS.ne; omega
  obtain ⟨g, cap, cur, hv, hB, hh, hnc, hcm, hcs⟩ := hO.block hp
  injection hv with h1 h2 h3
  subst h1 h3
  obtain ⟨b, off, hA, hlt, hc⟩ := hO.rds (hf := strC_len) hp
  injection hA with hA
  injection hA with hA1 hA2
  subst hA1 hA2
  refine ⟨g, ys.length, n, rfl, by omega, hS.len, hS.two, ?_, hB, hlt, hb⟩
  exact hc 0 _ hS.first 0 _ rfl
theorem str_ne {a b : ByteArray} (h : a ≠ b) : (a.toList == b.toList) = false := beq_eq_false_iff_ne.2 (by rw [ByteArray.toList_eq, ByteArray.toList_eq]; exact fun e => h (ba_ext e))
theorem str_eq {a b : ByteArray} (h : a = b) : (a.toList == b.toList) = true := beq_iff_eq.2 (by rw [h])
set_option maxHeartbeats 4000000 in
set_option maxRecDepth 100000 in
theorem l27Read_last (l t rest ask rep : L8) (k : Nat) (hk : k < 100) (hN' : (numS (k : Int)).size ≤ 10)
    (HSP : Hid (∀ W, Calls Tryd.prog 67 #[.string (bs l), .int .u8 35] W fun e w' => ∃ g m n, e = .returned (.slice (some ⟨g, 0, none⟩) m n) ∧ 1 ≤ m ∧ m ≤ l.length + 1 ∧ ((2 ≤ m) ↔ hasC 35 l = true) ∧ w'.cell? ⟨g, 0, none⟩ = some (.string (bs t)) ∧ W.heap.size ≤ g ∧ g < w'.heap.size ∧ Below W.heap.size W w')) (HSP3 : Hid (∀ W, Calls Tryd.prog 67 #[.string (bs rest), .int .u8 64] W fun e w' => ∃ g m n, e = .returned (.slice (some ⟨g, 0, none⟩) m n) ∧ 1 ≤ m ∧ m ≤ rest.length + 1 ∧ ((2 ≤ m) ↔ hasC 64 rest = true) ∧ w'.cell? ⟨g, 0, none⟩ = some (.string (bs ask)) ∧ W.heap.size ≤ g ∧ g < w'.heap.size ∧ Below W.heap.size W w'))
    (heq : ((((bs t).extract 0 ((numS (k : Int)).size + 1))).toList == (numS (k : Int) ++ (⟨#[32]⟩ : ByteArray)).toList) = true) (hge : (numS (k : Int)).size + 1 ≤ (bs t).size) (hts2 : (bs t).size ≤ 1048576)
    (hrest : (bs t).extract ((numS (k : Int)).size + 1) (bs t).size = bs rest) (hrep : (bs rest).extract ((bs ask).size + 1) (bs rest).size = bs rep)
    (hb : (((bs ask).size : Int) == ((bs rest).size : Int)) = false) (hl1 : (bs ask).size + 1 ≤ (bs rest).size) (hl2 : (bs rest).size ≤ 1048576) (hl3 : (bs rep).size ≤ 1048576) (hl4 : (bs l).size ≤ 1048576)
    (v : Bool) (hv : (okL ask rep && decide (lineL k ask rep = l)) = v) (w : World) :
    Calls Tryd.prog 68 #[.string (bs l), .int .i64 k] w fun e w' => e = .returned (.tuple #[.agg #[.string (bs ask), .string (bs rep)], .bool v]) ∧ Below w.heap.size w w' := by
  have hgood : ∀ W, Calls Tryd.prog 43 #[.agg #[.string (bs ask), .string (bs rep)]] W fun e w' => e = .returned (.bool (okL ask rep)) ∧ Below W.heap.size W w' := fun W => l27Good_is (bs ask) (bs rep) (by omega) (by omega) _ rfl W
  have HG := Lib.hid hgood; clear hgood
  cases hok : okL ask rep
  · have hv2 : v = false := by rw [← hv, hok]; rfl
    subst hv2
    rw [hok] at HG
    clear hok hv
    go_enter Tryd.func68, Tryd.ntmps68
    go_wp2_with fail
    refine (l1Num_is k (by omega) (by omega) _).mono ?_
    rintro e w1 ⟨rfl, hb1⟩
    have hq1 : Below w.heap.size w w1 := bth (by repeat (first | exact Below.refl _ _ | refine Below.alloc ?_ (by first | exact Nat.le_refl _ | (simp <;> omega)) _ | refine Below.setCell ?_ (by first | exact Nat.le_refl _ | (simp <;> omega)) _)) hb1
    have HB : Below w.heap.size w w1 := hq1
    have hZ : Blk w1 (w.heap.size) 27 #[.string ⟨#[]⟩, .string ⟨#[]⟩] := Blk.below (by repeat (first | exact Blk.new _ _ _ | exact Blk.new2 _ _ _ _ | exact Blk.new3 _ _ _ _ _ | exact Blk.new4 _ _ _ _ _ _ | refine Blk.alloc ?_ _)) hb1 (by simp <;> omega)
    have z0 := (hZ.cell 0).trans (show _ = some (.string ⟨#[]⟩) from rfl)
    have z1 := (hZ.cell 1).trans (show _ = some (.string ⟨#[]⟩) from rfl)
    go_wp2_with fail
    refine (HSP.out _).mono ?_
    rintro e w2 ⟨g, m2, n, rfl, hm1, hm3, hm4, hc, hg, hg2, hb2⟩
    have hq2 : Below w1.heap.size w1 w2 := bth (by repeat (first | exact Below.refl _ _ | refine Below.alloc ?_ (by first | exact Nat.le_refl _ | (simp <;> omega)) _ | refine Below.setCell ?_ (by first | exact Nat.le_refl _ | (simp <;> omega)) _)) hb2
    replace HB := bth HB hq2
    replace hZ := hZ.below hq2 hZ.lt
    replace z0 := (hZ.cell 0).trans (show _ = some (.string ⟨#[]⟩) from rfl)
    replace z1 := (hZ.cell 1).trans (show _ = some (.string ⟨#[]⟩) from rfl)
    go_wp2_with fail
    refine (HSP3.out _).mono ?_
    rintro e w3 ⟨g', m3, n', rfl, hm1', hm3', hm4', hc', hg', hg2', hb3⟩
    have hq3 : Below w2.heap.size w2 w3 := bth (by repeat (first | exact Below.refl _ _ | refine Below.alloc ?_ (by first | exact Nat.le_refl _ | (simp <;> omega)) _ | refine Below.setCell ?_ (by first | exact Nat.le_refl _ | (simp <;> omega)) _)) hb3
    replace HB := bth HB hq3
    replace hZ := hZ.below hq3 hZ.lt
    replace z0 := (hZ.cell 0).trans (show _ = some (.string ⟨#[]⟩) from rfl)
    replace z1 := (hZ.cell 1).trans (show _ = some (.string ⟨#[]⟩) from rfl)
    go_wp2
    have hE : Blk (w3.alloc (.cells #[.string (bs ask), .string (bs rep)] 27)) w3.heap.size 27 #[.string (bs ask), .string (bs rep)] := Blk.new _ _ _
    have hZ' := hZ.alloc (.cells #[.string (bs ask), .string (bs rep)] 27)
    haveI : Nonempty (Hld fun V => Blk V w3.heap.size 27 #[.string (bs ask), .string (bs rep)]) := ⟨⟨_, hE⟩⟩
    have e0 := fun K : Hld (fun V => Blk V w3.heap.size 27 #[.string (bs ask), .string (bs rep)]) => (K.holds.cell 0).trans (show _ = some (.string (bs ask)) from rfl)
    have e1 := fun K : Hld (fun V => Blk V w3.heap.size 27 #[.string (bs ask), .string (bs rep)]) => (K.holds.cell 1).trans (show _ = some (.string (bs rep)) from rfl)
    refine wp_region_mixh (fun V => Blk V w3.heap.size 27 #[.string (bs ask), .string (bs rep)]) [([0, 1], 2), ([3, 4, 5, 7, 8], 6), ([9, 10], 11)] [12] (by kernel_rfl) (by kernel_rfl) hE.drew ?_
    refine wpMix_cons fun K hK => ?_
    change wpQuiet _ _ _ _ (_ :: _ :: []) _
    repeat (go_big_quiet_step (fail))
    refine wpQuiet_nil ?_
    change wpList _ _ _ (_ :: []) _ _
    go_wp2_with fail
    refine (HG.out _).mono ?_
    rintro e w4 ⟨rfl, hb4⟩
    have hE4 := hE.drew.below hb4 hE.lt
    have hZ4 := hZ'.drew.below hb4 hZ'.lt
    go_wp2
    refine Nrm_intro hE4 (hK _ _ ?_)
    refine wpMix_cons fun K2 hK2 => ?_
    change wpQuiet _ _ _ _ (_ :: _ :: _ :: _ :: _ :: []) _
    repeat (go_big_quiet_step (fail))
    refine wpQuiet_nil ?_
    change wpList _ _ _ (_ :: []) _ _
    go_wp2
    refine Nrm_intro hE4 (hK2 _ _ ?_)
    refine wpMix_cons fun K3 hK3 => ?_
    change wpQuiet _ _ _ _ (_ :: _ :: []) _
    repeat (go_big_quiet_step (fail))
    refine wpQuiet_nil ?_
    change wpList _ _ _ (_ :: []) _ _
    clear z0 z1
    have z0 := (hZ4.cell 0).trans (show _ = some (.string ⟨#[]⟩) from rfl)
    have z1 := (hZ4.cell 1).trans (show _ = some (.string ⟨#[]⟩) from rfl)
    have y0 := hZ4.frozen 0
    have y1 := hZ4.frozen 1
    have y2 := hZ4.lt
    go_wp2
    refine Nrm_intro ((hE4.far' (by have := hb3.size; have := hZ.lt; simp; omega) _).far' (by have := hb3.size; have := hZ.lt; simp; omega) _) (hK3 _ _ ?_)
    refine wpMix_last ?_
    change wpQuiet _ _ _ _ (_ :: []) _
    repeat (go_big_quiet_step (fail))
    refine wpQuiet_nil ?_
    have hF := ((hZ4.set_ 0 (.string (bs ask))).set_ 1 (.string (bs rep)))
    have r0 := (hF.cell 0).trans (show _ = some (.string (bs ask)) from rfl)
    have r1 := (hF.cell 1).trans (show _ = some (.string (bs rep)) from rfl)
    go_wp2
    have hB4 : Below w.heap.size w w4 := bth (bth HB (bl1 _ _)).drew hb4
    refine bodyPost_ret (v := .tuple #[.agg #[.string (bs ask), .string (bs rep)], .bool false]) (by simp [results, Tryd.results68, go_sem, r0, r1]) rfl ?_
    exact ⟨rfl, (hB4.setCell (Nat.le_refl _) _).setCell (Nat.le_refl _) _⟩
  · have hL : ∀ W, Calls Tryd.prog 44 #[.int .i64 k, .agg #[.string (bs ask), .string (bs rep)]] W fun e w' => e = .returned (.string (bs (lineL k ask rep ++ [10]))) ∧ Below W.heap.size W w' := fun W => l27Line_is k (by omega) (by omega) ask rep hok W
    have hll := lineL_len (k := (k : Int)) (by omega) (by omega) hok
    have hls : (bs (lineL k ask rep ++ [10])).size ≤ 372 := by rw [bs_size]; simp; omega
    have hcmp : ((bs (lineL k ask rep ++ [10])).toList == (bs l ++ (⟨#[10]⟩ : ByteArray)).toList) = v := by
      rw [← hv, hok, Bool.true_and]
      by_cases he : lineL k ask rep = l
      · rw [decide_eq_true he, he]; exact str_eq (bs_app l [10]).symm
      · rw [decide_eq_false he]
        refine str_ne fun h => he ?_
        rw [show (⟨#[10]⟩ : ByteArray) = bs [10] from rfl, bs_app] at h
        exact List.append_cancel_right (bs_inj h)
    rw [hok] at HG
    have HL := Lib.hid hL; clear hL hok hv hll
    go_enter Tryd.func68, Tryd.ntmps68
    go_wp2_with fail
    refine (l1Num_is k (by omega) (by omega) _).mono ?_
    rintro e w1 ⟨rfl, hb1⟩
    have hq1 : Below w.heap.size w w1 := bth (by repeat (first | exact Below.refl _ _ | refine Below.alloc ?_ (by first | exact Nat.le_refl _ | (simp <;> omega)) _ | refine Below.setCell ?_ (by first | exact Nat.le_refl _ | (simp <;> omega)) _)) hb1
    have HB : Below w.heap.size w w1 := hq1
    have hZ : Blk w1 (w.heap.size) 27 #[.string ⟨#[]⟩, .string ⟨#[]⟩] := Blk.below (by repeat (first | exact Blk.new _ _ _ | exact Blk.new2 _ _ _ _ | exact Blk.new3 _ _ _ _ _ | exact Blk.new4 _ _ _ _ _ _ | refine Blk.alloc ?_ _)) hb1 (by simp <;> omega)
    have z0 := (hZ.cell 0).trans (show _ = some (.string ⟨#[]⟩) from rfl)
    have z1 := (hZ.cell 1).trans (show _ = some (.string ⟨#[]⟩) from rfl)
    go_wp2_with fail
    refine (HSP.out _).mono ?_
    rintro e w2 ⟨g, m2, n, rfl, hm1, hm3, hm4, hc, hg, hg2, hb2⟩
    have hq2 : Below w1.heap.size w1 w2 := bth (by repeat (first | exact Below.refl _ _ | refine Below.alloc ?_ (by first | exact Nat.le_refl _ | (simp <;> omega)) _ | refine Below.setCell ?_ (by first | exact Nat.le_refl _ | (simp <;> omega)) _)) hb2
    replace HB := bth HB hq2
    replace hZ := hZ.below hq2 hZ.lt
    replace z0 := (hZ.cell 0).trans (show _ = some (.string ⟨#[]⟩) from rfl)
    replace z1 := (hZ.cell 1).trans (show _ = some (.string ⟨#[]⟩) from rfl)
    go_wp2_with fail
    refine (HSP3.out _).mono ?_
    rintro e w3 ⟨g', m3, n', rfl, hm1', hm3', hm4', hc', hg', hg2', hb3⟩
    have hq3 : Below w2.heap.size w2 w3 := bth (by repeat (first | exact Below.refl _ _ | refine Below.alloc ?_ (by first | exact Nat.le_refl _ | (simp <;> omega)) _ | refine Below.setCell ?_ (by first | exact Nat.le_refl _ | (simp <;> omega)) _)) hb3
    replace HB := bth HB hq3
    replace hZ := hZ.below hq3 hZ.lt
    replace z0 := (hZ.cell 0).trans (show _ = some (.string ⟨#[]⟩) from rfl)
    replace z1 := (hZ.cell 1).trans (show _ = some (.string ⟨#[]⟩) from rfl)
    go_wp2
    have hE : Blk (w3.alloc (.cells #[.string (bs ask), .string (bs rep)] 27)) w3.heap.size 27 #[.string (bs ask), .string (bs rep)] := Blk.new _ _ _
    have hZ' := hZ.alloc (.cells #[.string (bs ask), .string (bs rep)] 27)
    haveI : Nonempty (Hld fun V => Blk V w3.heap.size 27 #[.string (bs ask), .string (bs rep)]) := ⟨⟨_, hE⟩⟩
    have e0 := fun K : Hld (fun V => Blk V w3.heap.size 27 #[.string (bs ask), .string (bs rep)]) => (K.holds.cell 0).trans (show _ = some (.string (bs ask)) from rfl)
    have e1 := fun K : Hld (fun V => Blk V w3.heap.size 27 #[.string (bs ask), .string (bs rep)]) => (K.holds.cell 1).trans (show _ = some (.string (bs rep)) from rfl)
    refine wp_region_mixh (fun V => Blk V w3.heap.size 27 #[.string (bs ask), .string (bs rep)]) [([0, 1], 2), ([3, 4, 5, 7, 8], 6), ([9, 10], 11)] [12] (by kernel_rfl) (by kernel_rfl) hE.drew ?_
    refine wpMix_cons fun K hK => ?_
    change wpQuiet _ _ _ _ (_ :: _ :: []) _
    repeat (go_big_quiet_step (fail))
    refine wpQuiet_nil ?_
    change wpList _ _ _ (_ :: []) _ _
    go_wp2_with fail
    refine (HG.out _).mono ?_
    rintro e w4 ⟨rfl, hb4⟩
    have hE4 := hE.drew.below hb4 hE.lt
    have hZ4 := hZ'.drew.below hb4 hZ'.lt
    go_wp2
    refine Nrm_intro hE4 (hK _ _ ?_)
    refine wpMix_cons fun K2 hK2 => ?_
    change wpQuiet _ _ _ _ (_ :: _ :: _ :: _ :: _ :: []) _
    repeat (go_big_quiet_step (fail))
    refine wpQuiet_nil ?_
    change wpList _ _ _ (_ :: []) _ _
    go_wp2_with fail
    refine (HL.out _).mono ?_
    rintro e w5 ⟨rfl, hb5⟩
    have hE5 := hE4.below hb5 hE4.lt
    have hZ5 := hZ4.below hb5 hZ4.lt
    go_wp2
    refine Nrm_intro hE5 (hK2 _ _ ?_)
    refine wpMix_cons fun K3 hK3 => ?_
    change wpQuiet _ _ _ _ (_ :: _ :: []) _
    repeat (go_big_quiet_step (fail))
    refine wpQuiet_nil ?_
    change wpList _ _ _ (_ :: []) _ _
    clear z0 z1
    have z0 := (hZ5.cell 0).trans (show _ = some (.string ⟨#[]⟩) from rfl)
    have z1 := (hZ5.cell 1).trans (show _ = some (.string ⟨#[]⟩) from rfl)
    have y0 := hZ5.frozen 0
    have y1 := hZ5.frozen 1
    have y2 := hZ5.lt
    go_wp2
    refine Nrm_intro ((hE5.far' (by have := hb3.size; have := hZ.lt; simp; omega) _).far' (by have := hb3.size; have := hZ.lt; simp; omega) _) (hK3 _ _ ?_)
    refine wpMix_last ?_
    change wpQuiet _ _ _ _ (_ :: []) _
    repeat (go_big_quiet_step (fail))
    refine wpQuiet_nil ?_
    have hF := ((hZ5.set_ 0 (.string (bs ask))).set_ 1 (.string (bs rep)))
    have r0 := (hF.cell 0).trans (show _ = some (.string (bs ask)) from rfl)
    have r1 := (hF.cell 1).trans (show _ = some (.string (bs rep)) from rfl)
    go_wp2
    have hB5 : Below w.heap.size w w5 := bth (bth (bth HB (bl1 _ _)).drew hb4) hb5
    refine bodyPost_ret (v := .tuple #[.agg #[.string (bs ask), .string (bs rep)], .bool v]) (by simp [results, Tryd.results68, go_sem, r0, r1]) rfl ?_
    exact ⟨rfl, (hB5.setCell (Nat.le_refl _) _).setCell (Nat.le_refl _) _⟩
end Go.Proofs.YtpejnfhenpdobaaDoor
