/- The draws of the law of notices. -/
import Derived.Test.YtbnncgahepcfnaaGreatDoorNo21
import Derived.Test.YtbnncgahepcfnaaGreatDoorNo20
import Derived.Test.YtbnncgahepcfnaaGreatDoorNo22
import Derived.Test.YtbnncgahepcfnaaGreatDoorNo7
import Derived.Test.YtbnncgahepcfnaaGreatDoorNo15
import Derived.Test.YtbnncgahepcfnaaGreatDoorNo0
import Derived.Test.YtbnncgahepcfnaaGreatDoorNo2
import Derived.Deep.Cut
import Derived.Outline
import Derived.Test.YtbnncgahepcfnaaGreatDoorNo10
import Derived.Test.YtbnncgahepcfnaaGreatDoorNo11
import Derived.Test.YtbnncgahepcfnaaGreatDoorRows
import Derived.Test.YtbnncgahepcfnaaGreatDoorNo12
namespace Go.Proofs.YtbnncgahepcfnaaGreatDoor
open Go.RowKit Go.G9
theorem own_cell {T : Type} {sz : Nat} {f : T → List Value} {B : Nat} {e : TypeId} {w : World} {b o n c : Nat} {xs : List T} (h : OwnV B e sz f w (.slice (some ⟨b, o, none⟩) n c) xs) (hf : ∀ y, (f y).length = sz) {j : Nat} {x : T} (hx : xs[j]? = some x) {i : Nat} {u : Value} (hu : (f x)[i]? = some u) : w.cell? ⟨b, o + j * sz + i, none⟩ = some u := by
  obtain ⟨A', c', e', _, hR, _⟩ := h.form hf
  injection e' with e1 _ _
  subst e1
  obtain ⟨b9, o9, y, e9, _, hy, hc⟩ := hR.at_ (Below.refl _ _) (k := j) (List.getElem?_eq_some_iff.1 hx).1
  cases e9
  obtain rfl : x = y := Option.some.inj (hx.symm.trans hy)
  exact hc i u hu (Kin.self _)
theorem ntOut_small (n : Ntc) (hn : n.topic.size ≤ 12) : ∃ s b, ntOut n = .tuple #[.string s, .bool b] ∧ s.size ≤ 1000 := by
  unfold ntOut
  split
  · rename_i h; exact ⟨_, _, rfl, by have := txt_size h; omega⟩
  · exact ⟨_, _, rfl, by decide⟩
set_option maxHeartbeats 1000000 in
set_option maxRecDepth 100000 in
theorem drawAreNotices_is (A : Option Addr) (c : Nat) (cs : List UInt8) (hcs : cs.length ≤ 1048576) (w : World) (hR : Rds 1 u8C w A cs) :
  Calls Tryz.prog 67 #[.slice A cs.length c] w fun e w' => ∃ (xs : List Ntc) (Y : Option Addr) (yc : Nat), e = .returned (.slice Y xs.length yc) ∧ xs.length ≤ 14 ∧ OwnV w.heap.size 42 4 Ntc.cells w' (.slice Y xs.length yc) xs ∧ Below w.heap.size w w' := by
  go_enter Tryz.func67, Tryz.ntmps67
  go_upto_region 2 with fail
  have hlt : ∀ ad, A = some ad → 0 < cs.length → ad.block < w.heap.size := fun ad h h0 => by
    obtain ⟨b, off, h1, h2, _⟩ := hR h0
    rw [h1] at h; cases h; exact h2
  have hP := Blk.new w 65 #[.slice A cs.length c, .int .i64 0, .int .u64 0]
  have HB : Below w.heap.size w (w.alloc (.cells #[.slice A cs.length c, .int .i64 0, .int .u64 0] 65)) := bl1 w _
  generalize (w.alloc (.cells #[.slice A cs.length c, .int .i64 0, .int .u64 0] 65)) = wA at *
  have hC : Cur wA w.heap.size A c cs 0 := ⟨⟨0, 0, hP, by decide, by decide⟩, hR.below HB, fun ad h h0 => by have := hlt ad h h0; omega⟩
  have hPl := hP.lt
  obtain ⟨p, hpe⟩ : ∃ p, p = w.heap.size := ⟨_, rfl⟩
  rw [← hpe] at hC hPl
  obtain ⟨n0, hn0⟩ : ∃ n : Nat, n ≤ 0 := ⟨0, Nat.le_refl _⟩
  replace hC : Cur wA p A c cs n0 := hC.mono (Nat.zero_le _)
  simp only [← hpe]
  have hp := hC.lt
  have HG := grown_refl w (some p)
  replace HG : w.grownBy wA (some p) := below_grown HB _
  have szw : w.heap.size ≤ wA.heap.size := HB.size
  have hwp : w.heap.size ≤ p := by omega
  clear hR hlt hP HB
  go_wp2_with fail
  rw [← hpe]
  refine (notices_is p A c cs hcs n0 (by omega) _ hC).mono ?_
  rintro e wO ⟨xs, Y, yc, rfl, hl, hO, hSO⟩
  replace HG := grown_tr HG hSO.2
  go_wp2
  go_ret
  exact ⟨xs, Y, yc, rfl, hl, hO.base (by omega), grown_below HG (Nat.le_refl _) (fun k hk => by cases hk; omega)⟩
theorem drawFirstMeeting_is (A : Option Addr) (c : Nat) (cs : List UInt8) (hcs : cs.length ≤ 1048576) (w : World) (hR : Rds 1 u8C w A cs) :
  Calls Tryz.prog 26 #[.slice A cs.length c] w fun e w' => ∃ (xs : List Ntc) (Y : Option Addr) (yc : Nat), e = .returned (.slice Y xs.length yc) ∧ xs.length ≤ 14 ∧ OwnV w.heap.size 42 4 Ntc.cells w' (.slice Y xs.length yc) xs ∧ Below w.heap.size w w' := by
  go_enter Tryz.func26, Tryz.ntmps26
  go_wp2_with fail
  refine (drawAreNotices_is A c cs hcs _ hR).mono ?_
  rintro e w1 ⟨xs, Y, yc, rfl, hl, hO, hb⟩
  go_wp2
  go_ret
  exact ⟨xs, Y, yc, rfl, hl, hO, hb⟩
set_option maxHeartbeats 1000000 in
set_option maxRecDepth 100000 in
theorem drawRipeTopics_is (A : Option Addr) (c : Nat) (cs : List UInt8) (hcs : cs.length ≤ 1048576) (w : World) (hR : Rds 1 u8C w A cs) :
  Calls Tryz.prog 36 #[.slice A cs.length c] w fun e w' => ∃ (xs : List Ntc) (Y : Option Addr) (yc : Nat) (d : Int), e = .returned (.tuple #[.slice Y xs.length yc, .int .i64 d]) ∧ xs.length ≤ 14 ∧ (-1 ≤ d ∧ d ≤ 3651) ∧ OwnV w.heap.size 42 4 Ntc.cells w' (.slice Y xs.length yc) xs ∧ Below w.heap.size w w' := by
  go_enter Tryz.func36, Tryz.ntmps36
  go_upto_region 2 with fail
  have hlt : ∀ ad, A = some ad → 0 < cs.length → ad.block < w.heap.size := fun ad h h0 => by
    obtain ⟨b, off, h1, h2, _⟩ := hR h0
    rw [h1] at h; cases h; exact h2
  have hP := Blk.new w 65 #[.slice A cs.length c, .int .i64 0, .int .u64 0]
  have HB : Below w.heap.size w (w.alloc (.cells #[.slice A cs.length c, .int .i64 0, .int .u64 0] 65)) := bl1 w _
  generalize (w.alloc (.cells #[.slice A cs.length c, .int .i64 0, .int .u64 0] 65)) = wA at *
  have hC : Cur wA w.heap.size A c cs 0 := ⟨⟨0, 0, hP, by decide, by decide⟩, hR.below HB, fun ad h h0 => by have := hlt ad h h0; omega⟩
  have hPl := hP.lt
  obtain ⟨p, hpe⟩ : ∃ p, p = w.heap.size := ⟨_, rfl⟩
  rw [← hpe] at hC hPl
  obtain ⟨n0, hn0⟩ : ∃ n : Nat, n ≤ 0 := ⟨0, Nat.le_refl _⟩
  replace hC : Cur wA p A c cs n0 := hC.mono (Nat.zero_le _)
  simp only [← hpe]
  have hp := hC.lt
  have HG := grown_refl w (some p)
  replace HG : w.grownBy wA (some p) := below_grown HB _
  have szw : w.heap.size ≤ wA.heap.size := HB.size
  have hwp : w.heap.size ≤ p := by omega
  clear hR hlt hP HB
  go_wp2_with fail
  rw [← hpe]
  clear hpe
  refine (notices_is p A c cs hcs n0 (by omega) _ hC).mono ?_
  rintro e wO ⟨xs, Y, yc, rfl, hl, hO, hSO⟩
  replace HG := grown_tr HG hSO.2
  replace hC := hSO.1
  have szO := hSO.2.size
  have hOw := hO.lt
  replace hO := hO.base (by omega : w.heap.size ≤ _)
  go_wp2_with fail
  refine (day24_is p A c cs hcs (n0 + 400) (by omega) _ (hC.later (by repeat (first | exact Below.refl _ _ | refine Below.alloc ?_ (by first | exact Nat.le_refl _ | (simp <;> omega)) _ | refine Below.setCell ?_ (by first | exact Nat.le_refl _ | (simp <;> omega)) _)))).mono ?_
  rintro e w1 ⟨d, rfl, hd, hS1⟩
  have hg1 : wO.grownBy w1 (some p) := grown_tr (below_grown (by repeat (first | exact Below.refl _ _ | refine Below.alloc ?_ (by first | exact Nat.le_refl _ | (simp <;> omega)) _ | refine Below.setCell ?_ (by first | exact Nat.le_refl _ | (simp <;> omega)) _)) _) hS1.2
  replace hC := hS1.1
  have sz1 := hg1.size
  replace HG := grown_tr HG hg1
  replace hO := hO.kept hS1.2 (fun k hk e => by have := (hO.lt k hk).1; have := Option.some.inj e; have := (hOw k hk).1; omega)
  go_wp2
  go_ret2
  exact ⟨xs, Y, yc, d, rfl, hl, hd, hO, grown_below HG (Nat.le_refl _) (fun k hk => by cases hk; omega)⟩
set_option maxHeartbeats 1000000 in
set_option maxRecDepth 100000 in
theorem drawNoticeText_is (A : Option Addr) (c : Nat) (cs : List UInt8) (hcs : cs.length ≤ 1048576) (w : World) (hR : Rds 1 u8C w A cs) :
  Calls Tryz.prog 20 #[.slice A cs.length c] w fun e w' => ∃ (i : Int) (t : ByteArray) (g d : Int), e = .returned (.agg #[.int .i64 i, .string t, .int .i64 g, .int .i64 d]) ∧ t.size ≤ 12 ∧ Below w.heap.size w w' := by
  go_enter Tryz.func20, Tryz.ntmps20
  go_upto_region 2 with fail
  have hlt : ∀ ad, A = some ad → 0 < cs.length → ad.block < w.heap.size := fun ad h h0 => by
    obtain ⟨b, off, h1, h2, _⟩ := hR h0
    rw [h1] at h; cases h; exact h2
  have hZ := (Blk.new w 42 #[.int .i64 0, .string ⟨#[]⟩, .int .i64 0, .int .i64 0]).alloc (.cells #[.slice A cs.length c, .int .i64 0, .int .u64 0] 65)
  have hP := Blk.new2 w (.cells #[.int .i64 0, .string ⟨#[]⟩, .int .i64 0, .int .i64 0] 42) 65 #[.slice A cs.length c, .int .i64 0, .int .u64 0]
  have HB : Below w.heap.size w ((w.alloc (.cells #[.int .i64 0, .string ⟨#[]⟩, .int .i64 0, .int .i64 0] 42)).alloc (.cells #[.slice A cs.length c, .int .i64 0, .int .u64 0] 65)) := bl2 w _ _
  generalize ((w.alloc (.cells #[.int .i64 0, .string ⟨#[]⟩, .int .i64 0, .int .i64 0] 42)).alloc (.cells #[.slice A cs.length c, .int .i64 0, .int .u64 0] 65)) = wA at *
  have hC : Cur wA (w.heap.size + 1) A c cs 0 := ⟨⟨0, 0, hP, by decide, by decide⟩, hR.below HB, fun ad h h0 => by have := hlt ad h h0; omega⟩
  obtain ⟨p, hpe⟩ : ∃ p, p = w.heap.size + 1 := ⟨_, rfl⟩
  rw [← hpe] at hC
  obtain ⟨n0, hn0⟩ : ∃ n : Nat, n ≤ 0 := ⟨0, Nat.le_refl _⟩
  replace hC : Cur wA p A c cs n0 := hC.mono (Nat.zero_le _)
  simp only [← hpe]
  have hp := hC.lt
  have HG := grown_refl w (some p)
  replace HG : w.grownBy wA (some p) := below_grown HB _
  have szw : w.heap.size ≤ wA.heap.size := HB.size
  have HPE := Lib.hid hpe
  have hwp : w.heap.size < p := by omega
  clear hR hlt hP HB hpe
  have z0 := (hZ.cell 0).trans (show _ = some (.int .i64 0) from rfl)
  have z1 := (hZ.cell 1).trans (show _ = some (.string ⟨#[]⟩) from rfl)
  have z2 := (hZ.cell 2).trans (show _ = some (.int .i64 0) from rfl)
  have z3 := (hZ.cell 3).trans (show _ = some (.int .i64 0) from rfl)
  have hL1 := built_rdsQ wA [1, 7, 99] (by simp [maxLen])
  simp only [List.flatMap_cons, List.flatMap_nil, intC, List.append_nil, List.singleton_append] at hL1
  have HL1 := Lib.hid hL1; clear hL1
  go_wp2_with fail
  refine (among_is (some ⟨wA.heap.size, 0, none⟩) _ [1, 7, 99] (by simp) (by simp) p A c cs hcs n0 (by omega) _ (hC.later (by repeat (first | exact Below.refl _ _ | refine Below.alloc ?_ (by first | exact Nat.le_refl _ | (simp <;> omega)) _ | refine Below.setCell ?_ (by first | exact Nat.le_refl _ | (simp <;> omega)) _))) HL1.out (fun ad h _ => by cases h; show wA.heap.size ≠ p; omega)).mono ?_
  rintro e w1 ⟨id, rfl, hq, hS1⟩
  clear z0 z1 z2 z3
  have hg1 : wA.grownBy w1 (some p) := grown_tr (below_grown (by repeat (first | exact Below.refl _ _ | refine Below.alloc ?_ (by first | exact Nat.le_refl _ | (simp <;> omega)) _ | refine Below.setCell ?_ (by first | exact Nat.le_refl _ | (simp <;> omega)) _)) _) hS1.2
  replace hC := hS1.1
  have sz1 := hg1.size
  replace HG := grown_tr HG hg1
  replace hZ := hZ.grownB hg1 (by omega)
  have z0 := (hZ.cell 0).trans (show _ = some (.int .i64 0) from rfl)
  have z1 := (hZ.cell 1).trans (show _ = some (.string ⟨#[]⟩) from rfl)
  have z2 := (hZ.cell 2).trans (show _ = some (.int .i64 0) from rfl)
  have z3 := (hZ.cell 3).trans (show _ = some (.int .i64 0) from rfl)
  clear hq HL1
  go_wp2_with fail
  refine (notice_is id p A c cs hcs (n0 + 2) (by omega) _ (hC.later (by repeat (first | exact Below.refl _ _ | refine Below.alloc ?_ (by first | exact Nat.le_refl _ | (simp <;> omega)) _ | refine Below.setCell ?_ (by first | exact Nat.le_refl _ | (simp <;> omega)) _)))).mono ?_
  rintro e w2 ⟨i, t, g, d, rfl, ht, hS2⟩
  clear z0 z1 z2 z3
  have hg2 : w1.grownBy w2 (some p) := grown_tr (below_grown (by repeat (first | exact Below.refl _ _ | refine Below.alloc ?_ (by first | exact Nat.le_refl _ | (simp <;> omega)) _ | refine Below.setCell ?_ (by first | exact Nat.le_refl _ | (simp <;> omega)) _)) _) hS2.2
  replace hC := hS2.1
  have sz2 := hg2.size
  replace HG := grown_tr HG hg2
  replace hZ := hZ.grownB hg2 (by omega)
  have z0 := (hZ.cell 0).trans (show _ = some (.int .i64 0) from rfl)
  have z1 := (hZ.cell 1).trans (show _ = some (.string ⟨#[]⟩) from rfl)
  have z2 := (hZ.cell 2).trans (show _ = some (.int .i64 0) from rfl)
  have z3 := (hZ.cell 3).trans (show _ = some (.int .i64 0) from rfl)
  clear hC
  have fhZ0 := hZ.frozen 0
  have fhZ1 := hZ.frozen 1
  have fhZ2 := hZ.frozen 2
  have fhZ3 := hZ.frozen 3
  have yhZ := hZ.lt
  go_wp2
  clear fhZ0 fhZ1 fhZ2 fhZ3 yhZ z0 z1 z2 z3
  have HG2 : w.grownBy ((((w2.setCell ⟨w.heap.size, 0, none⟩ (.int .i64 i)).setCell ⟨w.heap.size, 1, none⟩ (.string t)).setCell ⟨w.heap.size, 2, none⟩ (.int .i64 g)).setCell ⟨w.heap.size, 3, none⟩ (.int .i64 d)) (some p) := (grown_store (grown_store (grown_store (grown_store HG (g := w.heap.size) (Nat.le_refl _) 0 (.int .i64 i)) (g := w.heap.size) (Nat.le_refl _) 1 (.string t)) (g := w.heap.size) (Nat.le_refl _) 2 (.int .i64 g)) (g := w.heap.size) (Nat.le_refl _) 3 (.int .i64 d))
  have hZ2 : Blk ((((w2.setCell ⟨w.heap.size, 0, none⟩ (.int .i64 i)).setCell ⟨w.heap.size, 1, none⟩ (.string t)).setCell ⟨w.heap.size, 2, none⟩ (.int .i64 g)).setCell ⟨w.heap.size, 3, none⟩ (.int .i64 d)) w.heap.size 42 #[.int .i64 i, .string t, .int .i64 g, .int .i64 d] := ((((hZ.set_ 0 (.int .i64 i)).set_ 1 (.string t)).set_ 2 (.int .i64 g)).set_ 3 (.int .i64 d))
  clear hZ HG
  generalize ((((w2.setCell ⟨w.heap.size, 0, none⟩ (.int .i64 i)).setCell ⟨w.heap.size, 1, none⟩ (.string t)).setCell ⟨w.heap.size, 2, none⟩ (.int .i64 g)).setCell ⟨w.heap.size, 3, none⟩ (.int .i64 d)) = W9 at *
  have z0 := (hZ2.cell 0).trans (show _ = some (.int .i64 i) from rfl)
  have z1 := (hZ2.cell 1).trans (show _ = some (.string t) from rfl)
  have z2 := (hZ2.cell 2).trans (show _ = some (.int .i64 g) from rfl)
  have z3 := (hZ2.cell 3).trans (show _ = some (.int .i64 d) from rfl)
  refine bodyPost_ret (v := .agg #[.int .i64 i, .string t, .int .i64 g, .int .i64 d]) (by simp [results, Tryz.results20, go_sem, z0, z1, z2, z3]) rfl ?_
  exact ⟨i, t, g, d, rfl, ht, grown_below HG2 (Nat.le_refl _) (fun k hk => by cases hk; omega)⟩
set_option maxHeartbeats 1000000 in
set_option maxRecDepth 100000 in
theorem drawParseNotice_is (A : Option Addr) (c : Nat) (cs : List UInt8) (hcs : cs.length ≤ 1048576) (w : World) (hR : Rds 1 u8C w A cs) :
  Calls Tryz.prog 24 #[.slice A cs.length c] w fun e w' => ∃ s : ByteArray, e = .returned (.string s) ∧ s.size ≤ 10000 ∧ Below w.heap.size w w' := by
  go_enter Tryz.func24, Tryz.ntmps24
  go_upto_region 2 with fail
  have hlt : ∀ ad, A = some ad → 0 < cs.length → ad.block < w.heap.size := fun ad h h0 => by
    obtain ⟨b, off, h1, h2, _⟩ := hR h0
    rw [h1] at h; cases h; exact h2
  have hP := Blk.new w 65 #[.slice A cs.length c, .int .i64 0, .int .u64 0]
  have HB : Below w.heap.size w (w.alloc (.cells #[.slice A cs.length c, .int .i64 0, .int .u64 0] 65)) := bl1 w _
  generalize (w.alloc (.cells #[.slice A cs.length c, .int .i64 0, .int .u64 0] 65)) = wA at *
  have hC : Cur wA w.heap.size A c cs 0 := ⟨⟨0, 0, hP, by decide, by decide⟩, hR.below HB, fun ad h h0 => by have := hlt ad h h0; omega⟩
  have hPl := hP.lt
  obtain ⟨p, hpe⟩ : ∃ p, p = w.heap.size := ⟨_, rfl⟩
  rw [← hpe] at hC hPl
  obtain ⟨n0, hn0⟩ : ∃ n : Nat, n ≤ 0 := ⟨0, Nat.le_refl _⟩
  replace hC : Cur wA p A c cs n0 := hC.mono (Nat.zero_le _)
  simp only [← hpe]
  have hp := hC.lt
  have HG := grown_refl w (some p)
  replace HG : w.grownBy wA (some p) := below_grown HB _
  have szw : w.heap.size ≤ wA.heap.size := HB.size
  have hwp : w.heap.size ≤ p := by omega
  clear hR hlt hP HB
  have hL1 := built_rdsQ wA [1, 7, 99] (by simp [maxLen])
  simp only [List.flatMap_cons, List.flatMap_nil, intC, List.append_nil, List.singleton_append] at hL1
  have HL1 := Lib.hid hL1; clear hL1
  go_wp2_with fail
  rw [← hpe]
  refine (among_is (some ⟨wA.heap.size, 0, none⟩) _ [1, 7, 99] (by simp) (by simp) p A c cs hcs n0 (by omega) _ (hC.later (bl1 _ _)) HL1.out (fun ad h _ => by cases h; show wA.heap.size ≠ p; omega)).mono ?_
  rintro e wO ⟨id, rfl, hq, hSO⟩
  clear hq HL1 hpe
  replace HG := grown_tr (grown_tr HG (below_grown (bl1 _ _) _)) hSO.2
  replace hC := hSO.1
  go_wp2_with fail
  refine (notice_is id p A c cs hcs (n0 + 2) (by omega) _ (hC.later (by repeat (first | exact Below.refl _ _ | refine Below.alloc ?_ (by first | exact Nat.le_refl _ | (simp <;> omega)) _ | refine Below.setCell ?_ (by first | exact Nat.le_refl _ | (simp <;> omega)) _)))).mono ?_
  rintro e w1 ⟨i, t, g, d, rfl, ht, hS1⟩
  have hg1 : wO.grownBy w1 (some p) := grown_tr (below_grown (by repeat (first | exact Below.refl _ _ | refine Below.alloc ?_ (by first | exact Nat.le_refl _ | (simp <;> omega)) _ | refine Below.setCell ?_ (by first | exact Nat.le_refl _ | (simp <;> omega)) _)) _) hS1.2
  replace hC := hS1.1
  have sz1 := hg1.size
  replace HG := grown_tr HG hg1
  have hml : t.size ≤ maxLen := by unfold maxLen; omega
  obtain ⟨s, b, hs, hsz⟩ := ntOut_small ⟨i, t, g, d, hml⟩ ht
  go_wp2_with fail
  refine (sNoticeText_is ⟨i, t, g, d, hml⟩ _ hs _).mono ?_
  rintro e w2 ⟨rfl, hS2⟩
  have hb2 : Below w1.heap.size w1 w2 := bth (by repeat (first | exact Below.refl _ _ | refine Below.alloc ?_ (by first | exact Nat.le_refl _ | (simp <;> omega)) _ | refine Below.setCell ?_ (by first | exact Nat.le_refl _ | (simp <;> omega)) _)) hS2
  have hg2 : w1.grownBy w2 (some p) := below_grown hb2 _
  replace hC := hC.later hb2
  have sz2 := hg2.size
  replace HG := grown_tr HG hg2
  go_wp2_with fail
  refine (one_is 4 p A c cs hcs (n0 + 2 + 20) (by omega) (by omega) _ (hC.later (by repeat (first | exact Below.refl _ _ | refine Below.alloc ?_ (by first | exact Nat.le_refl _ | (simp <;> omega)) _ | refine Below.setCell ?_ (by first | exact Nat.le_refl _ | (simp <;> omega)) _)))).mono ?_
  rintro e w3 ⟨b, rfl, hS3⟩
  have hg3 : w2.grownBy w3 (some p) := grown_tr (below_grown (by repeat (first | exact Below.refl _ _ | refine Below.alloc ?_ (by first | exact Nat.le_refl _ | (simp <;> omega)) _ | refine Below.setCell ?_ (by first | exact Nat.le_refl _ | (simp <;> omega)) _)) _) hS3.2
  replace hC := hS3.1
  have sz3 := hg3.size
  replace HG := grown_tr HG hg3
  cases b
  · go_wp2
    go_ret
    exact ⟨s, rfl, by omega, grown_below HG (Nat.le_refl _) (fun k hk => by cases hk; omega)⟩
  · go_wp2_with fail
    refine (spoilt_is s (⟨#[48, 32, 44, 58, 115, 97]⟩ : ByteArray) (by omega) (by decide) (by decide) p A c cs hcs (n0 + 2 + 20 + 2) (by omega) _ (hC.later (by repeat (first | exact Below.refl _ _ | refine Below.alloc ?_ (by first | exact Nat.le_refl _ | (simp <;> omega)) _ | refine Below.setCell ?_ (by first | exact Nat.le_refl _ | (simp <;> omega)) _)))).mono ?_
    rintro e w4 ⟨x, rfl, hx, hS4⟩
    have hg4 : w3.grownBy w4 (some p) := grown_tr (below_grown (by repeat (first | exact Below.refl _ _ | refine Below.alloc ?_ (by first | exact Nat.le_refl _ | (simp <;> omega)) _ | refine Below.setCell ?_ (by first | exact Nat.le_refl _ | (simp <;> omega)) _)) _) hS4.2
    replace hC := hS4.1
    have sz4 := hg4.size
    replace HG := grown_tr HG hg4
    go_wp2
    go_ret
    exact ⟨x, rfl, by omega, grown_below HG (Nat.le_refl _) (fun k hk => by cases hk; omega)⟩
set_option maxHeartbeats 1000000 in
set_option maxRecDepth 100000 in
theorem drawWithdrawNotice_is (A : Option Addr) (c : Nat) (cs : List UInt8) (hcs : cs.length ≤ 1048576) (w : World) (hR : Rds 1 u8C w A cs) :
  Calls Tryz.prog 32 #[.slice A cs.length c] w fun e w' => ∃ (xs : List Ntc) (Y : Option Addr) (yc : Nat) (d : Int), e = .returned (.tuple #[.slice Y xs.length yc, .int .i64 d]) ∧ xs.length ≤ 14 ∧ OwnV w.heap.size 42 4 Ntc.cells w' (.slice Y xs.length yc) xs ∧ Below w.heap.size w w' := by
  go_enter Tryz.func32, Tryz.ntmps32
  go_upto_region 2 with fail
  have hlt : ∀ ad, A = some ad → 0 < cs.length → ad.block < w.heap.size := fun ad h h0 => by
    obtain ⟨b, off, h1, h2, _⟩ := hR h0
    rw [h1] at h; cases h; exact h2
  have hP := Blk.new w 65 #[.slice A cs.length c, .int .i64 0, .int .u64 0]
  have HB : Below w.heap.size w (w.alloc (.cells #[.slice A cs.length c, .int .i64 0, .int .u64 0] 65)) := bl1 w _
  generalize (w.alloc (.cells #[.slice A cs.length c, .int .i64 0, .int .u64 0] 65)) = wA at *
  have hC : Cur wA w.heap.size A c cs 0 := ⟨⟨0, 0, hP, by decide, by decide⟩, hR.below HB, fun ad h h0 => by have := hlt ad h h0; omega⟩
  have hPl := hP.lt
  obtain ⟨p, hpe⟩ : ∃ p, p = w.heap.size := ⟨_, rfl⟩
  rw [← hpe] at hC hPl
  obtain ⟨n0, hn0⟩ : ∃ n : Nat, n ≤ 0 := ⟨0, Nat.le_refl _⟩
  replace hC : Cur wA p A c cs n0 := hC.mono (Nat.zero_le _)
  simp only [← hpe]
  have hp := hC.lt
  have HG := grown_refl w (some p)
  replace HG : w.grownBy wA (some p) := below_grown HB _
  have szw : w.heap.size ≤ wA.heap.size := HB.size
  have hwp : w.heap.size ≤ p := by omega
  clear hR hlt hP HB
  go_wp2_with fail
  rw [← hpe]
  clear hpe
  refine (notices_is p A c cs hcs n0 (by omega) _ hC).mono ?_
  rintro e wO ⟨xs, Y, yc, rfl, hl, hO, hSO⟩
  replace HG := grown_tr HG hSO.2
  replace hC := hSO.1
  have szO := hSO.2.size
  have hOw := Lib.hid (fun k hk => (hO.lt k hk).1 : ∀ k, (Value.slice Y xs.length yc).ownBlock = some k → wA.heap.size ≤ k)
  replace hO := hO.base (by omega : w.heap.size ≤ _)
  by_cases h0 : 0 < xs.length
  case neg =>
    have hx0 : xs.length = 0 := by omega
    have HX0 := Lib.hid hx0; clear hx0
    have hL1 := built_rdsQ wO [0, 1, 50] (by simp [maxLen])
    simp only [List.flatMap_cons, List.flatMap_nil, intC, List.append_nil, List.singleton_append] at hL1
    have HL1 := Lib.hid hL1; clear hL1
    go_wp2_with fail
    refine (among_is (some ⟨wO.heap.size, 0, none⟩) _ [0, 1, 50] (by simp) (by simp) p A c cs hcs (n0 + 400) (by omega) _ (hC.later (by repeat (first | exact Below.refl _ _ | refine Below.alloc ?_ (by first | exact Nat.le_refl _ | (simp <;> omega)) _ | refine Below.setCell ?_ (by first | exact Nat.le_refl _ | (simp <;> omega)) _))) HL1.out (fun ad h _ => by cases h; show wO.heap.size ≠ p; omega)).mono ?_
    rintro e w1 ⟨id, rfl, hq, hS1⟩
    have hg1 : wO.grownBy w1 (some p) := grown_tr (below_grown (by repeat (first | exact Below.refl _ _ | refine Below.alloc ?_ (by first | exact Nat.le_refl _ | (simp <;> omega)) _ | refine Below.setCell ?_ (by first | exact Nat.le_refl _ | (simp <;> omega)) _)) _) hS1.2
    replace hC := hS1.1
    have sz1 := hg1.size
    replace HG := grown_tr HG hg1
    clear hq HL1
    replace hO := hO.later (bl1 _ _) |>.kept hS1.2 (fun k hk e => by have := hOw.out k hk; have := Option.some.inj e; omega)
    go_wp2
    go_ret2
    exact ⟨xs, Y, yc, id, rfl, hl, hO, grown_below HG (Nat.le_refl _) (fun k hk => by cases hk; omega)⟩
  go_wp2_with fail
  refine (one_is 6 p A c cs hcs (n0 + 400) (by omega) (by omega) _ (hC.later (by repeat (first | exact Below.refl _ _ | refine Below.alloc ?_ (by first | exact Nat.le_refl _ | (simp <;> omega)) _ | refine Below.setCell ?_ (by first | exact Nat.le_refl _ | (simp <;> omega)) _)))).mono ?_
  rintro e w1 ⟨b, rfl, hS1⟩
  have hg1 : wO.grownBy w1 (some p) := grown_tr (below_grown (by repeat (first | exact Below.refl _ _ | refine Below.alloc ?_ (by first | exact Nat.le_refl _ | (simp <;> omega)) _ | refine Below.setCell ?_ (by first | exact Nat.le_refl _ | (simp <;> omega)) _)) _) hS1.2
  replace hC := hS1.1
  have sz1 := hg1.size
  replace HG := grown_tr HG hg1
  replace hO := hO.kept hS1.2 (fun k hk e => by have := hOw.out k hk; have := Option.some.inj e; omega)
  cases b
  case true =>
    have hL1 := built_rdsQ w1 [0, 1, 50] (by simp [maxLen])
    simp only [List.flatMap_cons, List.flatMap_nil, intC, List.append_nil, List.singleton_append] at hL1
    have HL1 := Lib.hid hL1; clear hL1
    go_wp2_with fail
    refine (among_is (some ⟨w1.heap.size, 0, none⟩) _ [0, 1, 50] (by simp) (by simp) p A c cs hcs (n0 + 400 + 2) (by omega) _ (hC.later (by repeat (first | exact Below.refl _ _ | refine Below.alloc ?_ (by first | exact Nat.le_refl _ | (simp <;> omega)) _ | refine Below.setCell ?_ (by first | exact Nat.le_refl _ | (simp <;> omega)) _))) HL1.out (fun ad h _ => by cases h; show w1.heap.size ≠ p; omega)).mono ?_
    rintro e w2 ⟨id, rfl, hq, hS2⟩
    have hg2 : w1.grownBy w2 (some p) := grown_tr (below_grown (by repeat (first | exact Below.refl _ _ | refine Below.alloc ?_ (by first | exact Nat.le_refl _ | (simp <;> omega)) _ | refine Below.setCell ?_ (by first | exact Nat.le_refl _ | (simp <;> omega)) _)) _) hS2.2
    replace hC := hS2.1
    have sz2 := hg2.size
    replace HG := grown_tr HG hg2
    clear hq HL1
    replace hO := hO.later (bl1 _ _) |>.kept hS2.2 (fun k hk e => by have := hOw.out k hk; have := Option.some.inj e; omega)
    go_wp2
    go_ret2
    exact ⟨xs, Y, yc, id, rfl, hl, hO, grown_below HG (Nat.le_refl _) (fun k hk => by cases hk; omega)⟩
  case false =>
    go_upto_region 4 with fail
    obtain ⟨bx, ox, x0, rfl, _, _, _⟩ := (hO.rds (hf := ntc_len)).at_ (Below.refl _ _) (k := 0) h0
    haveI : Nonempty (Hld (fun V => OwnV w.heap.size 42 4 Ntc.cells V (.slice (some ⟨bx, ox, none⟩) xs.length yc) xs)) := ⟨⟨w1, hO⟩⟩
    haveI : Nonempty (Hld (fun _ => True)) := ⟨⟨w1, trivial⟩⟩
    refine wp_region_mx (fun V => OwnV w.heap.size 42 4 Ntc.cells V (.slice (some ⟨bx, ox, none⟩) xs.length yc) xs) [([], [0, 1, 2, 3], 4, false), ([], [], 5, false)] [6, 7, 8] [9, 10] (by kernel_rfl) (by kernel_rfl) (hO.later (Below.refl _ _).drew) ?_
    refine wpMx_cons fun K hK => ?_
    refine wpQuiet_nil ?_
    change wpQuiet _ _ _ _ (_ :: _ :: _ :: _ :: []) _
    repeat (go_big_quiet_step (fail))
    refine wpQuiet_nil ?_
    change wpList _ _ _ (_ :: []) _ _
    replace hO := hO.later (Below.refl _ _).drew
    replace hC := hC.later (Below.refl _ _).drew
    replace HG := grown_tr HG (below_grown (Below.refl w1.heap.size w1).drew (some p))
    have szd : w1.drew.heap.size = w1.heap.size := rfl
    generalize w1.drew = wD at *
    go_wp2
    refine Nrm_keep hO (hK _ _ ?_)
    refine wpMx_cons fun K2 hK2 => ?_
    refine wpQuiet_nil ?_
    refine wpQuiet_nil ?_
    change wpList _ _ _ (_ :: []) _ _
    go_wp2_with fail
    refine (pick_is xs.length p A c cs hcs (n0 + 400 + 2) (by omega) (by omega) _ (hC.later (by repeat (first | exact Below.refl _ _ | refine Below.alloc ?_ (by first | exact Nat.le_refl _ | (simp <;> omega)) _ | refine Below.setCell ?_ (by first | exact Nat.le_refl _ | (simp <;> omega)) _)))).mono ?_
    rintro e w2 ⟨r, rfl, ⟨hr0, hr1, hr2⟩, hS2⟩
    have hg2 : wD.grownBy w2 (some p) := grown_tr (below_grown (by repeat (first | exact Below.refl _ _ | refine Below.alloc ?_ (by first | exact Nat.le_refl _ | (simp <;> omega)) _ | refine Below.setCell ?_ (by first | exact Nat.le_refl _ | (simp <;> omega)) _)) _) hS2.2
    replace hC := hS2.1
    have sz2 := hg2.size
    replace HG := grown_tr HG hg2
    replace hO := hO.kept hS2.2 (fun k hk e => by have := hOw.out k hk; have := Option.some.inj e; omega)
    have hr3 : r < xs.length := by
      by_cases h1 : (xs.length : Int) ≤ 1
      · have := hr1 h1; omega
      · exact hr2 (by omega)
    clear hr1 hr2
    obtain ⟨j, rfl⟩ : ∃ j : Nat, r = j := ⟨r.toNat, by omega⟩
    go_wp2
    refine Nrm_keep hO (hK2 _ _ ?_)
    refine wpMx_last ?_
    obtain ⟨b9, o9, x, e9, hb9, hx, _⟩ := (hO.rds (hf := ntc_len)).at_ (Below.refl _ _) (k := j) (by omega)
    cases e9
    have f0 := fun K : Hld (fun V => OwnV w.heap.size 42 4 Ntc.cells V (.slice (some ⟨bx, ox, none⟩) xs.length yc) xs) => own_cell K.holds ntc_len hx (i := 0) (u := .int .i64 x.id) rfl
    simp only [Nat.add_zero] at f0
    have hj : j < xs.length := by omega
    change wpQuiet _ _ _ _ (_ :: _ :: _ :: []) _
    repeat (go_big_quiet_step (fail))
    refine wpQuiet_nil ?_
    change wpQuiet _ _ _ _ (_ :: _ :: []) _
    repeat (go_big_quiet_step (fail))
    refine wpQuiet_nil ?_
    go_wp2
    go_ret2
    exact ⟨xs, _, yc, x.id, rfl, hl, hO, grown_below HG (Nat.le_refl _) (fun k hk => by cases hk; omega)⟩
end Go.Proofs.YtbnncgahepcfnaaGreatDoor
/- What the inputs of the laws read as: the reader of each struct, over this program. -/
namespace Go.Proofs.YtbnncgahepcfnaaGreatDoor
open Go.ChangeShapes Go.WideShapes Go.ChangeAt Go.RowKit Go.Deep Go.G9
theorem prog_own : ownKnob Tryz.prog.godebug = none := by kernel_rfl
theorem prog_laid : laidOutB Tryz.prog = true := by kernel_rfl
theorem cells_int : Tryz.prog.cellsOf 3 = 1 := by kernel_rfl
theorem cells_string : Tryz.prog.cellsOf 9 = 1 := by kernel_rfl
theorem cells_bool : Tryz.prog.cellsOf 4 = 1 := by kernel_rfl
section
variable {H : Type} {enc : TypeId × Value → H} {w : World} {base : Nat} {sp : Nat → Bool} {hd : Bool} {fuel : Nat} {cs : List Value} {x : DataW H × List MemPlace}
theorem rd_Int (h : DataW.trod enc Tryz.prog w base sp hd fuel 3 cs = some x) : ∃ y : Int, cs = intC y := by
  obtain ⟨n, rfl, _, _⟩ := DataW.trod_int Tryz.underlying3 h
  exact ⟨n, rfl⟩
end
end Go.Proofs.YtbnncgahepcfnaaGreatDoor
/- Bytes that come in. -/
namespace Go.Proofs.YtbnncgahepcfnaaGreatDoor
open Go.RowKit Go.G9 Go.ChangeShapes Go.WideShapes Go.ChangeAt
variable {H : Type} {enc : TypeId × Value → H} {w : World} {base fuel : Nat} {sp : Nat → Bool} {hd : Bool} {cs : List Value} {x : DataW H × List MemPlace}
theorem cells_u8 : Tryz.prog.cellsOf 5 = 1 := by kernel_rfl
theorem rd_u8 (h : DataW.trod enc Tryz.prog w base sp hd fuel 5 cs = some x) : ∃ y : UInt8, cs = u8C y := by
  obtain ⟨n, rfl, h1, h2⟩ := DataW.trod_int Tryz.underlying5 h
  unfold Lit.wf at h2
  rw [Bool.and_eq_true, decide_eq_true_eq, decide_eq_true_eq] at h2
  have m1 : IntKind.u8.min = 0 := by decide
  have m2 : IntKind.u8.max = 255 := by decide
  have h3 : 0 ≤ n ∧ n ≤ 255 := by
    rw [m1, m2] at h2
    omega
  refine ⟨UInt8.ofNat n.toNat, ?_⟩
  show [Value.int .u8 n] = [Value.int .u8 ((UInt8.ofNat n.toNat).toNat : Int)]
  have e : ((UInt8.ofNat n.toNat).toNat : Int) = n := by
    rw [UInt8.toNat_ofNat']
    omega
  rw [e]
end Go.Proofs.YtbnncgahepcfnaaGreatDoor
