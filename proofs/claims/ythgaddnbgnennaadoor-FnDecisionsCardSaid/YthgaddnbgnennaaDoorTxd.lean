/- The text of a decided question. -/
import Derived.Test.YthgaddnbgnennaaDoorItoa
import Derived.Test.YthgaddnbgnennaaDoorDec3
namespace Go.Proofs.YthgaddnbgnennaaDoor
open Go.RowKit Go.G9
def Dec.head (d : Dec) : ByteArray := (⟨#[113, 117, 101, 115, 116, 105, 111, 110, 32]⟩ : ByteArray) ++ numS d.id ++ (⟨#[32, 119, 97, 115, 32]⟩ : ByteArray) ++ (if d.ado then (⟨#[97, 100, 111, 112, 116, 101, 100]⟩ : ByteArray) else (⟨#[114, 101, 106, 101, 99, 116, 101, 100]⟩ : ByteArray)) ++ (⟨#[32, 111, 110, 32, 100, 97, 121, 32]⟩ : ByteArray) ++ numS d.day ++ (⟨#[32, 98, 121, 32]⟩ : ByteArray) ++ numS d.yes.length ++ (⟨#[32, 116, 111, 32]⟩ : ByteArray) ++ numS d.no.length
def Dec.txt (d : Dec) : ByteArray := if d.done then d.head ++ (⟨#[44, 32, 114, 101, 99, 111, 110, 115, 105, 100, 101, 114, 101, 100]⟩ : ByteArray) else d.head
def dtOut (d : Dec) : Value := if decB d then .tuple #[.string d.txt, .bool true] else .tuple #[.string ⟨#[]⟩, .bool false]
theorem dtOut_form (d : Dec) : ∃ s b, dtOut d = .tuple #[.string s, .bool b] := by unfold dtOut; split <;> exact ⟨_, _, rfl⟩
theorem decB_nums {d : Dec} (h : decB d = true) : 1 ≤ d.id ∧ d.id ≤ 99 ∧ 0 ≤ d.day ∧ d.day ≤ 3650 := by
  simp [decB, inB] at h
  omega
set_option maxHeartbeats 4000000 in
set_option maxRecDepth 100000 in
theorem iDecidedText_is (d : Dec) (Y N : Option Addr) (yc nc : Nat) (hy : d.yes.length ≤ 1048576) (hn : d.no.length ≤ 1048576) (v : Value) (hv : dtOut d = v) (w : World) (hRy : Rds 1 intC w Y d.yes) (hRn : Rds 1 intC w N d.no) (hT : Tab w) :
  Calls Tryd.prog 13 #[.agg #[.int .i64 d.id, .int .i64 d.day, .int .i64 d.need, .slice Y d.yes.length yc, .slice N d.no.length nc, .bool d.done]] w fun e w' => e = .returned v ∧ Below w.heap.size w w' := by
  subst hv
  cases hd : decB d
  · go_enter Tryd.func13, Tryd.ntmps13
    go_wp2_with fail
    refine (isValidDecided_is d Y N yc nc hy hn _ hd _ (hRy.below (by repeat (first | exact Below.refl _ _ | refine Below.alloc ?_ (by first | exact Nat.le_refl _ | (simp <;> omega)) _ | refine Below.setCell ?_ (by first | exact Nat.le_refl _ | (simp <;> omega)) _))) (hRn.below (by repeat (first | exact Below.refl _ _ | refine Below.alloc ?_ (by first | exact Nat.le_refl _ | (simp <;> omega)) _ | refine Below.setCell ?_ (by first | exact Nat.le_refl _ | (simp <;> omega)) _)))).mono ?_
    rintro e w1 ⟨rfl, hb1⟩
    have hq1 : Below w.heap.size w w1 := bth (by repeat (first | exact Below.refl _ _ | refine Below.alloc ?_ (by first | exact Nat.le_refl _ | (simp <;> omega)) _ | refine Below.setCell ?_ (by first | exact Nat.le_refl _ | (simp <;> omega)) _)) hb1
    have HB : Below w.heap.size w w1 := hq1
    go_wp2
    go_ret2
    exact ⟨by simp [dtOut, hd], (bth HB (by repeat (first | exact Below.refl _ _ | refine Below.alloc ?_ (by first | exact Nat.le_refl _ | (simp <;> omega)) _ | refine Below.setCell ?_ (by first | exact Nat.le_refl _ | (simp <;> omega)) _)))⟩
  have hl := decB_len hd
  obtain ⟨g1, g2, g3, g4⟩ := decB_nums hd
  have n1 := numS_size d.id (by omega)
  have n2 := numS_size d.day (by omega)
  have n3 := numS_size d.yes.length (by omega)
  have n4 := numS_size d.no.length (by omega)
  have hout : dtOut d = .tuple #[.string d.txt, .bool true] := by simp [dtOut, hd]
  rw [hout]; clear hout
  have hdd : d.done = true ∨ d.done = false := by cases d.done <;> simp
  cases ha : d.ado <;> rcases hdd with hdn | hdn
  all_goals
    have HA := Lib.hid ha; have HDN := Lib.hid hdn; clear hdn
    go_enter Tryd.func13, Tryd.ntmps13
    go_wp2_with fail
    refine (isValidDecided_is d Y N yc nc hy hn _ hd _ (hRy.below (by repeat (first | exact Below.refl _ _ | refine Below.alloc ?_ (by first | exact Nat.le_refl _ | (simp <;> omega)) _ | refine Below.setCell ?_ (by first | exact Nat.le_refl _ | (simp <;> omega)) _))) (hRn.below (by repeat (first | exact Below.refl _ _ | refine Below.alloc ?_ (by first | exact Nat.le_refl _ | (simp <;> omega)) _ | refine Below.setCell ?_ (by first | exact Nat.le_refl _ | (simp <;> omega)) _)))).mono ?_
    rintro e w1 ⟨rfl, hb1⟩
    have hq1 : Below w.heap.size w w1 := bth (by repeat (first | exact Below.refl _ _ | refine Below.alloc ?_ (by first | exact Nat.le_refl _ | (simp <;> omega)) _ | refine Below.setCell ?_ (by first | exact Nat.le_refl _ | (simp <;> omega)) _)) hb1
    have HB : Below w.heap.size w w1 := hq1
    have hA : Blk w1 (w.heap.size) 35 #[.int .i64 d.id, .int .i64 d.day, .int .i64 d.need, .slice Y d.yes.length yc, .slice N d.no.length nc, .bool d.done] := Blk.below (by repeat (first | exact Blk.new _ _ _ | exact Blk.new2 _ _ _ _ | exact Blk.new3 _ _ _ _ _ | exact Blk.new4 _ _ _ _ _ _ | refine Blk.alloc ?_ _)) hb1 (by simp <;> omega)
    have a0 := (hA.cell 0).trans (show _ = some (.int .i64 d.id) from rfl)
    have a1 := (hA.cell 1).trans (show _ = some (.int .i64 d.day) from rfl)
    have a2 := (hA.cell 2).trans (show _ = some (.int .i64 d.need) from rfl)
    have a3 := (hA.cell 3).trans (show _ = some (.slice Y d.yes.length yc) from rfl)
    have a4 := (hA.cell 4).trans (show _ = some (.slice N d.no.length nc) from rfl)
    have a5 := (hA.cell 5).trans (show _ = some (.bool d.done) from rfl)
    go_wp2_with fail
    refine (wasAdopted_is d Y N yc nc hd _ ha _).mono ?_
    rintro e w2 ⟨rfl, hb2⟩
    have hq2 : Below w1.heap.size w1 w2 := bth (by repeat (first | exact Below.refl _ _ | refine Below.alloc ?_ (by first | exact Nat.le_refl _ | (simp <;> omega)) _ | refine Below.setCell ?_ (by first | exact Nat.le_refl _ | (simp <;> omega)) _)) hb2
    replace HB := bth HB hq2
    replace hA := hA.below hq2 hA.lt
    replace a0 := (hA.cell 0).trans (show _ = some (.int .i64 d.id) from rfl)
    replace a1 := (hA.cell 1).trans (show _ = some (.int .i64 d.day) from rfl)
    replace a2 := (hA.cell 2).trans (show _ = some (.int .i64 d.need) from rfl)
    replace a3 := (hA.cell 3).trans (show _ = some (.slice Y d.yes.length yc) from rfl)
    replace a4 := (hA.cell 4).trans (show _ = some (.slice N d.no.length nc) from rfl)
    replace a5 := (hA.cell 5).trans (show _ = some (.bool d.done) from rfl)
    clear ha
    have HT := Lib.hid (hT.below HB)
    clear a0 a1 a2 a3 a4 a5
    have a0 := fun K : Kin w2.heap.size w2 => ((hA.below K.below hA.lt).cell 0).trans (show _ = some (.int .i64 d.id) from rfl)
    have a1 := fun K : Kin w2.heap.size w2 => ((hA.below K.below hA.lt).cell 1).trans (show _ = some (.int .i64 d.day) from rfl)
    have a2 := fun K : Kin w2.heap.size w2 => ((hA.below K.below hA.lt).cell 2).trans (show _ = some (.int .i64 d.need) from rfl)
    have a3 := fun K : Kin w2.heap.size w2 => ((hA.below K.below hA.lt).cell 3).trans (show _ = some (.slice Y d.yes.length yc) from rfl)
    have a4 := fun K : Kin w2.heap.size w2 => ((hA.below K.below hA.lt).cell 4).trans (show _ = some (.slice N d.no.length nc) from rfl)
    have a5 := fun K : Kin w2.heap.size w2 => ((hA.below K.below hA.lt).cell 5).trans (show _ = some (.bool d.done) from rfl)
    go_wp2
    refine wp_region_kin (by kernel_rfl) (by kernel_rfl) ?_
    repeat (go_big_quiet_step ((first | (go_at_call 40; exact Kin.call _ (by first | exact Nat.le_refl _ | omega) (itoa_is _ (by omega) (by omega) _ (HT.out.below (Kin.below _)))))))
    refine wpQuiet_nil ?_
    intro K
    clear a0 a1 a2 a3 a4 a5
    have hq3 : Below w2.heap.size w2 K.world := bth (by repeat (first | exact Below.refl _ _ | refine Below.alloc ?_ (by first | exact Nat.le_refl _ | (simp <;> omega)) _ | refine Below.setCell ?_ (by first | exact Nat.le_refl _ | (simp <;> omega)) _)) K.below
    replace HB := bth HB hq3
    replace hA := hA.below hq3 hA.lt
    have a0 := (hA.cell 0).trans (show _ = some (.int .i64 d.id) from rfl)
    have a1 := (hA.cell 1).trans (show _ = some (.int .i64 d.day) from rfl)
    have a2 := (hA.cell 2).trans (show _ = some (.int .i64 d.need) from rfl)
    have a3 := (hA.cell 3).trans (show _ = some (.slice Y d.yes.length yc) from rfl)
    have a4 := (hA.cell 4).trans (show _ = some (.slice N d.no.length nc) from rfl)
    have a5 := (hA.cell 5).trans (show _ = some (.bool d.done) from rfl)
    have hdn := HDN.out
    rw [hdn] at a5
    clear hdn
    go_wp2
    go_ret2
    refine ⟨?_, (bth HB (by repeat (first | exact Below.refl _ _ | refine Below.alloc ?_ (by first | exact Nat.le_refl _ | (simp <;> omega)) _ | refine Below.setCell ?_ (by first | exact Nat.le_refl _ | (simp <;> omega)) _)))⟩
    unfold Dec.txt Dec.head
    rw [HA.out, HDN.out]
    rfl
set_option maxHeartbeats 4000000 in
set_option maxRecDepth 100000 in
theorem sDecidedText_is (d : Dec) (Y N : Option Addr) (yc nc : Nat) (hy : d.yes.length ≤ 1048576) (hn : d.no.length ≤ 1048576) (v : Value) (hv : dtOut d = v) (w : World) (hRy : Rds 1 intC w Y d.yes) (hRn : Rds 1 intC w N d.no) :
  Calls Tryd.prog 11 #[.agg #[.int .i64 d.id, .int .i64 d.day, .int .i64 d.need, .slice Y d.yes.length yc, .slice N d.no.length nc, .bool d.done]] w fun e w' => e = .returned v ∧ Below w.heap.size w w' := by
  subst hv
  cases hd : decB d
  · go_enter Tryd.func11, Tryd.ntmps11
    go_wp2_with fail
    refine (l18Good_is d Y N yc nc hy hn _ hd _ (hRy.below (by repeat (first | exact Below.refl _ _ | refine Below.alloc ?_ (by first | exact Nat.le_refl _ | (simp <;> omega)) _ | refine Below.setCell ?_ (by first | exact Nat.le_refl _ | (simp <;> omega)) _))) (hRn.below (by repeat (first | exact Below.refl _ _ | refine Below.alloc ?_ (by first | exact Nat.le_refl _ | (simp <;> omega)) _ | refine Below.setCell ?_ (by first | exact Nat.le_refl _ | (simp <;> omega)) _)))).mono ?_
    rintro e w1 ⟨rfl, hb1⟩
    have hq1 : Below w.heap.size w w1 := bth (by repeat (first | exact Below.refl _ _ | refine Below.alloc ?_ (by first | exact Nat.le_refl _ | (simp <;> omega)) _ | refine Below.setCell ?_ (by first | exact Nat.le_refl _ | (simp <;> omega)) _)) hb1
    have HB : Below w.heap.size w w1 := hq1
    go_wp2
    go_ret2
    exact ⟨by simp [dtOut, hd], (bth HB (by repeat (first | exact Below.refl _ _ | refine Below.alloc ?_ (by first | exact Nat.le_refl _ | (simp <;> omega)) _ | refine Below.setCell ?_ (by first | exact Nat.le_refl _ | (simp <;> omega)) _)))⟩
  have hl := decB_len hd
  obtain ⟨g1, g2, g3, g4⟩ := decB_nums hd
  have n1 := numS_size d.id (by omega)
  have n2 := numS_size d.day (by omega)
  have n3 := numS_size d.yes.length (by omega)
  have n4 := numS_size d.no.length (by omega)
  have hout : dtOut d = .tuple #[.string d.txt, .bool true] := by simp [dtOut, hd]
  rw [hout]; clear hout
  have hdd : d.done = true ∨ d.done = false := by cases d.done <;> simp
  cases ha : d.ado <;> rcases hdd with hdn | hdn
  all_goals
    have HA := Lib.hid ha; have HDN := Lib.hid hdn; clear hdn
    go_enter Tryd.func11, Tryd.ntmps11
    go_wp2_with fail
    refine (l18Good_is d Y N yc nc hy hn _ hd _ (hRy.below (by repeat (first | exact Below.refl _ _ | refine Below.alloc ?_ (by first | exact Nat.le_refl _ | (simp <;> omega)) _ | refine Below.setCell ?_ (by first | exact Nat.le_refl _ | (simp <;> omega)) _))) (hRn.below (by repeat (first | exact Below.refl _ _ | refine Below.alloc ?_ (by first | exact Nat.le_refl _ | (simp <;> omega)) _ | refine Below.setCell ?_ (by first | exact Nat.le_refl _ | (simp <;> omega)) _)))).mono ?_
    rintro e w1 ⟨rfl, hb1⟩
    have hq1 : Below w.heap.size w w1 := bth (by repeat (first | exact Below.refl _ _ | refine Below.alloc ?_ (by first | exact Nat.le_refl _ | (simp <;> omega)) _ | refine Below.setCell ?_ (by first | exact Nat.le_refl _ | (simp <;> omega)) _)) hb1
    have HB : Below w.heap.size w w1 := hq1
    have hA : Blk w1 (w.heap.size) 35 #[.int .i64 d.id, .int .i64 d.day, .int .i64 d.need, .slice Y d.yes.length yc, .slice N d.no.length nc, .bool d.done] := Blk.below (by repeat (first | exact Blk.new _ _ _ | exact Blk.new2 _ _ _ _ | exact Blk.new3 _ _ _ _ _ | exact Blk.new4 _ _ _ _ _ _ | refine Blk.alloc ?_ _)) hb1 (by simp <;> omega)
    have a0 := (hA.cell 0).trans (show _ = some (.int .i64 d.id) from rfl)
    have a1 := (hA.cell 1).trans (show _ = some (.int .i64 d.day) from rfl)
    have a2 := (hA.cell 2).trans (show _ = some (.int .i64 d.need) from rfl)
    have a3 := (hA.cell 3).trans (show _ = some (.slice Y d.yes.length yc) from rfl)
    have a4 := (hA.cell 4).trans (show _ = some (.slice N d.no.length nc) from rfl)
    have a5 := (hA.cell 5).trans (show _ = some (.bool d.done) from rfl)
    go_wp2_with fail
    refine (l18Adopted_is d Y N yc nc hd _ ha _).mono ?_
    rintro e w2 ⟨rfl, hb2⟩
    have hq2 : Below w1.heap.size w1 w2 := bth (by repeat (first | exact Below.refl _ _ | refine Below.alloc ?_ (by first | exact Nat.le_refl _ | (simp <;> omega)) _ | refine Below.setCell ?_ (by first | exact Nat.le_refl _ | (simp <;> omega)) _)) hb2
    replace HB := bth HB hq2
    replace hA := hA.below hq2 hA.lt
    replace a0 := (hA.cell 0).trans (show _ = some (.int .i64 d.id) from rfl)
    replace a1 := (hA.cell 1).trans (show _ = some (.int .i64 d.day) from rfl)
    replace a2 := (hA.cell 2).trans (show _ = some (.int .i64 d.need) from rfl)
    replace a3 := (hA.cell 3).trans (show _ = some (.slice Y d.yes.length yc) from rfl)
    replace a4 := (hA.cell 4).trans (show _ = some (.slice N d.no.length nc) from rfl)
    replace a5 := (hA.cell 5).trans (show _ = some (.bool d.done) from rfl)
    clear ha
    clear a0 a1 a2 a3 a4 a5
    have a0 := fun K : Kin w2.heap.size w2 => ((hA.below K.below hA.lt).cell 0).trans (show _ = some (.int .i64 d.id) from rfl)
    have a1 := fun K : Kin w2.heap.size w2 => ((hA.below K.below hA.lt).cell 1).trans (show _ = some (.int .i64 d.day) from rfl)
    have a2 := fun K : Kin w2.heap.size w2 => ((hA.below K.below hA.lt).cell 2).trans (show _ = some (.int .i64 d.need) from rfl)
    have a3 := fun K : Kin w2.heap.size w2 => ((hA.below K.below hA.lt).cell 3).trans (show _ = some (.slice Y d.yes.length yc) from rfl)
    have a4 := fun K : Kin w2.heap.size w2 => ((hA.below K.below hA.lt).cell 4).trans (show _ = some (.slice N d.no.length nc) from rfl)
    have a5 := fun K : Kin w2.heap.size w2 => ((hA.below K.below hA.lt).cell 5).trans (show _ = some (.bool d.done) from rfl)
    go_wp2
    refine wp_region_kin (by kernel_rfl) (by kernel_rfl) ?_
    repeat (go_big_quiet_step ((first | (go_at_call 37; exact Kin.call _ (by first | exact Nat.le_refl _ | omega) (l1Num_is _ (by omega) (by omega) _)))))
    refine wpQuiet_nil ?_
    intro K
    clear a0 a1 a2 a3 a4 a5
    have hq3 : Below w2.heap.size w2 K.world := bth (by repeat (first | exact Below.refl _ _ | refine Below.alloc ?_ (by first | exact Nat.le_refl _ | (simp <;> omega)) _ | refine Below.setCell ?_ (by first | exact Nat.le_refl _ | (simp <;> omega)) _)) K.below
    replace HB := bth HB hq3
    replace hA := hA.below hq3 hA.lt
    have a0 := (hA.cell 0).trans (show _ = some (.int .i64 d.id) from rfl)
    have a1 := (hA.cell 1).trans (show _ = some (.int .i64 d.day) from rfl)
    have a2 := (hA.cell 2).trans (show _ = some (.int .i64 d.need) from rfl)
    have a3 := (hA.cell 3).trans (show _ = some (.slice Y d.yes.length yc) from rfl)
    have a4 := (hA.cell 4).trans (show _ = some (.slice N d.no.length nc) from rfl)
    have a5 := (hA.cell 5).trans (show _ = some (.bool d.done) from rfl)
    have hdn := HDN.out
    rw [hdn] at a5
    clear hdn
    go_wp2
    go_ret2
    refine ⟨?_, (bth HB (by repeat (first | exact Below.refl _ _ | refine Below.alloc ?_ (by first | exact Nat.le_refl _ | (simp <;> omega)) _ | refine Below.setCell ?_ (by first | exact Nat.le_refl _ | (simp <;> omega)) _)))⟩
    unfold Dec.txt Dec.head
    rw [HA.out, HDN.out]
    rfl
end Go.Proofs.YthgaddnbgnennaaDoor
