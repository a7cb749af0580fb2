/- Decided questions: how many would have to change sides. -/
import Derived.Test.YthgaddnbgnennaaDoorDec7
namespace Go.Proofs.YthgaddnbgnennaaDoor
open Go.RowKit Go.G9
def firstTo (p : Nat → Bool) : Nat → Option Nat
  | 0 => none
  | n + 1 => match firstTo p n with
    | some k => some k
    | none => if p n then some n else none
theorem firstTo_some {p : Nat → Bool} {k : Nat} (h0 : firstTo p k = none) (hp : p k = true) : ∀ m, k < m → firstTo p m = some k
  | 0, h => by omega
  | m + 1, h => by
    by_cases hk : k = m
    · subst hk; simp [firstTo, h0, hp]
    · have := firstTo_some h0 hp m (by omega)
      simp [firstTo, this]
theorem firstTo_none {p : Nat → Bool} {k : Nat} (h0 : firstTo p k = none) (hp : p k = false) : firstTo p (k + 1) = none := by simp [firstTo, h0, hp]
def swA (d : Dec) (n : Nat) : Bool := if d.ado then adoB d.need (d.yes.length - n) (d.no.length + n) else adoB d.need (d.yes.length + n) (d.no.length - n)
def swP (d : Dec) (n : Nat) : Bool := swA d n != d.ado
theorem swP_zero (d : Dec) : swP d 0 = false := by
  cases h : d.ado <;> simp [swP, swA, h] <;> simpa [Dec.ado] using h
def swOut (d : Dec) : Value := if decB d then (match firstTo (swP d) (d.side.length + 1) with
  | some n => .tuple #[.int .i64 n, .bool true]
  | none => .tuple #[.int .i64 0, .bool false]) else .tuple #[.int .i64 0, .bool false]
theorem swOut_form (d : Dec) : ∃ (a : Int) (b : Bool), swOut d = .tuple #[.int .i64 a, .bool b] := by
  unfold swOut; split
  · split
    · exact ⟨_, _, rfl⟩
    · exact ⟨_, _, rfl⟩
  · exact ⟨_, _, rfl⟩
set_option maxHeartbeats 2000000 in
theorem iSwitches_is (d : Dec) (Y N : Option Addr) (yc nc : Nat) (hy : d.yes.length ≤ 1048576) (hn : d.no.length ≤ 1048576) (v : Value) (hv : swOut d = v) (w : World) (hRy : Rds 1 intC w Y d.yes) (hRn : Rds 1 intC w N d.no) :
  Calls Tryd.prog 17 #[.agg #[.int .i64 d.id, .int .i64 d.day, .int .i64 d.need, .slice Y d.yes.length yc, .slice N d.no.length nc, .bool d.done]] w fun e w' => e = .returned v ∧ Below w.heap.size w w' := by
  subst hv
  cases hd : decB d
  · go_enter Tryd.func17, Tryd.ntmps17
    go_wp2_with fail
    refine (isValidDecided_is d Y N yc nc hy hn _ hd _ (hRy.below (bl1 _ _)) (hRn.below (bl1 _ _))).mono ?_
    rintro e w1 ⟨rfl, hb1⟩
    go_wp2
    go_ret2
    exact ⟨by simp [swOut, hd], bth (bl1 _ _) hb1⟩
  cases ha : d.ado
  · have hl := decB_len hd
    have hsl : d.side.length ≤ 30 := by unfold Dec.side; split <;> omega
    go_enter Tryd.func17, Tryd.ntmps17
    go_wp2_with fail
    refine (isValidDecided_is d Y N yc nc hy hn _ hd _ (hRy.below (bl1 _ _)) (hRn.below (bl1 _ _))).mono ?_
    rintro e w1 ⟨rfl, hb1⟩
    have hA := Blk.below (Blk.new w 35 #[.int .i64 d.id, .int .i64 d.day, .int .i64 d.need, .slice Y d.yes.length yc, .slice N d.no.length nc, .bool d.done]) hb1 (by simp)
    have hb1' := bth (bl1 _ _) hb1
    have a0 := hA.cell 0
    have a1 := hA.cell 1
    have a2 := hA.cell 2
    have a3 := hA.cell 3
    have a4 := hA.cell 4
    have a5 := hA.cell 5
    simp at a0 a1 a2 a3 a4 a5
    go_wp2_with fail
    refine (wasAdopted_is d Y N yc nc hd _ ha _).mono ?_
    rintro e w2 ⟨rfl, hb2⟩
    have hA2 := hA.below hb2 hA.lt
    have hb2' := bth hb1' hb2
    clear a0 a1 a2 a3 a4 a5
    go_wp2
    go_loopw [5, 6, 7] (fun i _ _ wr => ∃ k : Nat, k ≤ d.side.length + 1 ∧ i = .int .i64 k ∧ firstTo (swP d) k = none ∧ Below w2.heap.size w2 wr) (fun i _ _ _ => 100 - (intOf i).toNat)
    case atStart => exact ⟨0, Nat.zero_le _, rfl, rfl, Below.refl _ _⟩
    case round =>
      obtain ⟨k, hk, rfl, hf, hb⟩ := hrel
      have HF := Lib.hid hf; clear hf
      have hAr := hA2.below hb hA2.lt
      have a0 := hAr.cell 0
      have a1 := hAr.cell 1
      have a2 := hAr.cell 2
      have a3 := hAr.cell 3
      have a4 := hAr.cell 4
      have a5 := hAr.cell 5
      simp at a0 a1 a2 a3 a4 a5
      go_wp2_with fail
      refine (prevailingSide_is d Y N yc nc hd (.slice N d.no.length nc) (by simp [ha]) _).mono ?_
      rintro e w3 ⟨rfl, hb3⟩
      have hA3 := hAr.below hb3 hAr.lt
      clear a0 a1 a2 a3 a4 a5
      have hse : d.side = d.no := by simp [Dec.side, ha]
      rw [hse] at hk hsl
      have a0 := hA3.cell 0
      have a1 := hA3.cell 1
      have a2 := hA3.cell 2
      have a3 := hA3.cell 3
      have a4 := hA3.cell 4
      have a5 := hA3.cell 5
      simp at a0 a1 a2 a3 a4 a5
      by_cases hlt : k ≤ d.no.length
      · have c3 := fun K : Kin w3.heap.size w3 => (hA3.below K.below hA3.lt).cell 3
        have c4 := fun K : Kin w3.heap.size w3 => (hA3.below K.below hA3.lt).cell 4
        simp at c3 c4
        go_wp2
        refine wp_region_kin (by kernel_rfl) (by kernel_rfl) ?_
        repeat (go_big_quiet_step ((fail)))
        refine wpQuiet_nil ?_
        intro K
        have hAK := hA3.below K.below hA3.lt
        clear a0 a1 a2 a3 a4 a5 c3 c4
        have a0 := hAK.cell 0
        have a1 := hAK.cell 1
        have a2 := hAK.cell 2
        have a3 := hAK.cell 3
        have a4 := hAK.cell 4
        have a5 := hAK.cell 5
        simp at a0 a1 a2 a3 a4 a5
        cases hq : swA d k
        all_goals
          have hq' := hq
          simp only [swA, ha] at hq'
          simp at hq'
          have HQ := Lib.hid hq
          clear hq
          go_wp2_with fail
          refine (isAdopted_is d.need _ _ (by omega) (by omega) (by omega) (by omega) _ hq' _).mono ?_
          rintro e w5 ⟨rfl, rfl⟩
          first
          | (have hp : swP d k = true := by simp [swP, HQ.out, ha]
             have HP := Lib.hid hp; clear hp
             go_wp2
             go_ret2
             exact ⟨by simp [swOut, hd, firstTo_some HF.out HP.out (d.side.length + 1) (by rw [hse]; omega)], bth hb2' (bth hb (bth hb3 K.below))⟩)
          | (have hp : swP d k = false := by simp [swP, HQ.out, ha]
             have HP := Lib.hid hp; clear hp
             go_wp2
             go_roundw
             case rel => exact ⟨k + 1, by rw [hse]; omega, by go_num, firstTo_none HF.out HP.out, bth hb (bth hb3 K.below)⟩
             case measure => simp [intOf]; omega)
      · obtain rfl : k = d.no.length + 1 := by omega
        go_wp2
        go_ret2
        have hf := HF.out
        exact ⟨by simp [swOut, hd, hse, hf], bth hb2' (bth hb hb3)⟩
  · have hl := decB_len hd
    have hsl : d.side.length ≤ 30 := by unfold Dec.side; split <;> omega
    go_enter Tryd.func17, Tryd.ntmps17
    go_wp2_with fail
    refine (isValidDecided_is d Y N yc nc hy hn _ hd _ (hRy.below (bl1 _ _)) (hRn.below (bl1 _ _))).mono ?_
    rintro e w1 ⟨rfl, hb1⟩
    have hA := Blk.below (Blk.new w 35 #[.int .i64 d.id, .int .i64 d.day, .int .i64 d.need, .slice Y d.yes.length yc, .slice N d.no.length nc, .bool d.done]) hb1 (by simp)
    have hb1' := bth (bl1 _ _) hb1
    have a0 := hA.cell 0
    have a1 := hA.cell 1
    have a2 := hA.cell 2
    have a3 := hA.cell 3
    have a4 := hA.cell 4
    have a5 := hA.cell 5
    simp at a0 a1 a2 a3 a4 a5
    go_wp2_with fail
    refine (wasAdopted_is d Y N yc nc hd _ ha _).mono ?_
    rintro e w2 ⟨rfl, hb2⟩
    have hA2 := hA.below hb2 hA.lt
    have hb2' := bth hb1' hb2
    clear a0 a1 a2 a3 a4 a5
    go_wp2
    go_loopw [5, 6, 7] (fun i _ _ wr => ∃ k : Nat, k ≤ d.side.length + 1 ∧ i = .int .i64 k ∧ firstTo (swP d) k = none ∧ Below w2.heap.size w2 wr) (fun i _ _ _ => 100 - (intOf i).toNat)
    case atStart => exact ⟨0, Nat.zero_le _, rfl, rfl, Below.refl _ _⟩
    case round =>
      obtain ⟨k, hk, rfl, hf, hb⟩ := hrel
      have HF := Lib.hid hf; clear hf
      have hAr := hA2.below hb hA2.lt
      have a0 := hAr.cell 0
      have a1 := hAr.cell 1
      have a2 := hAr.cell 2
      have a3 := hAr.cell 3
      have a4 := hAr.cell 4
      have a5 := hAr.cell 5
      simp at a0 a1 a2 a3 a4 a5
      go_wp2_with fail
      refine (prevailingSide_is d Y N yc nc hd (.slice Y d.yes.length yc) (by simp [ha]) _).mono ?_
      rintro e w3 ⟨rfl, hb3⟩
      have hA3 := hAr.below hb3 hAr.lt
      clear a0 a1 a2 a3 a4 a5
      have hse : d.side = d.yes := by simp [Dec.side, ha]
      rw [hse] at hk hsl
      have a0 := hA3.cell 0
      have a1 := hA3.cell 1
      have a2 := hA3.cell 2
      have a3 := hA3.cell 3
      have a4 := hA3.cell 4
      have a5 := hA3.cell 5
      simp at a0 a1 a2 a3 a4 a5
      by_cases hlt : k ≤ d.yes.length
      · have c3 := fun K : Kin w3.heap.size w3 => (hA3.below K.below hA3.lt).cell 3
        have c4 := fun K : Kin w3.heap.size w3 => (hA3.below K.below hA3.lt).cell 4
        simp at c3 c4
        go_wp2
        refine wp_region_kin (by kernel_rfl) (by kernel_rfl) ?_
        repeat (go_big_quiet_step ((fail)))
        refine wpQuiet_nil ?_
        intro K
        have hAK := hA3.below K.below hA3.lt
        clear a0 a1 a2 a3 a4 a5 c3 c4
        have a0 := hAK.cell 0
        have a1 := hAK.cell 1
        have a2 := hAK.cell 2
        have a3 := hAK.cell 3
        have a4 := hAK.cell 4
        have a5 := hAK.cell 5
        simp at a0 a1 a2 a3 a4 a5
        have c3 := fun K2 : Kin K.world.heap.size K.world => (hAK.below K2.below hAK.lt).cell 3
        have c4 := fun K2 : Kin K.world.heap.size K.world => (hAK.below K2.below hAK.lt).cell 4
        simp at c3 c4
        go_wp2
        refine wp_region_kin (by kernel_rfl) (by kernel_rfl) ?_
        repeat (go_big_quiet_step ((fail)))
        refine wpQuiet_nil ?_
        intro K2
        clear c3 c4
        have hAK2 := hAK.below K2.below hAK.lt
        clear a0 a1 a2 a3 a4 a5
        have a0 := hAK2.cell 0
        have a1 := hAK2.cell 1
        have a2 := hAK2.cell 2
        have a3 := hAK2.cell 3
        have a4 := hAK2.cell 4
        have a5 := hAK2.cell 5
        simp at a0 a1 a2 a3 a4 a5
        cases hq : swA d k
        all_goals
          have hq' := hq
          simp only [swA, ha] at hq'
          simp at hq'
          have HQ := Lib.hid hq
          clear hq
          go_wp2_with fail
          refine (isAdopted_is d.need _ _ (by omega) (by omega) (by omega) (by omega) _ hq' _).mono ?_
          rintro e w5 ⟨rfl, rfl⟩
          first
          | (have hp : swP d k = true := by simp [swP, HQ.out, ha]
             have HP := Lib.hid hp; clear hp
             go_wp2
             go_ret2
             exact ⟨by simp [swOut, hd, firstTo_some HF.out HP.out (d.side.length + 1) (by rw [hse]; omega)], bth hb2' (bth hb (bth hb3 (bth K.below K2.below)))⟩)
          | (have hp : swP d k = false := by simp [swP, HQ.out, ha]
             have HP := Lib.hid hp; clear hp
             go_wp2
             go_roundw
             case rel => exact ⟨k + 1, by rw [hse]; omega, by go_num, firstTo_none HF.out HP.out, bth hb (bth hb3 (bth K.below K2.below))⟩
             case measure => simp [intOf]; omega)
      · obtain rfl : k = d.yes.length + 1 := by omega
        go_wp2
        go_ret2
        have hf := HF.out
        exact ⟨by simp [swOut, hd, hse, hf], bth hb2' (bth hb hb3)⟩
set_option maxHeartbeats 2000000 in
theorem sSwitches_is (d : Dec) (Y N : Option Addr) (yc nc : Nat) (hy : d.yes.length ≤ 1048576) (hn : d.no.length ≤ 1048576) (hY : Y = none → d.yes = [] ∧ yc = 0) (hN : N = none → d.no = [] ∧ nc = 0) (v : Value) (hv : swOut d = v) (w : World) (hRy : Rds 1 intC w Y d.yes) (hRn : Rds 1 intC w N d.no) :
  Calls Tryd.prog 18 #[.agg #[.int .i64 d.id, .int .i64 d.day, .int .i64 d.need, .slice Y d.yes.length yc, .slice N d.no.length nc, .bool d.done]] w fun e w' => e = .returned v ∧ Below w.heap.size w w' := by
  subst hv
  cases hd : decB d
  · go_enter Tryd.func18, Tryd.ntmps18
    go_wp2_with fail
    refine (l18Good_is d Y N yc nc hy hn _ hd _ (hRy.below (bl1 _ _)) (hRn.below (bl1 _ _))).mono ?_
    rintro e w1 ⟨rfl, hb1⟩
    go_wp2
    go_ret2
    exact ⟨by simp [swOut, hd], bth (bl1 _ _) hb1⟩
  cases ha : d.ado
  · have hl := decB_len hd
    have hsl : d.side.length ≤ 30 := by unfold Dec.side; split <;> omega
    go_enter Tryd.func18, Tryd.ntmps18
    go_wp2_with fail
    refine (l18Good_is d Y N yc nc hy hn _ hd _ (hRy.below (bl1 _ _)) (hRn.below (bl1 _ _))).mono ?_
    rintro e w1 ⟨rfl, hb1⟩
    have hA := Blk.below (Blk.new w 35 #[.int .i64 d.id, .int .i64 d.day, .int .i64 d.need, .slice Y d.yes.length yc, .slice N d.no.length nc, .bool d.done]) hb1 (by simp)
    have hb1' := bth (bl1 _ _) hb1
    have a0 := fun K : Kin w1.heap.size w1 => (hA.below K.below hA.lt).cell 0
    have a1 := fun K : Kin w1.heap.size w1 => (hA.below K.below hA.lt).cell 1
    have a2 := fun K : Kin w1.heap.size w1 => (hA.below K.below hA.lt).cell 2
    have a3 := fun K : Kin w1.heap.size w1 => (hA.below K.below hA.lt).cell 3
    have a4 := fun K : Kin w1.heap.size w1 => (hA.below K.below hA.lt).cell 4
    have a5 := fun K : Kin w1.heap.size w1 => (hA.below K.below hA.lt).cell 5
    simp at a0 a1 a2 a3 a4 a5
    go_wp2
    refine wp_region_kin (by kernel_rfl) (by kernel_rfl) ?_
    repeat (go_big_quiet_step ((first | (go_at_call 36; exact Kin.call _ (by first | exact Nat.le_refl _ | omega) (l18Adopted_is d Y N yc nc hd _ ha _)))))
    refine wpQuiet_nil ?_
    intro K
    clear a0 a1 a2 a3 a4 a5
    have hA2 := hA.below K.below hA.lt
    have hb2' := bth hb1' K.below
    go_wp2
    go_loopw [7, 8, 9] (fun i _ _ wr => ∃ k : Nat, k ≤ d.side.length ∧ i = .int .i64 ((k : Int) + 1) ∧ firstTo (swP d) (k + 1) = none ∧ Below K.world.heap.size K.world wr) (fun i _ _ _ => 100 - (intOf i).toNat)
    case atStart => exact ⟨0, Nat.zero_le _, rfl, firstTo_none rfl (swP_zero d), Below.refl _ _⟩
    case round =>
      obtain ⟨k, hk, rfl, hf, hb⟩ := hrel
      have HF := Lib.hid hf; clear hf
      have hAr := hA2.below hb hA2.lt
      have hbr := bth hb2' hb
      have a0 := hAr.cell 0
      have a1 := hAr.cell 1
      have a2 := hAr.cell 2
      have a3 := hAr.cell 3
      have a4 := hAr.cell 4
      have a5 := hAr.cell 5
      simp at a0 a1 a2 a3 a4 a5
      go_wp2_with fail
      refine (l18Side_is d Y N yc nc hd hY hN _ (hRy.below hbr) (hRn.below hbr)).mono ?_
      rintro e w3 ⟨S, sc, rfl, _, hb3⟩
      have hA3 := hAr.below hb3 hAr.lt
      clear a0 a1 a2 a3 a4 a5
      have hse : d.side = d.no := by simp [Dec.side, ha]
      rw [hse] at hk hsl ⊢
      have a0 := hA3.cell 0
      have a1 := hA3.cell 1
      have a2 := hA3.cell 2
      have a3 := hA3.cell 3
      have a4 := hA3.cell 4
      have a5 := hA3.cell 5
      simp at a0 a1 a2 a3 a4 a5
      by_cases hlt : k + 1 ≤ d.no.length
      · cases hq : swA d (k + 1)
        all_goals
          have hq' := hq
          simp only [swA, ha] at hq'
          simp at hq'
          have HQ := Lib.hid hq
          clear hq
          go_wp2_with fail
          refine (l11Enough_is d.need _ _ (by omega) (by omega) (by omega) (by omega) _ hq' _).mono ?_
          rintro e w5 ⟨rfl, rfl⟩
          first
          | (have hp : swP d (k + 1) = true := by simp [swP, HQ.out, ha]
             have HP := Lib.hid hp; clear hp
             go_wp2
             go_ret2
             exact ⟨by simp [swOut, hd, firstTo_some HF.out HP.out (d.side.length + 1) (by rw [hse]; omega)], bth hbr hb3⟩)
          | (have hp : swP d (k + 1) = false := by simp [swP, HQ.out, ha]
             have HP := Lib.hid hp; clear hp
             go_wp2
             go_roundw
             case rel => exact ⟨k + 1, by rw [hse]; omega, by go_num, firstTo_none HF.out HP.out, bth hb hb3⟩
             case measure => simp [intOf]; omega)
      · obtain rfl : k = d.no.length := by omega
        go_wp2
        go_ret2
        have hf := HF.out
        exact ⟨by simp [swOut, hd, hse, hf], bth hbr hb3⟩
  · have hl := decB_len hd
    have hsl : d.side.length ≤ 30 := by unfold Dec.side; split <;> omega
    go_enter Tryd.func18, Tryd.ntmps18
    go_wp2_with fail
    refine (l18Good_is d Y N yc nc hy hn _ hd _ (hRy.below (bl1 _ _)) (hRn.below (bl1 _ _))).mono ?_
    rintro e w1 ⟨rfl, hb1⟩
    have hA := Blk.below (Blk.new w 35 #[.int .i64 d.id, .int .i64 d.day, .int .i64 d.need, .slice Y d.yes.length yc, .slice N d.no.length nc, .bool d.done]) hb1 (by simp)
    have hb1' := bth (bl1 _ _) hb1
    have a0 := fun K : Kin w1.heap.size w1 => (hA.below K.below hA.lt).cell 0
    have a1 := fun K : Kin w1.heap.size w1 => (hA.below K.below hA.lt).cell 1
    have a2 := fun K : Kin w1.heap.size w1 => (hA.below K.below hA.lt).cell 2
    have a3 := fun K : Kin w1.heap.size w1 => (hA.below K.below hA.lt).cell 3
    have a4 := fun K : Kin w1.heap.size w1 => (hA.below K.below hA.lt).cell 4
    have a5 := fun K : Kin w1.heap.size w1 => (hA.below K.below hA.lt).cell 5
    simp at a0 a1 a2 a3 a4 a5
    go_wp2
    refine wp_region_kin (by kernel_rfl) (by kernel_rfl) ?_
    repeat (go_big_quiet_step ((first | (go_at_call 36; exact Kin.call _ (by first | exact Nat.le_refl _ | omega) (l18Adopted_is d Y N yc nc hd _ ha _)))))
    refine wpQuiet_nil ?_
    intro K
    clear a0 a1 a2 a3 a4 a5
    have hA2 := hA.below K.below hA.lt
    have hb2' := bth hb1' K.below
    go_wp2
    go_loopw [7, 8, 9] (fun i _ _ wr => ∃ k : Nat, k ≤ d.side.length ∧ i = .int .i64 ((k : Int) + 1) ∧ firstTo (swP d) (k + 1) = none ∧ Below K.world.heap.size K.world wr) (fun i _ _ _ => 100 - (intOf i).toNat)
    case atStart => exact ⟨0, Nat.zero_le _, rfl, firstTo_none rfl (swP_zero d), Below.refl _ _⟩
    case round =>
      obtain ⟨k, hk, rfl, hf, hb⟩ := hrel
      have HF := Lib.hid hf; clear hf
      have hAr := hA2.below hb hA2.lt
      have hbr := bth hb2' hb
      have a0 := hAr.cell 0
      have a1 := hAr.cell 1
      have a2 := hAr.cell 2
      have a3 := hAr.cell 3
      have a4 := hAr.cell 4
      have a5 := hAr.cell 5
      simp at a0 a1 a2 a3 a4 a5
      go_wp2_with fail
      refine (l18Side_is d Y N yc nc hd hY hN _ (hRy.below hbr) (hRn.below hbr)).mono ?_
      rintro e w3 ⟨S, sc, rfl, _, hb3⟩
      have hA3 := hAr.below hb3 hAr.lt
      clear a0 a1 a2 a3 a4 a5
      have hse : d.side = d.yes := by simp [Dec.side, ha]
      rw [hse] at hk hsl ⊢
      have a0 := hA3.cell 0
      have a1 := hA3.cell 1
      have a2 := hA3.cell 2
      have a3 := hA3.cell 3
      have a4 := hA3.cell 4
      have a5 := hA3.cell 5
      simp at a0 a1 a2 a3 a4 a5
      by_cases hlt : k + 1 ≤ d.yes.length
      · cases hq : swA d (k + 1)
        all_goals
          have hq' := hq
          simp only [swA, ha] at hq'
          simp at hq'
          have HQ := Lib.hid hq
          clear hq
          go_wp2_with fail
          refine (l11Enough_is d.need _ _ (by omega) (by omega) (by omega) (by omega) _ hq' _).mono ?_
          rintro e w5 ⟨rfl, rfl⟩
          first
          | (have hp : swP d (k + 1) = true := by simp [swP, HQ.out, ha]
             have HP := Lib.hid hp; clear hp
             go_wp2
             go_ret2
             exact ⟨by simp [swOut, hd, firstTo_some HF.out HP.out (d.side.length + 1) (by rw [hse]; omega)], bth hbr hb3⟩)
          | (have hp : swP d (k + 1) = false := by simp [swP, HQ.out, ha]
             have HP := Lib.hid hp; clear hp
             go_wp2
             go_roundw
             case rel => exact ⟨k + 1, by rw [hse]; omega, by go_num, firstTo_none HF.out HP.out, bth hb hb3⟩
             case measure => simp [intOf]; omega)
      · obtain rfl : k = d.yes.length := by omega
        go_wp2
        go_ret2
        have hf := HF.out
        exact ⟨by simp [swOut, hd, hse, hf], bth hbr hb3⟩
end Go.Proofs.YthgaddnbgnennaaDoor
