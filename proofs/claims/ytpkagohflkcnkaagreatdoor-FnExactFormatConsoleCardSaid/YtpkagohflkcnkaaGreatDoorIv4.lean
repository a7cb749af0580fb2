/- Rules, questions, shares and outcomes: counted, copied, compared. -/
import Derived.Test.YtpkagohflkcnkaaGreatDoorIv3
import Derived.Test.YtpkagohflkcnkaaGreatDoorIv2
import Derived.Deep.RegionWith
namespace Go.Proofs.YtpkagohflkcnkaaGreatDoor
open Go.RowKit Go.G9
theorem szRule_is (id : Int) (nm : ByteArray) (rk : Int) (s d a : Bool) (nd l : Int) (hs : nm.size ≤ maxLen) (h0 : 0 ≤ l) (h1 : l ≤ 1048576) (w : World) :
  Calls Tryz.prog 52 #[.agg #[.int .i64 id, .string nm, .int .i64 rk, .bool s, .bool d, .bool a, .int .i64 nd], .int .i64 l] w fun e w' => ∃ r : Int, e = .returned (.int .i64 r) ∧ (-1 ≤ r ∧ r ≤ l) ∧ Below w.heap.size w w' := by
  unfold maxLen at hs
  go_enter Tryz.func52, Tryz.ntmps52
  go_wp2
  all_goals go_ret
  all_goals exact ⟨_, rfl, by constructor <;> omega, bl1 _ _⟩
theorem eqRule_is (id : Int) (nm : ByteArray) (rk : Int) (s d a : Bool) (nd : Int) (w : World) :
  Calls Tryz.prog 75 #[.agg #[.int .i64 id, .string nm, .int .i64 rk, .bool s, .bool d, .bool a, .int .i64 nd], .agg #[.int .i64 id, .string nm, .int .i64 rk, .bool s, .bool d, .bool a, .int .i64 nd]] w fun e w' => e = .returned (.bool true) ∧ Below w.heap.size w w' := by
  go_enter Tryz.func75, Tryz.ntmps75
  go_wp2
  go_ret
  exact ⟨rfl, bl2 _ _ _⟩
theorem toRule_is (id : Int) (nm : ByteArray) (rk : Int) (s d a : Bool) (nd : Int) (w : World) :
  Calls Tryz.prog 60 #[.agg #[.int .i64 id, .string nm, .int .i64 rk, .bool s, .bool d, .bool a, .int .i64 nd]] w fun e w' => e = .returned (.agg #[.int .i64 id, .string nm, .int .i64 rk, .bool s, .bool d, .bool a, .int .i64 nd]) ∧ Below w.heap.size w w' := by
  go_enter Tryz.func60, Tryz.ntmps60
  go_wp2
  exact bodyPost_ret (v := .agg #[.int .i64 id, .string nm, .int .i64 rk, .bool s, .bool d, .bool a, .int .i64 nd]) (by simp [results, Tryz.results60, go_sem]) rfl ⟨rfl, by repeat (first | exact Below.refl _ _ | refine Below.alloc ?_ (by first | exact Nat.le_refl _ | (simp <;> omega)) _ | refine Below.setCell ?_ (by first | exact Nat.le_refl _ | (simp <;> omega)) _)⟩
theorem info_Rul : (Tryz.prog.info? 65).map (fun i => (i.zero, i.size, i.bytes)) = some (some (.agg #[.int .i64 0, .string ⟨#[]⟩, .int .i64 0, .bool false, .bool false, .bool false, .int .i64 0]), 7, 48) := by kernel_rfl
theorem szRuleS_is (A : Option Addr) (c : Nat) (xs : List Rul) (hn : xs.length ≤ maxLen) (l : Int) (h00 : 0 ≤ l) (h01 : l ≤ 1048576) (w : World) (hR : Rds 7 Rul.cells w A xs) :
  Calls Tryz.prog 27 #[.slice A xs.length c, .int .i64 l] w fun e w' => ∃ r : Int, e = .returned (.int .i64 r) ∧ -1 ≤ r ∧ r ≤ l ∧ (r < 0 ∨ xs.length ≤ 1048576) ∧ Below w.heap.size w w' := by
  unfold maxLen at hn
  by_cases hl : (xs.length : Int) ≤ l
  · have hl' : ¬ (l - (xs.length : Int)) < 0 := by omega
    go_enter Tryz.func27, Tryz.ntmps27
    go_wp2
    go_loopw [1, 5] (fun lv i wr => ∃ (k : Nat) (r : Int), k ≤ xs.length ∧ i = .int .i64 k ∧ lv = .int .i64 r ∧ 0 ≤ r ∧ r ≤ l ∧ Below w.heap.size w wr) (fun _ i _ => xs.length - (intOf i).toNat)
    case atStart => exact ⟨0, _, Nat.zero_le _, rfl, rfl, by omega, by omega, Below.refl _ _⟩
    case round =>
      obtain ⟨k, r, hk, rfl, rfl, h0, h1, hb⟩ := hrel
      by_cases hlt : k < xs.length
      · obtain ⟨b, off, x, rfl, hbl, hx, hcx⟩ := hR.at_ hb hlt
        obtain ⟨id, nm, rk, s, d, a, nd, hs⟩ := x
        have f0 := hcx 0 _ rfl
        have f1 := hcx 1 _ rfl
        have f2 := hcx 2 _ rfl
        have f3 := hcx 3 _ rfl
        have f4 := hcx 4 _ rfl
        have f5 := hcx 5 _ rfl
        have f6 := hcx 6 _ rfl
        simp only [Nat.add_zero] at f0
        have g0 := f0 (Kin.self _)
        have g1 := f1 (Kin.self _)
        have g2 := f2 (Kin.self _)
        have g3 := f3 (Kin.self _)
        have g4 := f4 (Kin.self _)
        have g5 := f5 (Kin.self _)
        have g6 := f6 (Kin.self _)
        simp only [Kin.self] at g0
        simp only [Kin.self] at g1
        simp only [Kin.self] at g2
        simp only [Kin.self] at g3
        simp only [Kin.self] at g4
        simp only [Kin.self] at g5
        simp only [Kin.self] at g6
        clear hx hcx
        go_wp2_with fail
        refine (szRule_is _ _ _ _ _ _ _ _ hs h0 (by omega) _).mono ?_
        rintro e w' ⟨r', rfl, ⟨h2, h3⟩, hb'⟩
        by_cases h4 : r' < 0
        · go_wp2
          go_ret
          exact ⟨_, rfl, by omega, by omega, .inl (by omega), bth hb hb'⟩
        · go_wp2
          go_roundw
          case rel => exact ⟨k + 1, r', by omega, by go_num, rfl, by omega, by omega, bth hb hb'⟩
          case measure => simp [intOf]; omega
      · go_wp2
        go_ret
        exact ⟨_, rfl, by omega, by omega, .inr (by omega), hb⟩
  · have hl' : (l - (xs.length : Int)) < 0 := by omega
    go_enter Tryz.func27, Tryz.ntmps27
    go_wp2
    go_ret
    exact ⟨_, rfl, by omega, by omega, .inl (by omega), Below.refl _ _⟩
set_option maxHeartbeats 1000000 in
theorem eqRuleS_is (A A' : Option Addr) (c c' : Nat) (xs : List Rul) (hn : xs.length ≤ 1048576) (w : World) (hR : Rds 7 Rul.cells w A xs) (hR' : Rds 7 Rul.cells w A' xs) :
  Calls Tryz.prog 45 #[.slice A xs.length c, .slice A' xs.length c'] w fun e w' => e = .returned (.bool true) ∧ Below w.heap.size w w' := by
  go_enter Tryz.func45, Tryz.ntmps45
  go_wp2
  go_loopw [5] (fun i wr => ∃ (k : Nat), k ≤ xs.length ∧ i = .int .i64 k ∧ Below w.heap.size w wr) (fun i _ => xs.length - (intOf i).toNat)
  case atStart => exact ⟨0, Nat.zero_le _, rfl, Below.refl _ _⟩
  case round =>
    obtain ⟨k, hk, rfl, hb⟩ := hrel
    by_cases hlt : k < xs.length
    · obtain ⟨b, off, x, rfl, hbl, hx, hcx⟩ := hR.at_ hb hlt
      obtain ⟨b', off', x', rfl, _, hx', hcx'⟩ := hR'.at_ hb hlt
      obtain rfl : x = x' := Option.some.inj (hx.symm.trans hx')
      obtain ⟨id, nm, rk, s, d, a, nd, hs⟩ := x
      have f0 := hcx 0 _ rfl
      have f1 := hcx 1 _ rfl
      have f2 := hcx 2 _ rfl
      have f3 := hcx 3 _ rfl
      have f4 := hcx 4 _ rfl
      have f5 := hcx 5 _ rfl
      have f6 := hcx 6 _ rfl
      simp only [Nat.add_zero] at f0
      have e0 := hcx' 0 _ rfl
      have e1 := hcx' 1 _ rfl
      have e2 := hcx' 2 _ rfl
      have e3 := hcx' 3 _ rfl
      have e4 := hcx' 4 _ rfl
      have e5 := hcx' 5 _ rfl
      have e6 := hcx' 6 _ rfl
      simp only [Nat.add_zero] at e0
      clear hx hcx hx' hcx'
      go_wp2
      refine wp_region_kin (by kernel_rfl) (by kernel_rfl) ?_
      repeat (go_big_quiet_step (((go_at_call 75; exact Kin.call _ (Nat.le_refl _) (eqRule_is _ _ _ _ _ _ _ _)))))
      refine wpQuiet_nil ?_
      intro K
      go_wp2
      go_roundw
      case rel => exact ⟨k + 1, by omega, by go_num, bth hb K.below⟩
      case measure => simp [intOf]; omega
    · go_wp2
      go_ret
      exact ⟨rfl, hb⟩
set_option maxHeartbeats 1000000 in
theorem toRuleS_is (A : Option Addr) (c : Nat) (xs : List Rul) (hn : xs.length ≤ 1048576) (w : World) (hR : Rds 7 Rul.cells w A xs) :
  Calls Tryz.prog 33 #[.slice A xs.length c] w fun e w' => ∃ A', e = .returned (.slice A' xs.length xs.length) ∧ OwnV w.heap.size 65 7 Rul.cells w' (.slice A' xs.length xs.length) xs ∧ Below w.heap.size w w' := by
  obtain ⟨i0, hi, hz0, hz1, hz2⟩ := info_parts info_Rul
  have hmk := run_make_rowN (P := Tryz.prog) 37 65 i0 _ Tryz.underlying37 hi hz0 .i64 .i64 xs.length xs.length (Nat.le_refl _) (by rw [hz2]; omega) (by omega)
  rw [hz1] at hmk
  go_enter Tryz.func33, Tryz.ntmps33
  go_wp2
  go_loopw [4] (fun i wr => ∃ (k : Nat) (cs : Array Value), k ≤ xs.length ∧ i = .int .i64 k ∧ Blk wr w.heap.size 65 cs ∧ cs.size = xs.length * 7 ∧ Filled 7 Rul.cells xs k cs ∧ Below w.heap.size w wr) (fun i _ => xs.length - (intOf i).toNat)
  case atStart => exact ⟨0, _, Nat.zero_le _, rfl, Blk.new _ _ _, by simp [madeCells], Filled.zero, bl1 _ _⟩
  case round =>
    obtain ⟨k, cs, hk, rfl, hB, hsz, hF, hb⟩ := hrel
    have HSZ := Lib.hid hsz; clear hsz
    by_cases hlt : k < xs.length
    · obtain ⟨b, off, x, rfl, hbl, hx, hcx⟩ := hR.at_ hb hlt
      obtain ⟨id, nm, rk, s, d, a, nd, hs⟩ := x
      have f0 := hcx 0 _ rfl
      have f1 := hcx 1 _ rfl
      have f2 := hcx 2 _ rfl
      have f3 := hcx 3 _ rfl
      have f4 := hcx 4 _ rfl
      have f5 := hcx 5 _ rfl
      have f6 := hcx 6 _ rfl
      simp only [Nat.add_zero] at f0
      have g0 := f0 (Kin.self _)
      have g1 := f1 (Kin.self _)
      have g2 := f2 (Kin.self _)
      have g3 := f3 (Kin.self _)
      have g4 := f4 (Kin.self _)
      have g5 := f5 (Kin.self _)
      have g6 := f6 (Kin.self _)
      simp only [Kin.self] at g0
      simp only [Kin.self] at g1
      simp only [Kin.self] at g2
      simp only [Kin.self] at g3
      simp only [Kin.self] at g4
      simp only [Kin.self] at g5
      simp only [Kin.self] at g6
      clear hcx
      have HX := Lib.hid hx; clear hx
      go_wp2_with fail
      refine (toRule_is _ _ _ _ _ _ _ _).mono ?_
      rintro e w' ⟨rfl, hb'⟩
      have hB' := hB.below hb' hB.lt
      obtain ⟨v0, c0⟩ := hB'.some_ (k * 7) (by rw [HSZ.out]; omega)
      have z0 := hB'.frozen (k * 7)
      obtain ⟨v1, c1⟩ := hB'.some_ (k * 7 + 1) (by rw [HSZ.out]; omega)
      have z1 := hB'.frozen (k * 7 + 1)
      obtain ⟨v2, c2⟩ := hB'.some_ (k * 7 + 2) (by rw [HSZ.out]; omega)
      have z2 := hB'.frozen (k * 7 + 2)
      obtain ⟨v3, c3⟩ := hB'.some_ (k * 7 + 3) (by rw [HSZ.out]; omega)
      have z3 := hB'.frozen (k * 7 + 3)
      obtain ⟨v4, c4⟩ := hB'.some_ (k * 7 + 4) (by rw [HSZ.out]; omega)
      have z4 := hB'.frozen (k * 7 + 4)
      obtain ⟨v5, c5⟩ := hB'.some_ (k * 7 + 5) (by rw [HSZ.out]; omega)
      have z5 := hB'.frozen (k * 7 + 5)
      obtain ⟨v6, c6⟩ := hB'.some_ (k * 7 + 6) (by rw [HSZ.out]; omega)
      have z6 := hB'.frozen (k * 7 + 6)
      go_wp2
      go_roundw
      case rel => exact ⟨k + 1, setMany cs (k * 7) (Rul.cells ⟨id, nm, rk, s, d, a, nd, hs⟩), by omega, by go_num, hB'.setMany (k * 7) (Rul.cells ⟨id, nm, rk, s, d, a, nd, hs⟩), by rw [size_setMany, HSZ.out], hF.put HX.out (by rw [HSZ.out]; simp [Rul.cells]; omega), (((((((bth hb hb').setCell (Nat.le_refl _) _).setCell (Nat.le_refl _) _).setCell (Nat.le_refl _) _).setCell (Nat.le_refl _) _).setCell (Nat.le_refl _) _).setCell (Nat.le_refl _) _).setCell (Nat.le_refl _) _⟩
      case measure => simp [intOf]; omega
    · obtain rfl : k = xs.length := by omega
      go_wp2
      go_ret
      exact ⟨_, rfl, OwnV.filled hB (Nat.le_refl _) HSZ.out (by unfold maxLen; omega) hF.all, hb⟩
theorem eqQuestion_is (r m : Int) (s : Bool) (w : World) :
  Calls Tryz.prog 76 #[.agg #[.int .i64 r, .int .i64 m, .bool s], .agg #[.int .i64 r, .int .i64 m, .bool s]] w fun e w' => e = .returned (.bool true) ∧ Below w.heap.size w w' := by
  go_enter Tryz.func76, Tryz.ntmps76
  go_wp2
  go_ret
  exact ⟨rfl, bl2 _ _ _⟩
theorem toQuestion_is (r m : Int) (s : Bool) (w : World) :
  Calls Tryz.prog 61 #[.agg #[.int .i64 r, .int .i64 m, .bool s]] w fun e w' => e = .returned (.agg #[.int .i64 r, .int .i64 m, .bool s]) ∧ Below w.heap.size w w' := by
  go_enter Tryz.func61, Tryz.ntmps61
  go_wp2
  exact bodyPost_ret (v := .agg #[.int .i64 r, .int .i64 m, .bool s]) (by simp [results, Tryz.results61, go_sem]) rfl ⟨rfl, by repeat (first | exact Below.refl _ _ | refine Below.alloc ?_ (by first | exact Nat.le_refl _ | (simp <;> omega)) _ | refine Below.setCell ?_ (by first | exact Nat.le_refl _ | (simp <;> omega)) _)⟩
theorem eqShare_is (m t s : Int) (w : World) :
  Calls Tryz.prog 102 #[.agg #[.int .i64 m, .int .i64 t, .int .i64 s], .agg #[.int .i64 m, .int .i64 t, .int .i64 s]] w fun e w' => e = .returned (.bool true) ∧ Below w.heap.size w w' := by
  go_enter Tryz.func102, Tryz.ntmps102
  go_wp2
  go_ret
  exact ⟨rfl, bl2 _ _ _⟩
theorem toShare_is (m t s : Int) (w : World) :
  Calls Tryz.prog 92 #[.agg #[.int .i64 m, .int .i64 t, .int .i64 s]] w fun e w' => e = .returned (.agg #[.int .i64 m, .int .i64 t, .int .i64 s]) ∧ Below w.heap.size w w' := by
  go_enter Tryz.func92, Tryz.ntmps92
  go_wp2
  exact bodyPost_ret (v := .agg #[.int .i64 m, .int .i64 t, .int .i64 s]) (by simp [results, Tryz.results92, go_sem]) rfl ⟨rfl, by repeat (first | exact Below.refl _ _ | refine Below.alloc ?_ (by first | exact Nat.le_refl _ | (simp <;> omega)) _ | refine Below.setCell ?_ (by first | exact Nat.le_refl _ | (simp <;> omega)) _)⟩
theorem eqOutcome_is (r m : Int) (s : Bool) (w : World) :
  Calls Tryz.prog 79 #[.agg #[.int .i64 r, .int .i64 m, .bool s], .agg #[.int .i64 r, .int .i64 m, .bool s]] w fun e w' => e = .returned (.bool true) ∧ Below w.heap.size w w' := by
  go_enter Tryz.func79, Tryz.ntmps79
  go_wp2
  go_ret
  exact ⟨rfl, bl2 _ _ _⟩
theorem toOutcome_is (r m : Int) (s : Bool) (w : World) :
  Calls Tryz.prog 64 #[.agg #[.int .i64 r, .int .i64 m, .bool s]] w fun e w' => e = .returned (.agg #[.int .i64 r, .int .i64 m, .bool s]) ∧ Below w.heap.size w w' := by
  go_enter Tryz.func64, Tryz.ntmps64
  go_wp2
  exact bodyPost_ret (v := .agg #[.int .i64 r, .int .i64 m, .bool s]) (by simp [results, Tryz.results64, go_sem]) rfl ⟨rfl, by repeat (first | exact Below.refl _ _ | refine Below.alloc ?_ (by first | exact Nat.le_refl _ | (simp <;> omega)) _ | refine Below.setCell ?_ (by first | exact Nat.le_refl _ | (simp <;> omega)) _)⟩
theorem info_Que : (Tryz.prog.info? 63).map (fun i => (i.zero, i.size, i.bytes)) = some (some (.agg #[.int .i64 0, .int .i64 0, .bool false]), 3, 24) := by kernel_rfl
theorem info_Sha : (Tryz.prog.info? 109).map (fun i => (i.zero, i.size, i.bytes)) = some (some (.agg #[.int .i64 0, .int .i64 0, .int .i64 0]), 3, 24) := by kernel_rfl
theorem info_Out : (Tryz.prog.info? 81).map (fun i => (i.zero, i.size, i.bytes)) = some (some (.agg #[.int .i64 0, .int .i64 0, .bool false]), 3, 24) := by kernel_rfl
set_option maxHeartbeats 1000000 in
theorem eqQuestionS_is (A A' : Option Addr) (c c' : Nat) (xs : List Que) (hn : xs.length ≤ 1048576) (w : World) (hR : Rds 3 Que.cells w A xs) (hR' : Rds 3 Que.cells w A' xs) :
  Calls Tryz.prog 46 #[.slice A xs.length c, .slice A' xs.length c'] w fun e w' => e = .returned (.bool true) ∧ Below w.heap.size w w' := by
  go_enter Tryz.func46, Tryz.ntmps46
  go_wp2
  go_loopw [5] (fun i wr => ∃ (k : Nat), k ≤ xs.length ∧ i = .int .i64 k ∧ Below w.heap.size w wr) (fun i _ => xs.length - (intOf i).toNat)
  case atStart => exact ⟨0, Nat.zero_le _, rfl, Below.refl _ _⟩
  case round =>
    obtain ⟨k, hk, rfl, hb⟩ := hrel
    by_cases hlt : k < xs.length
    · obtain ⟨b, off, x, rfl, hbl, hx, hcx⟩ := hR.at_ hb hlt
      obtain ⟨b', off', x', rfl, _, hx', hcx'⟩ := hR'.at_ hb hlt
      obtain rfl : x = x' := Option.some.inj (hx.symm.trans hx')
      obtain ⟨r, m, s⟩ := x
      have f0 := hcx 0 _ rfl
      have f1 := hcx 1 _ rfl
      have f2 := hcx 2 _ rfl
      simp only [Nat.add_zero] at f0
      have e0 := hcx' 0 _ rfl
      have e1 := hcx' 1 _ rfl
      have e2 := hcx' 2 _ rfl
      simp only [Nat.add_zero] at e0
      clear hx hcx hx' hcx'
      go_wp2
      refine wp_region_kin (by kernel_rfl) (by kernel_rfl) ?_
      repeat (go_big_quiet_step (((go_at_call 76; exact Kin.call _ (Nat.le_refl _) (eqQuestion_is _ _ _ _)))))
      refine wpQuiet_nil ?_
      intro K
      go_wp2
      go_roundw
      case rel => exact ⟨k + 1, by omega, by go_num, bth hb K.below⟩
      case measure => simp [intOf]; omega
    · go_wp2
      go_ret
      exact ⟨rfl, hb⟩
set_option maxHeartbeats 1000000 in
theorem toQuestionS_is (A : Option Addr) (c : Nat) (xs : List Que) (hn : xs.length ≤ 1048576) (w : World) (hR : Rds 3 Que.cells w A xs) :
  Calls Tryz.prog 34 #[.slice A xs.length c] w fun e w' => ∃ A', e = .returned (.slice A' xs.length xs.length) ∧ OwnV w.heap.size 63 3 Que.cells w' (.slice A' xs.length xs.length) xs ∧ Below w.heap.size w w' := by
  obtain ⟨i0, hi, hz0, hz1, hz2⟩ := info_parts info_Que
  have hmk := run_make_rowN (P := Tryz.prog) 38 63 i0 _ Tryz.underlying38 hi hz0 .i64 .i64 xs.length xs.length (Nat.le_refl _) (by rw [hz2]; omega) (by omega)
  rw [hz1] at hmk
  go_enter Tryz.func34, Tryz.ntmps34
  go_wp2
  go_loopw [4] (fun i wr => ∃ (k : Nat) (cs : Array Value), k ≤ xs.length ∧ i = .int .i64 k ∧ Blk wr w.heap.size 63 cs ∧ cs.size = xs.length * 3 ∧ Filled 3 Que.cells xs k cs ∧ Below w.heap.size w wr) (fun i _ => xs.length - (intOf i).toNat)
  case atStart => exact ⟨0, _, Nat.zero_le _, rfl, Blk.new _ _ _, by simp [madeCells], Filled.zero, bl1 _ _⟩
  case round =>
    obtain ⟨k, cs, hk, rfl, hB, hsz, hF, hb⟩ := hrel
    have HSZ := Lib.hid hsz; clear hsz
    by_cases hlt : k < xs.length
    · obtain ⟨b, off, x, rfl, hbl, hx, hcx⟩ := hR.at_ hb hlt
      obtain ⟨r, m, s⟩ := x
      have f0 := hcx 0 _ rfl
      have f1 := hcx 1 _ rfl
      have f2 := hcx 2 _ rfl
      simp only [Nat.add_zero] at f0
      have g0 := f0 (Kin.self _)
      have g1 := f1 (Kin.self _)
      have g2 := f2 (Kin.self _)
      simp only [Kin.self] at g0
      simp only [Kin.self] at g1
      simp only [Kin.self] at g2
      clear hcx
      have HX := Lib.hid hx; clear hx
      go_wp2_with fail
      refine (toQuestion_is _ _ _ _).mono ?_
      rintro e w' ⟨rfl, hb'⟩
      have hB' := hB.below hb' hB.lt
      obtain ⟨v0, c0⟩ := hB'.some_ (k * 3) (by rw [HSZ.out]; omega)
      have z0 := hB'.frozen (k * 3)
      obtain ⟨v1, c1⟩ := hB'.some_ (k * 3 + 1) (by rw [HSZ.out]; omega)
      have z1 := hB'.frozen (k * 3 + 1)
      obtain ⟨v2, c2⟩ := hB'.some_ (k * 3 + 2) (by rw [HSZ.out]; omega)
      have z2 := hB'.frozen (k * 3 + 2)
      go_wp2
      go_roundw
      case rel => exact ⟨k + 1, setMany cs (k * 3) (Que.cells ⟨r, m, s⟩), by omega, by go_num, hB'.setMany (k * 3) (Que.cells ⟨r, m, s⟩), by rw [size_setMany, HSZ.out], hF.put HX.out (by rw [HSZ.out]; simp [Que.cells]; omega), (((bth hb hb').setCell (Nat.le_refl _) _).setCell (Nat.le_refl _) _).setCell (Nat.le_refl _) _⟩
      case measure => simp [intOf]; omega
    · obtain rfl : k = xs.length := by omega
      go_wp2
      go_ret
      exact ⟨_, rfl, OwnV.filled hB (Nat.le_refl _) HSZ.out (by unfold maxLen; omega) hF.all, hb⟩
set_option maxHeartbeats 1000000 in
theorem eqShareS_is (A A' : Option Addr) (c c' : Nat) (xs : List Sha) (hn : xs.length ≤ 1048576) (w : World) (hR : Rds 3 Sha.cells w A xs) (hR' : Rds 3 Sha.cells w A' xs) :
  Calls Tryz.prog 78 #[.slice A xs.length c, .slice A' xs.length c'] w fun e w' => e = .returned (.bool true) ∧ Below w.heap.size w w' := by
  go_enter Tryz.func78, Tryz.ntmps78
  go_wp2
  go_loopw [5] (fun i wr => ∃ (k : Nat), k ≤ xs.length ∧ i = .int .i64 k ∧ Below w.heap.size w wr) (fun i _ => xs.length - (intOf i).toNat)
  case atStart => exact ⟨0, Nat.zero_le _, rfl, Below.refl _ _⟩
  case round =>
    obtain ⟨k, hk, rfl, hb⟩ := hrel
    by_cases hlt : k < xs.length
    · obtain ⟨b, off, x, rfl, hbl, hx, hcx⟩ := hR.at_ hb hlt
      obtain ⟨b', off', x', rfl, _, hx', hcx'⟩ := hR'.at_ hb hlt
      obtain rfl : x = x' := Option.some.inj (hx.symm.trans hx')
      obtain ⟨m, t, s⟩ := x
      have f0 := hcx 0 _ rfl
      have f1 := hcx 1 _ rfl
      have f2 := hcx 2 _ rfl
      simp only [Nat.add_zero] at f0
      have e0 := hcx' 0 _ rfl
      have e1 := hcx' 1 _ rfl
      have e2 := hcx' 2 _ rfl
      simp only [Nat.add_zero] at e0
      clear hx hcx hx' hcx'
      go_wp2
      refine wp_region_kin (by kernel_rfl) (by kernel_rfl) ?_
      repeat (go_big_quiet_step (((go_at_call 102; exact Kin.call _ (Nat.le_refl _) (eqShare_is _ _ _ _)))))
      refine wpQuiet_nil ?_
      intro K
      go_wp2
      go_roundw
      case rel => exact ⟨k + 1, by omega, by go_num, bth hb K.below⟩
      case measure => simp [intOf]; omega
    · go_wp2
      go_ret
      exact ⟨rfl, hb⟩
set_option maxHeartbeats 1000000 in
theorem toShareS_is (A : Option Addr) (c : Nat) (xs : List Sha) (hn : xs.length ≤ 1048576) (w : World) (hR : Rds 3 Sha.cells w A xs) :
  Calls Tryz.prog 63 #[.slice A xs.length c] w fun e w' => ∃ A', e = .returned (.slice A' xs.length xs.length) ∧ OwnV w.heap.size 109 3 Sha.cells w' (.slice A' xs.length xs.length) xs ∧ Below w.heap.size w w' := by
  obtain ⟨i0, hi, hz0, hz1, hz2⟩ := info_parts info_Sha
  have hmk := run_make_rowN (P := Tryz.prog) 39 109 i0 _ Tryz.underlying39 hi hz0 .i64 .i64 xs.length xs.length (Nat.le_refl _) (by rw [hz2]; omega) (by omega)
  rw [hz1] at hmk
  go_enter Tryz.func63, Tryz.ntmps63
  go_wp2
  go_loopw [4] (fun i wr => ∃ (k : Nat) (cs : Array Value), k ≤ xs.length ∧ i = .int .i64 k ∧ Blk wr w.heap.size 109 cs ∧ cs.size = xs.length * 3 ∧ Filled 3 Sha.cells xs k cs ∧ Below w.heap.size w wr) (fun i _ => xs.length - (intOf i).toNat)
  case atStart => exact ⟨0, _, Nat.zero_le _, rfl, Blk.new _ _ _, by simp [madeCells], Filled.zero, bl1 _ _⟩
  case round =>
    obtain ⟨k, cs, hk, rfl, hB, hsz, hF, hb⟩ := hrel
    have HSZ := Lib.hid hsz; clear hsz
    by_cases hlt : k < xs.length
    · obtain ⟨b, off, x, rfl, hbl, hx, hcx⟩ := hR.at_ hb hlt
      obtain ⟨m, t, s⟩ := x
      have f0 := hcx 0 _ rfl
      have f1 := hcx 1 _ rfl
      have f2 := hcx 2 _ rfl
      simp only [Nat.add_zero] at f0
      have g0 := f0 (Kin.self _)
      have g1 := f1 (Kin.self _)
      have g2 := f2 (Kin.self _)
      simp only [Kin.self] at g0
      simp only [Kin.self] at g1
      simp only [Kin.self] at g2
      clear hcx
      have HX := Lib.hid hx; clear hx
      go_wp2_with fail
      refine (toShare_is _ _ _ _).mono ?_
      rintro e w' ⟨rfl, hb'⟩
      have hB' := hB.below hb' hB.lt
      obtain ⟨v0, c0⟩ := hB'.some_ (k * 3) (by rw [HSZ.out]; omega)
      have z0 := hB'.frozen (k * 3)
      obtain ⟨v1, c1⟩ := hB'.some_ (k * 3 + 1) (by rw [HSZ.out]; omega)
      have z1 := hB'.frozen (k * 3 + 1)
      obtain ⟨v2, c2⟩ := hB'.some_ (k * 3 + 2) (by rw [HSZ.out]; omega)
      have z2 := hB'.frozen (k * 3 + 2)
      go_wp2
      go_roundw
      case rel => exact ⟨k + 1, setMany cs (k * 3) (Sha.cells ⟨m, t, s⟩), by omega, by go_num, hB'.setMany (k * 3) (Sha.cells ⟨m, t, s⟩), by rw [size_setMany, HSZ.out], hF.put HX.out (by rw [HSZ.out]; simp [Sha.cells]; omega), (((bth hb hb').setCell (Nat.le_refl _) _).setCell (Nat.le_refl _) _).setCell (Nat.le_refl _) _⟩
      case measure => simp [intOf]; omega
    · obtain rfl : k = xs.length := by omega
      go_wp2
      go_ret
      exact ⟨_, rfl, OwnV.filled hB (Nat.le_refl _) HSZ.out (by unfold maxLen; omega) hF.all, hb⟩
set_option maxHeartbeats 1000000 in
theorem eqOutcomeS_is (A A' : Option Addr) (c c' : Nat) (xs : List Out) (hn : xs.length ≤ 1048576) (w : World) (hR : Rds 3 Out.cells w A xs) (hR' : Rds 3 Out.cells w A' xs) :
  Calls Tryz.prog 48 #[.slice A xs.length c, .slice A' xs.length c'] w fun e w' => e = .returned (.bool true) ∧ Below w.heap.size w w' := by
  go_enter Tryz.func48, Tryz.ntmps48
  go_wp2
  go_loopw [5] (fun i wr => ∃ (k : Nat), k ≤ xs.length ∧ i = .int .i64 k ∧ Below w.heap.size w wr) (fun i _ => xs.length - (intOf i).toNat)
  case atStart => exact ⟨0, Nat.zero_le _, rfl, Below.refl _ _⟩
  case round =>
    obtain ⟨k, hk, rfl, hb⟩ := hrel
    by_cases hlt : k < xs.length
    · obtain ⟨b, off, x, rfl, hbl, hx, hcx⟩ := hR.at_ hb hlt
      obtain ⟨b', off', x', rfl, _, hx', hcx'⟩ := hR'.at_ hb hlt
      obtain rfl : x = x' := Option.some.inj (hx.symm.trans hx')
      obtain ⟨r, m, s⟩ := x
      have f0 := hcx 0 _ rfl
      have f1 := hcx 1 _ rfl
      have f2 := hcx 2 _ rfl
      simp only [Nat.add_zero] at f0
      have e0 := hcx' 0 _ rfl
      have e1 := hcx' 1 _ rfl
      have e2 := hcx' 2 _ rfl
      simp only [Nat.add_zero] at e0
      clear hx hcx hx' hcx'
      go_wp2
      refine wp_region_kin (by kernel_rfl) (by kernel_rfl) ?_
      repeat (go_big_quiet_step (((go_at_call 79; exact Kin.call _ (Nat.le_refl _) (eqOutcome_is _ _ _ _)))))
      refine wpQuiet_nil ?_
      intro K
      go_wp2
      go_roundw
      case rel => exact ⟨k + 1, by omega, by go_num, bth hb K.below⟩
      case measure => simp [intOf]; omega
    · go_wp2
      go_ret
      exact ⟨rfl, hb⟩
set_option maxHeartbeats 1000000 in
theorem toOutcomeS_is (A : Option Addr) (c : Nat) (xs : List Out) (hn : xs.length ≤ 1048576) (w : World) (hR : Rds 3 Out.cells w A xs) :
  Calls Tryz.prog 36 #[.slice A xs.length c] w fun e w' => ∃ A', e = .returned (.slice A' xs.length xs.length) ∧ OwnV w.heap.size 81 3 Out.cells w' (.slice A' xs.length xs.length) xs ∧ Below w.heap.size w w' := by
  obtain ⟨i0, hi, hz0, hz1, hz2⟩ := info_parts info_Out
  have hmk := run_make_rowN (P := Tryz.prog) 42 81 i0 _ Tryz.underlying42 hi hz0 .i64 .i64 xs.length xs.length (Nat.le_refl _) (by rw [hz2]; omega) (by omega)
  rw [hz1] at hmk
  go_enter Tryz.func36, Tryz.ntmps36
  go_wp2
  go_loopw [4] (fun i wr => ∃ (k : Nat) (cs : Array Value), k ≤ xs.length ∧ i = .int .i64 k ∧ Blk wr w.heap.size 81 cs ∧ cs.size = xs.length * 3 ∧ Filled 3 Out.cells xs k cs ∧ Below w.heap.size w wr) (fun i _ => xs.length - (intOf i).toNat)
  case atStart => exact ⟨0, _, Nat.zero_le _, rfl, Blk.new _ _ _, by simp [madeCells], Filled.zero, bl1 _ _⟩
  case round =>
    obtain ⟨k, cs, hk, rfl, hB, hsz, hF, hb⟩ := hrel
    have HSZ := Lib.hid hsz; clear hsz
    by_cases hlt : k < xs.length
    · obtain ⟨b, off, x, rfl, hbl, hx, hcx⟩ := hR.at_ hb hlt
      obtain ⟨r, m, s⟩ := x
      have f0 := hcx 0 _ rfl
      have f1 := hcx 1 _ rfl
      have f2 := hcx 2 _ rfl
      simp only [Nat.add_zero] at f0
      have g0 := f0 (Kin.self _)
      have g1 := f1 (Kin.self _)
      have g2 := f2 (Kin.self _)
      simp only [Kin.self] at g0
      simp only [Kin.self] at g1
      simp only [Kin.self] at g2
      clear hcx
      have HX := Lib.hid hx; clear hx
      go_wp2_with fail
      refine (toOutcome_is _ _ _ _).mono ?_
      rintro e w' ⟨rfl, hb'⟩
      have hB' := hB.below hb' hB.lt
      obtain ⟨v0, c0⟩ := hB'.some_ (k * 3) (by rw [HSZ.out]; omega)
      have z0 := hB'.frozen (k * 3)
      obtain ⟨v1, c1⟩ := hB'.some_ (k * 3 + 1) (by rw [HSZ.out]; omega)
      have z1 := hB'.frozen (k * 3 + 1)
      obtain ⟨v2, c2⟩ := hB'.some_ (k * 3 + 2) (by rw [HSZ.out]; omega)
      have z2 := hB'.frozen (k * 3 + 2)
      go_wp2
      go_roundw
      case rel => exact ⟨k + 1, setMany cs (k * 3) (Out.cells ⟨r, m, s⟩), by omega, by go_num, hB'.setMany (k * 3) (Out.cells ⟨r, m, s⟩), by rw [size_setMany, HSZ.out], hF.put HX.out (by rw [HSZ.out]; simp [Out.cells]; omega), (((bth hb hb').setCell (Nat.le_refl _) _).setCell (Nat.le_refl _) _).setCell (Nat.le_refl _) _⟩
      case measure => simp [intOf]; omega
    · obtain rfl : k = xs.length := by omega
      go_wp2
      go_ret
      exact ⟨_, rfl, OwnV.filled hB (Nat.le_refl _) HSZ.out (by unfold maxLen; omega) hF.all, hb⟩
theorem szQuestionS_is (A : Option Addr) (c : Nat) (xs : List Que) (hn : xs.length ≤ maxLen) (l : Int) (h00 : 0 ≤ l) (h01 : l ≤ 1048576) (w : World) :
  Calls Tryz.prog 28 #[.slice A xs.length c, .int .i64 l] w fun e w' => ∃ r : Int, e = .returned (.int .i64 r) ∧ -1 ≤ r ∧ r ≤ l ∧ (r < 0 ∨ xs.length ≤ 1048576) ∧ Below w.heap.size w w' := by
  unfold maxLen at hn
  by_cases hl : (xs.length : Int) ≤ l
  · have hl' : ¬ (l - (xs.length : Int)) < 0 := by omega
    go_enter Tryz.func28, Tryz.ntmps28
    go_wp2
    go_ret
    exact ⟨_, rfl, by omega, by omega, .inr (by omega), Below.refl _ _⟩
  · have hl' : (l - (xs.length : Int)) < 0 := by omega
    go_enter Tryz.func28, Tryz.ntmps28
    go_wp2
    go_ret
    exact ⟨_, rfl, by omega, by omega, .inl (by omega), Below.refl _ _⟩
theorem szShareS_is (A : Option Addr) (c : Nat) (xs : List Sha) (hn : xs.length ≤ maxLen) (l : Int) (h00 : 0 ≤ l) (h01 : l ≤ 1048576) (w : World) :
  Calls Tryz.prog 54 #[.slice A xs.length c, .int .i64 l] w fun e w' => ∃ r : Int, e = .returned (.int .i64 r) ∧ -1 ≤ r ∧ r ≤ l ∧ (r < 0 ∨ xs.length ≤ 1048576) ∧ Below w.heap.size w w' := by
  unfold maxLen at hn
  by_cases hl : (xs.length : Int) ≤ l
  · have hl' : ¬ (l - (xs.length : Int)) < 0 := by omega
    go_enter Tryz.func54, Tryz.ntmps54
    go_wp2
    go_ret
    exact ⟨_, rfl, by omega, by omega, .inr (by omega), Below.refl _ _⟩
  · have hl' : (l - (xs.length : Int)) < 0 := by omega
    go_enter Tryz.func54, Tryz.ntmps54
    go_wp2
    go_ret
    exact ⟨_, rfl, by omega, by omega, .inl (by omega), Below.refl _ _⟩
theorem szOutcomeS_is (A : Option Addr) (c : Nat) (xs : List Out) (hn : xs.length ≤ maxLen) (l : Int) (h00 : 0 ≤ l) (h01 : l ≤ 1048576) (w : World) :
  Calls Tryz.prog 30 #[.slice A xs.length c, .int .i64 l] w fun e w' => ∃ r : Int, e = .returned (.int .i64 r) ∧ -1 ≤ r ∧ r ≤ l ∧ (r < 0 ∨ xs.length ≤ 1048576) ∧ Below w.heap.size w w' := by
  unfold maxLen at hn
  by_cases hl : (xs.length : Int) ≤ l
  · have hl' : ¬ (l - (xs.length : Int)) < 0 := by omega
    go_enter Tryz.func30, Tryz.ntmps30
    go_wp2
    go_ret
    exact ⟨_, rfl, by omega, by omega, .inr (by omega), Below.refl _ _⟩
  · have hl' : (l - (xs.length : Int)) < 0 := by omega
    go_enter Tryz.func30, Tryz.ntmps30
    go_wp2
    go_ret
    exact ⟨_, rfl, by omega, by omega, .inl (by omega), Below.refl _ _⟩
end Go.Proofs.YtpkagohflkcnkaaGreatDoor
/- Marks in slices of questions, shares and outcomes. -/
namespace Go.Proofs.YtpkagohflkcnkaaGreatDoor
open Go.RowKit Go.G9
end Go.Proofs.YtpkagohflkcnkaaGreatDoor
/- Marks in slices of rules. -/
namespace Go.Proofs.YtpkagohflkcnkaaGreatDoor
open Go.RowKit Go.G9
end Go.Proofs.YtpkagohflkcnkaaGreatDoor
/- Marks held in slices of rules. -/
namespace Go.Proofs.YtpkagohflkcnkaaGreatDoor
open Go.RowKit Go.G9
end Go.Proofs.YtpkagohflkcnkaaGreatDoor
/- Rules: whether a list of rules is valid. -/
namespace Go.Proofs.YtpkagohflkcnkaaGreatDoor
open Go.RowKit Go.G9
theorem anyTake_no {T : Type} {p : T → Bool} {xs : List T} {k : Nat} (h : allTo (fun i => !atB p xs i) k = true) : (xs.take k).any p = false := by
  cases hc : (xs.take k).any p with
  | false => rfl
  | true =>
    obtain ⟨x, hx, hp⟩ := List.any_eq_true.1 hc
    obtain ⟨m, hm⟩ := List.mem_iff_getElem?.1 hx
    rw [List.getElem?_take] at hm
    split at hm
    · rename_i hlt
      have := allTo_iff.1 h m hlt
      simp [atB, hm, hp] at this
    · cases hm
theorem anyTake_yes {T : Type} {p : T → Bool} {xs : List T} {k m : Nat} {x : T} (hm : m < k) (hx : xs[m]? = some x) (hp : p x = true) : (xs.take k).any p = true :=
  List.any_eq_true.2 ⟨x, List.mem_iff_getElem?.2 ⟨m, by rw [List.getElem?_take, if_pos hm]; exact hx⟩, hp⟩
theorem rds_takeR {T : Type} {sz : Nat} {f : T → List Value} {w : World} {A : Option Addr} {xs : List T} (h : Rds sz f w A xs) (k : Nat) : Rds sz f w A (xs.take k) := by
  intro hn
  have hn0 : 0 < xs.length := by simp at hn; omega
  obtain ⟨b, off, h1, h2, h3⟩ := h hn0
  exact ⟨b, off, h1, h2, fun i x hx j u hu => h3 i x (by rw [List.getElem?_take] at hx; split at hx; exact hx; cases hx) j u hu⟩
theorem ruleStep_succ {xs : List Rul} {j : Nat} {x y : Rul} (hx : xs[j + 1]? = some x) (hy : xs[j]? = some y) : ruleStep xs (j + 1) = (ruleB x && (decide (y.id < x.id) && !(xs.take (j + 1)).any (fun z => z.name.toList == x.name.toList))) := by
  simp only [ruleStep, hx, hy]
theorem rulesB_len {xs : List Rul} (h : rulesB xs = true) : xs.length ≤ 8 := by
  simp only [rulesB, Bool.and_eq_true, decide_eq_true_eq] at h; exact h.2
theorem ruleNmF_is (nm : ByteArray) (g : Nat) (x : Rul) (W : World) (hg : W.cell? ⟨g, 1, none⟩ = some (.string nm)) (hl : g < W.heap.size) :
  Calls Tryz.prog 95 (#[.agg #[.int .i64 x.id, .string x.name, .int .i64 x.rank, .bool x.second, .bool x.debate, .bool x.amend, .int .i64 x.need]] ++ #[.pointer (some ⟨g, 0, none⟩)]) W fun e w' => e = .returned (.bool (x.name.toList == nm.toList)) ∧ Below W.heap.size W w' := by
  cases hb : x.name.toList == nm.toList
  all_goals
    have hb2 := Lib.hid hb
    go_enter Tryz.func95, Tryz.ntmps95
    go_wp2
    go_ret
    exact ⟨rfl, bl1 _ _⟩
set_option maxHeartbeats 2000000 in
set_option maxRecDepth 100000 in
theorem isValidRules_is (A : Option Addr) (c : Nat) (xs : List Rul) (hn : xs.length ≤ 1048576) (hc : xs.length ≤ c) (v : Bool) (hv : rulesB xs = v) (w : World) (hR : Rds 7 Rul.cells w A xs) :
  Calls Tryz.prog 65 #[.slice A xs.length c] w fun e w' => e = .returned (.bool v) ∧ Below w.heap.size w w' := by
  subst hv
  go_enter Tryz.func65, Tryz.ntmps65
  go_wp2
  go_loopw [7] (fun i wr => ∃ k : Nat, k ≤ xs.length ∧ i = .int .i64 k ∧ allTo (ruleStep xs) k = true ∧ Below w.heap.size w wr) (fun i _ => xs.length - (intOf i).toNat)
  case atStart => exact ⟨0, Nat.zero_le _, rfl, rfl, Below.refl _ _⟩
  case round =>
    obtain ⟨k, hk, rfl, hl, hb⟩ := hrel
    have HL := Lib.hid hl; clear hl
    by_cases hlt : k < xs.length
    · have hkc : (k : Int) ≤ (c : Int) := by omega
      have hRw := hR.below hb
      obtain ⟨b, off, x, rfl, hbl, hx, hcx⟩ := hR.at_ hb hlt
      obtain ⟨id, nm, rk, se, de, am, nd, hs⟩ := x
      have hbx := fun j => boxed wr #[.int .i64 id, .string nm, .int .i64 rk, .bool se, .bool de, .bool am, .int .i64 nd] 65 j
      have n0 := hbx 0 _ rfl
      have n1 := hbx 1 _ rfl
      have n2 := hbx 2 _ rfl
      have n3 := hbx 3 _ rfl
      have n4 := hbx 4 _ rfl
      have n5 := hbx 5 _ rfl
      have n6 := hbx 6 _ rfl
      clear hbx
      obtain ⟨d, hd⟩ : ∃ d, (xs.take k).any (fun z => z.name.toList == nm.toList) = d := ⟨_, rfl⟩
      have HCF : Hid (∀ W cc, Below (wr.alloc (.cells #[.int .i64 id, .string nm, .int .i64 rk, .bool se, .bool de, .bool am, .int .i64 nd] 65)).heap.size (wr.alloc (.cells #[.int .i64 id, .string nm, .int .i64 rk, .bool se, .bool de, .bool am, .int .i64 nd] 65)) W →
          Calls Tryz.prog 94 #[.slice (some ⟨b, off, none⟩) k cc, .func (.func 95) #[] #[.pointer (some ⟨wr.heap.size, 0, none⟩)]] W fun e w' => e = .returned (.bool d) ∧ Below W.heap.size W w') := Lib.hid fun W cc hW => by
        have hkl : (xs.take k).length = k := by rw [List.length_take]; omega
        have hB := Blk.below (Blk.new wr 65 #[.int .i64 id, .string nm, .int .i64 rk, .bool se, .bool de, .bool am, .int .i64 nd]) hW (by simp)
        have h := containsFunc_Rul (some ⟨b, off, none⟩) cc (xs.take k) (by omega) 95 #[.pointer (some ⟨wr.heap.size, 0, none⟩)] (run_enter Tryz.func95 (by kernel_rfl) (by kernel_rfl)) (fun z => z.name.toList == nm.toList) d hd W ((rds_takeR hRw k).below (bth (bl1 _ _) hW)) (fun x _ V hV => ruleNmF_is nm wr.heap.size x V ((hB.below hV hB.lt).cell 1) (hB.below hV hB.lt).lt)
        rw [hkl] at h; exact h
      have HD := Lib.hid hd; clear hd hRw
      cases k with
      | zero =>
        have hd0 : d = false := by rw [← HD.out]; rfl
        subst hd0
        have f0 := hcx 0 _ rfl
        have f1 := hcx 1 _ rfl
        have f2 := hcx 2 _ rfl
        have f3 := hcx 3 _ rfl
        have f4 := hcx 4 _ rfl
        have f5 := hcx 5 _ rfl
        have f6 := hcx 6 _ rfl
        simp only [Nat.zero_mul, Nat.add_zero] at f0
        simp only [Nat.zero_mul] at f1
        simp only [Nat.zero_mul] at f2
        simp only [Nat.zero_mul] at f3
        simp only [Nat.zero_mul] at f4
        simp only [Nat.zero_mul] at f5
        simp only [Nat.zero_mul] at f6
        have g0 := f0 (Kin.self _)
        have g1 := f1 (Kin.self _)
        have g2 := f2 (Kin.self _)
        have g3 := f3 (Kin.self _)
        have g4 := f4 (Kin.self _)
        have g5 := f5 (Kin.self _)
        have g6 := f6 (Kin.self _)
        simp only [Kin.self] at g0
        simp only [Kin.self] at g1
        simp only [Kin.self] at g2
        simp only [Kin.self] at g3
        simp only [Kin.self] at g4
        simp only [Kin.self] at g5
        simp only [Kin.self] at g6
        have HX := Lib.hid hx; clear hx hcx
        cases hv : ruleB ⟨id, nm, rk, se, de, am, nd, hs⟩
        all_goals
          have HV := Lib.hid hv
          go_wp2
          refine wp_region_kin (by kernel_rfl) (by kernel_rfl) ?_
          repeat (go_big_quiet_step ((first | (go_at_call 93; exact Kin.call _ (Nat.le_refl _) (isValidRule_is ⟨id, nm, rk, se, de, am, nd, hs⟩ _ HV.out _)) | (go_at_call 94; exact Kin.call _ (Nat.le_refl _) (HCF.out _ _ (Kin.below _))))))
          refine wpQuiet_nil ?_
          intro K
          go_wp2
        · go_ret
          exact ⟨ret_bool (by rw [rulesB, allTo_not hlt (by simp [ruleStep, HX.out, hv])]; rfl), bth hb (bth (bl1 _ _) K.below)⟩
        · go_roundw
          case rel => exact ⟨1, by omega, by go_num, allTo_go HL.out (by simp [ruleStep, HX.out, hv]), bth hb (bth (bl1 _ _) K.below)⟩
          case measure => simp [intOf]; omega
      | succ j =>
        obtain ⟨b', off', y, e', _, hy, hcy⟩ := hR.at_ hb (k := j) (by omega)
        simp only [Option.some.injEq, Addr.mk.injEq, and_true] at e'
        obtain ⟨rfl, rfl⟩ := e'
        obtain ⟨yid, yn, yr, ys, yd, ya, ynd, yok⟩ := y
        have f0 := hcx 0 _ rfl
        have f1 := hcx 1 _ rfl
        have f2 := hcx 2 _ rfl
        have f3 := hcx 3 _ rfl
        have f4 := hcx 4 _ rfl
        have f5 := hcx 5 _ rfl
        have f6 := hcx 6 _ rfl
        simp only [Nat.add_zero] at f0
        have g0 := f0 (Kin.self _)
        have g1 := f1 (Kin.self _)
        have g2 := f2 (Kin.self _)
        have g3 := f3 (Kin.self _)
        have g4 := f4 (Kin.self _)
        have g5 := f5 (Kin.self _)
        have g6 := f6 (Kin.self _)
        simp only [Kin.self] at g0
        simp only [Kin.self] at g1
        simp only [Kin.self] at g2
        simp only [Kin.self] at g3
        simp only [Kin.self] at g4
        simp only [Kin.self] at g5
        simp only [Kin.self] at g6
        have y0 := hcy 0 _ rfl
        simp only [Nat.add_zero] at y0
        have y0' := fun K : Kin (wr.alloc _).heap.size (wr.alloc (.cells #[.int .i64 id, .string nm, .int .i64 rk, .bool se, .bool de, .bool am, .int .i64 nd] 65)) => y0 (K.drop (bl1 _ _))
        simp only [Kin.drop] at y0'
        have HX := Lib.hid hx; clear hx hcx
        have HY := Lib.hid hy; clear hy hcy y0
        cases hv : ruleB ⟨id, nm, rk, se, de, am, nd, hs⟩
        · have HV := Lib.hid hv
          go_wp2
          refine wp_region_kin (by kernel_rfl) (by kernel_rfl) ?_
          repeat (go_big_quiet_step ((first | (go_at_call 93; exact Kin.call _ (Nat.le_refl _) (isValidRule_is ⟨id, nm, rk, se, de, am, nd, hs⟩ _ HV.out _)) | (go_at_call 94; exact Kin.call _ (Nat.le_refl _) (HCF.out _ _ (Kin.below _))))))
          refine wpQuiet_nil ?_
          intro K
          go_wp2
          go_ret
          exact ⟨ret_bool (by rw [rulesB, allTo_not hlt (by simp [ruleStep, HX.out, HY.out, hv])]; rfl), bth hb (bth (bl1 _ _) K.below)⟩
        · have HV := Lib.hid hv
          by_cases hid : yid < id
          · have hle : decide (id ≤ yid) = false := decide_eq_false (by omega)
            cases d
            all_goals
              go_wp2
              refine wp_region_kin (by kernel_rfl) (by kernel_rfl) ?_
              repeat (go_big_quiet_step ((first | (go_at_call 93; exact Kin.call _ (Nat.le_refl _) (isValidRule_is ⟨id, nm, rk, se, de, am, nd, hs⟩ _ HV.out _)) | (go_at_call 94; exact Kin.call _ (Nat.le_refl _) (HCF.out _ _ (Kin.below _))))))
              refine wpQuiet_nil ?_
              intro K
              go_wp2
            · go_roundw
              case rel => exact ⟨j + 1 + 1, by omega, by go_num, allTo_go HL.out (by rw [ruleStep_succ HX.out HY.out, hv, HD.out, decide_eq_true (show (Rul.id ⟨yid, yn, yr, ys, yd, ya, ynd, yok⟩) < (Rul.id ⟨id, nm, rk, se, de, am, nd, hs⟩) from hid)]; rfl), bth hb (bth (bl1 _ _) K.below)⟩
              case measure => simp [intOf]; omega
            · go_ret
              exact ⟨ret_bool (by rw [rulesB, allTo_not hlt (by rw [ruleStep_succ HX.out HY.out, hv, HD.out, decide_eq_true (show (Rul.id ⟨yid, yn, yr, ys, yd, ya, ynd, yok⟩) < (Rul.id ⟨id, nm, rk, se, de, am, nd, hs⟩) from hid)]; rfl)]; rfl), bth hb (bth (bl1 _ _) K.below)⟩
          · have hle : decide (id ≤ yid) = true := decide_eq_true (by omega)
            go_wp2
            refine wp_region_kin (by kernel_rfl) (by kernel_rfl) ?_
            repeat (go_big_quiet_step ((first | (go_at_call 93; exact Kin.call _ (Nat.le_refl _) (isValidRule_is ⟨id, nm, rk, se, de, am, nd, hs⟩ _ HV.out _)) | (go_at_call 94; exact Kin.call _ (Nat.le_refl _) (HCF.out _ _ (Kin.below _))))))
            refine wpQuiet_nil ?_
            intro K
            go_wp2
            go_ret
            exact ⟨ret_bool (by rw [rulesB, allTo_not hlt (by rw [ruleStep_succ HX.out HY.out, hv, decide_eq_false (show ¬ (Rul.id ⟨yid, yn, yr, ys, yd, ya, ynd, yok⟩) < (Rul.id ⟨id, nm, rk, se, de, am, nd, hs⟩) from by show ¬ (yid < id); omega)]; rfl)]; rfl), bth hb (bth (bl1 _ _) K.below)⟩
    · obtain rfl : k = xs.length := by omega
      go_wp2
      go_ret
      exact ⟨ret_bool (by rw [rulesB, HL.out]; simp; omega), hb⟩
end Go.Proofs.YtpkagohflkcnkaaGreatDoor
