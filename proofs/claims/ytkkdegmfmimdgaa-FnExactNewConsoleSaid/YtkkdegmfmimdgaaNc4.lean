/- Rules, questions, shares and outcomes: counted, copied, compared. -/
import Derived.Test.YtkkdegmfmimdgaaNc3
import Derived.Test.YtkkdegmfmimdgaaNc2
namespace Go.Proofs.Ytkkdegmfmimdgaa
open Go.RowKit Go.G9
theorem szRule_is (id : Int) (nm : ByteArray) (rk : Int) (s d a : Bool) (nd l : Int) (hs : nm.size ≤ maxLen) (h0 : 0 ≤ l) (h1 : l ≤ 1048576) (w : World) :
  Calls Try.prog 60 #[.agg #[.int .i64 id, .string nm, .int .i64 rk, .bool s, .bool d, .bool a, .int .i64 nd], .int .i64 l] w fun e w' => ∃ r : Int, e = .returned (.int .i64 r) ∧ (-1 ≤ r ∧ r ≤ l) ∧ Below w.heap.size w w' := by
  unfold maxLen at hs
  go_enter Try.func60, Try.ntmps60
  go_wp2
  all_goals go_ret
  all_goals exact ⟨_, rfl, by constructor <;> omega, bl1 _ _⟩
theorem eqRule_is (id : Int) (nm : ByteArray) (rk : Int) (s d a : Bool) (nd : Int) (w : World) :
  Calls Try.prog 66 #[.agg #[.int .i64 id, .string nm, .int .i64 rk, .bool s, .bool d, .bool a, .int .i64 nd], .agg #[.int .i64 id, .string nm, .int .i64 rk, .bool s, .bool d, .bool a, .int .i64 nd]] w fun e w' => e = .returned (.bool true) ∧ Below w.heap.size w w' := by
  go_enter Try.func66, Try.ntmps66
  go_wp2
  go_ret
  exact ⟨rfl, bl2 _ _ _⟩
theorem toRule_is (id : Int) (nm : ByteArray) (rk : Int) (s d a : Bool) (nd : Int) (w : World) :
  Calls Try.prog 63 #[.agg #[.int .i64 id, .string nm, .int .i64 rk, .bool s, .bool d, .bool a, .int .i64 nd]] w fun e w' => e = .returned (.agg #[.int .i64 id, .string nm, .int .i64 rk, .bool s, .bool d, .bool a, .int .i64 nd]) ∧ Below w.heap.size w w' := by
  go_enter Try.func63, Try.ntmps63
  go_wp2
  exact bodyPost_ret (v := .agg #[.int .i64 id, .string nm, .int .i64 rk, .bool s, .bool d, .bool a, .int .i64 nd]) (by simp [results, Try.results63, go_sem]) rfl ⟨rfl, by repeat (first | exact Below.refl _ _ | refine Below.alloc ?_ (by first | exact Nat.le_refl _ | (simp <;> omega)) _ | refine Below.setCell ?_ (by first | exact Nat.le_refl _ | (simp <;> omega)) _)⟩
theorem info_Rul : (Try.prog.info? 88).map (fun i => (i.zero, i.size, i.bytes)) = some (some (.agg #[.int .i64 0, .string ⟨#[]⟩, .int .i64 0, .bool false, .bool false, .bool false, .int .i64 0]), 7, 48) := by kernel_rfl
theorem szRuleS_is (A : Option Addr) (c : Nat) (xs : List Rul) (hn : xs.length ≤ maxLen) (l : Int) (h00 : 0 ≤ l) (h01 : l ≤ 1048576) (w : World) (hR : Rds 7 Rul.cells w A xs) :
  Calls Try.prog 21 #[.slice A xs.length c, .int .i64 l] w fun e w' => ∃ r : Int, e = .returned (.int .i64 r) ∧ -1 ≤ r ∧ r ≤ l ∧ (r < 0 ∨ xs.length ≤ 1048576) ∧ Below w.heap.size w w' := by
  unfold maxLen at hn
  by_cases hl : (xs.length : Int) ≤ l
  · have hl' : ¬ (l - (xs.length : Int)) < 0 := by omega
    go_enter Try.func21, Try.ntmps21
    go_wp2
    go_loopw [1, 5] (fun lv i wr => ∃ (k : Nat) (r : Int), k ≤ xs.length ∧ i = .int .i64 k ∧ lv = .int .i64 r ∧ 0 ≤ r ∧ r ≤ l ∧ Below w.heap.size w wr) (fun _ i _ => xs.length - (intOf i).toNat)
    case atStart => exact ⟨0, _, Nat.zero_le _, rfl, rfl, by omega, by omega, Below.refl _ _⟩
    case round =>
      obtain ⟨k, r, hk, rfl, rfl, h0, h1, hb⟩ := hrel
      by_cases hlt : k < xs.length
      · obtain ⟨b, off, x, rfl, hbl, hx, hcx⟩ := hR.at_ hb hlt
        obtain ⟨id, nm, rk, s, d, a, nd, hs⟩ := x
        have f0 := hcx 0 _ rfl
        have f1 := hcx 1 _ rfl
        have f2 := hcx 2 _ rfl
        have f3 := hcx 3 _ rfl
        have f4 := hcx 4 _ rfl
        have f5 := hcx 5 _ rfl
        have f6 := hcx 6 _ rfl
        simp only [Nat.add_zero] at f0
        have g0 := f0 (Kin.self _)
        have g1 := f1 (Kin.self _)
        have g2 := f2 (Kin.self _)
        have g3 := f3 (Kin.self _)
        have g4 := f4 (Kin.self _)
        have g5 := f5 (Kin.self _)
        have g6 := f6 (Kin.self _)
        simp only [Kin.self] at g0
        simp only [Kin.self] at g1
        simp only [Kin.self] at g2
        simp only [Kin.self] at g3
        simp only [Kin.self] at g4
        simp only [Kin.self] at g5
        simp only [Kin.self] at g6
        clear hx hcx
        go_wp2_with fail
        refine (szRule_is _ _ _ _ _ _ _ _ hs h0 (by omega) _).mono ?_
        rintro e w' ⟨r', rfl, ⟨h2, h3⟩, hb'⟩
        by_cases h4 : r' < 0
        · go_wp2
          go_ret
          exact ⟨_, rfl, by omega, by omega, .inl (by omega), bth hb hb'⟩
        · go_wp2
          go_roundw
          case rel => exact ⟨k + 1, r', by omega, by go_num, rfl, by omega, by omega, bth hb hb'⟩
          case measure => simp [intOf]; omega
      · go_wp2
        go_ret
        exact ⟨_, rfl, by omega, by omega, .inr (by omega), hb⟩
  · have hl' : (l - (xs.length : Int)) < 0 := by omega
    go_enter Try.func21, Try.ntmps21
    go_wp2
    go_ret
    exact ⟨_, rfl, by omega, by omega, .inl (by omega), Below.refl _ _⟩
set_option maxHeartbeats 1000000 in
theorem eqRuleS_is (A A' : Option Addr) (c c' : Nat) (xs : List Rul) (hn : xs.length ≤ 1048576) (w : World) (hR : Rds 7 Rul.cells w A xs) (hR' : Rds 7 Rul.cells w A' xs) :
  Calls Try.prog 25 #[.slice A xs.length c, .slice A' xs.length c'] w fun e w' => e = .returned (.bool true) ∧ Below w.heap.size w w' := by
  go_enter Try.func25, Try.ntmps25
  go_wp2
  go_loopw [5] (fun i wr => ∃ (k : Nat), k ≤ xs.length ∧ i = .int .i64 k ∧ Below w.heap.size w wr) (fun i _ => xs.length - (intOf i).toNat)
  case atStart => exact ⟨0, Nat.zero_le _, rfl, Below.refl _ _⟩
  case round =>
    obtain ⟨k, hk, rfl, hb⟩ := hrel
    by_cases hlt : k < xs.length
    · obtain ⟨b, off, x, rfl, hbl, hx, hcx⟩ := hR.at_ hb hlt
      obtain ⟨b', off', x', rfl, _, hx', hcx'⟩ := hR'.at_ hb hlt
      obtain rfl : x = x' := Option.some.inj (hx.symm.trans hx')
      obtain ⟨id, nm, rk, s, d, a, nd, hs⟩ := x
      have f0 := hcx 0 _ rfl
      have f1 := hcx 1 _ rfl
      have f2 := hcx 2 _ rfl
      have f3 := hcx 3 _ rfl
      have f4 := hcx 4 _ rfl
      have f5 := hcx 5 _ rfl
      have f6 := hcx 6 _ rfl
      simp only [Nat.add_zero] at f0
      have e0 := hcx' 0 _ rfl
      have e1 := hcx' 1 _ rfl
      have e2 := hcx' 2 _ rfl
      have e3 := hcx' 3 _ rfl
      have e4 := hcx' 4 _ rfl
      have e5 := hcx' 5 _ rfl
      have e6 := hcx' 6 _ rfl
      simp only [Nat.add_zero] at e0
      clear hx hcx hx' hcx'
      go_wp2
      refine wp_region_kin (by kernel_rfl) (by kernel_rfl) ?_
      repeat (go_big_quiet_step (((go_at_call 66; exact Kin.call _ (Nat.le_refl _) (eqRule_is _ _ _ _ _ _ _ _)))))
      refine wpQuiet_nil ?_
      intro K
      go_wp2
      go_roundw
      case rel => exact ⟨k + 1, by omega, by go_num, bth hb K.below⟩
      case measure => simp [intOf]; omega
    · go_wp2
      go_ret
      exact ⟨rfl, hb⟩
set_option maxHeartbeats 1000000 in
theorem toRuleS_is (A : Option Addr) (c : Nat) (xs : List Rul) (hn : xs.length ≤ 1048576) (w : World) (hR : Rds 7 Rul.cells w A xs) :
  Calls Try.prog 23 #[.slice A xs.length c] w fun e w' => ∃ A', e = .returned (.slice A' xs.length xs.length) ∧ OwnV w.heap.size 88 7 Rul.cells w' (.slice A' xs.length xs.length) xs ∧ Below w.heap.size w w' := by
  obtain ⟨i0, hi, hz0, hz1, hz2⟩ := info_parts info_Rul
  have hmk := run_make_rowN (P := Try.prog) 33 88 i0 _ Try.underlying33 hi hz0 .i64 .i64 xs.length xs.length (Nat.le_refl _) (by rw [hz2]; omega) (by omega)
  rw [hz1] at hmk
  go_enter Try.func23, Try.ntmps23
  go_wp2
  go_loopw [4] (fun i wr => ∃ (k : Nat) (cs : Array Value), k ≤ xs.length ∧ i = .int .i64 k ∧ Blk wr w.heap.size 88 cs ∧ cs.size = xs.length * 7 ∧ Filled 7 Rul.cells xs k cs ∧ Below w.heap.size w wr) (fun i _ => xs.length - (intOf i).toNat)
  case atStart => exact ⟨0, _, Nat.zero_le _, rfl, Blk.new _ _ _, by simp [madeCells], Filled.zero, bl1 _ _⟩
  case round =>
    obtain ⟨k, cs, hk, rfl, hB, hsz, hF, hb⟩ := hrel
    have HSZ := Lib.hid hsz; clear hsz
    by_cases hlt : k < xs.length
    · obtain ⟨b, off, x, rfl, hbl, hx, hcx⟩ := hR.at_ hb hlt
      obtain ⟨id, nm, rk, s, d, a, nd, hs⟩ := x
      have f0 := hcx 0 _ rfl
      have f1 := hcx 1 _ rfl
      have f2 := hcx 2 _ rfl
      have f3 := hcx 3 _ rfl
      have f4 := hcx 4 _ rfl
      have f5 := hcx 5 _ rfl
      have f6 := hcx 6 _ rfl
      simp only [Nat.add_zero] at f0
      have g0 := f0 (Kin.self _)
      have g1 := f1 (Kin.self _)
      have g2 := f2 (Kin.self _)
      have g3 := f3 (Kin.self _)
      have g4 := f4 (Kin.self _)
      have g5 := f5 (Kin.self _)
      have g6 := f6 (Kin.self _)
      simp only [Kin.self] at g0
      simp only [Kin.self] at g1
      simp only [Kin.self] at g2
      simp only [Kin.self] at g3
      simp only [Kin.self] at g4
      simp only [Kin.self] at g5
      simp only [Kin.self] at g6
      clear hcx
      have HX := Lib.hid hx; clear hx
      go_wp2_with fail
      refine (toRule_is _ _ _ _ _ _ _ _).mono ?_
      rintro e w' ⟨rfl, hb'⟩
      have hB' := hB.below hb' hB.lt
      obtain ⟨v0, c0⟩ := hB'.some_ (k * 7) (by rw [HSZ.out]; omega)
      have z0 := hB'.frozen (k * 7)
      obtain ⟨v1, c1⟩ := hB'.some_ (k * 7 + 1) (by rw [HSZ.out]; omega)
      have z1 := hB'.frozen (k * 7 + 1)
      obtain ⟨v2, c2⟩ := hB'.some_ (k * 7 + 2) (by rw [HSZ.out]; omega)
      have z2 := hB'.frozen (k * 7 + 2)
      obtain ⟨v3, c3⟩ := hB'.some_ (k * 7 + 3) (by rw [HSZ.out]; omega)
      have z3 := hB'.frozen (k * 7 + 3)
      obtain ⟨v4, c4⟩ := hB'.some_ (k * 7 + 4) (by rw [HSZ.out]; omega)
      have z4 := hB'.frozen (k * 7 + 4)
      obtain ⟨v5, c5⟩ := hB'.some_ (k * 7 + 5) (by rw [HSZ.out]; omega)
      have z5 := hB'.frozen (k * 7 + 5)
      obtain ⟨v6, c6⟩ := hB'.some_ (k * 7 + 6) (by rw [HSZ.out]; omega)
      have z6 := hB'.frozen (k * 7 + 6)
      go_wp2
      go_roundw
      case rel => exact ⟨k + 1, setMany cs (k * 7) (Rul.cells ⟨id, nm, rk, s, d, a, nd, hs⟩), by omega, by go_num, hB'.setMany (k * 7) (Rul.cells ⟨id, nm, rk, s, d, a, nd, hs⟩), by rw [size_setMany, HSZ.out], hF.put HX.out (by rw [HSZ.out]; simp [Rul.cells]; omega), (((((((bth hb hb').setCell (Nat.le_refl _) _).setCell (Nat.le_refl _) _).setCell (Nat.le_refl _) _).setCell (Nat.le_refl _) _).setCell (Nat.le_refl _) _).setCell (Nat.le_refl _) _).setCell (Nat.le_refl _) _⟩
      case measure => simp [intOf]; omega
    · obtain rfl : k = xs.length := by omega
      go_wp2
      go_ret
      exact ⟨_, rfl, OwnV.filled hB (Nat.le_refl _) HSZ.out (by unfold maxLen; omega) hF.all, hb⟩
theorem eqQuestion_is (r m : Int) (s : Bool) (w : World) :
  Calls Try.prog 92 #[.agg #[.int .i64 r, .int .i64 m, .bool s], .agg #[.int .i64 r, .int .i64 m, .bool s]] w fun e w' => e = .returned (.bool true) ∧ Below w.heap.size w w' := by
  go_enter Try.func92, Try.ntmps92
  go_wp2
  go_ret
  exact ⟨rfl, bl2 _ _ _⟩
theorem toQuestion_is (r m : Int) (s : Bool) (w : World) :
  Calls Try.prog 80 #[.agg #[.int .i64 r, .int .i64 m, .bool s]] w fun e w' => e = .returned (.agg #[.int .i64 r, .int .i64 m, .bool s]) ∧ Below w.heap.size w w' := by
  go_enter Try.func80, Try.ntmps80
  go_wp2
  exact bodyPost_ret (v := .agg #[.int .i64 r, .int .i64 m, .bool s]) (by simp [results, Try.results80, go_sem]) rfl ⟨rfl, by repeat (first | exact Below.refl _ _ | refine Below.alloc ?_ (by first | exact Nat.le_refl _ | (simp <;> omega)) _ | refine Below.setCell ?_ (by first | exact Nat.le_refl _ | (simp <;> omega)) _)⟩
theorem eqShare_is (m t s : Int) (w : World) :
  Calls Try.prog 112 #[.agg #[.int .i64 m, .int .i64 t, .int .i64 s], .agg #[.int .i64 m, .int .i64 t, .int .i64 s]] w fun e w' => e = .returned (.bool true) ∧ Below w.heap.size w w' := by
  go_enter Try.func112, Try.ntmps112
  go_wp2
  go_ret
  exact ⟨rfl, bl2 _ _ _⟩
theorem toShare_is (m t s : Int) (w : World) :
  Calls Try.prog 108 #[.agg #[.int .i64 m, .int .i64 t, .int .i64 s]] w fun e w' => e = .returned (.agg #[.int .i64 m, .int .i64 t, .int .i64 s]) ∧ Below w.heap.size w w' := by
  go_enter Try.func108, Try.ntmps108
  go_wp2
  exact bodyPost_ret (v := .agg #[.int .i64 m, .int .i64 t, .int .i64 s]) (by simp [results, Try.results108, go_sem]) rfl ⟨rfl, by repeat (first | exact Below.refl _ _ | refine Below.alloc ?_ (by first | exact Nat.le_refl _ | (simp <;> omega)) _ | refine Below.setCell ?_ (by first | exact Nat.le_refl _ | (simp <;> omega)) _)⟩
theorem eqOutcome_is (r m : Int) (s : Bool) (w : World) :
  Calls Try.prog 94 #[.agg #[.int .i64 r, .int .i64 m, .bool s], .agg #[.int .i64 r, .int .i64 m, .bool s]] w fun e w' => e = .returned (.bool true) ∧ Below w.heap.size w w' := by
  go_enter Try.func94, Try.ntmps94
  go_wp2
  go_ret
  exact ⟨rfl, bl2 _ _ _⟩
theorem toOutcome_is (r m : Int) (s : Bool) (w : World) :
  Calls Try.prog 83 #[.agg #[.int .i64 r, .int .i64 m, .bool s]] w fun e w' => e = .returned (.agg #[.int .i64 r, .int .i64 m, .bool s]) ∧ Below w.heap.size w w' := by
  go_enter Try.func83, Try.ntmps83
  go_wp2
  exact bodyPost_ret (v := .agg #[.int .i64 r, .int .i64 m, .bool s]) (by simp [results, Try.results83, go_sem]) rfl ⟨rfl, by repeat (first | exact Below.refl _ _ | refine Below.alloc ?_ (by first | exact Nat.le_refl _ | (simp <;> omega)) _ | refine Below.setCell ?_ (by first | exact Nat.le_refl _ | (simp <;> omega)) _)⟩
theorem info_Que : (Try.prog.info? 90).map (fun i => (i.zero, i.size, i.bytes)) = some (some (.agg #[.int .i64 0, .int .i64 0, .bool false]), 3, 24) := by kernel_rfl
theorem info_Sha : (Try.prog.info? 114).map (fun i => (i.zero, i.size, i.bytes)) = some (some (.agg #[.int .i64 0, .int .i64 0, .int .i64 0]), 3, 24) := by kernel_rfl
theorem info_Out : (Try.prog.info? 81).map (fun i => (i.zero, i.size, i.bytes)) = some (some (.agg #[.int .i64 0, .int .i64 0, .bool false]), 3, 24) := by kernel_rfl
set_option maxHeartbeats 1000000 in
theorem eqQuestionS_is (A A' : Option Addr) (c c' : Nat) (xs : List Que) (hn : xs.length ≤ 1048576) (w : World) (hR : Rds 3 Que.cells w A xs) (hR' : Rds 3 Que.cells w A' xs) :
  Calls Try.prog 53 #[.slice A xs.length c, .slice A' xs.length c'] w fun e w' => e = .returned (.bool true) ∧ Below w.heap.size w w' := by
  go_enter Try.func53, Try.ntmps53
  go_wp2
  go_loopw [5] (fun i wr => ∃ (k : Nat), k ≤ xs.length ∧ i = .int .i64 k ∧ Below w.heap.size w wr) (fun i _ => xs.length - (intOf i).toNat)
  case atStart => exact ⟨0, Nat.zero_le _, rfl, Below.refl _ _⟩
  case round =>
    obtain ⟨k, hk, rfl, hb⟩ := hrel
    by_cases hlt : k < xs.length
    · obtain ⟨b, off, x, rfl, hbl, hx, hcx⟩ := hR.at_ hb hlt
      obtain ⟨b', off', x', rfl, _, hx', hcx'⟩ := hR'.at_ hb hlt
      obtain rfl : x = x' := Option.some.inj (hx.symm.trans hx')
      obtain ⟨r, m, s⟩ := x
      have f0 := hcx 0 _ rfl
      have f1 := hcx 1 _ rfl
      have f2 := hcx 2 _ rfl
      simp only [Nat.add_zero] at f0
      have e0 := hcx' 0 _ rfl
      have e1 := hcx' 1 _ rfl
      have e2 := hcx' 2 _ rfl
      simp only [Nat.add_zero] at e0
      clear hx hcx hx' hcx'
      go_wp2
      refine wp_region_kin (by kernel_rfl) (by kernel_rfl) ?_
      repeat (go_big_quiet_step (((go_at_call 92; exact Kin.call _ (Nat.le_refl _) (eqQuestion_is _ _ _ _)))))
      refine wpQuiet_nil ?_
      intro K
      go_wp2
      go_roundw
      case rel => exact ⟨k + 1, by omega, by go_num, bth hb K.below⟩
      case measure => simp [intOf]; omega
    · go_wp2
      go_ret
      exact ⟨rfl, hb⟩
set_option maxHeartbeats 1000000 in
theorem toQuestionS_is (A : Option Addr) (c : Nat) (xs : List Que) (hn : xs.length ≤ 1048576) (w : World) (hR : Rds 3 Que.cells w A xs) :
  Calls Try.prog 43 #[.slice A xs.length c] w fun e w' => ∃ A', e = .returned (.slice A' xs.length xs.length) ∧ OwnV w.heap.size 90 3 Que.cells w' (.slice A' xs.length xs.length) xs ∧ Below w.heap.size w w' := by
  obtain ⟨i0, hi, hz0, hz1, hz2⟩ := info_parts info_Que
  have hmk := run_make_rowN (P := Try.prog) 34 90 i0 _ Try.underlying34 hi hz0 .i64 .i64 xs.length xs.length (Nat.le_refl _) (by rw [hz2]; omega) (by omega)
  rw [hz1] at hmk
  go_enter Try.func43, Try.ntmps43
  go_wp2
  go_loopw [4] (fun i wr => ∃ (k : Nat) (cs : Array Value), k ≤ xs.length ∧ i = .int .i64 k ∧ Blk wr w.heap.size 90 cs ∧ cs.size = xs.length * 3 ∧ Filled 3 Que.cells xs k cs ∧ Below w.heap.size w wr) (fun i _ => xs.length - (intOf i).toNat)
  case atStart => exact ⟨0, _, Nat.zero_le _, rfl, Blk.new _ _ _, by simp [madeCells], Filled.zero, bl1 _ _⟩
  case round =>
    obtain ⟨k, cs, hk, rfl, hB, hsz, hF, hb⟩ := hrel
    have HSZ := Lib.hid hsz; clear hsz
    by_cases hlt : k < xs.length
    · obtain ⟨b, off, x, rfl, hbl, hx, hcx⟩ := hR.at_ hb hlt
      obtain ⟨r, m, s⟩ := x
      have f0 := hcx 0 _ rfl
      have f1 := hcx 1 _ rfl
      have f2 := hcx 2 _ rfl
      simp only [Nat.add_zero] at f0
      have g0 := f0 (Kin.self _)
      have g1 := f1 (Kin.self _)
      have g2 := f2 (Kin.self _)
      simp only [Kin.self] at g0
      simp only [Kin.self] at g1
      simp only [Kin.self] at g2
      clear hcx
      have HX := Lib.hid hx; clear hx
      go_wp2_with fail
      refine (toQuestion_is _ _ _ _).mono ?_
      rintro e w' ⟨rfl, hb'⟩
      have hB' := hB.below hb' hB.lt
      obtain ⟨v0, c0⟩ := hB'.some_ (k * 3) (by rw [HSZ.out]; omega)
      have z0 := hB'.frozen (k * 3)
      obtain ⟨v1, c1⟩ := hB'.some_ (k * 3 + 1) (by rw [HSZ.out]; omega)
      have z1 := hB'.frozen (k * 3 + 1)
      obtain ⟨v2, c2⟩ := hB'.some_ (k * 3 + 2) (by rw [HSZ.out]; omega)
      have z2 := hB'.frozen (k * 3 + 2)
      go_wp2
      go_roundw
      case rel => exact ⟨k + 1, setMany cs (k * 3) (Que.cells ⟨r, m, s⟩), by omega, by go_num, hB'.setMany (k * 3) (Que.cells ⟨r, m, s⟩), by rw [size_setMany, HSZ.out], hF.put HX.out (by rw [HSZ.out]; simp [Que.cells]; omega), (((bth hb hb').setCell (Nat.le_refl _) _).setCell (Nat.le_refl _) _).setCell (Nat.le_refl _) _⟩
      case measure => simp [intOf]; omega
    · obtain rfl : k = xs.length := by omega
      go_wp2
      go_ret
      exact ⟨_, rfl, OwnV.filled hB (Nat.le_refl _) HSZ.out (by unfold maxLen; omega) hF.all, hb⟩
set_option maxHeartbeats 1000000 in
theorem eqShareS_is (A A' : Option Addr) (c c' : Nat) (xs : List Sha) (hn : xs.length ≤ 1048576) (w : World) (hR : Rds 3 Sha.cells w A xs) (hR' : Rds 3 Sha.cells w A' xs) :
  Calls Try.prog 93 #[.slice A xs.length c, .slice A' xs.length c'] w fun e w' => e = .returned (.bool true) ∧ Below w.heap.size w w' := by
  go_enter Try.func93, Try.ntmps93
  go_wp2
  go_loopw [5] (fun i wr => ∃ (k : Nat), k ≤ xs.length ∧ i = .int .i64 k ∧ Below w.heap.size w wr) (fun i _ => xs.length - (intOf i).toNat)
  case atStart => exact ⟨0, Nat.zero_le _, rfl, Below.refl _ _⟩
  case round =>
    obtain ⟨k, hk, rfl, hb⟩ := hrel
    by_cases hlt : k < xs.length
    · obtain ⟨b, off, x, rfl, hbl, hx, hcx⟩ := hR.at_ hb hlt
      obtain ⟨b', off', x', rfl, _, hx', hcx'⟩ := hR'.at_ hb hlt
      obtain rfl : x = x' := Option.some.inj (hx.symm.trans hx')
      obtain ⟨m, t, s⟩ := x
      have f0 := hcx 0 _ rfl
      have f1 := hcx 1 _ rfl
      have f2 := hcx 2 _ rfl
      simp only [Nat.add_zero] at f0
      have e0 := hcx' 0 _ rfl
      have e1 := hcx' 1 _ rfl
      have e2 := hcx' 2 _ rfl
      simp only [Nat.add_zero] at e0
      clear hx hcx hx' hcx'
      go_wp2
      refine wp_region_kin (by kernel_rfl) (by kernel_rfl) ?_
      repeat (go_big_quiet_step (((go_at_call 112; exact Kin.call _ (Nat.le_refl _) (eqShare_is _ _ _ _)))))
      refine wpQuiet_nil ?_
      intro K
      go_wp2
      go_roundw
      case rel => exact ⟨k + 1, by omega, by go_num, bth hb K.below⟩
      case measure => simp [intOf]; omega
    · go_wp2
      go_ret
      exact ⟨rfl, hb⟩
set_option maxHeartbeats 1000000 in
theorem toShareS_is (A : Option Addr) (c : Nat) (xs : List Sha) (hn : xs.length ≤ 1048576) (w : World) (hR : Rds 3 Sha.cells w A xs) :
  Calls Try.prog 82 #[.slice A xs.length c] w fun e w' => ∃ A', e = .returned (.slice A' xs.length xs.length) ∧ OwnV w.heap.size 114 3 Sha.cells w' (.slice A' xs.length xs.length) xs ∧ Below w.heap.size w w' := by
  obtain ⟨i0, hi, hz0, hz1, hz2⟩ := info_parts info_Sha
  have hmk := run_make_rowN (P := Try.prog) 35 114 i0 _ Try.underlying35 hi hz0 .i64 .i64 xs.length xs.length (Nat.le_refl _) (by rw [hz2]; omega) (by omega)
  rw [hz1] at hmk
  go_enter Try.func82, Try.ntmps82
  go_wp2
  go_loopw [4] (fun i wr => ∃ (k : Nat) (cs : Array Value), k ≤ xs.length ∧ i = .int .i64 k ∧ Blk wr w.heap.size 114 cs ∧ cs.size = xs.length * 3 ∧ Filled 3 Sha.cells xs k cs ∧ Below w.heap.size w wr) (fun i _ => xs.length - (intOf i).toNat)
  case atStart => exact ⟨0, _, Nat.zero_le _, rfl, Blk.new _ _ _, by simp [madeCells], Filled.zero, bl1 _ _⟩
  case round =>
    obtain ⟨k, cs, hk, rfl, hB, hsz, hF, hb⟩ := hrel
    have HSZ := Lib.hid hsz; clear hsz
    by_cases hlt : k < xs.length
    · obtain ⟨b, off, x, rfl, hbl, hx, hcx⟩ := hR.at_ hb hlt
      obtain ⟨m, t, s⟩ := x
      have f0 := hcx 0 _ rfl
      have f1 := hcx 1 _ rfl
      have f2 := hcx 2 _ rfl
      simp only [Nat.add_zero] at f0
      have g0 := f0 (Kin.self _)
      have g1 := f1 (Kin.self _)
      have g2 := f2 (Kin.self _)
      simp only [Kin.self] at g0
      simp only [Kin.self] at g1
      simp only [Kin.self] at g2
      clear hcx
      have HX := Lib.hid hx; clear hx
      go_wp2_with fail
      refine (toShare_is _ _ _ _).mono ?_
      rintro e w' ⟨rfl, hb'⟩
      have hB' := hB.below hb' hB.lt
      obtain ⟨v0, c0⟩ := hB'.some_ (k * 3) (by rw [HSZ.out]; omega)
      have z0 := hB'.frozen (k * 3)
      obtain ⟨v1, c1⟩ := hB'.some_ (k * 3 + 1) (by rw [HSZ.out]; omega)
      have z1 := hB'.frozen (k * 3 + 1)
      obtain ⟨v2, c2⟩ := hB'.some_ (k * 3 + 2) (by rw [HSZ.out]; omega)
      have z2 := hB'.frozen (k * 3 + 2)
      go_wp2
      go_roundw
      case rel => exact ⟨k + 1, setMany cs (k * 3) (Sha.cells ⟨m, t, s⟩), by omega, by go_num, hB'.setMany (k * 3) (Sha.cells ⟨m, t, s⟩), by rw [size_setMany, HSZ.out], hF.put HX.out (by rw [HSZ.out]; simp [Sha.cells]; omega), (((bth hb hb').setCell (Nat.le_refl _) _).setCell (Nat.le_refl _) _).setCell (Nat.le_refl _) _⟩
      case measure => simp [intOf]; omega
    · obtain rfl : k = xs.length := by omega
      go_wp2
      go_ret
      exact ⟨_, rfl, OwnV.filled hB (Nat.le_refl _) HSZ.out (by unfold maxLen; omega) hF.all, hb⟩
set_option maxHeartbeats 1000000 in
theorem eqOutcomeS_is (A A' : Option Addr) (c c' : Nat) (xs : List Out) (hn : xs.length ≤ 1048576) (w : World) (hR : Rds 3 Out.cells w A xs) (hR' : Rds 3 Out.cells w A' xs) :
  Calls Try.prog 55 #[.slice A xs.length c, .slice A' xs.length c'] w fun e w' => e = .returned (.bool true) ∧ Below w.heap.size w w' := by
  go_enter Try.func55, Try.ntmps55
  go_wp2
  go_loopw [5] (fun i wr => ∃ (k : Nat), k ≤ xs.length ∧ i = .int .i64 k ∧ Below w.heap.size w wr) (fun i _ => xs.length - (intOf i).toNat)
  case atStart => exact ⟨0, Nat.zero_le _, rfl, Below.refl _ _⟩
  case round =>
    obtain ⟨k, hk, rfl, hb⟩ := hrel
    by_cases hlt : k < xs.length
    · obtain ⟨b, off, x, rfl, hbl, hx, hcx⟩ := hR.at_ hb hlt
      obtain ⟨b', off', x', rfl, _, hx', hcx'⟩ := hR'.at_ hb hlt
      obtain rfl : x = x' := Option.some.inj (hx.symm.trans hx')
      obtain ⟨r, m, s⟩ := x
      have f0 := hcx 0 _ rfl
      have f1 := hcx 1 _ rfl
      have f2 := hcx 2 _ rfl
      simp only [Nat.add_zero] at f0
      have e0 := hcx' 0 _ rfl
      have e1 := hcx' 1 _ rfl
      have e2 := hcx' 2 _ rfl
      simp only [Nat.add_zero] at e0
      clear hx hcx hx' hcx'
      go_wp2
      refine wp_region_kin (by kernel_rfl) (by kernel_rfl) ?_
      repeat (go_big_quiet_step (((go_at_call 94; exact Kin.call _ (Nat.le_refl _) (eqOutcome_is _ _ _ _)))))
      refine wpQuiet_nil ?_
      intro K
      go_wp2
      go_roundw
      case rel => exact ⟨k + 1, by omega, by go_num, bth hb K.below⟩
      case measure => simp [intOf]; omega
    · go_wp2
      go_ret
      exact ⟨rfl, hb⟩
set_option maxHeartbeats 1000000 in
theorem toOutcomeS_is (A : Option Addr) (c : Nat) (xs : List Out) (hn : xs.length ≤ 1048576) (w : World) (hR : Rds 3 Out.cells w A xs) :
  Calls Try.prog 45 #[.slice A xs.length c] w fun e w' => ∃ A', e = .returned (.slice A' xs.length xs.length) ∧ OwnV w.heap.size 81 3 Out.cells w' (.slice A' xs.length xs.length) xs ∧ Below w.heap.size w w' := by
  obtain ⟨i0, hi, hz0, hz1, hz2⟩ := info_parts info_Out
  have hmk := run_make_rowN (P := Try.prog) 38 81 i0 _ Try.underlying38 hi hz0 .i64 .i64 xs.length xs.length (Nat.le_refl _) (by rw [hz2]; omega) (by omega)
  rw [hz1] at hmk
  go_enter Try.func45, Try.ntmps45
  go_wp2
  go_loopw [4] (fun i wr => ∃ (k : Nat) (cs : Array Value), k ≤ xs.length ∧ i = .int .i64 k ∧ Blk wr w.heap.size 81 cs ∧ cs.size = xs.length * 3 ∧ Filled 3 Out.cells xs k cs ∧ Below w.heap.size w wr) (fun i _ => xs.length - (intOf i).toNat)
  case atStart => exact ⟨0, _, Nat.zero_le _, rfl, Blk.new _ _ _, by simp [madeCells], Filled.zero, bl1 _ _⟩
  case round =>
    obtain ⟨k, cs, hk, rfl, hB, hsz, hF, hb⟩ := hrel
    have HSZ := Lib.hid hsz; clear hsz
    by_cases hlt : k < xs.length
    · obtain ⟨b, off, x, rfl, hbl, hx, hcx⟩ := hR.at_ hb hlt
      obtain ⟨r, m, s⟩ := x
      have f0 := hcx 0 _ rfl
      have f1 := hcx 1 _ rfl
      have f2 := hcx 2 _ rfl
      simp only [Nat.add_zero] at f0
      have g0 := f0 (Kin.self _)
      have g1 := f1 (Kin.self _)
      have g2 := f2 (Kin.self _)
      simp only [Kin.self] at g0
      simp only [Kin.self] at g1
      simp only [Kin.self] at g2
      clear hcx
      have HX := Lib.hid hx; clear hx
      go_wp2_with fail
      refine (toOutcome_is _ _ _ _).mono ?_
      rintro e w' ⟨rfl, hb'⟩
      have hB' := hB.below hb' hB.lt
      obtain ⟨v0, c0⟩ := hB'.some_ (k * 3) (by rw [HSZ.out]; omega)
      have z0 := hB'.frozen (k * 3)
      obtain ⟨v1, c1⟩ := hB'.some_ (k * 3 + 1) (by rw [HSZ.out]; omega)
      have z1 := hB'.frozen (k * 3 + 1)
      obtain ⟨v2, c2⟩ := hB'.some_ (k * 3 + 2) (by rw [HSZ.out]; omega)
      have z2 := hB'.frozen (k * 3 + 2)
      go_wp2
      go_roundw
      case rel => exact ⟨k + 1, setMany cs (k * 3) (Out.cells ⟨r, m, s⟩), by omega, by go_num, hB'.setMany (k * 3) (Out.cells ⟨r, m, s⟩), by rw [size_setMany, HSZ.out], hF.put HX.out (by rw [HSZ.out]; simp [Out.cells]; omega), (((bth hb hb').setCell (Nat.le_refl _) _).setCell (Nat.le_refl _) _).setCell (Nat.le_refl _) _⟩
      case measure => simp [intOf]; omega
    · obtain rfl : k = xs.length := by omega
      go_wp2
      go_ret
      exact ⟨_, rfl, OwnV.filled hB (Nat.le_refl _) HSZ.out (by unfold maxLen; omega) hF.all, hb⟩
theorem szQuestionS_is (A : Option Addr) (c : Nat) (xs : List Que) (hn : xs.length ≤ maxLen) (l : Int) (h00 : 0 ≤ l) (h01 : l ≤ 1048576) (w : World) :
  Calls Try.prog 39 #[.slice A xs.length c, .int .i64 l] w fun e w' => ∃ r : Int, e = .returned (.int .i64 r) ∧ -1 ≤ r ∧ r ≤ l ∧ (r < 0 ∨ xs.length ≤ 1048576) ∧ Below w.heap.size w w' := by
  unfold maxLen at hn
  by_cases hl : (xs.length : Int) ≤ l
  · have hl' : ¬ (l - (xs.length : Int)) < 0 := by omega
    go_enter Try.func39, Try.ntmps39
    go_wp2
    go_ret
    exact ⟨_, rfl, by omega, by omega, .inr (by omega), Below.refl _ _⟩
  · have hl' : (l - (xs.length : Int)) < 0 := by omega
    go_enter Try.func39, Try.ntmps39
    go_wp2
    go_ret
    exact ⟨_, rfl, by omega, by omega, .inl (by omega), Below.refl _ _⟩
theorem szShareS_is (A : Option Addr) (c : Nat) (xs : List Sha) (hn : xs.length ≤ maxLen) (l : Int) (h00 : 0 ≤ l) (h01 : l ≤ 1048576) (w : World) :
  Calls Try.prog 77 #[.slice A xs.length c, .int .i64 l] w fun e w' => ∃ r : Int, e = .returned (.int .i64 r) ∧ -1 ≤ r ∧ r ≤ l ∧ (r < 0 ∨ xs.length ≤ 1048576) ∧ Below w.heap.size w w' := by
  unfold maxLen at hn
  by_cases hl : (xs.length : Int) ≤ l
  · have hl' : ¬ (l - (xs.length : Int)) < 0 := by omega
    go_enter Try.func77, Try.ntmps77
    go_wp2
    go_ret
    exact ⟨_, rfl, by omega, by omega, .inr (by omega), Below.refl _ _⟩
  · have hl' : (l - (xs.length : Int)) < 0 := by omega
    go_enter Try.func77, Try.ntmps77
    go_wp2
    go_ret
    exact ⟨_, rfl, by omega, by omega, .inl (by omega), Below.refl _ _⟩
theorem szOutcomeS_is (A : Option Addr) (c : Nat) (xs : List Out) (hn : xs.length ≤ maxLen) (l : Int) (h00 : 0 ≤ l) (h01 : l ≤ 1048576) (w : World) :
  Calls Try.prog 41 #[.slice A xs.length c, .int .i64 l] w fun e w' => ∃ r : Int, e = .returned (.int .i64 r) ∧ -1 ≤ r ∧ r ≤ l ∧ (r < 0 ∨ xs.length ≤ 1048576) ∧ Below w.heap.size w w' := by
  unfold maxLen at hn
  by_cases hl : (xs.length : Int) ≤ l
  · have hl' : ¬ (l - (xs.length : Int)) < 0 := by omega
    go_enter Try.func41, Try.ntmps41
    go_wp2
    go_ret
    exact ⟨_, rfl, by omega, by omega, .inr (by omega), Below.refl _ _⟩
  · have hl' : (l - (xs.length : Int)) < 0 := by omega
    go_enter Try.func41, Try.ntmps41
    go_wp2
    go_ret
    exact ⟨_, rfl, by omega, by omega, .inl (by omega), Below.refl _ _⟩
end Go.Proofs.Ytkkdegmfmimdgaa
/- Marks in slices of questions, shares and outcomes. -/
namespace Go.Proofs.Ytkkdegmfmimdgaa
open Go.RowKit Go.G9
def patShare (q : Int) : List Value := [.int .i64 (q), .int .i64 (q + 1), .int .i64 (q + 1 + 1)]
theorem patShare_len (q : Int) : (patShare q).length = 3 := rfl
set_option maxHeartbeats 4000000 in
set_option maxRecDepth 100000 in
theorem mkShareS_is (B : Nat) (A : Option Addr) (c : Nat) (xs : List Sha) (hn : xs.length ≤ 1048576) (m : Int) (h0 : 0 < m) (h1 : m ≤ 100000000) (w : World) (hO : OwnV B 114 3 Sha.cells w (.slice A xs.length c) xs) :
  Calls Try.prog 101 #[.slice A xs.length c, .int .i64 m] w fun e w' => e = .returned (.int .i64 (m + 3 * xs.length)) ∧ OwnV B 114 3 patShare w' (.slice A xs.length c) (mks m 3 xs.length) ∧ w.grownBy w' (Value.slice A xs.length c).ownBlock := by
  by_cases hz : xs.length = 0
  · have hx0 : xs = [] := List.length_eq_zero_iff.1 hz
    subst hx0
    clear hz
    have hO' : OwnV B 114 3 patShare w (.slice A 0 c) (mks m 3 0) := hO.empty
    have HO := Lib.hid hO'; clear hO hO'
    go_enter Try.func101, Try.ntmps101
    go_wp2
    go_loopw [1, 5] (fun mv i wr => mv = .int .i64 m ∧ i = .int .i64 0 ∧ wr = w) (fun _ _ _ => 0)
    case atStart => exact ⟨rfl, rfl, rfl⟩
    case round =>
      obtain ⟨rfl, rfl, rfl⟩ := hrel
      go_wp2
      go_ret
      exact ⟨by simp, by simpa using HO.out, grown_refl _ _⟩
  obtain ⟨g, cap, cs0, hve, hB, hbk, hnc, hcm, hcs⟩ := hO.block (by omega)
  injection hve with hve1 _ hve2
  subst hve1 hve2
  have HC0 := Lib.hid hcs; have HB0 := Lib.hid hbk
  clear hcs hbk hO hz
  go_enter Try.func101, Try.ntmps101
  go_wp2
  go_loopw [1, 5] (fun mv i wr => ∃ (k : Nat) (q : Int) (cs : Array Value), k ≤ xs.length ∧ i = .int .i64 k ∧ mv = .int .i64 q ∧ q = m + 3 * k ∧ Blk wr g 114 cs ∧ cs.size = c * 3 ∧ Filled 3 patShare (mks m 3 xs.length) k cs ∧ w.grownBy wr (some g)) (fun _ i _ => xs.length - (intOf i).toNat)
  case atStart => exact ⟨0, m, cs0, Nat.zero_le _, rfl, rfl, by simp, HB0.out, HC0.out, Filled.zero, grown_refl _ _⟩
  case round =>
    obtain ⟨k, q, cs, hk, rfl, rfl, hq, hBK, hsz, hF, hg⟩ := hrel
    have hq1 : 0 < q := by omega
    have hq2 : q ≤ 200000000 := by omega
    have HQ := Lib.hid hq; have HSZ := Lib.hid hsz; have HF := Lib.hid hF; have HG := Lib.hid hg
    clear hq hsz hF hg
    by_cases hlt : k < xs.length
    · have hbl := hBK.lt
      have hx : (mks m 3 xs.length)[k]? = some q := by rw [mks_get hlt, HQ.out]
      have HX := Lib.hid hx; clear hx
      obtain ⟨v0, c0⟩ := hBK.some_ (k * 3) (by have hh := HSZ.out; omega)
      have z0 := hBK.frozen (k * 3)
      obtain ⟨v1, c1⟩ := hBK.some_ (k * 3 + 1) (by have hh := HSZ.out; omega)
      have z1 := hBK.frozen (k * 3 + 1)
      obtain ⟨v2, c2⟩ := hBK.some_ (k * 3 + 2) (by have hh := HSZ.out; omega)
      have z2 := hBK.frozen (k * 3 + 2)
      go_wp2
      go_roundw
      case rel =>
        have hfin : Go.G9.setMany cs (k * 3) [.int .i64 (q), .int .i64 (q + 1), .int .i64 (q + 1 + 1)] = Go.G9.setMany cs (k * 3) (patShare q) := by first | exact Go.G9.setMany_one cs _ _ _ | rfl
        refine ⟨k + 1, _, Go.G9.setMany cs (k * 3) [.int .i64 (q), .int .i64 (q + 1), .int .i64 (q + 1 + 1)], by omega, by go_num, rfl, by have := HQ.out; omega, ?_, ?_, ?_, (grown_set (grown_set (grown_set HG.out _) _) _)⟩
        · exact Blk.setMany (k * 3) [.int .i64 (q), .int .i64 (q + 1), .int .i64 (q + 1 + 1)] hBK
        · rw [hfin, size_setMany, HSZ.out]
        · rw [hfin]; have h := HF.out.put HX.out (by rw [HSZ.out, patShare_len]; omega); exact h
      case measure => simp [intOf]; omega
    · obtain rfl : k = xs.length := by omega
      go_wp2
      go_ret
      refine ⟨ret_int (by have := HQ.out; omega), ?_, HG.out⟩
      have h := OwnV.ofBlk (B := B) (xs := mks m 3 xs.length) hBK hB (by rw [mks_len]; exact hnc) hcm HSZ.out (fun i x hx => HF.out i x (by have := (List.getElem?_eq_some_iff.1 hx).1; rwa [mks_len] at this) hx)
      rw [mks_len] at h
      exact h
set_option maxHeartbeats 4000000 in
set_option maxRecDepth 100000 in
theorem hdShareS_is (A : Option Addr) (c n : Nat) (hn : n ≤ 1048576) (m : Int) (h0 : 0 < m) (h1 : m ≤ 100000000) (w : World) (hR : Rds 3 patShare w A (mks m 3 n)) :
  Calls Try.prog 102 #[.slice A n c, .int .i64 m] w fun e w' => e = .returned (.int .i64 (m + 3 * n)) ∧ Below w.heap.size w w' := by
  go_enter Try.func102, Try.ntmps102
  go_wp2
  go_loopw [1, 5] (fun mv i wr => ∃ (k : Nat) (q : Int), k ≤ n ∧ i = .int .i64 k ∧ mv = .int .i64 q ∧ q = m + 3 * k ∧ Below w.heap.size w wr) (fun _ i _ => n - (intOf i).toNat)
  case atStart => exact ⟨0, m, Nat.zero_le _, rfl, rfl, by simp, Below.refl _ _⟩
  case round =>
    obtain ⟨k, q, hk, rfl, rfl, hq, hb⟩ := hrel
    have hq1 : 0 < q := by omega
    have hq2 : q ≤ 200000000 := by omega
    have HQ := Lib.hid hq; clear hq
    by_cases hlt : k < n
    · obtain ⟨b, off, x, rfl, hbl, hx, hcx⟩ := hR.at_ hb (k := k) (by rw [mks_len]; exact hlt)
      have hxq : x = q := by rw [mks_get hlt] at hx; rw [HQ.out]; exact (Option.some.inj hx).symm
      subst hxq
      have f0 := hcx 0 _ rfl
      have f1 := hcx 1 _ rfl
      have f2 := hcx 2 _ rfl
      simp only [Nat.add_zero] at f0
      clear hx hcx
      have g0 := f0 (Kin.self _)
      have g1 := f1 (Kin.self _)
      have g2 := f2 (Kin.self _)
      simp only [Kin.self] at g0
      simp only [Kin.self] at g1
      simp only [Kin.self] at g2
      go_wp2
      go_roundw
      case rel => exact ⟨k + 1, _, by omega, by go_num, rfl, by have := HQ.out; omega, hb⟩
      case measure => simp [intOf]; omega
    · obtain rfl : k = n := by omega
      go_wp2
      go_ret
      exact ⟨ret_int (by have := HQ.out; omega), hb⟩
def patQuestion (q : Int) : List Value := [.int .i64 (q), .int .i64 (q + 1), .bool ((q + 1 + 1) % 3 == 0)]
theorem patQuestion_len (q : Int) : (patQuestion q).length = 3 := rfl
set_option maxHeartbeats 4000000 in
set_option maxRecDepth 100000 in
theorem mkQuestionS_is (B : Nat) (A : Option Addr) (c : Nat) (xs : List Que) (hn : xs.length ≤ 1048576) (m : Int) (h0 : 0 < m) (h1 : m ≤ 100000000) (w : World) (hO : OwnV B 90 3 Que.cells w (.slice A xs.length c) xs) :
  Calls Try.prog 68 #[.slice A xs.length c, .int .i64 m] w fun e w' => e = .returned (.int .i64 (m + 3 * xs.length)) ∧ OwnV B 90 3 patQuestion w' (.slice A xs.length c) (mks m 3 xs.length) ∧ w.grownBy w' (Value.slice A xs.length c).ownBlock := by
  by_cases hz : xs.length = 0
  · have hx0 : xs = [] := List.length_eq_zero_iff.1 hz
    subst hx0
    clear hz
    have hO' : OwnV B 90 3 patQuestion w (.slice A 0 c) (mks m 3 0) := hO.empty
    have HO := Lib.hid hO'; clear hO hO'
    go_enter Try.func68, Try.ntmps68
    go_wp2
    go_loopw [1, 5] (fun mv i wr => mv = .int .i64 m ∧ i = .int .i64 0 ∧ wr = w) (fun _ _ _ => 0)
    case atStart => exact ⟨rfl, rfl, rfl⟩
    case round =>
      obtain ⟨rfl, rfl, rfl⟩ := hrel
      go_wp2
      go_ret
      exact ⟨by simp, by simpa using HO.out, grown_refl _ _⟩
  obtain ⟨g, cap, cs0, hve, hB, hbk, hnc, hcm, hcs⟩ := hO.block (by omega)
  injection hve with hve1 _ hve2
  subst hve1 hve2
  have HC0 := Lib.hid hcs; have HB0 := Lib.hid hbk
  clear hcs hbk hO hz
  go_enter Try.func68, Try.ntmps68
  go_wp2
  go_loopw [1, 5] (fun mv i wr => ∃ (k : Nat) (q : Int) (cs : Array Value), k ≤ xs.length ∧ i = .int .i64 k ∧ mv = .int .i64 q ∧ q = m + 3 * k ∧ Blk wr g 90 cs ∧ cs.size = c * 3 ∧ Filled 3 patQuestion (mks m 3 xs.length) k cs ∧ w.grownBy wr (some g)) (fun _ i _ => xs.length - (intOf i).toNat)
  case atStart => exact ⟨0, m, cs0, Nat.zero_le _, rfl, rfl, by simp, HB0.out, HC0.out, Filled.zero, grown_refl _ _⟩
  case round =>
    obtain ⟨k, q, cs, hk, rfl, rfl, hq, hBK, hsz, hF, hg⟩ := hrel
    have hq1 : 0 < q := by omega
    have hq2 : q ≤ 200000000 := by omega
    have HQ := Lib.hid hq; have HSZ := Lib.hid hsz; have HF := Lib.hid hF; have HG := Lib.hid hg
    clear hq hsz hF hg
    by_cases hlt : k < xs.length
    · have hbl := hBK.lt
      have hx : (mks m 3 xs.length)[k]? = some q := by rw [mks_get hlt, HQ.out]
      have HX := Lib.hid hx; clear hx
      obtain ⟨v0, c0⟩ := hBK.some_ (k * 3) (by have hh := HSZ.out; omega)
      have z0 := hBK.frozen (k * 3)
      obtain ⟨v1, c1⟩ := hBK.some_ (k * 3 + 1) (by have hh := HSZ.out; omega)
      have z1 := hBK.frozen (k * 3 + 1)
      obtain ⟨v2, c2⟩ := hBK.some_ (k * 3 + 2) (by have hh := HSZ.out; omega)
      have z2 := hBK.frozen (k * 3 + 2)
      go_wp2
      go_roundw
      case rel =>
        have hfin : Go.G9.setMany cs (k * 3) [.int .i64 (q), .int .i64 (q + 1), .bool ((q + 1 + 1) % 3 == 0)] = Go.G9.setMany cs (k * 3) (patQuestion q) := by first | exact Go.G9.setMany_one cs _ _ _ | rfl
        refine ⟨k + 1, _, Go.G9.setMany cs (k * 3) [.int .i64 (q), .int .i64 (q + 1), .bool ((q + 1 + 1) % 3 == 0)], by omega, by go_num, rfl, by have := HQ.out; omega, ?_, ?_, ?_, (grown_set (grown_set (grown_set HG.out _) _) _)⟩
        · exact Blk.setMany (k * 3) [.int .i64 (q), .int .i64 (q + 1), .bool ((q + 1 + 1) % 3 == 0)] hBK
        · rw [hfin, size_setMany, HSZ.out]
        · rw [hfin]; have h := HF.out.put HX.out (by rw [HSZ.out, patQuestion_len]; omega); exact h
      case measure => simp [intOf]; omega
    · obtain rfl : k = xs.length := by omega
      go_wp2
      go_ret
      refine ⟨ret_int (by have := HQ.out; omega), ?_, HG.out⟩
      have h := OwnV.ofBlk (B := B) (xs := mks m 3 xs.length) hBK hB (by rw [mks_len]; exact hnc) hcm HSZ.out (fun i x hx => HF.out i x (by have := (List.getElem?_eq_some_iff.1 hx).1; rwa [mks_len] at this) hx)
      rw [mks_len] at h
      exact h
set_option maxHeartbeats 4000000 in
set_option maxRecDepth 100000 in
theorem hdQuestionS_is (A : Option Addr) (c n : Nat) (hn : n ≤ 1048576) (m : Int) (h0 : 0 < m) (h1 : m ≤ 100000000) (w : World) (hR : Rds 3 patQuestion w A (mks m 3 n)) :
  Calls Try.prog 72 #[.slice A n c, .int .i64 m] w fun e w' => e = .returned (.int .i64 (m + 3 * n)) ∧ Below w.heap.size w w' := by
  go_enter Try.func72, Try.ntmps72
  go_wp2
  go_loopw [1, 5] (fun mv i wr => ∃ (k : Nat) (q : Int), k ≤ n ∧ i = .int .i64 k ∧ mv = .int .i64 q ∧ q = m + 3 * k ∧ Below w.heap.size w wr) (fun _ i _ => n - (intOf i).toNat)
  case atStart => exact ⟨0, m, Nat.zero_le _, rfl, rfl, by simp, Below.refl _ _⟩
  case round =>
    obtain ⟨k, q, hk, rfl, rfl, hq, hb⟩ := hrel
    have hq1 : 0 < q := by omega
    have hq2 : q ≤ 200000000 := by omega
    have HQ := Lib.hid hq; clear hq
    by_cases hlt : k < n
    · obtain ⟨b, off, x, rfl, hbl, hx, hcx⟩ := hR.at_ hb (k := k) (by rw [mks_len]; exact hlt)
      have hxq : x = q := by rw [mks_get hlt] at hx; rw [HQ.out]; exact (Option.some.inj hx).symm
      subst hxq
      have f0 := hcx 0 _ rfl
      have f1 := hcx 1 _ rfl
      have f2 := hcx 2 _ rfl
      simp only [Nat.add_zero] at f0
      clear hx hcx
      have hne2 : (!(((x + 1 + 1) % 3 == 0) == ((x + 1 + 1) % 3 == 0))) = false := by simp
      have g0 := f0 (Kin.self _)
      have g1 := f1 (Kin.self _)
      have g2 := f2 (Kin.self _)
      simp only [Kin.self] at g0
      simp only [Kin.self] at g1
      simp only [Kin.self] at g2
      go_wp2
      go_roundw
      case rel => exact ⟨k + 1, _, by omega, by go_num, rfl, by have := HQ.out; omega, hb⟩
      case measure => simp [intOf]; omega
    · obtain rfl : k = n := by omega
      go_wp2
      go_ret
      exact ⟨ret_int (by have := HQ.out; omega), hb⟩
def patOutcome (q : Int) : List Value := [.int .i64 (q), .int .i64 (q + 1), .bool ((q + 1 + 1) % 3 == 0)]
theorem patOutcome_len (q : Int) : (patOutcome q).length = 3 := rfl
set_option maxHeartbeats 4000000 in
set_option maxRecDepth 100000 in
theorem mkOutcomeS_is (B : Nat) (A : Option Addr) (c : Nat) (xs : List Out) (hn : xs.length ≤ 1048576) (m : Int) (h0 : 0 < m) (h1 : m ≤ 100000000) (w : World) (hO : OwnV B 81 3 Out.cells w (.slice A xs.length c) xs) :
  Calls Try.prog 70 #[.slice A xs.length c, .int .i64 m] w fun e w' => e = .returned (.int .i64 (m + 3 * xs.length)) ∧ OwnV B 81 3 patOutcome w' (.slice A xs.length c) (mks m 3 xs.length) ∧ w.grownBy w' (Value.slice A xs.length c).ownBlock := by
  by_cases hz : xs.length = 0
  · have hx0 : xs = [] := List.length_eq_zero_iff.1 hz
    subst hx0
    clear hz
    have hO' : OwnV B 81 3 patOutcome w (.slice A 0 c) (mks m 3 0) := hO.empty
    have HO := Lib.hid hO'; clear hO hO'
    go_enter Try.func70, Try.ntmps70
    go_wp2
    go_loopw [1, 5] (fun mv i wr => mv = .int .i64 m ∧ i = .int .i64 0 ∧ wr = w) (fun _ _ _ => 0)
    case atStart => exact ⟨rfl, rfl, rfl⟩
    case round =>
      obtain ⟨rfl, rfl, rfl⟩ := hrel
      go_wp2
      go_ret
      exact ⟨by simp, by simpa using HO.out, grown_refl _ _⟩
  obtain ⟨g, cap, cs0, hve, hB, hbk, hnc, hcm, hcs⟩ := hO.block (by omega)
  injection hve with hve1 _ hve2
  subst hve1 hve2
  have HC0 := Lib.hid hcs; have HB0 := Lib.hid hbk
  clear hcs hbk hO hz
  go_enter Try.func70, Try.ntmps70
  go_wp2
  go_loopw [1, 5] (fun mv i wr => ∃ (k : Nat) (q : Int) (cs : Array Value), k ≤ xs.length ∧ i = .int .i64 k ∧ mv = .int .i64 q ∧ q = m + 3 * k ∧ Blk wr g 81 cs ∧ cs.size = c * 3 ∧ Filled 3 patOutcome (mks m 3 xs.length) k cs ∧ w.grownBy wr (some g)) (fun _ i _ => xs.length - (intOf i).toNat)
  case atStart => exact ⟨0, m, cs0, Nat.zero_le _, rfl, rfl, by simp, HB0.out, HC0.out, Filled.zero, grown_refl _ _⟩
  case round =>
    obtain ⟨k, q, cs, hk, rfl, rfl, hq, hBK, hsz, hF, hg⟩ := hrel
    have hq1 : 0 < q := by omega
    have hq2 : q ≤ 200000000 := by omega
    have HQ := Lib.hid hq; have HSZ := Lib.hid hsz; have HF := Lib.hid hF; have HG := Lib.hid hg
    clear hq hsz hF hg
    by_cases hlt : k < xs.length
    · have hbl := hBK.lt
      have hx : (mks m 3 xs.length)[k]? = some q := by rw [mks_get hlt, HQ.out]
      have HX := Lib.hid hx; clear hx
      obtain ⟨v0, c0⟩ := hBK.some_ (k * 3) (by have hh := HSZ.out; omega)
      have z0 := hBK.frozen (k * 3)
      obtain ⟨v1, c1⟩ := hBK.some_ (k * 3 + 1) (by have hh := HSZ.out; omega)
      have z1 := hBK.frozen (k * 3 + 1)
      obtain ⟨v2, c2⟩ := hBK.some_ (k * 3 + 2) (by have hh := HSZ.out; omega)
      have z2 := hBK.frozen (k * 3 + 2)
      go_wp2
      go_roundw
      case rel =>
        have hfin : Go.G9.setMany cs (k * 3) [.int .i64 (q), .int .i64 (q + 1), .bool ((q + 1 + 1) % 3 == 0)] = Go.G9.setMany cs (k * 3) (patOutcome q) := by first | exact Go.G9.setMany_one cs _ _ _ | rfl
        refine ⟨k + 1, _, Go.G9.setMany cs (k * 3) [.int .i64 (q), .int .i64 (q + 1), .bool ((q + 1 + 1) % 3 == 0)], by omega, by go_num, rfl, by have := HQ.out; omega, ?_, ?_, ?_, (grown_set (grown_set (grown_set HG.out _) _) _)⟩
        · exact Blk.setMany (k * 3) [.int .i64 (q), .int .i64 (q + 1), .bool ((q + 1 + 1) % 3 == 0)] hBK
        · rw [hfin, size_setMany, HSZ.out]
        · rw [hfin]; have h := HF.out.put HX.out (by rw [HSZ.out, patOutcome_len]; omega); exact h
      case measure => simp [intOf]; omega
    · obtain rfl : k = xs.length := by omega
      go_wp2
      go_ret
      refine ⟨ret_int (by have := HQ.out; omega), ?_, HG.out⟩
      have h := OwnV.ofBlk (B := B) (xs := mks m 3 xs.length) hBK hB (by rw [mks_len]; exact hnc) hcm HSZ.out (fun i x hx => HF.out i x (by have := (List.getElem?_eq_some_iff.1 hx).1; rwa [mks_len] at this) hx)
      rw [mks_len] at h
      exact h
set_option maxHeartbeats 4000000 in
set_option maxRecDepth 100000 in
theorem hdOutcomeS_is (A : Option Addr) (c n : Nat) (hn : n ≤ 1048576) (m : Int) (h0 : 0 < m) (h1 : m ≤ 100000000) (w : World) (hR : Rds 3 patOutcome w A (mks m 3 n)) :
  Calls Try.prog 74 #[.slice A n c, .int .i64 m] w fun e w' => e = .returned (.int .i64 (m + 3 * n)) ∧ Below w.heap.size w w' := by
  go_enter Try.func74, Try.ntmps74
  go_wp2
  go_loopw [1, 5] (fun mv i wr => ∃ (k : Nat) (q : Int), k ≤ n ∧ i = .int .i64 k ∧ mv = .int .i64 q ∧ q = m + 3 * k ∧ Below w.heap.size w wr) (fun _ i _ => n - (intOf i).toNat)
  case atStart => exact ⟨0, m, Nat.zero_le _, rfl, rfl, by simp, Below.refl _ _⟩
  case round =>
    obtain ⟨k, q, hk, rfl, rfl, hq, hb⟩ := hrel
    have hq1 : 0 < q := by omega
    have hq2 : q ≤ 200000000 := by omega
    have HQ := Lib.hid hq; clear hq
    by_cases hlt : k < n
    · obtain ⟨b, off, x, rfl, hbl, hx, hcx⟩ := hR.at_ hb (k := k) (by rw [mks_len]; exact hlt)
      have hxq : x = q := by rw [mks_get hlt] at hx; rw [HQ.out]; exact (Option.some.inj hx).symm
      subst hxq
      have f0 := hcx 0 _ rfl
      have f1 := hcx 1 _ rfl
      have f2 := hcx 2 _ rfl
      simp only [Nat.add_zero] at f0
      clear hx hcx
      have hne2 : (!(((x + 1 + 1) % 3 == 0) == ((x + 1 + 1) % 3 == 0))) = false := by simp
      have g0 := f0 (Kin.self _)
      have g1 := f1 (Kin.self _)
      have g2 := f2 (Kin.self _)
      simp only [Kin.self] at g0
      simp only [Kin.self] at g1
      simp only [Kin.self] at g2
      go_wp2
      go_roundw
      case rel => exact ⟨k + 1, _, by omega, by go_num, rfl, by have := HQ.out; omega, hb⟩
      case measure => simp [intOf]; omega
    · obtain rfl : k = n := by omega
      go_wp2
      go_ret
      exact ⟨ret_int (by have := HQ.out; omega), hb⟩
end Go.Proofs.Ytkkdegmfmimdgaa
