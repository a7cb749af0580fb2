/- Results of votes: validity, copies, comparisons. -/
import Derived.Test.YtbnncgahepcfnaaDoorPr3
import Derived.Test.YtbnncgahepcfnaaDoorPr6
namespace Go.Proofs.YtbnncgahepcfnaaDoor
open Go.RowKit Go.G9
structure Res where
  motion : ByteArray
  need : Int
  yes : Int
  no : Int
  abst : Int
  ok : motion.size ≤ maxLen
def Res.cells (r : Res) : List Value := [.string r.motion, .int .i64 r.need, .int .i64 r.yes, .int .i64 r.no, .int .i64 r.abst]
def tallyB (y n a : Int) : Bool := inB y 0 1000 && (inB n 0 1000 && inB a 0 1000)
def resB (r : Res) : Bool := wordB r.motion && (inB r.need 1 3 && tallyB r.yes r.no r.abst)
def reportB (xs : List Res) : Bool := decide (xs.length ≤ 12) && !xs.any (fun r => !resB r)
theorem areVotes_is (n : Int) (v : Bool) (hv : inB n 0 1000 = v) (w : World) : Calls Tryd.prog 94 #[.int .i64 n] w fun e w' => e = .returned (.bool v) ∧ w' = w := by
  subst hv
  go_enter Tryd.func94, Tryd.ntmps94
  go_wp2_with (go_at_call 93; refine (inside_is _ _ _ _ rfl _).mono ?_; rintro e w' ⟨rfl, rfl⟩)
  go_ret
  exact ⟨rfl, rfl⟩
theorem l11Votes_is (n : Int) (v : Bool) (hv : inB n 0 1000 = v) (w : World) : Calls Tryd.prog 104 #[.int .i64 n] w fun e w' => e = .returned (.bool v) ∧ w' = w := by
  subst hv
  go_enter Tryd.func104, Tryd.ntmps104
  go_wp2_with (go_at_call 96; refine (l1In_is _ _ _ _ rfl _).mono ?_; rintro e w' ⟨rfl, rfl⟩)
  go_ret
  exact ⟨rfl, rfl⟩
theorem isNeed_is (n : Int) (v : Bool) (hv : inB n 1 3 = v) (w : World) : Calls Tryd.prog 61 #[.int .i64 n] w fun e w' => e = .returned (.bool v) ∧ w' = w := by
  subst hv
  go_enter Tryd.func61, Tryd.ntmps61
  go_wp2_with (go_at_call 93; refine (inside_is _ _ _ _ rfl _).mono ?_; rintro e w' ⟨rfl, rfl⟩)
  go_ret
  exact ⟨rfl, rfl⟩
theorem l11Need_is (n : Int) (v : Bool) (hv : inB n 1 3 = v) (w : World) : Calls Tryd.prog 82 #[.int .i64 n] w fun e w' => e = .returned (.bool v) ∧ w' = w := by
  subst hv
  go_enter Tryd.func82, Tryd.ntmps82
  go_wp2_with (go_at_call 96; refine (l1In_is _ _ _ _ rfl _).mono ?_; rintro e w' ⟨rfl, rfl⟩)
  go_ret
  exact ⟨rfl, rfl⟩
theorem isValidTally_is (y n a : Int) (v : Bool) (hv : tallyB y n a = v) (w : World) : Calls Tryd.prog 62 #[.agg #[.int .i64 y, .int .i64 n, .int .i64 a]] w fun e w' => e = .returned (.bool v) ∧ Below w.heap.size w w' := by
  subst hv
  go_enter Tryd.func62, Tryd.ntmps62
  go_wp2_with (go_at_call 94; refine (areVotes_is _ _ rfl _).mono ?_; rintro e w' ⟨rfl, rfl⟩)
  all_goals go_ret
  all_goals exact ⟨by simp [tallyB, *], bl1 _ _⟩
theorem l11Good_is (y n a : Int) (v : Bool) (hv : tallyB y n a = v) (w : World) : Calls Tryd.prog 83 #[.agg #[.int .i64 y, .int .i64 n, .int .i64 a]] w fun e w' => e = .returned (.bool v) ∧ Below w.heap.size w w' := by
  subst hv
  go_enter Tryd.func83, Tryd.ntmps83
  go_wp2_with (go_at_call 104; refine (l11Votes_is _ _ rfl _).mono ?_; rintro e w' ⟨rfl, rfl⟩)
  all_goals go_ret
  all_goals exact ⟨by simp [tallyB, *], bl1 _ _⟩
theorem isResult_is (m : ByteArray) (nd y n a : Int) (hm : m.size ≤ maxLen) (v : Bool) (hv : resB ⟨m, nd, y, n, a, hm⟩ = v) (w : World) :
  Calls Tryd.prog 46 #[.agg #[.string m, .int .i64 nd, .int .i64 y, .int .i64 n, .int .i64 a]] w fun e w' => e = .returned (.bool v) ∧ Below w.heap.size w w' := by
  subst hv
  cases h1 : wordB m
  · go_enter Tryd.func46, Tryd.ntmps46
    go_wp2_with (go_at_call 84; refine (isWord_is _ hm _ h1 _).mono ?_; rintro e w' ⟨rfl, rfl⟩)
    go_ret
    exact ⟨by simp [resB, h1], bl1 _ _⟩
  cases h2 : inB nd 1 3
  · go_enter Tryd.func46, Tryd.ntmps46
    go_wp2_with (first | (go_at_call 84; refine (isWord_is _ hm _ h1 _).mono ?_; rintro e w' ⟨rfl, rfl⟩) | (go_at_call 61; refine (isNeed_is _ _ h2 _).mono ?_; rintro e w' ⟨rfl, rfl⟩))
    go_ret
    exact ⟨by simp [resB, h1, h2], bl1 _ _⟩
  · go_enter Tryd.func46, Tryd.ntmps46
    go_wp2_with (first | (go_at_call 84; refine (isWord_is _ hm _ h1 _).mono ?_; rintro e w' ⟨rfl, rfl⟩) | (go_at_call 61; refine (isNeed_is _ _ h2 _).mono ?_; rintro e w' ⟨rfl, rfl⟩) | (go_at_call 62; refine (isValidTally_is _ _ _ _ rfl _).mono ?_; rintro e w' ⟨rfl, hb'⟩))
    go_ret
    exact ⟨by simp [resB, h1, h2], bth (bl1 _ _) hb'⟩
theorem l26One_is (m : ByteArray) (nd y n a : Int) (hm : m.size ≤ maxLen) (v : Bool) (hv : resB ⟨m, nd, y, n, a, hm⟩ = v) (w : World) :
  Calls Tryd.prog 43 #[.agg #[.string m, .int .i64 nd, .int .i64 y, .int .i64 n, .int .i64 a]] w fun e w' => e = .returned (.bool v) ∧ Below w.heap.size w w' := by
  subst hv
  cases h1 : wordB m
  · go_enter Tryd.func43, Tryd.ntmps43
    go_wp2_with (go_at_call 81; refine (l2Word_is _ hm _ h1 _).mono ?_; rintro e w' ⟨rfl, rfl⟩)
    go_ret
    exact ⟨by simp [resB, h1], bl1 _ _⟩
  cases h2 : inB nd 1 3
  · go_enter Tryd.func43, Tryd.ntmps43
    go_wp2_with (first | (go_at_call 81; refine (l2Word_is _ hm _ h1 _).mono ?_; rintro e w' ⟨rfl, rfl⟩) | (go_at_call 82; refine (l11Need_is _ _ h2 _).mono ?_; rintro e w' ⟨rfl, rfl⟩))
    go_ret
    exact ⟨by simp [resB, h1, h2], bl1 _ _⟩
  · go_enter Tryd.func43, Tryd.ntmps43
    go_wp2_with (first | (go_at_call 81; refine (l2Word_is _ hm _ h1 _).mono ?_; rintro e w' ⟨rfl, rfl⟩) | (go_at_call 82; refine (l11Need_is _ _ h2 _).mono ?_; rintro e w' ⟨rfl, rfl⟩) | (go_at_call 83; refine (l11Good_is _ _ _ _ rfl _).mono ?_; rintro e w' ⟨rfl, hb'⟩))
    go_ret
    exact ⟨by simp [resB, h1, h2], bth (bl1 _ _) hb'⟩
theorem szMotionResult_is (m : ByteArray) (nd y n a l : Int) (hs : m.size ≤ maxLen) (h0 : 0 ≤ l) (h1 : l ≤ 1048576) (w : World) :
  Calls Tryd.prog 10 #[.agg #[.string m, .int .i64 nd, .int .i64 y, .int .i64 n, .int .i64 a], .int .i64 l] w fun e w' => ∃ r : Int, e = .returned (.int .i64 r) ∧ (-1 ≤ r ∧ r ≤ l) ∧ Below w.heap.size w w' := by
  unfold maxLen at hs
  go_enter Tryd.func10, Tryd.ntmps10
  go_wp2
  all_goals go_ret
  all_goals exact ⟨_, rfl, by constructor <;> omega, bl1 _ _⟩
theorem eqTally_is (y n a : Int) (w : World) : Calls Tryd.prog 79 #[.agg #[.int .i64 y, .int .i64 n, .int .i64 a], .agg #[.int .i64 y, .int .i64 n, .int .i64 a]] w fun e w' => e = .returned (.bool true) ∧ Below w.heap.size w w' := by
  go_enter Tryd.func79, Tryd.ntmps79
  go_wp2
  go_ret
  exact ⟨rfl, bl2 _ _ _⟩
theorem toTally_is (y n a : Int) (w : World) : Calls Tryd.prog 45 #[.agg #[.int .i64 y, .int .i64 n, .int .i64 a]] w fun e w' => e = .returned (.agg #[.int .i64 y, .int .i64 n, .int .i64 a]) ∧
    w' = ((w.alloc (.cells #[.int .i64 y, .int .i64 n, .int .i64 a] 23)).alloc (.cells #[.int .i64 y, .int .i64 n, .int .i64 a] 29)).alloc (.cells #[.int .i64 y, .int .i64 n, .int .i64 a] 29) := by
  go_enter Tryd.func45, Tryd.ntmps45
  go_wp2
  exact bodyPost_ret (v := .agg #[.int .i64 y, .int .i64 n, .int .i64 a]) (by simp [results, Tryd.results45, go_sem]) rfl ⟨rfl, rfl⟩
theorem eqMotionResult_is (m : ByteArray) (nd y n a : Int) (w : World) :
  Calls Tryd.prog 38 #[.agg #[.string m, .int .i64 nd, .int .i64 y, .int .i64 n, .int .i64 a], .agg #[.string m, .int .i64 nd, .int .i64 y, .int .i64 n, .int .i64 a]] w fun e w' => e = .returned (.bool true) ∧ Below w.heap.size w w' := by
  go_enter Tryd.func38, Tryd.ntmps38
  go_wp2
  go_ret
  exact ⟨rfl, bl4 _ _ _ _ _⟩
theorem toMotionResult_is (m : ByteArray) (nd y n a : Int) (w : World) :
  Calls Tryd.prog 12 #[.agg #[.string m, .int .i64 nd, .int .i64 y, .int .i64 n, .int .i64 a]] w fun e w' => e = .returned (.agg #[.string m, .int .i64 nd, .int .i64 y, .int .i64 n, .int .i64 a]) ∧ Below w.heap.size w w' := by
  go_enter Tryd.func12, Tryd.ntmps12
  go_wp2_with (go_at_call 45; refine (toTally_is _ _ _ _).mono ?_; rintro e w' ⟨rfl, rfl⟩)
  exact bodyPost_ret (v := .agg #[.string m, .int .i64 nd, .int .i64 y, .int .i64 n, .int .i64 a]) (by simp [results, Tryd.results12, go_sem]) rfl ⟨rfl, by repeat (first | exact Below.refl _ _ | refine Below.alloc ?_ (by simp <;> omega) _ | refine Below.setCell ?_ (by simp <;> omega) _)⟩
theorem info_Res : (Tryd.prog.info? 31).map (fun i => (i.zero, i.size, i.bytes)) = some (some (.agg #[.string ⟨#[]⟩, .int .i64 0, .int .i64 0, .int .i64 0, .int .i64 0]), 5, 48) := by kernel_rfl
theorem szMotionResultS_is (A : Option Addr) (c : Nat) (xs : List Res) (hn : xs.length ≤ maxLen) (l : Int) (h00 : 0 ≤ l) (h01 : l ≤ 1048576) (w : World) (hR : Rds 5 Res.cells w A xs) :
  Calls Tryd.prog 14 #[.slice A xs.length c, .int .i64 l] w fun e w' => ∃ r : Int, e = .returned (.int .i64 r) ∧ -1 ≤ r ∧ r ≤ l ∧ (r < 0 ∨ xs.length ≤ 1048576) ∧ Below w.heap.size w w' := by
  unfold maxLen at hn
  by_cases hl : (xs.length : Int) ≤ l
  · have hl' : ¬ (l - (xs.length : Int)) < 0 := by omega
    go_enter Tryd.func14, Tryd.ntmps14
    go_wp2
    go_loopw [1, 5] (fun lv i wr => ∃ (k : Nat) (r : Int), k ≤ xs.length ∧ i = .int .i64 k ∧ lv = .int .i64 r ∧ 0 ≤ r ∧ r ≤ l ∧ Below w.heap.size w wr) (fun _ i _ => xs.length - (intOf i).toNat)
    case atStart => exact ⟨0, _, Nat.zero_le _, rfl, rfl, by omega, by omega, Below.refl _ _⟩
    case round =>
      obtain ⟨k, r, hk, rfl, rfl, h0, h1, hb⟩ := hrel
      by_cases hlt : k < xs.length
      · obtain ⟨b, off, x, rfl, hbl, hx, hcx⟩ := hR.at_ hb hlt
        obtain ⟨m, nd, y, n, a, hs⟩ := x
        have f0 := hcx 0 _ rfl
        have f1 := hcx 1 _ rfl
        have f2 := hcx 2 _ rfl
        have f3 := hcx 3 _ rfl
        have f4 := hcx 4 _ rfl
        simp only [Nat.add_zero] at f0
        have g0 := f0 (Kin.self _)
        have g1 := f1 (Kin.self _)
        have g2 := f2 (Kin.self _)
        have g3 := f3 (Kin.self _)
        have g4 := f4 (Kin.self _)
        simp only [Kin.self] at g0
        simp only [Kin.self] at g1
        simp only [Kin.self] at g2
        simp only [Kin.self] at g3
        simp only [Kin.self] at g4
        clear hx hcx
        go_wp2_with fail
        refine (szMotionResult_is _ _ _ _ _ _ hs h0 (by omega) _).mono ?_
        rintro e w' ⟨r', rfl, ⟨h2, h3⟩, hb'⟩
        by_cases h4 : r' < 0
        · go_wp2
          go_ret
          exact ⟨_, rfl, by omega, by omega, .inl (by omega), bth hb hb'⟩
        · go_wp2
          go_roundw
          case rel => exact ⟨k + 1, r', by omega, by go_num, rfl, by omega, by omega, bth hb hb'⟩
          case measure => simp [intOf]; omega
      · go_wp2
        go_ret
        exact ⟨_, rfl, by omega, by omega, .inr (by omega), hb⟩
  · have hl' : (l - (xs.length : Int)) < 0 := by omega
    go_enter Tryd.func14, Tryd.ntmps14
    go_wp2
    go_ret
    exact ⟨_, rfl, by omega, by omega, .inl (by omega), Below.refl _ _⟩
set_option maxHeartbeats 1000000 in
theorem eqMotionResultS_is (A A' : Option Addr) (c c' : Nat) (xs : List Res) (hn : xs.length ≤ 1048576) (w : World) (hR : Rds 5 Res.cells w A xs) (hR' : Rds 5 Res.cells w A' xs) :
  Calls Tryd.prog 18 #[.slice A xs.length c, .slice A' xs.length c'] w fun e w' => e = .returned (.bool true) ∧ Below w.heap.size w w' := by
  go_enter Tryd.func18, Tryd.ntmps18
  go_wp2
  go_loopw [5] (fun i wr => ∃ (k : Nat), k ≤ xs.length ∧ i = .int .i64 k ∧ Below w.heap.size w wr) (fun i _ => xs.length - (intOf i).toNat)
  case atStart => exact ⟨0, Nat.zero_le _, rfl, Below.refl _ _⟩
  case round =>
    obtain ⟨k, hk, rfl, hb⟩ := hrel
    by_cases hlt : k < xs.length
    · obtain ⟨b, off, x, rfl, hbl, hx, hcx⟩ := hR.at_ hb hlt
      obtain ⟨b', off', x', rfl, _, hx', hcx'⟩ := hR'.at_ hb hlt
      obtain rfl : x = x' := Option.some.inj (hx.symm.trans hx')
      obtain ⟨m, nd, y, n, a, hs⟩ := x
      have f0 := hcx 0 _ rfl
      have f1 := hcx 1 _ rfl
      have f2 := hcx 2 _ rfl
      have f3 := hcx 3 _ rfl
      have f4 := hcx 4 _ rfl
      simp only [Nat.add_zero] at f0
      have e0 := hcx' 0 _ rfl
      have e1 := hcx' 1 _ rfl
      have e2 := hcx' 2 _ rfl
      have e3 := hcx' 3 _ rfl
      have e4 := hcx' 4 _ rfl
      simp only [Nat.add_zero] at e0
      clear hx hcx hx' hcx'
      go_wp2
      refine wp_region_kin (by kernel_rfl) (by kernel_rfl) ?_
      repeat (go_big_quiet_step (((go_at_call 38; exact Kin.call _ (Nat.le_refl _) (eqMotionResult_is _ _ _ _ _ _)))))
      refine wpQuiet_nil ?_
      intro K
      go_wp2
      go_roundw
      case rel => exact ⟨k + 1, by omega, by go_num, bth hb K.below⟩
      case measure => simp [intOf]; omega
    · go_wp2
      go_ret
      exact ⟨rfl, hb⟩
set_option maxHeartbeats 1000000 in
theorem toMotionResultS_is (A : Option Addr) (c : Nat) (xs : List Res) (hn : xs.length ≤ 1048576) (w : World) (hR : Rds 5 Res.cells w A xs) :
  Calls Tryd.prog 16 #[.slice A xs.length c] w fun e w' => ∃ A', e = .returned (.slice A' xs.length xs.length) ∧ OwnV w.heap.size 31 5 Res.cells w' (.slice A' xs.length xs.length) xs ∧ Below w.heap.size w w' := by
  obtain ⟨i0, hi, hz0, hz1, hz2⟩ := info_parts info_Res
  have hmk := run_make_rowN (P := Tryd.prog) 37 31 i0 _ Tryd.underlying37 hi hz0 .i64 .i64 xs.length xs.length (Nat.le_refl _) (by rw [hz2]; omega) (by omega)
  rw [hz1] at hmk
  go_enter Tryd.func16, Tryd.ntmps16
  go_wp2
  go_loopw [4] (fun i wr => ∃ (k : Nat) (cs : Array Value), k ≤ xs.length ∧ i = .int .i64 k ∧ Blk wr w.heap.size 31 cs ∧ cs.size = xs.length * 5 ∧ Filled 5 Res.cells xs k cs ∧ Below w.heap.size w wr) (fun i _ => xs.length - (intOf i).toNat)
  case atStart => exact ⟨0, _, Nat.zero_le _, rfl, Blk.new _ _ _, by simp [madeCells], Filled.zero, bl1 _ _⟩
  case round =>
    obtain ⟨k, cs, hk, rfl, hB, hsz, hF, hb⟩ := hrel
    have HSZ := Lib.hid hsz; clear hsz
    by_cases hlt : k < xs.length
    · obtain ⟨b, off, x, rfl, hbl, hx, hcx⟩ := hR.at_ hb hlt
      obtain ⟨m, nd, y, n, a, hs⟩ := x
      have f0 := hcx 0 _ rfl
      have f1 := hcx 1 _ rfl
      have f2 := hcx 2 _ rfl
      have f3 := hcx 3 _ rfl
      have f4 := hcx 4 _ rfl
      simp only [Nat.add_zero] at f0
      have g0 := f0 (Kin.self _)
      have g1 := f1 (Kin.self _)
      have g2 := f2 (Kin.self _)
      have g3 := f3 (Kin.self _)
      have g4 := f4 (Kin.self _)
      simp only [Kin.self] at g0
      simp only [Kin.self] at g1
      simp only [Kin.self] at g2
      simp only [Kin.self] at g3
      simp only [Kin.self] at g4
      clear hcx
      have HX := Lib.hid hx; clear hx
      go_wp2_with fail
      refine (toMotionResult_is _ _ _ _ _ _).mono ?_
      rintro e w' ⟨rfl, hb'⟩
      have hB' := hB.below hb' hB.lt
      obtain ⟨v0, c0⟩ := hB'.some_ (k * 5) (by rw [HSZ.out]; omega)
      have z0 := hB'.frozen (k * 5)
      obtain ⟨v1, c1⟩ := hB'.some_ (k * 5 + 1) (by rw [HSZ.out]; omega)
      have z1 := hB'.frozen (k * 5 + 1)
      obtain ⟨v2, c2⟩ := hB'.some_ (k * 5 + 2) (by rw [HSZ.out]; omega)
      have z2 := hB'.frozen (k * 5 + 2)
      obtain ⟨v3, c3⟩ := hB'.some_ (k * 5 + 3) (by rw [HSZ.out]; omega)
      have z3 := hB'.frozen (k * 5 + 3)
      obtain ⟨v4, c4⟩ := hB'.some_ (k * 5 + 4) (by rw [HSZ.out]; omega)
      have z4 := hB'.frozen (k * 5 + 4)
      go_wp2
      go_roundw
      case rel => exact ⟨k + 1, setMany cs (k * 5) (Res.cells ⟨m, nd, y, n, a, hs⟩), by omega, by go_num, hB'.setMany (k * 5) (Res.cells ⟨m, nd, y, n, a, hs⟩), by rw [size_setMany, HSZ.out], hF.put HX.out (by rw [HSZ.out]; simp [Res.cells]; omega), (((((bth hb hb').setCell (Nat.le_refl _) _).setCell (Nat.le_refl _) _).setCell (Nat.le_refl _) _).setCell (Nat.le_refl _) _).setCell (Nat.le_refl _) _⟩
      case measure => simp [intOf]; omega
    · obtain rfl : k = xs.length := by omega
      go_wp2
      go_ret
      exact ⟨_, rfl, OwnV.filled hB (Nat.le_refl _) HSZ.out (by unfold maxLen; omega) hF.all, hb⟩
end Go.Proofs.YtbnncgahepcfnaaDoor
/- Decided questions: validity. -/
namespace Go.Proofs.YtbnncgahepcfnaaDoor
open Go.RowKit Go.G9
structure Dec where
  id : Int
  day : Int
  need : Int
  yes : List Int
  no : List Int
  done : Bool
def sidesB (ys ns : List Int) : Bool := decide (ys.length ≤ 30) && (decide (ns.length ≤ 30) && (ascB ys 1 99 && (ascB ns 1 99 && !ys.any (hasB ns))))
def decB (d : Dec) : Bool := inB d.id 1 99 && (inB d.day 0 3650 && (inB d.need 1 3 && sidesB d.yes d.no))
end Go.Proofs.YtbnncgahepcfnaaDoor
/- Decided questions: validity of a decided question, copies, comparisons. -/
namespace Go.Proofs.YtbnncgahepcfnaaDoor
open Go.RowKit Go.G9
theorem Blk.far {w : World} {g : Nat} {t : TypeId} {cs : Array Value} (h : Blk w g t cs) {p : Addr} (hp : g ≠ p.block) (u : Value) : Blk (w.setCell p u) g t cs := (Below.heap_setCell w p u g hp).trans h
theorem OwnV.low {T : Type} {B : Nat} {e : TypeId} {sz : Nat} {f : T → List Value} {w : World} {v : Value} {xs : List T} (h : OwnV B e sz f w v xs) {p : Addr} (hp : p.block < B) {u : Value} : OwnV B e sz f (w.setCell p u) v xs := ownsRow_setCell_below h hp u
end Go.Proofs.YtbnncgahepcfnaaDoor
/- Decided questions: adopted or not. -/
namespace Go.Proofs.YtbnncgahepcfnaaDoor
open Go.RowKit Go.G9
def adoB (need y n : Int) : Bool := if need = 1 then decide (n < y) else if need = 2 then decide (0 < y + n) && decide (2 * n ≤ y) else decide (0 < y) && decide (n = 0)
theorem isAdopted_is (need y n : Int) (h0 : -10000 ≤ y) (h1 : y ≤ 10000) (h2 : -10000 ≤ n) (h3 : n ≤ 10000) (v : Bool) (hv : adoB need y n = v) (w : World) : Calls Tryd.prog 63 #[.int .i64 need, .int .i64 y, .int .i64 n] w fun e w' => e = .returned (.bool v) ∧ w' = w := by
  subst hv
  by_cases c1 : need = 1
  · subst c1
    go_enter Tryd.func63, Tryd.ntmps63
    go_wp2
    go_ret
    exact ⟨ret_bool (by simp [adoB]), rfl⟩
  by_cases c2 : need = 2
  · subst c2
    by_cases c3 : 0 < y + n
    · go_enter Tryd.func63, Tryd.ntmps63
      go_wp2
      go_ret
      exact ⟨ret_bool (by rw [Bool.eq_iff_iff]; simp [adoB] <;> omega), rfl⟩
    · go_enter Tryd.func63, Tryd.ntmps63
      go_wp2
      go_ret
      exact ⟨ret_bool (by rw [Bool.eq_iff_iff]; simp [adoB] <;> omega), rfl⟩
  · have d1 : (need == 1) = false := beq_eq_false_iff_ne.2 c1
    have d2 : (need == 2) = false := beq_eq_false_iff_ne.2 c2
    by_cases c3 : 0 < y
    · go_enter Tryd.func63, Tryd.ntmps63
      go_wp2
      go_ret
      exact ⟨ret_bool (by rw [Bool.eq_iff_iff]; simp [adoB, c1, c2] <;> omega), rfl⟩
    · go_enter Tryd.func63, Tryd.ntmps63
      go_wp2
      go_ret
      exact ⟨ret_bool (by rw [Bool.eq_iff_iff]; simp [adoB, c1, c2] <;> omega), rfl⟩
theorem l11Enough_is (need y n : Int) (h0 : -10000 ≤ y) (h1 : y ≤ 10000) (h2 : -10000 ≤ n) (h3 : n ≤ 10000) (v : Bool) (hv : adoB need y n = v) (w : World) : Calls Tryd.prog 106 #[.int .i64 need, .int .i64 y, .int .i64 n] w fun e w' => e = .returned (.bool v) ∧ w' = w := by
  subst hv
  by_cases c1 : need = 1
  · subst c1
    go_enter Tryd.func106, Tryd.ntmps106
    go_wp2
    go_ret
    exact ⟨ret_bool (by simp [adoB]), rfl⟩
  by_cases c2 : need = 2
  · subst c2
    by_cases c3 : 0 < y + n
    · go_enter Tryd.func106, Tryd.ntmps106
      go_wp2
      go_ret
      exact ⟨ret_bool (by rw [Bool.eq_iff_iff]; simp [adoB] <;> omega), rfl⟩
    · go_enter Tryd.func106, Tryd.ntmps106
      go_wp2
      go_ret
      exact ⟨ret_bool (by rw [Bool.eq_iff_iff]; simp [adoB] <;> omega), rfl⟩
  · have d1 : (need == 1) = false := beq_eq_false_iff_ne.2 c1
    have d2 : (need == 2) = false := beq_eq_false_iff_ne.2 c2
    by_cases c3 : 0 < y
    · go_enter Tryd.func106, Tryd.ntmps106
      go_wp2
      go_ret
      exact ⟨ret_bool (by rw [Bool.eq_iff_iff]; simp [adoB, c1, c2] <;> omega), rfl⟩
    · go_enter Tryd.func106, Tryd.ntmps106
      go_wp2
      go_ret
      exact ⟨ret_bool (by rw [Bool.eq_iff_iff]; simp [adoB, c1, c2] <;> omega), rfl⟩
def Dec.ado (d : Dec) : Bool := adoB d.need d.yes.length d.no.length
def wasOut (d : Dec) : Value := if decB d then .tuple #[.bool d.ado, .bool true] else .tuple #[.bool false, .bool false]
theorem decB_len {d : Dec} (h : decB d = true) : d.yes.length ≤ 30 ∧ d.no.length ≤ 30 := by
  simp [decB, sidesB] at h; omega
theorem wasOut_form (d : Dec) : ∃ a b : Bool, wasOut d = .tuple #[.bool a, .bool b] := by
  unfold wasOut; split
  · exact ⟨_, _, rfl⟩
  · exact ⟨_, _, rfl⟩
end Go.Proofs.YtbnncgahepcfnaaDoor
