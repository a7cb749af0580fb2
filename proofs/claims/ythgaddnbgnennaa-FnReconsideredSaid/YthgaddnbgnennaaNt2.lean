/- Notices copied: the slice that toNoticeS makes. -/
import Derived.Test.YthgaddnbgnennaaNtc
import Derived.Test.YthgaddnbgnennaaOwn
namespace Go.Proofs.Ythgaddnbgnennaa
open Go.RowKit Go.G9
theorem info_Ntc : (Try.prog.info? 72).map (fun i => (i.zero, i.size, i.bytes)) = some (some (.agg #[.int .i64 0, .string ⟨#[]⟩, .int .i64 0, .int .i64 0]), 4, 40) := by kernel_rfl
theorem szNoticeS_is (A : Option Addr) (c : Nat) (xs : List Ntc) (hn : xs.length ≤ maxLen) (l : Int) (h00 : 0 ≤ l) (h01 : l ≤ 1048576) (w : World) (hR : Rds 4 Ntc.cells w A xs) :
  Calls Try.prog 23 #[.slice A xs.length c, .int .i64 l] w fun e w' => ∃ r : Int, e = .returned (.int .i64 r) ∧ -1 ≤ r ∧ r ≤ l ∧ (r < 0 ∨ xs.length ≤ 1048576) ∧ Below w.heap.size w w' := by
  unfold maxLen at hn
  by_cases hl : (xs.length : Int) ≤ l
  · have hl' : ¬ (l - (xs.length : Int)) < 0 := by omega
    go_enter Try.func23, Try.ntmps23
    go_wp2
    go_loopw [1, 5] (fun lv i wr => ∃ (k : Nat) (r : Int), k ≤ xs.length ∧ i = .int .i64 k ∧ lv = .int .i64 r ∧ 0 ≤ r ∧ r ≤ l ∧ Below w.heap.size w wr) (fun _ i _ => xs.length - (intOf i).toNat)
    case atStart => exact ⟨0, _, Nat.zero_le _, rfl, rfl, by omega, by omega, Below.refl _ _⟩
    case round =>
      obtain ⟨k, r, hk, rfl, rfl, h0, h1, hb⟩ := hrel
      by_cases hlt : k < xs.length
      · obtain ⟨b, off, x, rfl, hbl, hx, hcx⟩ := hR.at_ hb hlt
        obtain ⟨id, s, g, d, hs⟩ := x
        have f0 := hcx 0 _ rfl
        have f1 := hcx 1 _ rfl
        have f2 := hcx 2 _ rfl
        have f3 := hcx 3 _ rfl
        simp only [Nat.add_zero] at f0
        have g0 := f0 (Kin.self _)
        have g1 := f1 (Kin.self _)
        have g2 := f2 (Kin.self _)
        have g3 := f3 (Kin.self _)
        simp only [Kin.self] at g0
        simp only [Kin.self] at g1
        simp only [Kin.self] at g2
        simp only [Kin.self] at g3
        clear hx hcx
        go_wp2_with fail
        refine (szNotice_is _ _ _ _ _ hs h0 (by omega) _).mono ?_
        rintro e w' ⟨r', rfl, ⟨h2, h3⟩, hb'⟩
        by_cases h4 : r' < 0
        · go_wp2
          go_ret
          exact ⟨_, rfl, by omega, by omega, .inl (by omega), bth hb hb'⟩
        · go_wp2
          go_roundw
          case rel => exact ⟨k + 1, r', by omega, by go_num, rfl, by omega, by omega, bth hb hb'⟩
          case measure => simp [intOf]; omega
      · go_wp2
        go_ret
        exact ⟨_, rfl, by omega, by omega, .inr (by omega), hb⟩
  · have hl' : (l - (xs.length : Int)) < 0 := by omega
    go_enter Try.func23, Try.ntmps23
    go_wp2
    go_ret
    exact ⟨_, rfl, by omega, by omega, .inl (by omega), Below.refl _ _⟩
set_option maxHeartbeats 1000000 in
theorem eqNoticeS_is (A A' : Option Addr) (c c' : Nat) (xs : List Ntc) (hn : xs.length ≤ 1048576) (w : World) (hR : Rds 4 Ntc.cells w A xs) (hR' : Rds 4 Ntc.cells w A' xs) :
  Calls Try.prog 27 #[.slice A xs.length c, .slice A' xs.length c'] w fun e w' => e = .returned (.bool true) ∧ Below w.heap.size w w' := by
  go_enter Try.func27, Try.ntmps27
  go_wp2
  go_loopw [5] (fun i wr => ∃ (k : Nat), k ≤ xs.length ∧ i = .int .i64 k ∧ Below w.heap.size w wr) (fun i _ => xs.length - (intOf i).toNat)
  case atStart => exact ⟨0, Nat.zero_le _, rfl, Below.refl _ _⟩
  case round =>
    obtain ⟨k, hk, rfl, hb⟩ := hrel
    by_cases hlt : k < xs.length
    · obtain ⟨b, off, x, rfl, hbl, hx, hcx⟩ := hR.at_ hb hlt
      obtain ⟨b', off', x', rfl, _, hx', hcx'⟩ := hR'.at_ hb hlt
      obtain rfl : x = x' := Option.some.inj (hx.symm.trans hx')
      obtain ⟨id, s, g, d, hs⟩ := x
      have f0 := hcx 0 _ rfl
      have f1 := hcx 1 _ rfl
      have f2 := hcx 2 _ rfl
      have f3 := hcx 3 _ rfl
      simp only [Nat.add_zero] at f0
      have e0 := hcx' 0 _ rfl
      have e1 := hcx' 1 _ rfl
      have e2 := hcx' 2 _ rfl
      have e3 := hcx' 3 _ rfl
      simp only [Nat.add_zero] at e0
      clear hx hcx hx' hcx'
      go_wp2
      refine wp_region_kin (by kernel_rfl) (by kernel_rfl) ?_
      repeat (go_big_quiet_step (((go_at_call 71; exact Kin.call _ (Nat.le_refl _) (eqNotice_is _ _ _ _ _)))))
      refine wpQuiet_nil ?_
      intro K
      go_wp2
      go_roundw
      case rel => exact ⟨k + 1, by omega, by go_num, bth hb K.below⟩
      case measure => simp [intOf]; omega
    · go_wp2
      go_ret
      exact ⟨rfl, hb⟩
set_option maxHeartbeats 1000000 in
theorem toNoticeS_is (A : Option Addr) (c : Nat) (xs : List Ntc) (hn : xs.length ≤ 1048576) (w : World) (hR : Rds 4 Ntc.cells w A xs) :
  Calls Try.prog 25 #[.slice A xs.length c] w fun e w' => ∃ A', e = .returned (.slice A' xs.length xs.length) ∧ OwnV w.heap.size 72 4 Ntc.cells w' (.slice A' xs.length xs.length) xs ∧ Below w.heap.size w w' := by
  obtain ⟨i0, hi, hz0, hz1, hz2⟩ := info_parts info_Ntc
  have hmk := run_make_rowN (P := Try.prog) 41 72 i0 _ Try.underlying41 hi hz0 .i64 .i64 xs.length xs.length (Nat.le_refl _) (by rw [hz2]; omega) (by omega)
  rw [hz1] at hmk
  go_enter Try.func25, Try.ntmps25
  go_wp2
  go_loopw [4] (fun i wr => ∃ (k : Nat) (cs : Array Value), k ≤ xs.length ∧ i = .int .i64 k ∧ Blk wr w.heap.size 72 cs ∧ cs.size = xs.length * 4 ∧ Filled 4 Ntc.cells xs k cs ∧ Below w.heap.size w wr) (fun i _ => xs.length - (intOf i).toNat)
  case atStart => exact ⟨0, _, Nat.zero_le _, rfl, Blk.new _ _ _, by simp [madeCells], Filled.zero, bl1 _ _⟩
  case round =>
    obtain ⟨k, cs, hk, rfl, hB, hsz, hF, hb⟩ := hrel
    have HSZ := Lib.hid hsz; clear hsz
    by_cases hlt : k < xs.length
    · obtain ⟨b, off, x, rfl, hbl, hx, hcx⟩ := hR.at_ hb hlt
      obtain ⟨id, s, g, d, hs⟩ := x
      have f0 := hcx 0 _ rfl
      have f1 := hcx 1 _ rfl
      have f2 := hcx 2 _ rfl
      have f3 := hcx 3 _ rfl
      simp only [Nat.add_zero] at f0
      have g0 := f0 (Kin.self _)
      have g1 := f1 (Kin.self _)
      have g2 := f2 (Kin.self _)
      have g3 := f3 (Kin.self _)
      simp only [Kin.self] at g0
      simp only [Kin.self] at g1
      simp only [Kin.self] at g2
      simp only [Kin.self] at g3
      clear hcx
      have HX := Lib.hid hx; clear hx
      go_wp2_with fail
      refine (toNotice_is _ _ _ _ _).mono ?_
      rintro e w' ⟨rfl, hb'⟩
      have hB' := hB.below hb' hB.lt
      obtain ⟨v0, c0⟩ := hB'.some_ (k * 4) (by rw [HSZ.out]; omega)
      have z0 := hB'.frozen (k * 4)
      obtain ⟨v1, c1⟩ := hB'.some_ (k * 4 + 1) (by rw [HSZ.out]; omega)
      have z1 := hB'.frozen (k * 4 + 1)
      obtain ⟨v2, c2⟩ := hB'.some_ (k * 4 + 2) (by rw [HSZ.out]; omega)
      have z2 := hB'.frozen (k * 4 + 2)
      obtain ⟨v3, c3⟩ := hB'.some_ (k * 4 + 3) (by rw [HSZ.out]; omega)
      have z3 := hB'.frozen (k * 4 + 3)
      go_wp2
      go_roundw
      case rel => exact ⟨k + 1, setMany cs (k * 4) (Ntc.cells ⟨id, s, g, d, hs⟩), by omega, by go_num, hB'.setMany (k * 4) (Ntc.cells ⟨id, s, g, d, hs⟩), by rw [size_setMany, HSZ.out], hF.put HX.out (by rw [HSZ.out]; simp [Ntc.cells]; omega), ((((bth hb hb').setCell (Nat.le_refl _) _).setCell (Nat.le_refl _) _).setCell (Nat.le_refl _) _).setCell (Nat.le_refl _) _⟩
      case measure => simp [intOf]; omega
    · obtain rfl : k = xs.length := by omega
      go_wp2
      go_ret
      exact ⟨_, rfl, OwnV.filled hB (Nat.le_refl _) HSZ.out (by unfold maxLen; omega) hF.all, hb⟩
set_option maxHeartbeats 1000000 in
theorem l24Good_is (A : Option Addr) (c : Nat) (xs : List Ntc) (hn : xs.length ≤ 1048576) (v : Bool) (hv : noticesB xs = v) (w : World) (hR : Rds 4 Ntc.cells w A xs) :
  Calls Try.prog 65 #[.slice A xs.length c] w fun e w' => e = .returned (.bool v) ∧ Below w.heap.size w w' := by
  subst hv
  go_enter Try.func65, Try.ntmps65
  go_wp2
  go_loopw [3] (fun i wr => ∃ k : Nat, k ≤ xs.length ∧ i = .int .i64 k ∧ allTo (ntcStep xs) k = true ∧ Below w.heap.size w wr) (fun i _ => xs.length - (intOf i).toNat)
  case atStart => exact ⟨0, Nat.zero_le _, rfl, rfl, Below.refl _ _⟩
  case round =>
    obtain ⟨k, hk, rfl, hl, hb⟩ := hrel
    have HL := Lib.hid hl; clear hl
    by_cases hlt : k < xs.length
    · obtain ⟨b, off, x, rfl, hbl, hx, hcx⟩ := hR.at_ hb hlt
      obtain ⟨id, s, g, d, hs⟩ := x
      cases k with
      | zero =>
        have f0 := hcx 0 _ rfl
        have f1 := hcx 1 _ rfl
        have f2 := hcx 2 _ rfl
        have f3 := hcx 3 _ rfl
        simp only [Nat.zero_mul, Nat.add_zero] at f0
        simp only [Nat.zero_mul] at f1
        simp only [Nat.zero_mul] at f2
        simp only [Nat.zero_mul] at f3
        have HX := Lib.hid hx; clear hx hcx
        cases hv : noticeB ⟨id, s, g, d, hs⟩
        all_goals
          go_wp2
          refine wp_region_kin (by kernel_rfl) (by kernel_rfl) ?_
          repeat (go_big_quiet_step ((first | (go_at_call 90; exact Kin.call _ (by first | exact Nat.le_refl _ | omega) (l24One_is _ _ _ _ hs _ hv _)))))
          refine wpQuiet_nil ?_
          intro K
          go_wp2
        · go_ret
          exact ⟨ret_bool (by rw [noticesB, allTo_not hlt (by simp [ntcStep, HX.out, hv])]; rfl), bth hb K.below⟩
        · go_roundw
          case rel => exact ⟨1, by omega, by go_num, allTo_go HL.out (by simp [ntcStep, HX.out, hv]), bth hb K.below⟩
          case measure => simp [intOf]; omega
      | succ j =>
        obtain ⟨b', off', y, e', _, hy, hcy⟩ := hR.at_ hb (k := j) (by omega)
        simp only [Option.some.injEq, Addr.mk.injEq, and_true] at e'
        obtain ⟨rfl, rfl⟩ := e'
        obtain ⟨yid, ys, yg, yd, yok⟩ := y
        have f0 := hcx 0 _ rfl
        have f1 := hcx 1 _ rfl
        have f2 := hcx 2 _ rfl
        have f3 := hcx 3 _ rfl
        simp only [Nat.add_zero] at f0
        have y0 := hcy 0 _ rfl
        simp only [Nat.add_zero] at y0
        have HX := Lib.hid hx; clear hx hcx
        have HY := Lib.hid hy; clear hy hcy
        cases hv : noticeB ⟨id, s, g, d, hs⟩
        · go_wp2
          refine wp_region_kin (by kernel_rfl) (by kernel_rfl) ?_
          repeat (go_big_quiet_step ((first | (go_at_call 90; exact Kin.call _ (by first | exact Nat.le_refl _ | omega) (l24One_is _ _ _ _ hs _ hv _)))))
          refine wpQuiet_nil ?_
          intro K
          go_wp2
          go_ret
          exact ⟨ret_bool (by rw [noticesB, allTo_not hlt (by simp [ntcStep, HX.out, HY.out, hv])]; rfl), bth hb K.below⟩
        · by_cases hid : yid < id
          all_goals
            go_wp2
            refine wp_region_kin (by kernel_rfl) (by kernel_rfl) ?_
            repeat (go_big_quiet_step ((first | (go_at_call 90; exact Kin.call _ (by first | exact Nat.le_refl _ | omega) (l24One_is _ _ _ _ hs _ hv _)))))
            refine wpQuiet_nil ?_
            intro K
            go_wp2
          · go_roundw
            case rel => exact ⟨j + 1 + 1, by omega, by go_num, allTo_go HL.out (by simp [ntcStep, HX.out, HY.out, hv, hid]), bth hb K.below⟩
            case measure => simp [intOf]; omega
          · go_ret
            exact ⟨ret_bool (by rw [noticesB, allTo_not hlt (by simp [ntcStep, HX.out, HY.out, hv, hid])]; rfl), bth hb K.below⟩
    · obtain rfl : k = xs.length := by omega
      go_wp2
      go_ret
      exact ⟨ret_bool (by rw [noticesB, HL.out]; simp; omega), hb⟩
set_option maxHeartbeats 1000000 in
theorem areNotices_is (A : Option Addr) (c : Nat) (xs : List Ntc) (hn : xs.length ≤ 1048576) (v : Bool) (hv : noticesB xs = v) (w : World) (hR : Rds 4 Ntc.cells w A xs) :
  Calls Try.prog 69 #[.slice A xs.length c] w fun e w' => e = .returned (.bool v) ∧ Below w.heap.size w w' := by
  subst hv
  go_enter Try.func69, Try.ntmps69
  go_wp2
  go_loopw [7] (fun i wr => ∃ k : Nat, k ≤ xs.length ∧ i = .int .i64 k ∧ allTo (ntcStep xs) k = true ∧ Below w.heap.size w wr) (fun i _ => xs.length - (intOf i).toNat)
  case atStart => exact ⟨0, Nat.zero_le _, rfl, rfl, Below.refl _ _⟩
  case round =>
    obtain ⟨k, hk, rfl, hl, hb⟩ := hrel
    have HL := Lib.hid hl; clear hl
    by_cases hlt : k < xs.length
    · obtain ⟨b, off, x, rfl, hbl, hx, hcx⟩ := hR.at_ hb hlt
      obtain ⟨id, s, g, d, hs⟩ := x
      have hbx := fun j => boxed wr #[.int .i64 id, .string s, .int .i64 g, .int .i64 d] 72 j
      have n0 := hbx 0 _ rfl
      have n1 := hbx 1 _ rfl
      have n2 := hbx 2 _ rfl
      have n3 := hbx 3 _ rfl
      clear hbx
      cases k with
      | zero =>
        have f0 := hcx 0 _ rfl
        have f1 := hcx 1 _ rfl
        have f2 := hcx 2 _ rfl
        have f3 := hcx 3 _ rfl
        simp only [Nat.zero_mul, Nat.add_zero] at f0
        simp only [Nat.zero_mul] at f1
        simp only [Nat.zero_mul] at f2
        simp only [Nat.zero_mul] at f3
        have g0 := f0 (Kin.self _)
        have g1 := f1 (Kin.self _)
        have g2 := f2 (Kin.self _)
        have g3 := f3 (Kin.self _)
        simp only [Kin.self] at g0
        simp only [Kin.self] at g1
        simp only [Kin.self] at g2
        simp only [Kin.self] at g3
        have HX := Lib.hid hx; clear hx hcx
        cases hv : noticeB ⟨id, s, g, d, hs⟩
        all_goals
          go_wp2
          refine wp_region_kin (by kernel_rfl) (by kernel_rfl) ?_
          repeat (go_big_quiet_step ((first | (go_at_call 91; exact Kin.call _ (by first | exact Nat.le_refl _ | omega) (isNotice_is _ _ _ _ hs _ hv _)))))
          refine wpQuiet_nil ?_
          intro K
          go_wp2
        · go_ret
          exact ⟨ret_bool (by rw [noticesB, allTo_not hlt (by simp [ntcStep, HX.out, hv])]; rfl), bth hb (bth (bl1 _ _) K.below)⟩
        · go_roundw
          case rel => exact ⟨1, by omega, by go_num, allTo_go HL.out (by simp [ntcStep, HX.out, hv]), bth hb (bth (bl1 _ _) K.below)⟩
          case measure => simp [intOf]; omega
      | succ j =>
        obtain ⟨b', off', y, e', _, hy, hcy⟩ := hR.at_ hb (k := j) (by omega)
        simp only [Option.some.injEq, Addr.mk.injEq, and_true] at e'
        obtain ⟨rfl, rfl⟩ := e'
        obtain ⟨yid, ys, yg, yd, yok⟩ := y
        have f0 := hcx 0 _ rfl
        have f1 := hcx 1 _ rfl
        have f2 := hcx 2 _ rfl
        have f3 := hcx 3 _ rfl
        simp only [Nat.add_zero] at f0
        have g0 := f0 (Kin.self _)
        have g1 := f1 (Kin.self _)
        have g2 := f2 (Kin.self _)
        have g3 := f3 (Kin.self _)
        simp only [Kin.self] at g0
        simp only [Kin.self] at g1
        simp only [Kin.self] at g2
        simp only [Kin.self] at g3
        have y0 := hcy 0 _ rfl
        simp only [Nat.add_zero] at y0
        have y0' := fun K : Kin (wr.alloc _).heap.size (wr.alloc (.cells #[.int .i64 id, .string s, .int .i64 g, .int .i64 d] 72)) => y0 (K.drop (bl1 _ _))
        simp only [Kin.drop] at y0'
        have HX := Lib.hid hx; clear hx hcx
        have HY := Lib.hid hy; clear hy hcy y0
        cases hv : noticeB ⟨id, s, g, d, hs⟩
        · go_wp2
          refine wp_region_kin (by kernel_rfl) (by kernel_rfl) ?_
          repeat (go_big_quiet_step ((first | (go_at_call 91; exact Kin.call _ (by first | exact Nat.le_refl _ | omega) (isNotice_is _ _ _ _ hs _ hv _)))))
          refine wpQuiet_nil ?_
          intro K
          go_wp2
          go_ret
          exact ⟨ret_bool (by rw [noticesB, allTo_not hlt (by simp [ntcStep, HX.out, HY.out, hv])]; rfl), bth hb (bth (bl1 _ _) K.below)⟩
        · by_cases hid : yid < id
          all_goals
            go_wp2
            refine wp_region_kin (by kernel_rfl) (by kernel_rfl) ?_
            repeat (go_big_quiet_step ((first | (go_at_call 91; exact Kin.call _ (by first | exact Nat.le_refl _ | omega) (isNotice_is _ _ _ _ hs _ hv _)))))
            refine wpQuiet_nil ?_
            intro K
            go_wp2
          · go_roundw
            case rel => exact ⟨j + 1 + 1, by omega, by go_num, allTo_go HL.out (by simp [ntcStep, HX.out, HY.out, hv, hid]), bth hb (bth (bl1 _ _) K.below)⟩
            case measure => simp [intOf]; omega
          · go_ret
            exact ⟨ret_bool (by rw [noticesB, allTo_not hlt (by simp [ntcStep, HX.out, HY.out, hv, hid])]; rfl), bth hb (bth (bl1 _ _) K.below)⟩
    · obtain rfl : k = xs.length := by omega
      go_wp2
      go_ret
      exact ⟨ret_bool (by rw [noticesB, HL.out]; simp; omega), hb⟩
end Go.Proofs.Ythgaddnbgnennaa
