/- Notices: the first meeting. -/
import Derived.Test.YtdimhbolckbjdaaNt2
import Derived.Test.YtdimhbolckbjdaaDays
namespace Go.Proofs.Ytdimhbolckbjdaa
open Go.RowKit Go.G9
theorem noticesB_at {xs : List Ntc} (h : noticesB xs = true) {k : Nat} {x : Ntc} (hx : xs[k]? = some x) : noticeB x = true := by
  rw [noticesB, Bool.and_eq_true] at h
  have h1 := allTo_iff.1 h.1 k (List.getElem?_eq_some_iff.1 hx).1
  cases k with
  | zero => simpa [ntcStep, hx] using h1
  | succ j =>
    obtain ⟨y, hy⟩ : ∃ y, xs[j]? = some y := ⟨_, List.getElem?_eq_getElem (by have := (List.getElem?_eq_some_iff.1 hx).1; omega)⟩
    simp [ntcStep, hx, hy] at h1
    exact h1.1
theorem noticesB_len {xs : List Ntc} (h : noticesB xs = true) : xs.length ≤ 10 := by
  rw [noticesB, Bool.and_eq_true] at h; simpa using h.2
theorem noticeB_bd {id g d : Int} {s : ByteArray} {hs : s.size ≤ maxLen} (h : noticeB ⟨id, s, g, d, hs⟩ = true) : 0 ≤ g ∧ g ≤ 3650 ∧ 0 ≤ d ∧ d ≤ 60 ∧ 1 ≤ id ∧ id ≤ 99 := by
  simp [noticeB, inB] at h; omega
def fmt (xs : List Ntc) : Nat → Int
  | 0 => 0
  | k + 1 => match xs[k]? with | some x => max (fmt xs k) (x.given + x.days) | none => fmt xs k
def fmOut (xs : List Ntc) : Value := if noticesB xs then dayOr (fmt xs xs.length) else .tuple #[.int .i64 0, .bool false]
theorem fmOut_form (xs : List Ntc) : ∃ (a : Int) (b : Bool), fmOut xs = .tuple #[.int .i64 a, .bool b] := by
  unfold fmOut dayOr; split
  · split
    · exact ⟨_, _, rfl⟩
    · exact ⟨_, _, rfl⟩
  · exact ⟨_, _, rfl⟩
set_option maxHeartbeats 1000000 in
theorem firstMeeting_is (A : Option Addr) (c : Nat) (xs : List Ntc) (hn : xs.length ≤ 1048576) (v : Value) (hv : fmOut xs = v) (w : World) (hR : Rds 4 Ntc.cells w A xs) :
  Calls Try.prog 44 #[.slice A xs.length c] w fun e w' => e = .returned v ∧ Below w.heap.size w w' := by
  subst hv
  cases hr : noticesB xs
  · go_enter Try.func44, Try.ntmps44
    go_wp2_with fail
    refine (areNotices_is A c xs hn _ hr _ hR).mono ?_
    rintro e w1 ⟨rfl, hb1⟩
    go_wp2
    go_ret2
    exact ⟨by simp [fmOut, hr], hb1⟩
  · go_enter Try.func44, Try.ntmps44
    go_wp2_with fail
    refine (areNotices_is A c xs hn _ hr _ hR).mono ?_
    rintro e w1 ⟨rfl, hb1⟩
    have hR1 := hR.below hb1
    go_wp2
    go_loopw [4, 12] (fun m i wr => ∃ k : Nat, k ≤ xs.length ∧ i = .int .i64 k ∧ m = .int .i64 (fmt xs k) ∧ Below w1.heap.size w1 wr) (fun _ i _ => xs.length - (intOf i).toNat)
    case atStart => exact ⟨0, Nat.zero_le _, rfl, rfl, Below.refl _ _⟩
    case round =>
      obtain ⟨k, hk, rfl, rfl, hb⟩ := hrel
      by_cases hlt : k < xs.length
      · obtain ⟨b, off, x, rfl, hbl, hx, hcx⟩ := hR1.at_ hb hlt
        have hv := noticesB_at hr hx
        obtain ⟨id, s, g, d, hs⟩ := x
        obtain ⟨t1, t2, t3, t4, _, _⟩ := noticeB_bd hv
        have f0 := hcx 0 _ rfl
        have f1 := hcx 1 _ rfl
        have f2 := hcx 2 _ rfl
        have f3 := hcx 3 _ rfl
        simp only [Nat.add_zero] at f0
        have g0 := f0 (Kin.self _)
        have g1 := f1 (Kin.self _)
        have g2 := f2 (Kin.self _)
        have g3 := f3 (Kin.self _)
        simp only [Kin.self] at g0
        simp only [Kin.self] at g1
        simp only [Kin.self] at g2
        simp only [Kin.self] at g3
        have HX := Lib.hid hx; clear hx hcx hv
        have hstep : fmt xs (k + 1) = max (fmt xs k) (g + d) := by rw [fmt, HX.out]
        have HS := Lib.hid hstep; clear hstep
        by_cases hc : fmt xs k ≤ g + d
        · go_wp2
          go_roundw
          case rel => exact ⟨k + 1, by omega, by go_num, by rw [HS.out]; go_num, bth hb (bl1 _ _)⟩
          case measure => simp [intOf]; omega
        · go_wp2
          go_roundw
          case rel => exact ⟨k + 1, by omega, by go_num, by rw [HS.out]; go_num, bth hb (bl1 _ _)⟩
          case measure => simp [intOf]; omega
      · obtain rfl : k = xs.length := by omega
        cases he : inB (fmt xs xs.length) 0 3650
        · go_wp2_with fail
          refine (asDay_no _ he _).mono ?_
          rintro e w' ⟨rfl, rfl⟩
          go_wp2
          go_ret2
          exact ⟨by simp [fmOut, hr, dayOr, he], bth hb1 hb⟩
        · go_wp2_with fail
          refine (asDay_yes _ he _).mono ?_
          rintro e w' ⟨rfl, rfl⟩
          go_wp2
          go_ret2
          exact ⟨by simp [fmOut, hr, dayOr, he], bth hb1 hb⟩
theorem l1Most_nt (a b : Int) (v : Int) (hv : max a b = v) (w : World) : Calls Try.prog 106 #[.int .i64 a, .int .i64 b] w fun e w' => e = .returned (.int .i64 v) ∧ w' = w := by
  subst hv
  by_cases h : b < a
  · go_enter Try.func106, Try.ntmps106
    go_wp2
    go_ret
    exact ⟨ret_int (by omega), rfl⟩
  · go_enter Try.func106, Try.ntmps106
    go_wp2
    go_ret
    exact ⟨ret_int (by omega), rfl⟩
set_option maxHeartbeats 1000000 in
theorem sFirstMeeting_is (A : Option Addr) (c : Nat) (xs : List Ntc) (hn : xs.length ≤ 1048576) (v : Value) (hv : fmOut xs = v) (w : World) (hR : Rds 4 Ntc.cells w A xs) :
  Calls Try.prog 43 #[.slice A xs.length c] w fun e w' => e = .returned v ∧ Below w.heap.size w w' := by
  subst hv
  cases hr : noticesB xs
  · go_enter Try.func43, Try.ntmps43
    go_wp2_with fail
    refine (l24Good_is A c xs hn _ hr _ hR).mono ?_
    rintro e w1 ⟨rfl, hb1⟩
    go_wp2
    go_ret2
    exact ⟨by simp [fmOut, hr], hb1⟩
  · go_enter Try.func43, Try.ntmps43
    go_wp2_with fail
    refine (l24Good_is A c xs hn _ hr _ hR).mono ?_
    rintro e w1 ⟨rfl, hb1⟩
    have hR1 := hR.below hb1
    go_wp2
    go_loopw [4, 5] (fun m i wr => ∃ k : Nat, k ≤ xs.length ∧ i = .int .i64 k ∧ m = .int .i64 (fmt xs k) ∧ Below w1.heap.size w1 wr) (fun _ i _ => xs.length - (intOf i).toNat)
    case atStart => exact ⟨0, Nat.zero_le _, rfl, rfl, Below.refl _ _⟩
    case round =>
      obtain ⟨k, hk, rfl, rfl, hb⟩ := hrel
      by_cases hlt : k < xs.length
      · obtain ⟨b, off, x, rfl, hbl, hx, hcx⟩ := hR1.at_ hb hlt
        have hv := noticesB_at hr hx
        obtain ⟨id, s, g, d, hs⟩ := x
        obtain ⟨t1, t2, t3, t4, _, _⟩ := noticeB_bd hv
        have f2 := hcx 2 _ rfl
        have f3 := hcx 3 _ rfl
        have HX := Lib.hid hx; clear hx hcx hv
        have hstep : fmt xs (k + 1) = max (fmt xs k) (g + d) := by rw [fmt, HX.out]
        have HS := Lib.hid hstep; clear hstep
        go_wp2
        refine wp_region_kin (by kernel_rfl) (by kernel_rfl) ?_
        repeat (go_big_quiet_step ((first | (go_at_call 106; exact Kin.same _ (l1Most_nt _ _ _ rfl _)))))
        refine wpQuiet_nil ?_
        intro K
        go_wp2
        go_roundw
        case rel => exact ⟨k + 1, by omega, by go_num, by rw [HS.out], bth hb K.below⟩
        case measure => simp [intOf]; omega
      · obtain rfl : k = xs.length := by omega
        cases he : inB (fmt xs xs.length) 0 3650
        all_goals
          go_wp2_with (go_at_call 80; refine (l24Day_is _ _ he _).mono ?_; rintro e w' ⟨rfl, rfl⟩)
          go_ret2
          exact ⟨by simp [fmOut, hr, dayOr, he], bth hb1 hb⟩
end Go.Proofs.Ytdimhbolckbjdaa
