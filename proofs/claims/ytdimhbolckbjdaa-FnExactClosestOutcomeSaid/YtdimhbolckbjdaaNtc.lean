/- Notices: validity of a notice and of a list of notices, copied, counted and compared. -/
import Derived.Test.YtdimhbolckbjdaaStr
namespace Go.Proofs.Ytdimhbolckbjdaa
open Go.RowKit Go.G9
structure Ntc where
  id : Int
  topic : ByteArray
  given : Int
  days : Int
  ok : topic.size ≤ maxLen
def Ntc.cells (n : Ntc) : List Value := [.int .i64 n.id, .string n.topic, .int .i64 n.given, .int .i64 n.days]
def noticeB (n : Ntc) : Bool := inB n.id 1 99 && (wordB n.topic && (inB n.given 0 3650 && inB n.days 0 60))
def ntcStep (xs : List Ntc) : Nat → Bool
  | 0 => match xs[0]? with | some x => noticeB x | none => true
  | j + 1 => match xs[j]?, xs[j+1]? with | some y, some x => noticeB x && decide (y.id < x.id) | _, _ => true
def noticesB (xs : List Ntc) : Bool := allTo (ntcStep xs) xs.length && decide (xs.length ≤ 10)

theorem isNotice_is (id g d : Int) (s : ByteArray) (hs : s.size ≤ maxLen) (v : Bool) (hv : noticeB ⟨id, s, g, d, hs⟩ = v) (w : World) :
  Calls Try.prog 90 #[.agg #[.int .i64 id, .string s, .int .i64 g, .int .i64 d]] w fun e w' => e = .returned (.bool v) ∧ Below w.heap.size w w' := by
  subst hv
  go_enter Try.func90, Try.ntmps90
  go_wp2_with (first | (go_at_call 84; refine (inside_is _ _ _ _ rfl _).mono ?_; rintro e w' ⟨rfl, rfl⟩) | (go_at_call 83; refine (isDay_is _ _ rfl _).mono ?_; rintro e w' ⟨rfl, rfl⟩) | (go_at_call 137; refine (isWord_is _ hs _ rfl _).mono ?_; rintro e w' ⟨rfl, rfl⟩))
  all_goals go_ret
  all_goals exact ⟨by simp [noticeB, *], (Below.refl _ _).alloc (Nat.le_refl _) _⟩
theorem l24One_is (id g d : Int) (s : ByteArray) (hs : s.size ≤ maxLen) (v : Bool) (hv : noticeB ⟨id, s, g, d, hs⟩ = v) (w : World) :
  Calls Try.prog 136 #[.agg #[.int .i64 id, .string s, .int .i64 g, .int .i64 d]] w fun e w' => e = .returned (.bool v) ∧ Below w.heap.size w w' := by
  subst hv
  go_enter Try.func136, Try.ntmps136
  go_wp2_with (first | (go_at_call 81; refine (l1In_is _ _ _ _ rfl _).mono ?_; rintro e w' ⟨rfl, rfl⟩) | (go_at_call 80; refine (l24Day_is _ _ rfl _).mono ?_; rintro e w' ⟨rfl, rfl⟩) | (go_at_call 159; refine (l2Word_is _ hs _ rfl _).mono ?_; rintro e w' ⟨rfl, rfl⟩))
  all_goals go_ret
  all_goals exact ⟨by simp [noticeB, *], (Below.refl _ _).alloc (Nat.le_refl _) _⟩
theorem eqNotice_is (id g d : Int) (s : ByteArray) (w : World) :
  Calls Try.prog 91 #[.agg #[.int .i64 id, .string s, .int .i64 g, .int .i64 d], .agg #[.int .i64 id, .string s, .int .i64 g, .int .i64 d]] w fun e w' => e = .returned (.bool true) ∧ Below w.heap.size w w' := by
  go_enter Try.func91, Try.ntmps91
  go_wp2
  go_ret
  exact ⟨rfl, bl2 _ _ _⟩
theorem toNotice_is (id g d : Int) (s : ByteArray) (w : World) :
  Calls Try.prog 89 #[.agg #[.int .i64 id, .string s, .int .i64 g, .int .i64 d]] w fun e w' => e = .returned (.agg #[.int .i64 id, .string s, .int .i64 g, .int .i64 d]) ∧ Below w.heap.size w w' := by
  go_enter Try.func89, Try.ntmps89
  go_wp2
  exact bodyPost_ret (v := .agg #[.int .i64 id, .string s, .int .i64 g, .int .i64 d]) (by simp [results, Try.results89, go_sem]) rfl ⟨rfl, bl3 _ _ _ _⟩
theorem szNotice_is (id g d l : Int) (s : ByteArray) (hs : s.size ≤ maxLen) (h0 : 0 ≤ l) (h1 : l ≤ 1048576) (w : World) :
  Calls Try.prog 87 #[.agg #[.int .i64 id, .string s, .int .i64 g, .int .i64 d], .int .i64 l] w fun e w' => ∃ r : Int, e = .returned (.int .i64 r) ∧ (-1 ≤ r ∧ r ≤ l) ∧ Below w.heap.size w w' := by
  unfold maxLen at hs
  go_enter Try.func87, Try.ntmps87
  go_wp2
  all_goals go_ret
  all_goals exact ⟨_, rfl, by constructor <;> omega, ((Below.refl _ _).alloc (Nat.le_refl _) _)⟩
theorem szNoticeS_is (A : Option Addr) (c : Nat) (xs : List Ntc) (hn : xs.length ≤ maxLen) (w : World) (hR : Rds 4 Ntc.cells w A xs) :
  Calls Try.prog 17 #[.slice A xs.length c, .int .i64 1048576] w fun e w' => ∃ r : Int, e = .returned (.int .i64 r) ∧ (r < 0 ∨ xs.length ≤ 1048576) ∧ Below w.heap.size w w' := by
  unfold maxLen at hn
  by_cases hl : xs.length ≤ 1048576
  · have hl' : ¬ (1048576 - (xs.length : Int)) < 0 := by omega
    go_enter Try.func17, Try.ntmps17
    go_wp2
    go_loopw [1, 5] (fun l i wr => ∃ (k : Nat) (r : Int), k ≤ xs.length ∧ i = .int .i64 k ∧ l = .int .i64 r ∧ 0 ≤ r ∧ r ≤ 1048576 ∧ Below w.heap.size w wr) (fun _ i _ => xs.length - (intOf i).toNat)
    case atStart => exact ⟨0, _, Nat.zero_le _, rfl, rfl, by omega, by omega, Below.refl _ _⟩
    case round =>
      obtain ⟨k, r, hk, rfl, rfl, h0, h1, hb⟩ := hrel
      by_cases hlt : k < xs.length
      · obtain ⟨b, off, x, rfl, hbl, hx, hcx⟩ := hR.at_ hb hlt
        obtain ⟨id, s, g, d, hs⟩ := x
        have f0 := hcx 0 _ rfl
        have f1 := hcx 1 _ rfl
        have f2 := hcx 2 _ rfl
        have f3 := hcx 3 _ rfl
        simp only [Nat.add_zero] at f0
        have g0 := f0 (Kin.self _)
        have g1 := f1 (Kin.self _)
        have g2 := f2 (Kin.self _)
        have g3 := f3 (Kin.self _)
        simp only [Kin.self] at g0
        simp only [Kin.self] at g1
        simp only [Kin.self] at g2
        simp only [Kin.self] at g3
        clear hx hcx
        go_wp2_with fail
        refine (szNotice_is _ _ _ _ _ hs h0 h1 _).mono ?_
        rintro e w' ⟨r', rfl, ⟨h2, h3⟩, hb'⟩
        by_cases h4 : r' < 0
        · go_wp2
          go_ret
          exact ⟨_, rfl, .inl (by omega), bth hb hb'⟩
        · go_wp2
          go_roundw
          case rel => exact ⟨k + 1, r', by omega, by go_num, rfl, by omega, by omega, bth hb hb'⟩
          case measure => simp [intOf]; omega
      · go_wp2
        go_ret
        exact ⟨_, rfl, .inr hl, hb⟩
  · have hl' : (1048576 - (xs.length : Int)) < 0 := by omega
    go_enter Try.func17, Try.ntmps17
    go_wp2
    go_ret
    exact ⟨_, rfl, .inl (by omega), Below.refl _ _⟩
theorem eqNoticeS_is (A A' : Option Addr) (c c' : Nat) (xs : List Ntc) (hn : xs.length ≤ 1048576) (w : World) (hR : Rds 4 Ntc.cells w A xs) (hR' : Rds 4 Ntc.cells w A' xs) :
  Calls Try.prog 21 #[.slice A xs.length c, .slice A' xs.length c'] w fun e w' => e = .returned (.bool true) ∧ Below w.heap.size w w' := by
  go_enter Try.func21, Try.ntmps21
  go_wp2
  go_loopw [5] (fun i wr => ∃ (k : Nat), k ≤ xs.length ∧ i = .int .i64 k ∧ Below w.heap.size w wr) (fun i _ => xs.length - (intOf i).toNat)
  case atStart => exact ⟨0, Nat.zero_le _, rfl, Below.refl _ _⟩
  case round =>
    obtain ⟨k, hk, rfl, hb⟩ := hrel
    by_cases hlt : k < xs.length
    · obtain ⟨b, off, x, rfl, hbl, hx, hcx⟩ := hR.at_ hb hlt
      obtain ⟨b', off', x', rfl, _, hx', hcx'⟩ := hR'.at_ hb hlt
      obtain rfl : x = x' := Option.some.inj (hx.symm.trans hx')
      obtain ⟨id, s, g, d, hs⟩ := x
      have f0 := hcx 0 _ rfl
      have f1 := hcx 1 _ rfl
      have f2 := hcx 2 _ rfl
      have f3 := hcx 3 _ rfl
      simp only [Nat.add_zero] at f0
      have e0 := hcx' 0 _ rfl
      have e1 := hcx' 1 _ rfl
      have e2 := hcx' 2 _ rfl
      have e3 := hcx' 3 _ rfl
      simp only [Nat.add_zero] at e0
      clear hx hcx hx' hcx'
      go_wp2
      refine wp_region_kin (by kernel_rfl) (by kernel_rfl) ?_
      repeat (go_big_quiet_step ((first | (go_at_call 91; exact Kin.call _ (by first | exact Nat.le_refl _ | omega) (eqNotice_is _ _ _ _ _)))))
      refine wpQuiet_nil ?_
      intro K
      go_wp2
      go_roundw
      case rel => exact ⟨k + 1, by omega, by go_num, bth hb K.below⟩
      case measure => simp [intOf]; omega
    · go_wp2
      go_ret
      exact ⟨rfl, hb⟩
end Go.Proofs.Ytdimhbolckbjdaa
