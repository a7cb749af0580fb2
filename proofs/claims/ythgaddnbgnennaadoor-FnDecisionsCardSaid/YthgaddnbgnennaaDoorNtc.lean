/- Notices: validity of a notice and of a list of notices, copied, counted and compared. -/
import Derived.Test.YthgaddnbgnennaaDoorStr
namespace Go.Proofs.YthgaddnbgnennaaDoor
open Go.RowKit Go.G9
structure Ntc where
  id : Int
  topic : ByteArray
  given : Int
  days : Int
  ok : topic.size ≤ maxLen
def Ntc.cells (n : Ntc) : List Value := [.int .i64 n.id, .string n.topic, .int .i64 n.given, .int .i64 n.days]
def noticeB (n : Ntc) : Bool := inB n.id 1 99 && (wordB n.topic && (inB n.given 0 3650 && inB n.days 0 60))
def ntcStep (xs : List Ntc) : Nat → Bool
  | 0 => match xs[0]? with | some x => noticeB x | none => true
  | j + 1 => match xs[j]?, xs[j+1]? with | some y, some x => noticeB x && decide (y.id < x.id) | _, _ => true
def noticesB (xs : List Ntc) : Bool := allTo (ntcStep xs) xs.length && decide (xs.length ≤ 10)

theorem isNotice_is (id g d : Int) (s : ByteArray) (hs : s.size ≤ maxLen) (v : Bool) (hv : noticeB ⟨id, s, g, d, hs⟩ = v) (w : World) :
  Calls Tryd.prog 32 #[.agg #[.int .i64 id, .string s, .int .i64 g, .int .i64 d]] w fun e w' => e = .returned (.bool v) ∧ Below w.heap.size w w' := by
  subst hv
  go_enter Tryd.func32, Tryd.ntmps32
  go_wp2_with (first | (go_at_call 48; refine (inside_is _ _ _ _ rfl _).mono ?_; rintro e w' ⟨rfl, rfl⟩) | (go_at_call 49; refine (isDay_is _ _ rfl _).mono ?_; rintro e w' ⟨rfl, rfl⟩) | (go_at_call 62; refine (isWord_is _ hs _ rfl _).mono ?_; rintro e w' ⟨rfl, rfl⟩))
  all_goals go_ret
  all_goals exact ⟨by simp [noticeB, *], (Below.refl _ _).alloc (Nat.le_refl _) _⟩
theorem l24One_is (id g d : Int) (s : ByteArray) (hs : s.size ≤ maxLen) (v : Bool) (hv : noticeB ⟨id, s, g, d, hs⟩ = v) (w : World) :
  Calls Tryd.prog 30 #[.agg #[.int .i64 id, .string s, .int .i64 g, .int .i64 d]] w fun e w' => e = .returned (.bool v) ∧ Below w.heap.size w w' := by
  subst hv
  go_enter Tryd.func30, Tryd.ntmps30
  go_wp2_with (first | (go_at_call 58; refine (l1In_is _ _ _ _ rfl _).mono ?_; rintro e w' ⟨rfl, rfl⟩) | (go_at_call 59; refine (l24Day_is _ _ rfl _).mono ?_; rintro e w' ⟨rfl, rfl⟩) | (go_at_call 61; refine (l2Word_is _ hs _ rfl _).mono ?_; rintro e w' ⟨rfl, rfl⟩))
  all_goals go_ret
  all_goals exact ⟨by simp [noticeB, *], (Below.refl _ _).alloc (Nat.le_refl _) _⟩
theorem toNotice_is (id g d : Int) (s : ByteArray) (w : World) :
  Calls Tryd.prog 8 #[.agg #[.int .i64 id, .string s, .int .i64 g, .int .i64 d]] w fun e w' => e = .returned (.agg #[.int .i64 id, .string s, .int .i64 g, .int .i64 d]) ∧ Below w.heap.size w w' := by
  go_enter Tryd.func8, Tryd.ntmps8
  go_wp2
  exact bodyPost_ret (v := .agg #[.int .i64 id, .string s, .int .i64 g, .int .i64 d]) (by simp [results, Tryd.results8, go_sem]) rfl ⟨rfl, bl3 _ _ _ _⟩
theorem szNotice_is (id g d l : Int) (s : ByteArray) (hs : s.size ≤ maxLen) (h0 : 0 ≤ l) (h1 : l ≤ 1048576) (w : World) :
  Calls Tryd.prog 6 #[.agg #[.int .i64 id, .string s, .int .i64 g, .int .i64 d], .int .i64 l] w fun e w' => ∃ r : Int, e = .returned (.int .i64 r) ∧ (-1 ≤ r ∧ r ≤ l) ∧ Below w.heap.size w w' := by
  unfold maxLen at hs
  go_enter Tryd.func6, Tryd.ntmps6
  go_wp2
  all_goals go_ret
  all_goals exact ⟨_, rfl, by constructor <;> omega, ((Below.refl _ _).alloc (Nat.le_refl _) _)⟩
end Go.Proofs.YthgaddnbgnennaaDoor
