/- Notices: validity of a notice and of a list of notices, copied, counted and compared. -/
import Derived.Test.YtbnncgahepcfnaaDoorStr
namespace Go.Proofs.YtbnncgahepcfnaaDoor
open Go.RowKit Go.G9
structure Ntc where
  id : Int
  topic : ByteArray
  given : Int
  days : Int
  ok : topic.size ≤ maxLen
def Ntc.cells (n : Ntc) : List Value := [.int .i64 n.id, .string n.topic, .int .i64 n.given, .int .i64 n.days]
def noticeB (n : Ntc) : Bool := inB n.id 1 99 && (wordB n.topic && (inB n.given 0 3650 && inB n.days 0 60))
def ntcStep (xs : List Ntc) : Nat → Bool
  | 0 => match xs[0]? with | some x => noticeB x | none => true
  | j + 1 => match xs[j]?, xs[j+1]? with | some y, some x => noticeB x && decide (y.id < x.id) | _, _ => true
def noticesB (xs : List Ntc) : Bool := allTo (ntcStep xs) xs.length && decide (xs.length ≤ 10)

theorem isNotice_is (id g d : Int) (s : ByteArray) (hs : s.size ≤ maxLen) (v : Bool) (hv : noticeB ⟨id, s, g, d, hs⟩ = v) (w : World) :
  Calls Tryd.prog 73 #[.agg #[.int .i64 id, .string s, .int .i64 g, .int .i64 d]] w fun e w' => e = .returned (.bool v) ∧ Below w.heap.size w w' := by
  subst hv
  go_enter Tryd.func73, Tryd.ntmps73
  go_wp2_with (first | (go_at_call 93; refine (inside_is _ _ _ _ rfl _).mono ?_; rintro e w' ⟨rfl, rfl⟩) | (go_at_call 101; refine (isDay_is _ _ rfl _).mono ?_; rintro e w' ⟨rfl, rfl⟩) | (go_at_call 84; refine (isWord_is _ hs _ rfl _).mono ?_; rintro e w' ⟨rfl, rfl⟩))
  all_goals go_ret
  all_goals exact ⟨by simp [noticeB, *], (Below.refl _ _).alloc (Nat.le_refl _) _⟩
theorem l24One_is (id g d : Int) (s : ByteArray) (hs : s.size ≤ maxLen) (v : Bool) (hv : noticeB ⟨id, s, g, d, hs⟩ = v) (w : World) :
  Calls Tryd.prog 68 #[.agg #[.int .i64 id, .string s, .int .i64 g, .int .i64 d]] w fun e w' => e = .returned (.bool v) ∧ Below w.heap.size w w' := by
  subst hv
  go_enter Tryd.func68, Tryd.ntmps68
  go_wp2_with (first | (go_at_call 96; refine (l1In_is _ _ _ _ rfl _).mono ?_; rintro e w' ⟨rfl, rfl⟩) | (go_at_call 97; refine (l24Day_is _ _ rfl _).mono ?_; rintro e w' ⟨rfl, rfl⟩) | (go_at_call 81; refine (l2Word_is _ hs _ rfl _).mono ?_; rintro e w' ⟨rfl, rfl⟩))
  all_goals go_ret
  all_goals exact ⟨by simp [noticeB, *], (Below.refl _ _).alloc (Nat.le_refl _) _⟩
theorem eqNotice_is (id g d : Int) (s : ByteArray) (w : World) :
  Calls Tryd.prog 35 #[.agg #[.int .i64 id, .string s, .int .i64 g, .int .i64 d], .agg #[.int .i64 id, .string s, .int .i64 g, .int .i64 d]] w fun e w' => e = .returned (.bool true) ∧ Below w.heap.size w w' := by
  go_enter Tryd.func35, Tryd.ntmps35
  go_wp2
  go_ret
  exact ⟨rfl, bl2 _ _ _⟩
end Go.Proofs.YtbnncgahepcfnaaDoor
