/- Small functions on numbers and words: what they compute. -/
import Derived.Test.YtpejnfhenpdobaaDoorProg
import Derived.Test.YtpejnfhenpdobaaDoorBase
namespace Go.Proofs.YtpejnfhenpdobaaDoor
open Go.RowKit Go.G9
def inB (n a b : Int) : Bool := decide (a ≤ n) && decide (n ≤ b)
theorem inB_eq {n a b : Int} {v : Bool} (h : (decide (a ≤ n) && decide (n ≤ b)) = v) : inB n a b = v := h
theorem inB_iff {n a b : Int} : inB n a b = true ↔ a ≤ n ∧ n ≤ b := by simp [inB]
def lowB (l : List UInt8) : Bool := l.all fun c => decide (97 ≤ c.toNat) && decide (c.toNat ≤ 122)
def wordB (s : ByteArray) : Bool := lowB s.data.toList && inB s.size 1 10

theorem inside_is (n a b : Int) (v : Bool) (hv : inB n a b = v) (w : World) : Calls Tryd.prog 45 #[.int .i64 n, .int .i64 a, .int .i64 b] w fun e w' => e = .returned (.bool v) ∧ w' = w := by
  subst hv
  go_enter Tryd.func45, Tryd.ntmps45
  go_wp2
  all_goals go_ret; exact ⟨by simp [inB, *] <;> omega, rfl⟩
theorem l1In_is (n a b : Int) (v : Bool) (hv : inB n a b = v) (w : World) : Calls Tryd.prog 42 #[.int .i64 n, .int .i64 a, .int .i64 b] w fun e w' => e = .returned (.bool v) ∧ w' = w := by
  subst hv
  go_enter Tryd.func42, Tryd.ntmps42
  go_wp2
  all_goals go_ret; exact ⟨by simp [inB, *] <;> omega, rfl⟩

theorem lowB_take_succ (s : ByteArray) (k : Nat) (h : k < s.size) : lowB (s.data.toList.take (k+1)) = (lowB (s.data.toList.take k) && (decide (97 ≤ s[k].toNat) && decide (s[k].toNat ≤ 122))) := by
  unfold lowB
  rw [List.take_succ_eq_append_getElem (by simpa using h), List.all_append]; simp; rfl
theorem lowB_not (s : ByteArray) (k : Nat) (h : k < s.size) (h1 : (decide (97 ≤ s[k].toNat) && decide (s[k].toNat ≤ 122)) = false) : lowB s.data.toList = false := by
  have : lowB s.data.toList = (lowB (s.data.toList.take (k+1)) && lowB (s.data.toList.drop (k+1))) := by
    unfold lowB; rw [← List.all_append, List.take_append_drop]
  rw [this, lowB_take_succ s k h, h1]; simp
end Go.Proofs.YtpejnfhenpdobaaDoor
