/- Records of the log: validity. -/
import Derived.Test.YthgaddnbgnennaaDoorStr
import Derived.Test.YthgaddnbgnennaaDoorOwn
import Derived.Lib.Bytealg
namespace Go.Proofs.YthgaddnbgnennaaDoor
open Go.RowKit Go.G9
/-- Does a byte stand in a text? -/
def stB (s : ByteArray) (c : UInt8) : Bool := s.data.toList.any (· == c)
theorem indexByte_ge (c : UInt8) : ∀ l : List UInt8, -1 ≤ Lib.indexByte l c ∧ (decide (0 ≤ Lib.indexByte l c)) = l.any (· == c)
  | [] => by simp [Lib.indexByte]
  | b :: l => by
    have ih := indexByte_ge c l
    unfold Lib.indexByte
    by_cases h : b == c
    · simp [h]
    · by_cases h2 : Lib.indexByte l c = -1
      · have := ih.2; rw [h2] at this; simp [h, h2] at this ⊢; exact this
      · have h3 : 0 ≤ Lib.indexByte l c := by omega
        have := ih.2
        simp [h, h2, h3] at this ⊢
        refine ⟨by omega, ?_⟩
        simp [show (0 : Int) ≤ Lib.indexByte l c + 1 from by omega]
        exact this
def plainC (c : UInt8) : Bool := decide (32 ≤ c.toNat) && (decide (c.toNat ≤ 126) && !(c == 35))
def plainB (s : ByteArray) : Bool := s.data.toList.all plainC
theorem plain_take (s : ByteArray) (k : Nat) (h : k < s.size) : (s.data.toList.take (k+1)).all plainC = ((s.data.toList.take k).all plainC && plainC s[k]) := by
  rw [List.take_succ_eq_append_getElem (by simpa using h), List.all_append]; simp; rfl
theorem plain_not (s : ByteArray) (k : Nat) (h : k < s.size) (h1 : plainC s[k] = false) : plainB s = false := by
  have : plainB s = ((s.data.toList.take (k+1)).all plainC && (s.data.toList.drop (k+1)).all plainC) := by
    unfold plainB; rw [← List.all_append, List.take_append_drop]
  rw [this, plain_take s k h, h1]; simp
def recB (c r : ByteArray) : Bool := inB c.size 1 160 && (decide (r.size ≤ 200) && (plainB c && (plainB r && !stB c 64)))
end Go.Proofs.YthgaddnbgnennaaDoor
