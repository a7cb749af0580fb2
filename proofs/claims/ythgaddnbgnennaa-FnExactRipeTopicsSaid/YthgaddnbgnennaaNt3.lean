/- Notices: the first meeting. -/
import Derived.Test.YthgaddnbgnennaaNt2
import Derived.Test.YthgaddnbgnennaaDays
namespace Go.Proofs.Ythgaddnbgnennaa
open Go.RowKit Go.G9
theorem noticesB_at {xs : List Ntc} (h : noticesB xs = true) {k : Nat} {x : Ntc} (hx : xs[k]? = some x) : noticeB x = true := by
  rw [noticesB, Bool.and_eq_true] at h
  have h1 := allTo_iff.1 h.1 k (List.getElem?_eq_some_iff.1 hx).1
  cases k with
  | zero => simpa [ntcStep, hx] using h1
  | succ j =>
    obtain ⟨y, hy⟩ : ∃ y, xs[j]? = some y := ⟨_, List.getElem?_eq_getElem (by have := (List.getElem?_eq_some_iff.1 hx).1; omega)⟩
    simp [ntcStep, hx, hy] at h1
    exact h1.1
theorem noticesB_len {xs : List Ntc} (h : noticesB xs = true) : xs.length ≤ 10 := by
  rw [noticesB, Bool.and_eq_true] at h; simpa using h.2
theorem noticeB_bd {id g d : Int} {s : ByteArray} {hs : s.size ≤ maxLen} (h : noticeB ⟨id, s, g, d, hs⟩ = true) : 0 ≤ g ∧ g ≤ 3650 ∧ 0 ≤ d ∧ d ≤ 60 ∧ 1 ≤ id ∧ id ≤ 99 := by
  simp [noticeB, inB] at h; omega
def fmt (xs : List Ntc) : Nat → Int
  | 0 => 0
  | k + 1 => match xs[k]? with | some x => max (fmt xs k) (x.given + x.days) | none => fmt xs k
def fmOut (xs : List Ntc) : Value := if noticesB xs then dayOr (fmt xs xs.length) else .tuple #[.int .i64 0, .bool false]
theorem fmOut_form (xs : List Ntc) : ∃ (a : Int) (b : Bool), fmOut xs = .tuple #[.int .i64 a, .bool b] := by
  unfold fmOut dayOr; split
  · split
    · exact ⟨_, _, rfl⟩
    · exact ⟨_, _, rfl⟩
  · exact ⟨_, _, rfl⟩
end Go.Proofs.Ythgaddnbgnennaa
