/- Marks that are held. -/
import Derived.Test.YthgaddnbgnennaaInt2
namespace Go.Proofs.Ythgaddnbgnennaa
open Go.RowKit Go.G9
theorem heldMark_is (A : Option Addr) (c : Nat) (xs : List Int) (hn : xs.length ≤ 1048576) (m : Int) (h0 : 0 ≤ m) (h1 : m ≤ 1000000000) (w : World) (hR : Rds 1 intC w A (markTo m xs xs.length)) :
  Calls Try.prog 34 #[.slice A xs.length c, .int .i64 m] w fun e w' => e = .returned (.int .i64 (m + xs.length)) ∧ w' = w := by
  have h := heldIntS_is A c (markTo m xs xs.length) (by rw [markTo_len]; exact hn) m h0 h1 (fun _ _ h => markTo_at h) w hR
  rw [markTo_len] at h
  exact h
theorem own_ne {C : Nat} {v u : Value} (h : ∀ k, v.ownBlock = some k → C ≤ k) (h' : ∀ k, u.ownBlock = some k → k < C) : ∀ k, v.ownBlock = some k → some k ≠ u.ownBlock := fun k hk e => by
  have := h k hk; have := h' k e.symm; omega
end Go.Proofs.Ythgaddnbgnennaa
