/- Decided questions: who changed sides. -/
import Derived.Test.YthgaddnbgnennaaDoorDec3
import Derived.Deep.RegionWith
import Derived.Deep.Cut
namespace Go.Proofs.YthgaddnbgnennaaDoor
open Go.RowKit Go.G9
def mems (p : Int → Bool) : Nat → List Int
  | 0 => []
  | k + 1 => mems p k ++ (if p ((k : Int) + 1) then [(k : Int) + 1] else [])
theorem mems_len (p : Int → Bool) : ∀ k, (mems p k).length ≤ k
  | 0 => Nat.le_refl _
  | k + 1 => by have := mems_len p k; unfold mems; split <;> simp <;> omega
def cmP (d : Dec) (ys ns : List Int) (m : Int) : Bool := (hasB d.yes m && hasB ns m) || (hasB d.no m && hasB ys m)
def cmOk (d : Dec) (ys ns : List Int) : Bool := decB d && sidesB ys ns
def cmL (d : Dec) (ys ns : List Int) : List Int := if cmOk d ys ns then mems (cmP d ys ns) 99 else []
theorem isMember_is (n : Int) (v : Bool) (hv : inB n 1 99 = v) (w : World) : Calls Tryd.prog 56 #[.int .i64 n] w fun e w' => e = .returned (.bool v) ∧ w' = w := by
  subst hv
  go_enter Tryd.func56, Tryd.ntmps56
  go_wp2_with (go_at_call 48; refine (inside_is _ _ _ _ rfl _).mono ?_; rintro e w' ⟨rfl, rfl⟩)
  go_ret
  exact ⟨rfl, rfl⟩
end Go.Proofs.YthgaddnbgnennaaDoor
