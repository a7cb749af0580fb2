/- The text of a number, by Go's library: the table that it reads, carried from world to world. -/
import Derived.Test.YtbnncgahepcfnaaDoorNum
import Derived.Test.YtbnncgahepcfnaaDoorShelf
import Derived.WalkSmall
namespace Go.Proofs.YtbnncgahepcfnaaDoor
open Go.RowKit Go.G9
theorem gPow : Tryd.prog.globalNamed "internal/strconv.uint64pow10" = some 2 := by kernel_rfl
/-- The library's table of powers of ten stands. -/
def Tab (w : World) : Prop := 2 < w.heap.size ∧ Lib.TabIs Tryd.prog w "internal/strconv.uint64pow10" .u64 Lib.pow10Tab
theorem Tab.below {w w' : World} (h : Tab w) (hb : Below w.heap.size w w') : Tab w' := ⟨Nat.lt_of_lt_of_le h.1 hb.size, var?_below hb gPow h.1 h.2⟩
theorem itoa_is (n : Int) (h0 : -1000000000 < n) (h1 : n < 1000000000) (w : World) (hT : Tab w) : Calls Tryd.prog 53 #[.int .i64 n] w fun e w' => e = .returned (.string (numS n)) ∧ Below w.heap.size w w' := by
  refine (Tryd.strconv_Itoa n (by omega) (by omega) w hT.2).mono ?_
  rintro e w' ⟨rfl, k, os, rfl⟩
  exact ⟨rfl, rfl, rfl, rfl, by simp [Sort.grow], fun i hi => (show (w.heap ++ os)[i]? = w.heap[i]? from Array.getElem?_append_left hi)⟩
end Go.Proofs.YtbnncgahepcfnaaDoor
