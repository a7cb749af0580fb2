/- Marks in decided questions. -/
import Derived.Test.YthgaddnbgnennaaDoorMkI
import Derived.Test.YthgaddnbgnennaaDoorLg
import Derived.Test.YthgaddnbgnennaaDoorDec2
namespace Go.Proofs.YthgaddnbgnennaaDoor
open Go.RowKit Go.G9
theorem toDecidedA_is (d : Dec) (Y N : Option Addr) (yc nc : Nat) (hy : d.yes.length ≤ 1048576) (hn : d.no.length ≤ 1048576) (w : World) (hRy : Rds 1 intC w Y d.yes) (hRn : Rds 1 intC w N d.no) :
  Calls Tryd.prog 12 #[.agg #[.int .i64 d.id, .int .i64 d.day, .int .i64 d.need, .slice Y d.yes.length yc, .slice N d.no.length nc, .bool d.done]] w fun e w' => ∃ Y' N', e = .returned (.agg #[.int .i64 d.id, .int .i64 d.day, .int .i64 d.need, .slice Y' d.yes.length d.yes.length, .slice N' d.no.length d.no.length, .bool d.done]) ∧
    OwnV w.heap.size 3 1 intC w' (.slice Y' d.yes.length d.yes.length) d.yes ∧ OwnV w.heap.size 3 1 intC w' (.slice N' d.no.length d.no.length) d.no ∧ Apart [.slice Y' d.yes.length d.yes.length, .slice N' d.no.length d.no.length] ∧ Below w.heap.size w w' := by
  refine (toDecided_is d Y N yc nc hy hn w hRy hRn).mono ?_
  rintro e w' ⟨Y', N', rfl, h1, h2, h3, h4⟩
  exact ⟨Y', N', rfl, h1, h2, apart2 h3, h4⟩
end Go.Proofs.YthgaddnbgnennaaDoor
