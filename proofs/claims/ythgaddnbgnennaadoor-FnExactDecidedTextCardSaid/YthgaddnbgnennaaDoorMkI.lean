/- Marks in slices of numbers. -/
import Derived.Test.YthgaddnbgnennaaDoorMk
import Derived.Test.YthgaddnbgnennaaDoorInt2
namespace Go.Proofs.YthgaddnbgnennaaDoor
open Go.RowKit Go.G9
end Go.Proofs.YthgaddnbgnennaaDoor
