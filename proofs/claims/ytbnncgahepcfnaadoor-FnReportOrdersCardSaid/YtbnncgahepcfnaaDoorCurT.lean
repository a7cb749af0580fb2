/- A decided question drawn by the cursor. -/
import Derived.Test.YtbnncgahepcfnaaDoorTwo
import Derived.Test.YtbnncgahepcfnaaDoorDec
namespace Go.Proofs.YtbnncgahepcfnaaDoor
open Go.RowKit Go.G9
end Go.Proofs.YtbnncgahepcfnaaDoor
