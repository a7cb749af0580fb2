/- slices.IndexFunc and its kin, at the instances that the program uses. -/
import Derived.Test.YtbnncgahepcfnaaDoorProg
import Derived.Test.YtbnncgahepcfnaaDoorIdx
namespace Go.Proofs.YtbnncgahepcfnaaDoor
open Go.RowKit Go.G9
end Go.Proofs.YtbnncgahepcfnaaDoor
