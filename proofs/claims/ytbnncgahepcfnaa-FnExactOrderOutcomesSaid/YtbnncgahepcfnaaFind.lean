/- slices.IndexFunc and its kin, at the instances that the program uses. -/
import Derived.Test.YtbnncgahepcfnaaProg
import Derived.Test.YtbnncgahepcfnaaIdx
namespace Go.Proofs.Ytbnncgahepcfnaa
open Go.RowKit Go.G9
end Go.Proofs.Ytbnncgahepcfnaa
