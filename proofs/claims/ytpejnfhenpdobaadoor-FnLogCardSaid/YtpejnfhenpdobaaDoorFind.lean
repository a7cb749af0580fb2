/- slices.IndexFunc and its kin, at the instances that the program uses. -/
import Derived.Test.YtpejnfhenpdobaaDoorProg
import Derived.Test.YtpejnfhenpdobaaDoorIdx
namespace Go.Proofs.YtpejnfhenpdobaaDoor
open Go.RowKit Go.G9
end Go.Proofs.YtpejnfhenpdobaaDoor
