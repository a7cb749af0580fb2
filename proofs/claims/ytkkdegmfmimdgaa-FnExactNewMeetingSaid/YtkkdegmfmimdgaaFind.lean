/- slices.IndexFunc and its kin, at the instances that the program uses. -/
import Derived.Test.YtkkdegmfmimdgaaProg
import Derived.Test.YtkkdegmfmimdgaaIdx
namespace Go.Proofs.Ytkkdegmfmimdgaa
open Go.RowKit Go.G9
end Go.Proofs.Ytkkdegmfmimdgaa
