/- Results of votes: validity, copies, comparisons. -/
import Derived.Test.YtpejnfhenpdobaaDoorStr
import Derived.Test.YtpejnfhenpdobaaDoorIdx
import Derived.Test.YtpejnfhenpdobaaDoorOwn
namespace Go.Proofs.YtpejnfhenpdobaaDoor
open Go.RowKit Go.G9
structure Res where
  motion : ByteArray
  need : Int
  yes : Int
  no : Int
  abst : Int
  ok : motion.size ≤ maxLen
def Res.cells (r : Res) : List Value := [.string r.motion, .int .i64 r.need, .int .i64 r.yes, .int .i64 r.no, .int .i64 r.abst]
def tallyB (y n a : Int) : Bool := inB y 0 1000 && (inB n 0 1000 && inB a 0 1000)
def resB (r : Res) : Bool := wordB r.motion && (inB r.need 1 3 && tallyB r.yes r.no r.abst)
def reportB (xs : List Res) : Bool := decide (xs.length ≤ 12) && !xs.any (fun r => !resB r)
end Go.Proofs.YtpejnfhenpdobaaDoor
