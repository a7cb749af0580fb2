/- Notices: validity of a notice and of a list of notices, copied, counted and compared. -/
import Derived.Test.YtkkdegmfmimdgaaStr
namespace Go.Proofs.Ytkkdegmfmimdgaa
open Go.RowKit Go.G9
structure Ntc where
  id : Int
  topic : ByteArray
  given : Int
  days : Int
  ok : topic.size ≤ maxLen
def Ntc.cells (n : Ntc) : List Value := [.int .i64 n.id, .string n.topic, .int .i64 n.given, .int .i64 n.days]
def noticeB (n : Ntc) : Bool := inB n.id 1 99 && (wordB n.topic && (inB n.given 0 3650 && inB n.days 0 60))
def ntcStep (xs : List Ntc) : Nat → Bool
  | 0 => match xs[0]? with | some x => noticeB x | none => true
  | j + 1 => match xs[j]?, xs[j+1]? with | some y, some x => noticeB x && decide (y.id < x.id) | _, _ => true
def noticesB (xs : List Ntc) : Bool := allTo (ntcStep xs) xs.length && decide (xs.length ≤ 10)

end Go.Proofs.Ytkkdegmfmimdgaa
