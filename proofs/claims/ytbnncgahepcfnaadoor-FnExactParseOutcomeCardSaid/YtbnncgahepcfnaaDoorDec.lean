/- Decided questions: validity. -/
import Derived.Test.YtbnncgahepcfnaaDoorInt2
import Derived.Test.YtbnncgahepcfnaaDoorRes
namespace Go.Proofs.YtbnncgahepcfnaaDoor
open Go.RowKit Go.G9
structure Dec where
  id : Int
  day : Int
  need : Int
  yes : List Int
  no : List Int
  done : Bool
def sidesB (ys ns : List Int) : Bool := decide (ys.length ≤ 30) && (decide (ns.length ≤ 30) && (ascB ys 1 99 && (ascB ns 1 99 && !ys.any (hasB ns))))
def decB (d : Dec) : Bool := inB d.id 1 99 && (inB d.day 0 3650 && (inB d.need 1 3 && sidesB d.yes d.no))
end Go.Proofs.YtbnncgahepcfnaaDoor
