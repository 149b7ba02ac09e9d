/-
  Contracts of the functions that look at a board: over, contact, home, pips, points.
-/
import Derived.Test.YtdcdjocjlicplaaDoorBoard
import Derived.Test.YtdcdjocjlicplaaDoorSBoard
import Derived.Test.YtdcdjocjlicplaaDoorNum2
namespace Go.Proofs.YtdcdjocjlicplaaDoor
open Go.ChangeShapes Go.WideShapes Go.ChangeAt Go.RowKit Go.Joins

def isOverF (p c h s : Int) (xs ys : List Int) : Bool := bOk p c h s xs ys && overF xs ys
def allHomeF (p c h s : Int) (xs ys : List Int) : Bool := bOk p c h s xs ys && decide (lastF xs < h)
end Go.Proofs.YtdcdjocjlicplaaDoor
