/-
  Contracts of the functions that look at a board: over, contact, home, pips, points.
-/
import Derived.Test.YtodpjbgapljabaaBoard
import Derived.Test.YtodpjbgapljabaaSBoard
import Derived.Test.YtodpjbgapljabaaNum2
namespace Go.Proofs.Ytodpjbgapljabaa
open Go.ChangeShapes Go.WideShapes Go.ChangeAt Go.RowKit Go.Joins

def isOverF (p c h s : Int) (xs ys : List Int) : Bool := bOk p c h s xs ys && overF xs ys
def allHomeF (p c h s : Int) (xs ys : List Int) : Bool := bOk p c h s xs ys && decide (lastF xs < h)
end Go.Proofs.Ytodpjbgapljabaa
