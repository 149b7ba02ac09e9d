/-
  Contracts: the sum of a side; whether a list is a side.
-/
import Derived.Test.YtdcdjocjlicplaaDoorMem
import Derived.Test.YtdcdjocjlicplaaDoorNum
namespace Go.Proofs.YtdcdjocjlicplaaDoor
open Go.ChangeShapes Go.WideShapes Go.ChangeAt Go.RowKit Go.Joins

end Go.Proofs.YtdcdjocjlicplaaDoor
