/-
  Contracts of the reference: whether a board is valid.
-/
import Derived.Test.YtdcdjocjlicplaaDoorSide
namespace Go.Proofs.YtdcdjocjlicplaaDoor
open Go.ChangeShapes Go.WideShapes Go.ChangeAt Go.RowKit Go.Joins

end Go.Proofs.YtdcdjocjlicplaaDoor
