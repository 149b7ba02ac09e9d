/-
  Contracts: whether a board is valid.
-/
import Derived.Test.YtdcdjocjlicplaaDoorSide
import Derived.Deep.RegionHeld3
namespace Go.Proofs.YtdcdjocjlicplaaDoor
open Go.ChangeShapes Go.WideShapes Go.ChangeAt Go.RowKit Go.Joins

end Go.Proofs.YtdcdjocjlicplaaDoor
