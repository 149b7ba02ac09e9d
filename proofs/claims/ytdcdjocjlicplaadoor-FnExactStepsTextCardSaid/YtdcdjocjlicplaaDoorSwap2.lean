/-
  Contracts: the board seen by the other player, if it is valid.
-/
import Derived.Test.YtdcdjocjlicplaaDoorSwap
namespace Go.Proofs.YtdcdjocjlicplaaDoor
open Go.ChangeShapes Go.WideShapes Go.ChangeAt Go.RowKit Go.Joins

end Go.Proofs.YtdcdjocjlicplaaDoor
