/-
  Contracts: the board seen by the other player, if it is valid.
-/
import Derived.Test.YtmpfjnjlocfhdaaSwap
namespace Go.Proofs.Ytmpfjnjlocfhdaa
open Go.ChangeShapes Go.WideShapes Go.ChangeAt Go.RowKit Go.Joins

end Go.Proofs.Ytmpfjnjlocfhdaa
