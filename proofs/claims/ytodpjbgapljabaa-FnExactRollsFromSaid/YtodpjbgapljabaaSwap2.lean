/-
  Contracts: the board seen by the other player, if it is valid.
-/
import Derived.Test.YtodpjbgapljabaaSwap
namespace Go.Proofs.Ytodpjbgapljabaa
open Go.ChangeShapes Go.WideShapes Go.ChangeAt Go.RowKit Go.Joins

end Go.Proofs.Ytodpjbgapljabaa
