/-
  Contracts: whether a board is valid.
-/
import Derived.Test.YtodpjbgapljabaaSide
import Derived.Deep.RegionHeld3
namespace Go.Proofs.Ytodpjbgapljabaa
open Go.ChangeShapes Go.WideShapes Go.ChangeAt Go.RowKit Go.Joins

end Go.Proofs.Ytodpjbgapljabaa
