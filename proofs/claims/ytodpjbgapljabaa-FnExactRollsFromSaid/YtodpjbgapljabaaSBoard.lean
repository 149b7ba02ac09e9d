/-
  Contracts of the reference: whether a board is valid.
-/
import Derived.Test.YtodpjbgapljabaaSide
namespace Go.Proofs.Ytodpjbgapljabaa
open Go.ChangeShapes Go.WideShapes Go.ChangeAt Go.RowKit Go.Joins

end Go.Proofs.Ytodpjbgapljabaa
