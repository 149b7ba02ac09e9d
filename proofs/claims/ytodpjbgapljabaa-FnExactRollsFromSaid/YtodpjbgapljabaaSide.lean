/-
  Contracts: the sum of a side; whether a list is a side.
-/
import Derived.Test.YtodpjbgapljabaaMem
import Derived.Test.YtodpjbgapljabaaNum
namespace Go.Proofs.Ytodpjbgapljabaa
open Go.ChangeShapes Go.WideShapes Go.ChangeAt Go.RowKit Go.Joins

end Go.Proofs.Ytodpjbgapljabaa
