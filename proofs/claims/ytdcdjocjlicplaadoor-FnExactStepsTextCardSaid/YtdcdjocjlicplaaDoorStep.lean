/-
  Contracts: the step of a checker with a die.
-/
import Derived.Test.YtdcdjocjlicplaaDoorLook2
import Derived.Test.YtdcdjocjlicplaaDoorStp
import Derived.Outline
namespace Go.Proofs.YtdcdjocjlicplaaDoor
open Go.ChangeShapes Go.WideShapes Go.ChangeAt Go.RowKit Go.Joins

end Go.Proofs.YtdcdjocjlicplaaDoor
