/-
  Contracts of the functions that look at a board: contact, open points, counts.
-/
import Derived.Test.YtdcdjocjlicplaaDoorLook
namespace Go.Proofs.YtdcdjocjlicplaaDoor
open Go.ChangeShapes Go.WideShapes Go.ChangeAt Go.RowKit Go.Joins

def isContactF (p c h s : Int) (xs ys : List Int) : Bool := bOk p c h s xs ys && contactF p xs ys
/-- A point is open. -/
def openF (P I : Nat) (ys : List Int) : Bool := decide (ys.getD (P - 1 - I) 0 ≤ 1)
def isOpenF (p c h s : Int) (xs ys : List Int) (i : Int) : Bool := bOk p c h s xs ys && (win i 0 (p - 1) && openF p.toNat i.toNat ys)
end Go.Proofs.YtdcdjocjlicplaaDoor
