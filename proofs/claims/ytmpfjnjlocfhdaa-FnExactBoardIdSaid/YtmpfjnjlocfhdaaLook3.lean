/-
  Contracts of the functions that count on a board: borne off, pips, points.
-/
import Derived.Test.YtmpfjnjlocfhdaaLook2
namespace Go.Proofs.Ytmpfjnjlocfhdaa
open Go.ChangeShapes Go.WideShapes Go.ChangeAt Go.RowKit Go.Joins

def offF (p c h s : Int) (xs ys : List Int) : Int := if bOk p c h s xs ys = true then c - xs.sum else -1
def offG (p c h s : Int) (xs ys : List Int) : Int := if bOk p c h s xs ys = true then c - ys.sum else -1
def pipCF (p c h s : Int) (xs ys : List Int) : Int := if bOk p c h s xs ys = true then pipsF xs else -1
def pipCG (p c h s : Int) (xs ys : List Int) : Int := if bOk p c h s xs ys = true then pipsF ys else -1
def pointF (p c h s : Int) (xs ys : List Int) (i : Int) : Int := if (bOk p c h s xs ys && win i 0 (p - 1)) = true then xs.getD i.toNat 0 - ys.getD (p.toNat - 1 - i.toNat) 0 else 0
end Go.Proofs.Ytmpfjnjlocfhdaa
