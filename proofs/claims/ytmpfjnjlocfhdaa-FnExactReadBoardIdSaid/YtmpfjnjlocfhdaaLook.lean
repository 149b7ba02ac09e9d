/-
  Contracts of the functions that look at a board: over, contact, home, pips, points.
-/
import Derived.Test.YtmpfjnjlocfhdaaBoard
import Derived.Test.YtmpfjnjlocfhdaaSBoard
import Derived.Test.YtmpfjnjlocfhdaaNum2
namespace Go.Proofs.Ytmpfjnjlocfhdaa
open Go.ChangeShapes Go.WideShapes Go.ChangeAt Go.RowKit Go.Joins

def isOverF (p c h s : Int) (xs ys : List Int) : Bool := bOk p c h s xs ys && overF xs ys
def allHomeF (p c h s : Int) (xs ys : List Int) : Bool := bOk p c h s xs ys && decide (lastF xs < h)
theorem isBoard_b (p c h s : Int) (A D : Option Addr) (n k m l : Nat) (xs ys : List Int) (b : Bool) (w : World) (hb : Hid (bOk p c h s xs ys = b)) (hx : RdI w A n xs) (hy : RdI w D m ys) (hn : n ≤ 1048576) (hm : m ≤ 1048576) :
    Calls Try.prog 68 #[.agg #[.int .i64 p, .int .i64 c, .int .i64 h, .int .i64 s], .agg #[.slice A n k, .slice D m l]] w fun e w' => e = .returned (.bool b) ∧ Past w w' :=
  (isBoard_any p c h s A D n k m l xs ys w hx hy hn hm).mono fun _ _ ⟨he, hp⟩ => ⟨he.trans (ret_bool hb.out), hp⟩
theorem sIsBoard_b (p c h s : Int) (A D : Option Addr) (n k m l : Nat) (xs ys : List Int) (b : Bool) (w : World) (hb : Hid (bOk p c h s xs ys = b)) (hx : RdI w A n xs) (hy : RdI w D m ys) (hn : n ≤ 1048576) (hm : m ≤ 1048576) :
    Calls Try.prog 44 #[.agg #[.int .i64 p, .int .i64 c, .int .i64 h, .int .i64 s], .agg #[.slice A n k, .slice D m l]] w fun e w' => e = .returned (.bool b) ∧ Past w w' :=
  (sIsBoard_any p c h s A D n k m l xs ys w hx hy hn hm).mono fun _ _ ⟨he, hp⟩ => ⟨he.trans (ret_bool hb.out), hp⟩
end Go.Proofs.Ytmpfjnjlocfhdaa
