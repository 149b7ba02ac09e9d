/-
  Plain facts on steps: which step leads from a point with a die; all legal steps.
-/
import Derived.Test.YtdcdjocjlicplaaDoorNum2
namespace Go.Proofs.YtdcdjocjlicplaaDoor

/-- A cell behind new blocks. -/
theorem far1 {w : World} {p : Addr} {v : Value} (hc : w.cell? p = some v) (o1 : Obj) : (w.alloc o1).cell? p = some v := ((Past.refl w).alloc o1).keep hc
theorem far2 {w : World} {p : Addr} {v : Value} (hc : w.cell? p = some v) (o1 o2 : Obj) : ((w.alloc o1).alloc o2).cell? p = some v := (((Past.refl w).alloc o1).alloc o2).keep hc
theorem far3 {w : World} {p : Addr} {v : Value} (hc : w.cell? p = some v) (o1 o2 o3 : Obj) : (((w.alloc o1).alloc o2).alloc o3).cell? p = some v := ((((Past.refl w).alloc o1).alloc o2).alloc o3).keep hc
theorem far4 {w : World} {p : Addr} {v : Value} (hc : w.cell? p = some v) (o1 o2 o3 o4 : Obj) : ((((w.alloc o1).alloc o2).alloc o3).alloc o4).cell? p = some v := (((((Past.refl w).alloc o1).alloc o2).alloc o3).alloc o4).keep hc
/-- A step: from, to, die, hit. -/
structure Stp where
  f : Int
  t : Int
  d : Int
  x : Bool
def Stp.cells (a : Stp) : List Value := [.int .i64 a.f, .int .i64 a.t, .int .i64 a.d, .bool a.x]
def Stp.same (a b : Stp) : Bool := decide (a.f = b.f) && (decide (a.t = b.t) && (decide (a.d = b.d) && (a.x == b.x)))
/-- The number at an index. -/
def gAt (xs : List Int) (i : Int) : Int := xs.getD i.toNat 0
theorem gAt_of {xs : List Int} {i : Int} {j : Nat} {x : Int} (h : xs[j]? = some x) (hi : i = (j : Int)) : gAt xs i = x := by
  subst hi
  rw [gAt, Int.toNat_natCast, getD_of h]
def toOf (f d : Int) : Int := if 0 ≤ f - d then f - d else -1
/-- A checker on the point f can move with the die d. -/
def stOk (p h : Int) (xs ys : List Int) (f d : Int) : Bool :=
  !(gAt xs f == 0) && ((!decide (0 < gAt xs p) || decide (f = p)) && (if 0 ≤ f - d then decide (gAt ys (p - 1 - (f - d)) ≤ 1) else decide (lastF xs < h) && (decide (f = d - 1) || decide (lastF xs ≤ f))))
def stHit (p : Int) (ys : List Int) (f d : Int) : Bool := decide (0 ≤ f - d) && (gAt ys (p - 1 - (f - d)) == 1)
def stp (p : Int) (ys : List Int) (f d : Int) : Stp := ⟨f, toOf f d, d, stHit p ys f d⟩
/-- The legal steps from the points P, P - 1, .. : the first j of them. -/
def legTo (p h : Int) (xs ys : List Int) (d : Int) : Nat → List Stp
  | 0 => []
  | j + 1 => if (!overF xs ys && stOk p h xs ys (p - (j : Int)) d) = true then legTo p h xs ys d j ++ [stp p ys (p - (j : Int)) d] else legTo p h xs ys d j
def legL (p h : Int) (xs ys : List Int) (d : Int) : List Stp := legTo p h xs ys d (p.toNat + 1)
theorem legL_eq (P : Nat) (h : Int) (xs ys : List Int) (d : Int) : legL P h xs ys d = legTo P h xs ys d (P + 1) := by rw [legL, Int.toNat_natCast]
theorem legTo_yes {p h : Int} {xs ys : List Int} {d : Int} {j : Nat} (ho : overF xs ys = false) (hs : stOk p h xs ys (p - (j : Int)) d = true) : legTo p h xs ys d (j + 1) = legTo p h xs ys d j ++ [stp p ys (p - (j : Int)) d] := by
  rw [legTo, if_pos (by simp [ho, hs])]
theorem legTo_no {p h : Int} {xs ys : List Int} {d : Int} {j : Nat} (hs : stOk p h xs ys (p - (j : Int)) d = false) : legTo p h xs ys d (j + 1) = legTo p h xs ys d j := by
  rw [legTo, if_neg (by simp [hs])]
theorem legTo_over {p h : Int} {xs ys : List Int} {d : Int} (ho : overF xs ys = true) (j : Nat) : legTo p h xs ys d j = [] := by
  induction j with
  | zero => rfl
  | succ j ih => rw [legTo, if_neg (by simp [ho]), ih]
theorem legTo_le (p h : Int) (xs ys : List Int) (d : Int) (j : Nat) : (legTo p h xs ys d j).length ≤ j := by
  induction j with
  | zero => simp [legTo]
  | succ j ih =>
    unfold legTo
    split
    · simp; omega
    · omega
/-- A step is legal on a valid board. -/
def legB (p h s : Int) (xs ys : List Int) (a : Stp) : Bool :=
  win a.d 1 s && (win a.f 0 p && (!overF xs ys && (stOk p h xs ys a.f a.d && Stp.same (stp p ys a.f a.d) a)))
def isLegF (p c h s : Int) (xs ys : List Int) (a : Stp) : Bool := bOk p c h s xs ys && legB p h s xs ys a
theorem toOf_pos {f d : Int} (h : 0 ≤ f - d) : toOf f d = f - d := if_pos h
theorem toOf_neg {f d : Int} (h : ¬ 0 ≤ f - d) : toOf f d = -1 := if_neg h
theorem toOf_bd {f d p : Int} (h0 : 0 ≤ f) (h1 : f ≤ p) (h2 : 1 ≤ d) : -1 ≤ toOf f d ∧ toOf f d < p ∧ toOf f d < f := by
  unfold toOf
  split <;> omega
theorem stOk_x {p h : Int} {xs ys : List Int} {f d : Int} (hx : gAt xs f = 0) : stOk p h xs ys f d = false := by simp [stOk, hx]
theorem stOk_bar {p h : Int} {xs ys : List Int} {f d : Int} (h1 : 0 < gAt xs p) (h2 : ¬ f = p) : stOk p h xs ys f d = false := by simp [stOk, h1, h2]
theorem stOk_in {p h : Int} {xs ys : List Int} {f d : Int} (hx : ¬ gAt xs f = 0) (h1 : ¬ 0 < gAt xs p ∨ f = p) (h2 : 0 ≤ f - d) : stOk p h xs ys f d = decide (gAt ys (p - 1 - (f - d)) ≤ 1) := by
  unfold stOk
  rw [if_pos h2]
  have e1 : (!(gAt xs f == 0)) = true := by simp [hx]
  have e2 : (!decide (0 < gAt xs p) || decide (f = p)) = true := by
    rcases h1 with h1 | h1
    · rw [decide_eq_false h1]; rfl
    · rw [decide_eq_true h1, Bool.or_true]
  rw [e1, e2, Bool.true_and, Bool.true_and]
theorem stOk_off {p h : Int} {xs ys : List Int} {f d : Int} (hx : ¬ gAt xs f = 0) (h1 : ¬ 0 < gAt xs p ∨ f = p) (h2 : ¬ 0 ≤ f - d) : stOk p h xs ys f d = (decide (lastF xs < h) && (decide (f = d - 1) || decide (lastF xs ≤ f))) := by
  unfold stOk
  rw [if_neg h2]
  have e1 : (!(gAt xs f == 0)) = true := by simp [hx]
  have e2 : (!decide (0 < gAt xs p) || decide (f = p)) = true := by
    rcases h1 with h1 | h1
    · rw [decide_eq_false h1]; rfl
    · rw [decide_eq_true h1, Bool.or_true]
  rw [e1, e2, Bool.true_and, Bool.true_and]
theorem stHit_in {p : Int} {ys : List Int} {f d : Int} (h2 : 0 ≤ f - d) : stHit p ys f d = (gAt ys (p - 1 - (f - d)) == 1) := by rw [stHit, decide_eq_true h2, Bool.true_and]
theorem stHit_off {p : Int} {ys : List Int} {f d : Int} (h2 : ¬ 0 ≤ f - d) : stHit p ys f d = false := by rw [stHit, decide_eq_false h2, Bool.false_and]
/-- What the look for a step answers. -/
def sfV (p h : Int) (xs ys : List Int) (f d : Int) : Value :=
  if stOk p h xs ys f d = true then .tuple #[.agg #[.int .i64 f, .int .i64 (toOf f d), .int .i64 d, .bool (stHit p ys f d)], .bool true] else .tuple #[.agg #[.int .i64 0, .int .i64 0, .int .i64 0, .bool false], .bool false]
theorem sfV_no {p h : Int} {xs ys : List Int} {f d : Int} (hs : stOk p h xs ys f d = false) : sfV p h xs ys f d = .tuple #[.agg #[.int .i64 0, .int .i64 0, .int .i64 0, .bool false], .bool false] := if_neg (by simp [hs])
theorem sfV_yes {p h : Int} {xs ys : List Int} {f d : Int} (hs : stOk p h xs ys f d = true) : sfV p h xs ys f d = .tuple #[.agg #[.int .i64 f, .int .i64 (toOf f d), .int .i64 d, .bool (stHit p ys f d)], .bool true] := if_pos hs
theorem sfV_in {p h : Int} {xs ys : List Int} {f d : Int} (hs : stOk p h xs ys f d = true) (h2 : 0 ≤ f - d) : sfV p h xs ys f d = .tuple #[.agg #[.int .i64 f, .int .i64 (f - d), .int .i64 d, .bool (gAt ys (p - 1 - (f - d)) == 1)], .bool true] := by
  rw [sfV_yes hs, toOf_pos h2, stHit_in h2]
theorem sfV_off {p h : Int} {xs ys : List Int} {f d : Int} (hs : stOk p h xs ys f d = true) (h2 : ¬ 0 ≤ f - d) : sfV p h xs ys f d = .tuple #[.agg #[.int .i64 f, .int .i64 (-1), .int .i64 d, .bool false], .bool true] := by
  rw [sfV_yes hs, toOf_neg h2, stHit_off h2]
end Go.Proofs.YtdcdjocjlicplaaDoor
