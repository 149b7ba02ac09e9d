/-
  Contracts: the points with exactly one checker.
-/
import Derived.Test.YtdcdjocjlicplaaDoorOwn
import Derived.Test.YtdcdjocjlicplaaDoorLook
import Derived.Maps.AppendAt
namespace Go.Proofs.YtdcdjocjlicplaaDoor
open Go.ChangeShapes Go.WideShapes Go.ChangeAt Go.RowKit Go.Joins

/-- A list handed back in new memory (nil where it is empty), and a code. -/
def RowCode (w : World) (L : List Int) (code : Int) (e : Ending) (w' : World) : Prop :=
  ∃ A k, e = .returned (.tuple #[.slice A L.length k, .int .i64 code]) ∧ OwI w.heap.size w' A L.length k L ∧ Past w w'
/-- The points below j with exactly one checker. -/
def blotsTo (xs : List Int) : Nat → List Int
  | 0 => []
  | j + 1 => if xs.getD j 0 = 1 then blotsTo xs j ++ [(j : Int)] else blotsTo xs j
theorem blotsTo_yes {xs : List Int} {j : Nat} {x : Int} (hx : xs[j]? = some x) (h : x = 1) : blotsTo xs (j + 1) = blotsTo xs j ++ [(j : Int)] := by
  rw [blotsTo, getD_of hx, if_pos h]
theorem blotsTo_no {xs : List Int} {j : Nat} {x : Int} (hx : xs[j]? = some x) (h : ¬ x = 1) : blotsTo xs (j + 1) = blotsTo xs j := by
  rw [blotsTo, getD_of hx, if_neg h]
theorem blotsTo_le (xs : List Int) (j : Nat) : (blotsTo xs j).length ≤ j := by
  induction j with
  | zero => simp [blotsTo]
  | succ j ih =>
    unfold blotsTo
    split
    · simp; omega
    · omega
theorem past_grown {W w w' : World} {base size n : Nat} {e : TypeId} {v : Value} {L : List Value} (h : Past W w) (ho : w.ownsRow base e size v n L) (hW : W.heap.size ≤ base) (hg : w.grownBy w' v.ownBlock) : Past W w' := by
  refine Below.grown h hg h.size fun k hk => ?_
  rcases ho.2 with ⟨rfl, _⟩ | ⟨g, cap, cur, rfl, hb, _⟩
  · simp [Value.ownBlock] at hk
  · simp [Value.ownBlock] at hk
    omega
/-- One number more at the end of a row of the call's own. -/
theorem own_push {base : Nat} {w' : World} {n : Nat} {L : List Int} {v' : Value} {x : Int} (hn : L.length = n)
    (h : w'.ownsRow base 2 1 v' (n + 1) (L.map (Value.int .i64) ++ [.int .i64 x])) (hnil : v' ≠ .slice none 0 0) :
    ∃ A' k', v' = .slice A' (L ++ [x]).length k' ∧ OwI base w' A' (L ++ [x]).length k' (L ++ [x]) := by
  have e : (L ++ [x]).length = n + 1 := by simp [hn]
  rw [e]
  obtain ⟨g, k', rfl, ho⟩ := own_shape (xs := L ++ [x]) (by simpa using h) hnil
  exact ⟨_, _, rfl, ho⟩
def blotsL (p c h s : Int) (xs ys : List Int) : List Int := if bOk p c h s xs ys = true then blotsTo xs p.toNat else []
def codeB (p c h s : Int) (xs ys : List Int) : Int := if bOk p c h s xs ys = true then 0 else 1
theorem blotsL_le (p c h s : Int) (xs ys : List Int) : (blotsL p c h s xs ys).length ≤ 1000 := by
  unfold blotsL
  split
  · rename_i hb
    have F := bFacts hb
    have := blotsTo_le xs p.toNat
    omega
  · simp
end Go.Proofs.YtdcdjocjlicplaaDoor
