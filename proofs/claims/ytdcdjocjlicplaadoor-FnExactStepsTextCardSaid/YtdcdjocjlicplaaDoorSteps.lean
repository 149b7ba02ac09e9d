/-
  Contracts: all legal steps with a die.
-/
import Derived.Test.YtdcdjocjlicplaaDoorSStep
import Derived.Test.YtdcdjocjlicplaaDoorRow
import Derived.Deep.AppendLies
import Derived.Deep.DeepCutAuto
import Derived.Outline
namespace Go.Proofs.YtdcdjocjlicplaaDoor
open Go.ChangeShapes Go.WideShapes Go.ChangeAt Go.RowKit Go.Joins

def StepsIn (w1 wr : World) (v : Value) (L : List Stp) : Prop := ∃ A k, v = .slice A L.length k ∧ OwS w1.heap.size wr A L.length k L ∧ Past w1 wr
theorem StepsIn.past {w1 a b : World} {v : Value} {L : List Stp} (h : StepsIn w1 a v L) (p : Past a b) : StepsIn w1 b v L := by
  obtain ⟨A, k, hv, ho, hp⟩ := h
  exact ⟨A, k, hv, OwE.past ho p, hp.trans p⟩
theorem StepsIn.nil (w1 : World) : StepsIn w1 w1 (.slice none 0 0) [] := ⟨none, 0, rfl, OwE.nil _ _ _ _ _, Past.refl _⟩
theorem StepsIn.empty (w1 : World) (t : TypeId) (ht : t = 31) : StepsIn w1 (w1.alloc (.cells #[] t)) (.slice (some ⟨w1.heap.size, 0, none⟩) 0 0) [] :=
  ⟨some ⟨w1.heap.size, 0, none⟩, 0, rfl, ⟨rfl, by subst ht; exact World.ownsRow_lit w1 #[] 0 (Nat.le_refl _) (Nat.zero_le _) rfl⟩, (Past.refl _).alloc _⟩
theorem past_grownE {W w w' : World} {base size n : Nat} {e : TypeId} {v : Value} {L : List Value} (h : Past W w) (ho : w.ownsRow base e size v n L) (hW : W.heap.size ≤ base) (hg : w.grownBy w' v.ownBlock) : Past W w' := past_grown h ho hW hg
theorem StepsIn.push {w1 w w' : World} {A : Option Addr} {k : Nat} {L : List Stp} {a : Stp} {v' : Value} (ho : OwS w1.heap.size w A L.length k L) (hp : Past w1 w)
    (h : w'.ownsRow w1.heap.size 31 4 v' (L.length + 1) (flat Stp.cells L ++ a.cells)) (hg : w.grownBy w' (Value.slice A L.length k).ownBlock) (hnil : v' ≠ .slice none 0 0) : StepsIn w1 w' v' (L ++ [a]) := by
  obtain ⟨A', k', rfl, ho'⟩ := OwE.push rfl h hnil
  exact ⟨A', k', rfl, ho', past_grown hp ho.2 (Nat.le_refl _) hg⟩
end Go.Proofs.YtdcdjocjlicplaaDoor
