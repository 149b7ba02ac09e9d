/-
  Contracts: copies of a slice; the laws' marks on what a call has made.
-/
import Derived.Test.YtdcdjocjlicplaaDoorMem
import Derived.Test.YtdcdjocjlicplaaDoorNum
import Derived.Lib.SliceRun
namespace Go.Proofs.YtdcdjocjlicplaaDoor
open Go.ChangeShapes Go.WideShapes Go.ChangeAt Go.RowKit Go.Joins

theorem Past.keepz {a b : World} (h : Past a b) {p : Addr} (hc : ∃ v, a.cell? p = some v) (hf : a.frozen? p = false) : b.frozen? p = false := by
  obtain ⟨v, hv⟩ := hc
  exact (h.keepf hv).trans hf
/-- A new slice with the numbers xs. -/
def RowMade (w : World) (n : Nat) (xs : List Int) (e : Ending) (w' : World) : Prop :=
  ∃ g k, e = .returned (.slice (some ⟨g, 0, none⟩) n k) ∧ OwI w.heap.size w' (some ⟨g, 0, none⟩) n k xs ∧ Past w w'
/-- Behind a new block and writes to that block alone old memory is as it was. -/
theorem Past.grownNew {w w' : World} {o : Obj} (h : (w.alloc o).grownBy w' (Value.ownBlock (.slice (some ⟨w.heap.size, 0, none⟩) 0 0))) : Past w w' :=
  Below.grown (Below.alloc (Below.refl _ _) (Nat.le_refl _) o) h (by simp) (fun k hk => by simp [Value.ownBlock] at hk; omega)
theorem own_shape {base n : Nat} {w : World} {v : Value} {xs : List Int} (h : w.ownsRow base 2 1 v n (xs.map (Value.int .i64))) (hv : v ≠ .slice none 0 0) :
    ∃ g k, v = .slice (some ⟨g, 0, none⟩) n k ∧ OwI base w (some ⟨g, 0, none⟩) n k xs := by
  have h' := h
  rcases h.2 with ⟨h0, _⟩ | ⟨g, cap, cur, rfl, _⟩
  · exact absurd h0 hv
  · exact ⟨g, cap, rfl, h'⟩
end Go.Proofs.YtdcdjocjlicplaaDoor
