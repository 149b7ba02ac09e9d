/-
  Contracts: the board seen by the other player, copied.
-/
import Derived.Test.YtdcdjocjlicplaaDoorOwn
import Derived.Test.YtdcdjocjlicplaaDoorLook
import Derived.Deep.RegionHeld3
namespace Go.Proofs.YtdcdjocjlicplaaDoor
open Go.ChangeShapes Go.WideShapes Go.ChangeAt Go.RowKit Go.Joins

/-- A new board in two new blocks. -/
def BoardNew (w : World) (n m : Nat) (xs ys : List Int) (e : Ending) (w' : World) : Prop :=
  ∃ b d k l, e = .returned (.agg #[.slice (some ⟨b, 0, none⟩) n k, .slice (some ⟨d, 0, none⟩) m l]) ∧ OwI w.heap.size w' (some ⟨b, 0, none⟩) n k xs ∧ OwI w.heap.size w' (some ⟨d, 0, none⟩) m l ys ∧ b ≠ d ∧ Past w w'
theorem own_at {base : Nat} {w : World} {g n k : Nat} {xs : List Int} (h : OwI base w (some ⟨g, 0, none⟩) n k xs) : base ≤ g ∧ g < w.heap.size := by
  rcases h.2 with ⟨h0, _⟩ | ⟨g', cap, cur, hv, hb, hg, _⟩
  · simp at h0
  · simp only [Value.slice.injEq, Option.some.injEq, Addr.mk.injEq, and_true] at hv
    obtain ⟨rfl, _⟩ := hv
    exact ⟨hb, (Array.getElem?_eq_some_iff.1 hg).1⟩
end Go.Proofs.YtdcdjocjlicplaaDoor
