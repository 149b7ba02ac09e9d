/-
  An argument that is a slice of bytes, opened, and what a nil slice is.
-/
import Derived.Test.YtdcdjocjlicplaaDoorOpenC

namespace Go.Proofs.YtdcdjocjlicplaaDoor
open Go.ChangeShapes Go.WideShapes Go.ChangeAt Go.RowKit Go.Joins
set_option maxRecDepth 100000

section
variable {H : Type} {enc : TypeId × Value → H} {W : World} {base : Nat} {v : Value} {d : DataW H} {ps : List MemPlace}
theorem open_D (_ : ∀ x ∈ ps, x.block < W.heap.size) (hv : Value.okWide Tryd.prog W .any base 52 v) (h : DataW.Trod enc Tryd.prog W 0 (fun _ => true) true 52 v d ps) :
    ∃ (A : Option Addr) (n k : Nat), v = .slice A n k ∧ RdC W W.heap.size A n ∧ (A = none → n = 0 ∧ k = 0) := by
  obtain ⟨a, l, c, rfl⟩ := okWide_slice Tryd.underlying52 hv
  obtain ⟨fuel, hf⟩ := h
  rcases open_ints (cs := [.slice a l c]) Tryd.underlying52 Tryd.underlying5 cellsU8 (by simpa [Value.cells] using hf) with ⟨hcs, _⟩ | ⟨a, len, cap, zs, hcs, _, hl, hm, hz, _, hcell, hwf⟩
  · simp only [List.cons.injEq, Value.slice.injEq, and_true] at hcs
    obtain ⟨rfl, rfl, rfl⟩ := hcs
    exact ⟨none, 0, 0, rfl, fun j hj => absurd hj (Nat.not_lt_zero _), fun _ => ⟨rfl, rfl⟩⟩
  · simp only [List.cons.injEq, Value.slice.injEq, and_true] at hcs
    obtain ⟨rfl, rfl, rfl⟩ := hcs
    simp only [if_true] at hz
    refine ⟨some a, l, c, rfl, fun j hj => ?_, fun h => by cases h⟩
    have h1 := hcell j (by omega)
    obtain ⟨b, o, sp⟩ := a
    have hsp : sp = none := by simpa [Addr.add] using World.cell?_spot (hcell 0 (by omega))
    subst hsp
    have hlz : j < zs.length := by omega
    have hw := hwf _ (List.getElem_mem hlz)
    rw [List.getD_eq_getElem?_getD, List.getElem?_eq_getElem hlz, add_plain] at h1
    have hb := World.block_lt_of_cell? W _ h1
    simp [Lit.wf] at hw
    exact ⟨b, o, zs[j], rfl, h1, hw.1, hw.2, hb⟩
end
end Go.Proofs.YtdcdjocjlicplaaDoor
