/-
  Arguments that hold slices of int64, opened.
-/
import Derived.Test.YtmpfjnjlocfhdaaOpen
import Derived.Test.YtmpfjnjlocfhdaaMem
namespace Go.Proofs.Ytmpfjnjlocfhdaa
open Go.ChangeShapes Go.WideShapes Go.ChangeAt Go.RowKit Go.Joins

theorem cellsI : Try.prog.cellsOf 2 = 1 := by kernel_rfl
section
variable {H : Type} {enc : TypeId × Value → H} {W : World} {base : Nat} {v : Value} {d : DataW H} {ps : List MemPlace}
/-- A reading of a slice of int64: its address, its length, its numbers. -/
theorem read_ints {fuel : Nat} {c : Value} {x : DataW H × List MemPlace} (hf : DataW.trod enc Try.prog W 0 (fun _ => true) true fuel 24 [c] = some x) :
    ∃ (A : Option Addr) (n k : Nat) (xs : List Int), c = .slice A n k ∧ RdI W A n xs ∧ n ≤ maxLen := by
  rcases open_ints Try.underlying24 Try.underlying2 cellsI hf with ⟨hcs, _⟩ | ⟨a, len, cap, zs, hcs, _, hl, hm, hz, _, hcell, _⟩
  · simp at hcs
    exact ⟨none, 0, 0, [], hcs, ⟨rfl, fun h => absurd h (by omega)⟩, Nat.zero_le _⟩
  · simp at hcs
    simp only [if_true] at hz
    refine ⟨some a, len, cap, zs.take len, hcs, ⟨by rw [List.length_take]; omega, fun hn => ?_⟩, by omega⟩
    obtain ⟨b, o, sp⟩ := a
    have hsp : sp = none := by simpa [Addr.add] using World.cell?_spot (hcell 0 (by omega))
    subst hsp
    refine ⟨b, o, rfl, fun j y hj => ?_⟩
    have hjl : j < len := by
      have := (List.getElem?_eq_some_iff.1 hj).1
      simp at this
      omega
    have h1 := hcell j (by omega)
    rw [List.getElem?_take, if_pos hjl] at hj
    rw [List.getD_eq_getElem?_getD, hj] at h1
    rw [← add_plain]
    simpa using h1
theorem cellsB : Try.prog.cellsOf 44 = 2 := by kernel_rfl
theorem open_B (_ : ∀ x ∈ ps, x.block < W.heap.size) (hv : Value.okWide Try.prog W .any base 44 v) (h : DataW.Trod enc Try.prog W 0 (fun _ => true) true 44 v d ps) :
    ∃ (A : Option Addr) (n k : Nat) (xs : List Int) (D : Option Addr) (m l : Nat) (ys : List Int), v = .agg #[.slice A n k, .slice D m l] ∧ (RdI W A n xs ∧ n ≤ maxLen) ∧ RdI W D m ys ∧ m ≤ maxLen := by
  obtain ⟨c0, c1, y0, y1, m, rfl, rfl, rfl, hy0, hy1⟩ := open_agg2 Try.underlying44 (by kernel_rfl) cellsB hv h
  obtain ⟨A, n, k, xs, rfl, h1, h2⟩ := read_ints hy0
  obtain ⟨D, m, l, ys, rfl, h3, h4⟩ := read_ints hy1
  exact ⟨A, n, k, xs, D, m, l, ys, rfl, ⟨h1, h2⟩, h3, h4⟩
theorem open_L (_ : ∀ x ∈ ps, x.block < W.heap.size) (hv : Value.okWide Try.prog W .any base 24 v) (h : DataW.Trod enc Try.prog W 0 (fun _ => true) true 24 v d ps) :
    ∃ (A : Option Addr) (n k : Nat) (xs : List Int), v = .slice A n k ∧ RdI W A n xs ∧ n ≤ maxLen := by
  obtain ⟨a, l, c, rfl⟩ := okWide_slice Try.underlying24 hv
  obtain ⟨fuel, hf⟩ := h
  obtain ⟨A, n, k, xs, e, h1, h2⟩ := read_ints (c := .slice a l c) (by simpa [Value.cells] using hf)
  exact ⟨A, n, k, xs, e, h1, h2⟩
end
end Go.Proofs.Ytmpfjnjlocfhdaa
