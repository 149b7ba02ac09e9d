/-
  An argument that is a slice of steps, opened.
-/
import Derived.Test.YtdcdjocjlicplaaDoorOpen
import Derived.Test.YtdcdjocjlicplaaDoorRow
import Derived.Deep.Slices
namespace Go.Proofs.YtdcdjocjlicplaaDoor
open Go.ChangeShapes Go.WideShapes Go.ChangeAt Go.RowKit Go.Joins

instance : Inhabited Stp := ⟨⟨0, 0, 0, false⟩⟩
section
variable {H : Type} {enc : TypeId × Value → H} {W : World} {base : Nat} {v : Value} {d : DataW H} {ps : List MemPlace}
theorem step_cells {fuel : Nat} {cs : List Value} {x : DataW H × List MemPlace} (hl : cs.length = 4) (hf : DataW.trod enc Tryd.prog W 0 (fun _ => true) true fuel 29 cs = some x) : ∃ a : Stp, cs = a.cells := by
  match cs, hl with
  | [c0, c1, c2, c3], _ =>
    obtain ⟨y0, y1, y2, y3, n, hx, _, h0, h1, h2, h3⟩ := trod_struct4 Tryd.underlying29 hf
    obtain ⟨a, e0, _, _⟩ := DataW.trod_int Tryd.underlying2 h0
    obtain ⟨b, e1, _, _⟩ := DataW.trod_int Tryd.underlying2 h1
    obtain ⟨c, e2, _, _⟩ := DataW.trod_int Tryd.underlying2 h2
    obtain ⟨e, e3, _⟩ := DataW.trod_bool Tryd.underlying4 h3
    have k1 : Tryd.prog.cellsOf 2 = 1 := by kernel_rfl
    have k2 : Tryd.prog.cellsOf 4 = 1 := by kernel_rfl
    simp [k1] at e0 e1 e2
    simp [k2] at e3
    exact ⟨⟨a, b, c, e⟩, by rw [e0, e1, e2, e3]; rfl⟩
theorem read_steps {fuel : Nat} {c : Value} {x : DataW H × List MemPlace} (hf : DataW.trod enc Tryd.prog W 0 (fun _ => true) true fuel 34 [c] = some x) :
    ∃ (A : Option Addr) (n k : Nat) (L : List Stp), c = .slice A n k ∧ RdS W A n L ∧ n ≤ maxLen := by
  have k4 : Tryd.prog.cellsOf 29 = 4 := by kernel_rfl
  rcases Deep.open_slice Tryd.underlying34 hf with ⟨hcs, _⟩ | ⟨a, len, cap, m, n, D, Pl, hcs, _, hl, hm, hmm, _, hcell⟩
  · simp at hcs
    exact ⟨none, 0, 0, [], hcs, ⟨rfl, fun h => absurd h (by omega)⟩, Nat.zero_le _⟩
  · simp at hcs
    simp only [if_true] at hmm
    have each : ∀ i, i < len → ∃ s : Stp, ∀ j u, s.cells[j]? = some u → W.cell? ((a.add (i * 4)).add j) = some u := by
      intro i hi
      obtain ⟨cs', h1, h2⟩ := hcell i (by omega)
      rw [k4] at h1
      obtain ⟨_, hlen, hc⟩ := World.cells?_some h1
      obtain ⟨s, rfl⟩ := step_cells hlen h2
      refine ⟨s, fun j u hj => ?_⟩
      rw [hc j (by have := (List.getElem?_eq_some_iff.1 hj).1; omega)]
      exact hj
    obtain ⟨f, hfn⟩ := Deep.choose_lt each
    refine ⟨some a, len, cap, (List.range len).map f, hcs, ⟨by simp, fun hn => ?_⟩, by omega⟩
    obtain ⟨b, o, sp⟩ := a
    have hsp : sp = none := by
      have := World.cell?_spot (hfn 0 (by omega) 0 _ rfl)
      simpa [Addr.add] using this
    subst hsp
    refine ⟨b, o, rfl, fun j s i v hj hi => ?_⟩
    have hjl : j < len := by
      have := (List.getElem?_eq_some_iff.1 hj).1
      simp at this
      omega
    have hs : s = f j := by
      rw [List.getElem?_map, List.getElem?_range hjl] at hj
      simpa using hj.symm
    subst hs
    have := hfn j hjl i v hi
    rw [add_plain, add_plain] at this
    exact this
set_option maxRecDepth 100000 in
theorem open_Q (_ : ∀ x ∈ ps, x.block < W.heap.size) (hv : Value.okWide Tryd.prog W .any base 34 v) (h : DataW.Trod enc Tryd.prog W 0 (fun _ => true) true 34 v d ps) :
    ∃ (A : Option Addr) (n k : Nat) (L : List Stp), v = .slice A n k ∧ RdS W A n L ∧ n ≤ maxLen := by
  obtain ⟨a, l, c, rfl⟩ := okWide_slice Tryd.underlying34 hv
  obtain ⟨fuel, hf⟩ := h
  obtain ⟨A, n, k, L, e, h1, h2⟩ := read_steps (c := .slice a l c) (by simpa [Value.cells] using hf)
  exact ⟨A, n, k, L, e, h1, h2⟩
end
end Go.Proofs.YtdcdjocjlicplaaDoor
