/-
  The arguments of this seat's laws, opened: a struct by value, an integer, a text.
-/
import Derived.Test.YtapocfgajkkpdaaRows
import Derived.Test.YtapocfgajkkpdaaBase
namespace Go.Proofs.Ytapocfgajkkpdaa
open Go.ChangeShapes Go.WideShapes Go.ChangeAt Go.RowKit Go.Joins
set_option maxRecDepth 100000
open Go.ChangeMaps (open_string shut_string)

theorem own : ownKnob Try.prog.godebug = none := by kernel_rfl
theorem laidOut : laidOutB Try.prog = true := by kernel_rfl

section
variable {H : Type} {enc : TypeId × Value → H} {W : World} {base : Nat} {v : Value} {d : DataW H} {ps : List MemPlace}
theorem open_I (_ : ∀ x ∈ ps, x.block < W.heap.size) (hv : Value.okWide Try.prog W .any base 2 v) (h : DataW.Trod enc Try.prog W 0 (fun _ => true) true 2 v d ps) :
    ∃ i : Int, v = .int .i64 i ∧ I64 i := by
  obtain ⟨x, rfl, rfl, rfl, wx⟩ := open_int Try.underlying2 hv h
  exact ⟨x, rfl, wx⟩
theorem open_T (_ : ∀ x ∈ ps, x.block < W.heap.size) (hv : Value.okWide Try.prog W .any base 9 v) (h : DataW.Trod enc Try.prog W 0 (fun _ => true) true 9 v d ps) :
    ∃ s : ByteArray, v = .string s ∧ s.size ≤ maxLen := by
  obtain ⟨s, rfl, rfl, rfl, hs⟩ := open_string Try.underlying9 hv h
  exact ⟨s, rfl, by simpa using hs⟩
end
end Go.Proofs.Ytapocfgajkkpdaa
