/-
  The arguments of this seat's laws, opened: a struct by value, an integer, a text.
-/
import Derived.Test.YtdcdjocjlicplaaDoorRows
import Derived.Test.YtdcdjocjlicplaaDoorBase
namespace Go.Proofs.YtdcdjocjlicplaaDoor
open Go.ChangeShapes Go.WideShapes Go.ChangeAt Go.RowKit Go.Joins
set_option maxRecDepth 100000
open Go.ChangeMaps (open_string shut_string)

theorem own : ownKnob Tryd.prog.godebug = none := by kernel_rfl
theorem laidOut : laidOutB Tryd.prog = true := by kernel_rfl

section
variable {H : Type} {enc : TypeId × Value → H} {W : World} {base : Nat} {v : Value} {d : DataW H} {ps : List MemPlace}
theorem open_I (_ : ∀ x ∈ ps, x.block < W.heap.size) (hv : Value.okWide Tryd.prog W .any base 2 v) (h : DataW.Trod enc Tryd.prog W 0 (fun _ => true) true 2 v d ps) :
    ∃ i : Int, v = .int .i64 i ∧ I64 i := by
  obtain ⟨x, rfl, rfl, rfl, wx⟩ := open_int Tryd.underlying2 hv h
  exact ⟨x, rfl, wx⟩
theorem cellsV : Tryd.prog.cellsOf 23 = 4 := by kernel_rfl
theorem open_V (_ : ∀ x ∈ ps, x.block < W.heap.size) (hv : Value.okWide Tryd.prog W .any base 23 v) (h : DataW.Trod enc Tryd.prog W 0 (fun _ => true) true 23 v d ps) :
    ∃ a b c e : Int, v = .agg #[.int .i64 a, .int .i64 b, .int .i64 c, .int .i64 e] ∧ I64 a ∧ I64 b ∧ I64 c ∧ I64 e := by
  obtain ⟨c0, c1, c2, c3, y0, y1, y2, y3, m, rfl, rfl, rfl, hy0, hy1, hy2, hy3⟩ := open_agg4 Tryd.underlying23 (by kernel_rfl) cellsV hv h
  obtain ⟨a, e0, _, wa⟩ := DataW.trod_int Tryd.underlying2 hy0
  obtain ⟨b, e1, _, wb⟩ := DataW.trod_int Tryd.underlying2 hy1
  obtain ⟨c, e2, _, wc⟩ := DataW.trod_int Tryd.underlying2 hy2
  obtain ⟨e, e3, _, we⟩ := DataW.trod_int Tryd.underlying2 hy3
  simp at e0 e1 e2 e3
  subst e0 e1 e2 e3
  exact ⟨a, b, c, e, rfl, wa, wb, wc, we⟩
theorem cellsS : Tryd.prog.cellsOf 29 = 4 := by kernel_rfl
theorem open_S (_ : ∀ x ∈ ps, x.block < W.heap.size) (hv : Value.okWide Tryd.prog W .any base 29 v) (h : DataW.Trod enc Tryd.prog W 0 (fun _ => true) true 29 v d ps) :
    ∃ (a b c : Int) (e : Bool), v = .agg #[.int .i64 a, .int .i64 b, .int .i64 c, .bool e] ∧ I64 a ∧ I64 b ∧ I64 c := by
  obtain ⟨c0, c1, c2, c3, y0, y1, y2, y3, m, rfl, rfl, rfl, hy0, hy1, hy2, hy3⟩ := open_agg4 Tryd.underlying29 (by kernel_rfl) cellsS hv h
  obtain ⟨a, e0, _, wa⟩ := DataW.trod_int Tryd.underlying2 hy0
  obtain ⟨b, e1, _, wb⟩ := DataW.trod_int Tryd.underlying2 hy1
  obtain ⟨c, e2, _, wc⟩ := DataW.trod_int Tryd.underlying2 hy2
  obtain ⟨e, e3, _⟩ := DataW.trod_bool Tryd.underlying4 hy3
  simp at e0 e1 e2 e3
  subst e0 e1 e2 e3
  exact ⟨a, b, c, e, rfl, wa, wb, wc⟩
theorem open_T (_ : ∀ x ∈ ps, x.block < W.heap.size) (hv : Value.okWide Tryd.prog W .any base 9 v) (h : DataW.Trod enc Tryd.prog W 0 (fun _ => true) true 9 v d ps) :
    ∃ s : ByteArray, v = .string s ∧ s.size ≤ maxLen := by
  obtain ⟨s, rfl, rfl, rfl, hs⟩ := open_string Tryd.underlying9 hv h
  exact ⟨s, rfl, by simpa using hs⟩
end
end Go.Proofs.YtdcdjocjlicplaaDoor
