/-
  What a tied card's list and the world's shape say of the library's variables.
-/
import Derived.Test.YtdcdjocjlicplaaDoorReadD
import Derived.Test.YtdcdjocjlicplaaDoorRows
import Derived.Test.YtdcdjocjlicplaaDoorDoor
import Derived.Stop.LaidErr
import Derived.LaidSub
namespace Go.Proofs.YtdcdjocjlicplaaDoor
open Go.ChangeShapes Go.WideShapes Go.ChangeAt Go.RowKit Go.Joins

theorem int_of_shape {P : Program} {w : World} {g : Nat} {t : TypeId} {zero : Array Value} (h : w.ShapedOpen P) (hg : g < P.globals.size)
    (h0 : ((begin P (fun _ _ => 0) default).world.heap[g]?).bind Obj.row? = some (zero, t)) (hz : zero.size = 1)
    (hb : P.buildable t = true) (hc : P.cellTypes P.depth t = some [t]) (hu : P.underlying t = some (.int .i64)) : ∃ m, w.cell? ⟨g, 0, none⟩ = some (.int .i64 m) := by
  obtain ⟨cs, hh, hs, hr⟩ := h.1 g zero t hg h0
  obtain ⟨ts, hts, _, hall⟩ := hr hb
  rw [hc] at hts
  cases hts
  have h1 : 0 < cs.size := by omega
  obtain ⟨u, hu', hok⟩ := hall 0 cs[0] (by simp [h1])
  have : u = t := by simpa using hu'.symm
  subst this
  have hcell : w.cell? ⟨g, 0, none⟩ = some cs[0] := by simp [World.cell?, hh, h1]
  rw [hcell]
  unfold Cell.ok at hok
  rw [hu] at hok
  cases hv : cs[0] <;> rw [hv] at hok <;> simp at hok
  obtain ⟨rfl, _⟩ := hok
  exact ⟨_, rfl⟩
theorem int_zero {W : World} (h : W.ShapedOpen Tryd.prog) : ∃ m, W.cell? ⟨0, 0, none⟩ = some (.int .i64 m) :=
  int_of_shape (g := 0) (t := 3) (zero := #[.int .i64 0]) h (of_decide_eq_true (by kernel_rfl)) (by kernel_rfl) rfl (by kernel_rfl) (by kernel_rfl) Tryd.underlying3
theorem row_err (u : TypeId) (h : Tryd.prog.typeName? 3 u = some "*errors.errorString") : u = 148 :=
  typeName_ptr_named (nm := "errors.errorString") (by rw [show "*" ++ "errors.errorString" = "*errors.errorString" by decide]; kernel_rfl) (by kernel_rfl) (by decide) u (by rw [show "*" ++ "errors.errorString" = "*errors.errorString" by decide]; exact h)
theorem err_cell {n : String} {text : List UInt8} {g : Nat} {W : World} (h : laidMet Tryd.prog [(n, .iface "*errors.errorString" (.ptr (.agg [.lit (.string text)])))] W)
    (hg : Tryd.prog.globalNamed n = some g) (ht : (Tryd.prog.globals[g]?).map (·.type) = some 85) : ∃ t p, W.cell? ⟨g, 0, none⟩ = some (.iface t p) := by
  obtain ⟨a, s, hv, _⟩ := laid_sentinel h hg ht Tryd.underlying85 row_err Tryd.underlying148 Tryd.underlying150 rfl rfl Tryd.underlying9 (by kernel_rfl) (by kernel_rfl)
  have h0 := World.var?_cell hg hv 0
  exact ⟨_, _, by simpa using h0⟩
theorem tab_laid {H : Type} : Rows.laid_internal_strconv_uint64pow10 (H := H) = Lib.tabData .u64 Lib.pow10Tab := rfl
def isPow (x : String × DataW Unit) : Bool := x.1 == "internal/strconv.uint64pow10"
def isSyn (x : String × DataW Unit) : Bool := x.1 == "strconv.ErrSyntax"
def isRan (x : String × DataW Unit) : Bool := x.1 == "strconv.ErrRange"
theorem glob_of {L : List (String × DataW Unit)} {W : World} (h : laidMetH Tryd.prog L W) (hs : W.ShapedOpen Tryd.prog) (h0 : (L.filter fun x => x.2.handleName?.isNone) = L) (h1 : L.filter isPow = [("internal/strconv.uint64pow10", Rows.laid_internal_strconv_uint64pow10)])
    (h2 : L.filter isSyn = [("strconv.ErrSyntax", Rows.laid_strconv_ErrSyntax)]) (h3 : L.filter isRan = [("strconv.ErrRange", Rows.laid_strconv_ErrRange)]) : Glob W := by
  have hM := (laidMetH_iff.1 h).1
  rw [h0] at hM
  have m1 := hM.filter isPow
  have m2 := hM.filter isSyn
  have m3 := hM.filter isRan
  rw [h1] at m1
  rw [h2] at m2
  rw [h3] at m3
  refine ⟨int_zero hs, err_cell m2 (by kernel_rfl) (by kernel_rfl), err_cell m3 (by kernel_rfl) (by kernel_rfl), ?_⟩
  exact Lib.tabIs_of_head (rest := []) (g := 1) (by kernel_rfl) (by kernel_rfl) Tryd.underlying131 Tryd.underlying117 (by kernel_rfl) (by kernel_rfl) m1
theorem facts6 {W : World} (h : laidMetH Tryd.prog Rows.fnExactReadVariantRow.laid W) (hs : W.ShapedOpen Tryd.prog) : Glob W := glob_of h hs (by kernel_rfl) (by kernel_rfl) (by kernel_rfl) (by kernel_rfl)
theorem facts7 {W : World} (h : laidMetH Tryd.prog Rows.fnExactReadStepRow.laid W) (hs : W.ShapedOpen Tryd.prog) : Glob W := glob_of h hs (by kernel_rfl) (by kernel_rfl) (by kernel_rfl) (by kernel_rfl)
theorem facts8 {W : World} (h : laidMetH Tryd.prog Rows.fnExactReadStepsRow.laid W) (hs : W.ShapedOpen Tryd.prog) : Glob W := glob_of h hs (by kernel_rfl) (by kernel_rfl) (by kernel_rfl) (by kernel_rfl)
theorem facts9 {W : World} (h : laidMetH Tryd.prog Rows.fnVariantTextRow.laid W) (hs : W.ShapedOpen Tryd.prog) : Glob W := glob_of h hs (by kernel_rfl) (by kernel_rfl) (by kernel_rfl) (by kernel_rfl)
theorem facts10 {W : World} (h : laidMetH Tryd.prog Rows.fnStepTextsRow.laid W) (hs : W.ShapedOpen Tryd.prog) : Glob W := glob_of h hs (by kernel_rfl) (by kernel_rfl) (by kernel_rfl) (by kernel_rfl)
end Go.Proofs.YtdcdjocjlicplaaDoor
