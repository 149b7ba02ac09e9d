/-
  Contracts of the reference: the step of a checker with a die.
-/
import Derived.Test.YtdcdjocjlicplaaDoorStep
import Derived.Test.YtdcdjocjlicplaaDoorBox
import Derived.Deep.RegionHeld3
import Derived.IntWalk
import Derived.Outline
namespace Go.Proofs.YtdcdjocjlicplaaDoor
open Go.ChangeShapes Go.WideShapes Go.ChangeAt Go.RowKit Go.Joins

/-- A step, and whether it is legal: where it is, it is the step a. -/
def SStepRet (w : World) (ok : Bool) (a : Stp) (e : Ending) (w' : World) : Prop :=
  ∃ (f t d : Int) (x : Bool), e = .returned (.tuple #[.agg #[.int .i64 f, .int .i64 t, .int .i64 d, .bool x], .bool ok]) ∧ (ok = true → (⟨f, t, d, x⟩ : Stp) = a) ∧ Past w w'
theorem SStepRet.no {w w' : World} {a : Stp} (h : Past w w') : SStepRet w false a (.returned (.tuple #[.agg #[.int .i64 0, .int .i64 0, .int .i64 0, .bool false], .bool false])) w' := ⟨0, 0, 0, false, rfl, fun h => by simp at h, h⟩
theorem SStepRet.at_ {w w' : World} {ok : Bool} {f t d : Int} {x : Bool} {a : Stp} (ha : (⟨f, t, d, x⟩ : Stp) = a) (h : Past w w') : SStepRet w ok a (.returned (.tuple #[.agg #[.int .i64 f, .int .i64 t, .int .i64 d, .bool x], .bool ok])) w' := ⟨f, t, d, x, rfl, fun _ => ha, h⟩
theorem stp_in {p : Int} {ys : List Int} {f d y : Int} (h : 0 ≤ f - d) (hy : gAt ys (p - 1 - (f - d)) = y) : (⟨f, f - d, d, y == 1⟩ : Stp) = stp p ys f d := by rw [stp, toOf_pos h, stHit_in h, hy]
theorem stp_off {p : Int} {ys : List Int} {f d : Int} (h : ¬ 0 ≤ f - d) : (⟨f, -1, d, false⟩ : Stp) = stp p ys f d := by rw [stp, toOf_neg h, stHit_off h]
end Go.Proofs.YtdcdjocjlicplaaDoor
