/-
  Contracts of the functions on seeds and rolls.
-/
import Derived.Test.YtmpfjnjlocfhdaaVar
namespace Go.Proofs.Ytmpfjnjlocfhdaa
open Go.ChangeShapes Go.WideShapes Go.ChangeAt Go.RowKit Go.Joins

def isRollF (p c h s a b : Int) : Bool := vOk p c h s && rOk s a b
theorem isRoll_yes {p c h s a b : Int} (hr : isRollF p c h s a b = true) : vOk p c h s = true ∧ rOk s a b = true := by simpa [isRollF] using hr
def seedOk (x : Int) : Bool := win x 1 2147483646
def nxt (x : Int) : Int := 48271 * x % 2147483647
def nextF (x : Int) : Int := if seedOk x = true then nxt x else 0
def numF (p c h s a b : Int) : Int := if isRollF p c h s a b = true then a * (a - 1) / 2 + b - 1 else -1
def wgt (a b : Int) : Int := if a = b then 1 else 2
def wgtF (p c h s a b : Int) : Int := if isRollF p c h s a b = true then wgt a b else 0

theorem isSeed (x : Int) (w : World) : Calls Try.prog 84 #[.int .i64 x] w fun e w' => e = .returned (.bool (seedOk x)) ∧ w = w' := by
  go_enter Try.func84, Try.ntmps84
  go_wp2_with (go_at_call 89; (with_reducible refine (within_any _ _ _ _).mono ?_); rintro e w9 ⟨rfl, rfl⟩)
  go_ret
  exact ⟨rfl, rfl⟩
theorem sIsSeed (x : Int) (w : World) : Calls Try.prog 82 #[.int .i64 x] w fun e w' => e = .returned (.bool (seedOk x)) ∧ w = w' := by
  go_enter Try.func82, Try.ntmps82
  go_wp2_with (go_at_call 65; (with_reducible refine (l01In_any _ _ _ _).mono ?_); rintro e w9 ⟨rfl, rfl⟩)
  go_ret
  exact ⟨rfl, rfl⟩
theorem nextSeed (x : Int) (h1 : 0 ≤ x) (h2 : x ≤ 2147483647) (w : World) : Calls Try.prog 99 #[.int .i64 x] w fun e w' => e = .returned (.int .i64 (nxt x)) ∧ w = w' := by
  go_enter Try.func99, Try.ntmps99
  go_wp2
  go_ret
  exact ⟨rfl, rfl⟩
theorem sNextSeed (x : Int) (h1 : 0 ≤ x) (h2 : x ≤ 2147483647) (w : World) : Calls Try.prog 97 #[.int .i64 x] w fun e w' => e = .returned (.int .i64 (nxt x)) ∧ w = w' := by
  go_enter Try.func97, Try.ntmps97
  go_wp2
  go_ret
  exact ⟨rfl, rfl⟩
theorem eqRoll_same (a b : Int) (w : World) :
    Calls Try.prog 50 #[.agg #[.int .i64 a, .int .i64 b], .agg #[.int .i64 a, .int .i64 b]] w fun e w' => e = .returned (.bool true) ∧ Past w w' := by
  go_enter Try.func50, Try.ntmps50
  go_wp2
  go_ret
  exact ⟨rfl, (by repeat (first | exact Past.refl _ | assumption | refine Past.alloc ?_ _ | refine Past.drew ?_ | refine Past.drewN ?_ _ | refine Past.setCell ?_ (by first | (simp; done) | (simp <;> omega)) _ | refine Past.trans ?_ (past_over _ _) | refine Past.trans ?_ (by assumption)))⟩
end Go.Proofs.Ytmpfjnjlocfhdaa
