/-
  Contracts: whether a step is legal.
-/
import Derived.Test.YtdcdjocjlicplaaDoorSteps
import Derived.Outline
namespace Go.Proofs.YtdcdjocjlicplaaDoor
open Go.ChangeShapes Go.WideShapes Go.ChangeAt Go.RowKit Go.Joins

theorem legB_over {p h s : Int} {xs ys : List Int} {a : Stp} (ho : overF xs ys = true) : legB p h s xs ys a = false := by simp [legB, ho]
theorem legB_d {p h s : Int} {xs ys : List Int} {a : Stp} (hw : win a.d 1 s = false) : legB p h s xs ys a = false := by simp [legB, hw]
theorem legB_f {p h s : Int} {xs ys : List Int} {a : Stp} (hw : win a.f 0 p = false) : legB p h s xs ys a = false := by simp [legB, hw]
theorem legB_no {p h s : Int} {xs ys : List Int} {a : Stp} (hw : stOk p h xs ys a.f a.d = false) : legB p h s xs ys a = false := by simp [legB, hw]
theorem legB_yes {p h s : Int} {xs ys : List Int} {a : Stp} (ho : overF xs ys = false) (h1 : win a.d 1 s = true) (h2 : win a.f 0 p = true) (h3 : stOk p h xs ys a.f a.d = true) : legB p h s xs ys a = Stp.same (stp p ys a.f a.d) a := by simp [legB, ho, h1, h2, h3]
theorem within_b (x lo hi : Int) (b : Bool) (hb : Hid (win x lo hi = b)) (w : World) :
    Calls Tryd.prog 56 #[.int .i64 x, .int .i64 lo, .int .i64 hi] w fun e w' => e = .returned (.bool b) ∧ w = w' :=
  (within_any x lo hi w).mono fun _ _ ⟨he, hp⟩ => ⟨he.trans (ret_bool hb.out), hp⟩
theorem l01In_b (x lo hi : Int) (b : Bool) (hb : Hid (win x lo hi = b)) (w : World) :
    Calls Tryd.prog 60 #[.int .i64 x, .int .i64 lo, .int .i64 hi] w fun e w' => e = .returned (.bool b) ∧ w = w' :=
  (l01In_any x lo hi w).mono fun _ _ ⟨he, hp⟩ => ⟨he.trans (ret_bool hb.out), hp⟩
theorem legB_not {p h s : Int} {xs ys : List Int} {a : Stp} (hw : (!overF xs ys && stOk p h xs ys a.f a.d) = false) : legB p h s xs ys a = false := by
  have e : legB p h s xs ys a = (win a.d 1 s && (win a.f 0 p && ((!overF xs ys && stOk p h xs ys a.f a.d) && Stp.same (stp p ys a.f a.d) a))) := by simp [legB, Bool.and_assoc]
  rw [e, hw]
  simp
theorem legB_is {p h s : Int} {xs ys : List Int} {a : Stp} (h1 : win a.d 1 s = true) (h2 : win a.f 0 p = true) (hw : (!overF xs ys && stOk p h xs ys a.f a.d) = true) : legB p h s xs ys a = Stp.same (stp p ys a.f a.d) a := by
  have e : legB p h s xs ys a = (win a.d 1 s && (win a.f 0 p && ((!overF xs ys && stOk p h xs ys a.f a.d) && Stp.same (stp p ys a.f a.d) a))) := by simp [legB, Bool.and_assoc]
  rw [e, hw, h1, h2]
  simp
end Go.Proofs.YtdcdjocjlicplaaDoor
