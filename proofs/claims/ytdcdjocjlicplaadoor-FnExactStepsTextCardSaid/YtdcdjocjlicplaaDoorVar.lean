/-
  Contracts of the functions on variants: what each returns, and that it leaves all old memory as it was.
-/
import Derived.Test.YtdcdjocjlicplaaDoorRows
import Derived.Test.YtdcdjocjlicplaaDoorBase
namespace Go.Proofs.YtdcdjocjlicplaaDoor
open Go.ChangeShapes Go.WideShapes Go.ChangeAt Go.RowKit Go.Joins

theorem within_any (x lo hi : Int) (w : World) :
    Calls Tryd.prog 56 #[.int .i64 x, .int .i64 lo, .int .i64 hi] w fun e w' => e = .returned (.bool (win x lo hi)) ∧ w = w' := by
  by_cases h1 : lo ≤ x
  · by_cases h2 : x ≤ hi
    · rw [win_mk ⟨h1, h2⟩]
      go_enter Tryd.func56, Tryd.ntmps56
      go_wp2
      go_ret
      exact ⟨rfl, rfl⟩
    · rw [win_no (fun h => h2 h.2)]
      go_enter Tryd.func56, Tryd.ntmps56
      go_wp2
      go_ret
      exact ⟨rfl, rfl⟩
  · rw [win_no (fun h => h1 h.1)]
    go_enter Tryd.func56, Tryd.ntmps56
    go_wp2
    go_ret
    exact ⟨rfl, rfl⟩
theorem l01In_any (x lo hi : Int) (w : World) :
    Calls Tryd.prog 60 #[.int .i64 x, .int .i64 lo, .int .i64 hi] w fun e w' => e = .returned (.bool (win x lo hi)) ∧ w = w' := by
  by_cases h1 : lo ≤ x
  · by_cases h2 : x ≤ hi
    · rw [win_mk ⟨h1, h2⟩]
      go_enter Tryd.func60, Tryd.ntmps60
      go_wp2
      go_ret
      exact ⟨rfl, rfl⟩
    · rw [win_no (fun h => h2 h.2)]
      go_enter Tryd.func60, Tryd.ntmps60
      go_wp2
      go_ret
      exact ⟨rfl, rfl⟩
  · rw [win_no (fun h => h1 h.1)]
    go_enter Tryd.func60, Tryd.ntmps60
    go_wp2
    go_ret
    exact ⟨rfl, rfl⟩
theorem isVar_any (p c h s : Int) (w : World) :
    Calls Tryd.prog 34 #[.agg #[.int .i64 p, .int .i64 c, .int .i64 h, .int .i64 s]] w fun e w' => e = .returned (.bool (vOk p c h s)) ∧ Past w w' := by
  cases h1 : win p 2 24
  · have e : vOk p c h s = false := by simp [vOk, h1]
    rw [e]
    go_enter Tryd.func34, Tryd.ntmps34
    go_wp2_with (go_at_call 56; refine (within_any _ _ _ _).mono ?_; rintro e w' ⟨rfl, rfl⟩)
    go_ret
    exact ⟨rfl, (by repeat (first | exact Past.refl _ | assumption | refine Past.alloc ?_ _ | refine Past.drew ?_ | refine Past.drewN ?_ _ | refine Past.setCell ?_ (by first | (simp; done) | (simp <;> omega)) _ | refine Past.trans ?_ (past_over _ _) | refine Past.trans ?_ (by assumption)))⟩
  · cases h2 : win c 1 15
    · have e : vOk p c h s = false := by simp [vOk, h2]
      rw [e]
      go_enter Tryd.func34, Tryd.ntmps34
      go_wp2_with (go_at_call 56; refine (within_any _ _ _ _).mono ?_; rintro e w' ⟨rfl, rfl⟩)
      go_ret
      exact ⟨rfl, (by repeat (first | exact Past.refl _ | assumption | refine Past.alloc ?_ _ | refine Past.drew ?_ | refine Past.drewN ?_ _ | refine Past.setCell ?_ (by first | (simp; done) | (simp <;> omega)) _ | refine Past.trans ?_ (past_over _ _) | refine Past.trans ?_ (by assumption)))⟩
    · cases h3 : win h 1 p
      · have e : vOk p c h s = false := by simp [vOk, h3]
        rw [e]
        go_enter Tryd.func34, Tryd.ntmps34
        go_wp2_with (go_at_call 56; refine (within_any _ _ _ _).mono ?_; rintro e w' ⟨rfl, rfl⟩)
        go_ret
        exact ⟨rfl, (by repeat (first | exact Past.refl _ | assumption | refine Past.alloc ?_ _ | refine Past.drew ?_ | refine Past.drewN ?_ _ | refine Past.setCell ?_ (by first | (simp; done) | (simp <;> omega)) _ | refine Past.trans ?_ (past_over _ _) | refine Past.trans ?_ (by assumption)))⟩
      · cases h4 : win s 1 6
        · have e : vOk p c h s = false := by simp [vOk, h4]
          rw [e]
          go_enter Tryd.func34, Tryd.ntmps34
          go_wp2_with (go_at_call 56; refine (within_any _ _ _ _).mono ?_; rintro e w' ⟨rfl, rfl⟩)
          go_ret
          exact ⟨rfl, (by repeat (first | exact Past.refl _ | assumption | refine Past.alloc ?_ _ | refine Past.drew ?_ | refine Past.drewN ?_ _ | refine Past.setCell ?_ (by first | (simp; done) | (simp <;> omega)) _ | refine Past.trans ?_ (past_over _ _) | refine Past.trans ?_ (by assumption)))⟩
        · have e : vOk p c h s = true := by simp [vOk, h1, h2, h3, h4]
          rw [e]
          go_enter Tryd.func34, Tryd.ntmps34
          go_wp2_with (go_at_call 56; refine (within_any _ _ _ _).mono ?_; rintro e w' ⟨rfl, rfl⟩)
          go_ret
          exact ⟨rfl, (by repeat (first | exact Past.refl _ | assumption | refine Past.alloc ?_ _ | refine Past.drew ?_ | refine Past.drewN ?_ _ | refine Past.setCell ?_ (by first | (simp; done) | (simp <;> omega)) _ | refine Past.trans ?_ (past_over _ _) | refine Past.trans ?_ (by assumption)))⟩
theorem sIsVar_any (p c h s : Int) (w : World) :
    Calls Tryd.prog 39 #[.agg #[.int .i64 p, .int .i64 c, .int .i64 h, .int .i64 s]] w fun e w' => e = .returned (.bool (vOk p c h s)) ∧ Past w w' := by
  cases h1 : win p 2 24
  · have e : vOk p c h s = false := by simp [vOk, h1]
    rw [e]
    go_enter Tryd.func39, Tryd.ntmps39
    go_wp2_with (go_at_call 60; refine (l01In_any _ _ _ _).mono ?_; rintro e w' ⟨rfl, rfl⟩)
    go_ret
    exact ⟨rfl, (by repeat (first | exact Past.refl _ | assumption | refine Past.alloc ?_ _ | refine Past.drew ?_ | refine Past.drewN ?_ _ | refine Past.setCell ?_ (by first | (simp; done) | (simp <;> omega)) _ | refine Past.trans ?_ (past_over _ _) | refine Past.trans ?_ (by assumption)))⟩
  · cases h2 : win c 1 15
    · have e : vOk p c h s = false := by simp [vOk, h2]
      rw [e]
      go_enter Tryd.func39, Tryd.ntmps39
      go_wp2_with (go_at_call 60; refine (l01In_any _ _ _ _).mono ?_; rintro e w' ⟨rfl, rfl⟩)
      go_ret
      exact ⟨rfl, (by repeat (first | exact Past.refl _ | assumption | refine Past.alloc ?_ _ | refine Past.drew ?_ | refine Past.drewN ?_ _ | refine Past.setCell ?_ (by first | (simp; done) | (simp <;> omega)) _ | refine Past.trans ?_ (past_over _ _) | refine Past.trans ?_ (by assumption)))⟩
    · cases h3 : win h 1 p
      · have e : vOk p c h s = false := by simp [vOk, h3]
        rw [e]
        go_enter Tryd.func39, Tryd.ntmps39
        go_wp2_with (go_at_call 60; refine (l01In_any _ _ _ _).mono ?_; rintro e w' ⟨rfl, rfl⟩)
        go_ret
        exact ⟨rfl, (by repeat (first | exact Past.refl _ | assumption | refine Past.alloc ?_ _ | refine Past.drew ?_ | refine Past.drewN ?_ _ | refine Past.setCell ?_ (by first | (simp; done) | (simp <;> omega)) _ | refine Past.trans ?_ (past_over _ _) | refine Past.trans ?_ (by assumption)))⟩
      · cases h4 : win s 1 6
        · have e : vOk p c h s = false := by simp [vOk, h4]
          rw [e]
          go_enter Tryd.func39, Tryd.ntmps39
          go_wp2_with (go_at_call 60; refine (l01In_any _ _ _ _).mono ?_; rintro e w' ⟨rfl, rfl⟩)
          go_ret
          exact ⟨rfl, (by repeat (first | exact Past.refl _ | assumption | refine Past.alloc ?_ _ | refine Past.drew ?_ | refine Past.drewN ?_ _ | refine Past.setCell ?_ (by first | (simp; done) | (simp <;> omega)) _ | refine Past.trans ?_ (past_over _ _) | refine Past.trans ?_ (by assumption)))⟩
        · have e : vOk p c h s = true := by simp [vOk, h1, h2, h3, h4]
          rw [e]
          go_enter Tryd.func39, Tryd.ntmps39
          go_wp2_with (go_at_call 60; refine (l01In_any _ _ _ _).mono ?_; rintro e w' ⟨rfl, rfl⟩)
          go_ret
          exact ⟨rfl, (by repeat (first | exact Past.refl _ | assumption | refine Past.alloc ?_ _ | refine Past.drew ?_ | refine Past.drewN ?_ _ | refine Past.setCell ?_ (by first | (simp; done) | (simp <;> omega)) _ | refine Past.trans ?_ (past_over _ _) | refine Past.trans ?_ (by assumption)))⟩
theorem toVar_any (p c h s : Int) (w : World) :
    Calls Tryd.prog 12 #[.agg #[.int .i64 p, .int .i64 c, .int .i64 h, .int .i64 s]] w fun e w' => e = .returned (.agg #[.int .i64 p, .int .i64 c, .int .i64 h, .int .i64 s]) ∧ Past w w' := by
  go_enter Tryd.func12, Tryd.ntmps12
  go_wp2
  refine bodyPost_ret (v := .agg #[.int .i64 p, .int .i64 c, .int .i64 h, .int .i64 s]) (by simp [results, Tryd.results12, go_sem]) rfl ⟨rfl, (by repeat (first | exact Past.refl _ | assumption | refine Past.alloc ?_ _ | refine Past.drew ?_ | refine Past.drewN ?_ _ | refine Past.setCell ?_ (by first | (simp; done) | (simp <;> omega)) _ | refine Past.trans ?_ (past_over _ _) | refine Past.trans ?_ (by assumption)))⟩
theorem sFullVar (w : World) : Calls Tryd.prog 87 #[] w fun e w' => e = .returned (.agg #[.int .i64 24, .int .i64 15, .int .i64 6, .int .i64 6]) ∧ Past w w' := by
  go_enter Tryd.func87, Tryd.ntmps87
  go_wp2
  refine bodyPost_ret (v := .agg #[.int .i64 24, .int .i64 15, .int .i64 6, .int .i64 6]) (by simp [results, Tryd.results87, go_sem]) rfl ⟨rfl, (by repeat (first | exact Past.refl _ | assumption | refine Past.alloc ?_ _ | refine Past.drew ?_ | refine Past.drewN ?_ _ | refine Past.setCell ?_ (by first | (simp; done) | (simp <;> omega)) _ | refine Past.trans ?_ (past_over _ _) | refine Past.trans ?_ (by assumption)))⟩
theorem eqVar_same (p c h s : Int) (w : World) :
    Calls Tryd.prog 24 #[.agg #[.int .i64 p, .int .i64 c, .int .i64 h, .int .i64 s], .agg #[.int .i64 p, .int .i64 c, .int .i64 h, .int .i64 s]] w fun e w' => e = .returned (.bool true) ∧ Past w w' := by
  go_enter Tryd.func24, Tryd.ntmps24
  go_wp2
  go_ret
  exact ⟨rfl, (by repeat (first | exact Past.refl _ | assumption | refine Past.alloc ?_ _ | refine Past.drew ?_ | refine Past.drewN ?_ _ | refine Past.setCell ?_ (by first | (simp; done) | (simp <;> omega)) _ | refine Past.trans ?_ (past_over _ _) | refine Past.trans ?_ (by assumption)))⟩
end Go.Proofs.YtdcdjocjlicplaaDoor
