/-
  Contracts: plain steps and their texts.
-/
import Derived.Test.YtdcdjocjlicplaaDoorTextV
namespace Go.Proofs.YtdcdjocjlicplaaDoor
open Go.ChangeShapes Go.WideShapes Go.ChangeAt Go.RowKit Go.Joins

/-- A step that is plain for a variant of p points and s sides. -/
def plS (p s f t d : Int) (x : Bool) : Bool :=
  win f 0 p && (win d 1 s && (if t = -1 then (!x && (decide (f < p) && decide (f < d))) else (decide (0 ≤ t) && decide (t = f - d))))
theorem plS_yes {p s f t d : Int} {x : Bool} (h : plS p s f t d x = true) : (0 ≤ f ∧ f ≤ p) ∧ (1 ≤ d ∧ d ≤ s) ∧ ((t = -1 ∧ x = false ∧ f < p ∧ f < d) ∨ (0 ≤ t ∧ t = f - d)) := by
  simp only [plS, Bool.and_eq_true] at h
  refine ⟨win_yes h.1, win_yes h.2.1, ?_⟩
  have h3 := h.2.2
  split at h3
  · rename_i e
    simp only [Bool.and_eq_true, decide_eq_true_eq] at h3
    exact .inl ⟨e, by simpa using h3.1, h3.2.1, h3.2.2⟩
  · simp only [Bool.and_eq_true, decide_eq_true_eq] at h3
    exact .inr h3
set_option maxHeartbeats 1000000 in
set_option maxRecDepth 100000 in
theorem plainStep_any (p c h s f t d : Int) (x : Bool) (w : World) (hp : p ≤ 24) (hs : s ≤ 6) :
    Calls Tryd.prog 44 #[.agg #[.int .i64 p, .int .i64 c, .int .i64 h, .int .i64 s], .agg #[.int .i64 f, .int .i64 t, .int .i64 d, .bool x]] w fun e w' => e = .returned (.bool (plS p s f t d x)) ∧ Past w w' := by
  cases h1 : win f 0 p
  · rw [show plS p s f t d x = false from by simp [plS, h1]]
    go_enter Tryd.func44, Tryd.ntmps44
    go_wp2_with (go_at_call 56; refine (within_any _ _ _ _).mono ?_; rintro e w' ⟨rfl, rfl⟩)
    go_ret
    exact ⟨rfl, (by repeat (first | exact Past.refl _ | assumption | refine Past.alloc ?_ _ | refine Past.drew ?_ | refine Past.drewN ?_ _ | refine Past.setCell ?_ (by first | (simp; done) | (simp <;> omega)) _ | refine Past.trans ?_ (past_over _ _) | refine Past.trans ?_ (by assumption)))⟩
  · cases h2 : win d 1 s
    · rw [show plS p s f t d x = false from by simp [plS, h2]]
      go_enter Tryd.func44, Tryd.ntmps44
      go_wp2_with (go_at_call 56; refine (within_any _ _ _ _).mono ?_; rintro e w' ⟨rfl, rfl⟩)
      go_ret
      exact ⟨rfl, (by repeat (first | exact Past.refl _ | assumption | refine Past.alloc ?_ _ | refine Past.drew ?_ | refine Past.drewN ?_ _ | refine Past.setCell ?_ (by first | (simp; done) | (simp <;> omega)) _ | refine Past.trans ?_ (past_over _ _) | refine Past.trans ?_ (by assumption)))⟩
    · have b1 := win_yes h1
      have b2 := win_yes h2
      by_cases e1 : t = -1
      · subst e1
        rw [show plS p s f (-1) d x = (!x && (decide (f < p) && decide (f < d))) from by simp [plS, h1, h2]]
        cases x <;> by_cases e2 : f < p <;> by_cases e3 : f < d
        all_goals
          go_enter Tryd.func44, Tryd.ntmps44
          go_wp2_with (go_at_call 56; refine (within_any _ _ _ _).mono ?_; rintro e w' ⟨rfl, rfl⟩)
          go_ret
          exact ⟨congrArg (fun z => Ending.returned (.bool z)) (by first | rfl | (simp; done) | (simp; omega) | (simp_all; done) | (simp_all; omega)), (by repeat (first | exact Past.refl _ | assumption | refine Past.alloc ?_ _ | refine Past.drew ?_ | refine Past.drewN ?_ _ | refine Past.setCell ?_ (by first | (simp; done) | (simp <;> omega)) _ | refine Past.trans ?_ (past_over _ _) | refine Past.trans ?_ (by assumption)))⟩
      · rw [show plS p s f t d x = (decide (0 ≤ t) && decide (t = f - d)) from by simp [plS, h1, h2, e1]]
        have W1 : IntKind.i64.wrap (f - d) = f - d := IntWalk.i64_in _ (by omega)
        by_cases e2 : 0 ≤ t
        · by_cases e3 : t = f - d
          · rw [decide_eq_true e2, decide_eq_true e3]
            have e4 : 0 ≤ f - d := by omega
            have e5 : ¬ f - d = -1 := by omega
            subst e3
            go_enter Tryd.func44, Tryd.ntmps44
            go_wp2_with (go_at_call 56; refine (within_any _ _ _ _).mono ?_; rintro e w' ⟨rfl, rfl⟩)
            go_ret
            exact ⟨congrArg (fun z => Ending.returned (.bool z)) (by first | rfl | (simp; done) | (simp; omega) | (simp_all; done) | (simp_all; omega)), (by repeat (first | exact Past.refl _ | assumption | refine Past.alloc ?_ _ | refine Past.drew ?_ | refine Past.drewN ?_ _ | refine Past.setCell ?_ (by first | (simp; done) | (simp <;> omega)) _ | refine Past.trans ?_ (past_over _ _) | refine Past.trans ?_ (by assumption)))⟩
          · rw [decide_eq_false e3, Bool.and_false]
            go_enter Tryd.func44, Tryd.ntmps44
            go_wp2_with (go_at_call 56; refine (within_any _ _ _ _).mono ?_; rintro e w' ⟨rfl, rfl⟩)
            go_ret
            exact ⟨congrArg (fun z => Ending.returned (.bool z)) (by first | rfl | (simp; done) | (simp; omega) | (simp_all; done) | (simp_all; omega)), (by repeat (first | exact Past.refl _ | assumption | refine Past.alloc ?_ _ | refine Past.drew ?_ | refine Past.drewN ?_ _ | refine Past.setCell ?_ (by first | (simp; done) | (simp <;> omega)) _ | refine Past.trans ?_ (past_over _ _) | refine Past.trans ?_ (by assumption)))⟩
        · rw [decide_eq_false e2, Bool.false_and]
          by_cases e3 : t = f - d
          · subst e3
            go_enter Tryd.func44, Tryd.ntmps44
            go_wp2_with (go_at_call 56; refine (within_any _ _ _ _).mono ?_; rintro e w' ⟨rfl, rfl⟩)
            go_ret
            exact ⟨congrArg (fun z => Ending.returned (.bool z)) (by first | rfl | (simp; done) | (simp; omega) | (simp_all; done) | (simp_all; omega)), (by repeat (first | exact Past.refl _ | assumption | refine Past.alloc ?_ _ | refine Past.drew ?_ | refine Past.drewN ?_ _ | refine Past.setCell ?_ (by first | (simp; done) | (simp <;> omega)) _ | refine Past.trans ?_ (past_over _ _) | refine Past.trans ?_ (by assumption)))⟩
          · go_enter Tryd.func44, Tryd.ntmps44
            go_wp2_with (go_at_call 56; refine (within_any _ _ _ _).mono ?_; rintro e w' ⟨rfl, rfl⟩)
            go_ret
            exact ⟨congrArg (fun z => Ending.returned (.bool z)) (by first | rfl | (simp; done) | (simp; omega) | (simp_all; done) | (simp_all; omega)), (by repeat (first | exact Past.refl _ | assumption | refine Past.alloc ?_ _ | refine Past.drew ?_ | refine Past.drewN ?_ _ | refine Past.setCell ?_ (by first | (simp; done) | (simp <;> omega)) _ | refine Past.trans ?_ (past_over _ _) | refine Past.trans ?_ (by assumption)))⟩
set_option maxHeartbeats 1000000 in
set_option maxRecDepth 100000 in
theorem l06Plain_any (p c h s f t d : Int) (x : Bool) (w : World) (hp : p ≤ 24) (hs : s ≤ 6) :
    Calls Tryd.prog 42 #[.agg #[.int .i64 p, .int .i64 c, .int .i64 h, .int .i64 s], .agg #[.int .i64 f, .int .i64 t, .int .i64 d, .bool x]] w fun e w' => e = .returned (.bool (plS p s f t d x)) ∧ Past w w' := by
  cases h1 : win f 0 p
  · rw [show plS p s f t d x = false from by simp [plS, h1]]
    go_enter Tryd.func42, Tryd.ntmps42
    go_wp2_with (go_at_call 60; refine (l01In_any _ _ _ _).mono ?_; rintro e w' ⟨rfl, rfl⟩)
    go_ret
    exact ⟨rfl, (by repeat (first | exact Past.refl _ | assumption | refine Past.alloc ?_ _ | refine Past.drew ?_ | refine Past.drewN ?_ _ | refine Past.setCell ?_ (by first | (simp; done) | (simp <;> omega)) _ | refine Past.trans ?_ (past_over _ _) | refine Past.trans ?_ (by assumption)))⟩
  · cases h2 : win d 1 s
    · rw [show plS p s f t d x = false from by simp [plS, h2]]
      go_enter Tryd.func42, Tryd.ntmps42
      go_wp2_with (go_at_call 60; refine (l01In_any _ _ _ _).mono ?_; rintro e w' ⟨rfl, rfl⟩)
      go_ret
      exact ⟨rfl, (by repeat (first | exact Past.refl _ | assumption | refine Past.alloc ?_ _ | refine Past.drew ?_ | refine Past.drewN ?_ _ | refine Past.setCell ?_ (by first | (simp; done) | (simp <;> omega)) _ | refine Past.trans ?_ (past_over _ _) | refine Past.trans ?_ (by assumption)))⟩
    · have b1 := win_yes h1
      have b2 := win_yes h2
      by_cases e1 : t = -1
      · subst e1
        rw [show plS p s f (-1) d x = (!x && (decide (f < p) && decide (f < d))) from by simp [plS, h1, h2]]
        cases x <;> by_cases e2 : f < p <;> by_cases e3 : f < d
        all_goals
          go_enter Tryd.func42, Tryd.ntmps42
          go_wp2_with (go_at_call 60; refine (l01In_any _ _ _ _).mono ?_; rintro e w' ⟨rfl, rfl⟩)
          go_ret
          exact ⟨congrArg (fun z => Ending.returned (.bool z)) (by first | rfl | (simp; done) | (simp; omega) | (simp_all; done) | (simp_all; omega)), (by repeat (first | exact Past.refl _ | assumption | refine Past.alloc ?_ _ | refine Past.drew ?_ | refine Past.drewN ?_ _ | refine Past.setCell ?_ (by first | (simp; done) | (simp <;> omega)) _ | refine Past.trans ?_ (past_over _ _) | refine Past.trans ?_ (by assumption)))⟩
      · rw [show plS p s f t d x = (decide (0 ≤ t) && decide (t = f - d)) from by simp [plS, h1, h2, e1]]
        have W1 : IntKind.i64.wrap (f - d) = f - d := IntWalk.i64_in _ (by omega)
        by_cases e2 : 0 ≤ t
        · by_cases e3 : t = f - d
          · rw [decide_eq_true e2, decide_eq_true e3]
            have e4 : 0 ≤ f - d := by omega
            have e5 : ¬ f - d = -1 := by omega
            subst e3
            go_enter Tryd.func42, Tryd.ntmps42
            go_wp2_with (go_at_call 60; refine (l01In_any _ _ _ _).mono ?_; rintro e w' ⟨rfl, rfl⟩)
            go_ret
            exact ⟨congrArg (fun z => Ending.returned (.bool z)) (by first | rfl | (simp; done) | (simp; omega) | (simp_all; done) | (simp_all; omega)), (by repeat (first | exact Past.refl _ | assumption | refine Past.alloc ?_ _ | refine Past.drew ?_ | refine Past.drewN ?_ _ | refine Past.setCell ?_ (by first | (simp; done) | (simp <;> omega)) _ | refine Past.trans ?_ (past_over _ _) | refine Past.trans ?_ (by assumption)))⟩
          · rw [decide_eq_false e3, Bool.and_false]
            go_enter Tryd.func42, Tryd.ntmps42
            go_wp2_with (go_at_call 60; refine (l01In_any _ _ _ _).mono ?_; rintro e w' ⟨rfl, rfl⟩)
            go_ret
            exact ⟨congrArg (fun z => Ending.returned (.bool z)) (by first | rfl | (simp; done) | (simp; omega) | (simp_all; done) | (simp_all; omega)), (by repeat (first | exact Past.refl _ | assumption | refine Past.alloc ?_ _ | refine Past.drew ?_ | refine Past.drewN ?_ _ | refine Past.setCell ?_ (by first | (simp; done) | (simp <;> omega)) _ | refine Past.trans ?_ (past_over _ _) | refine Past.trans ?_ (by assumption)))⟩
        · rw [decide_eq_false e2, Bool.false_and]
          by_cases e3 : t = f - d
          · subst e3
            go_enter Tryd.func42, Tryd.ntmps42
            go_wp2_with (go_at_call 60; refine (l01In_any _ _ _ _).mono ?_; rintro e w' ⟨rfl, rfl⟩)
            go_ret
            exact ⟨congrArg (fun z => Ending.returned (.bool z)) (by first | rfl | (simp; done) | (simp; omega) | (simp_all; done) | (simp_all; omega)), (by repeat (first | exact Past.refl _ | assumption | refine Past.alloc ?_ _ | refine Past.drew ?_ | refine Past.drewN ?_ _ | refine Past.setCell ?_ (by first | (simp; done) | (simp <;> omega)) _ | refine Past.trans ?_ (past_over _ _) | refine Past.trans ?_ (by assumption)))⟩
          · go_enter Tryd.func42, Tryd.ntmps42
            go_wp2_with (go_at_call 60; refine (l01In_any _ _ _ _).mono ?_; rintro e w' ⟨rfl, rfl⟩)
            go_ret
            exact ⟨congrArg (fun z => Ending.returned (.bool z)) (by first | rfl | (simp; done) | (simp; omega) | (simp_all; done) | (simp_all; omega)), (by repeat (first | exact Past.refl _ | assumption | refine Past.alloc ?_ _ | refine Past.drew ?_ | refine Past.drewN ?_ _ | refine Past.setCell ?_ (by first | (simp; done) | (simp <;> omega)) _ | refine Past.trans ?_ (past_over _ _) | refine Past.trans ?_ (by assumption)))⟩
end Go.Proofs.YtdcdjocjlicplaaDoor
