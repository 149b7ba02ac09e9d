/-
  Contracts of the functions on variants: what each returns, and that it leaves all old memory as it was.
-/
import Derived.Test.YtapocfgajkkpdaaRows
import Derived.Test.YtapocfgajkkpdaaBase
namespace Go.Proofs.Ytapocfgajkkpdaa
open Go.ChangeShapes Go.WideShapes Go.ChangeAt Go.RowKit Go.Joins

theorem within_any (x lo hi : Int) (w : World) :
    Calls Try.prog 71 #[.int .i64 x, .int .i64 lo, .int .i64 hi] w fun e w' => e = .returned (.bool (win x lo hi)) ∧ w = w' := by
  by_cases h1 : lo ≤ x
  · by_cases h2 : x ≤ hi
    · rw [win_mk ⟨h1, h2⟩]
      go_enter Try.func71, Try.ntmps71
      go_wp2
      go_ret
      exact ⟨rfl, rfl⟩
    · rw [win_no (fun h => h2 h.2)]
      go_enter Try.func71, Try.ntmps71
      go_wp2
      go_ret
      exact ⟨rfl, rfl⟩
  · rw [win_no (fun h => h1 h.1)]
    go_enter Try.func71, Try.ntmps71
    go_wp2
    go_ret
    exact ⟨rfl, rfl⟩
theorem l01In_any (x lo hi : Int) (w : World) :
    Calls Try.prog 68 #[.int .i64 x, .int .i64 lo, .int .i64 hi] w fun e w' => e = .returned (.bool (win x lo hi)) ∧ w = w' := by
  by_cases h1 : lo ≤ x
  · by_cases h2 : x ≤ hi
    · rw [win_mk ⟨h1, h2⟩]
      go_enter Try.func68, Try.ntmps68
      go_wp2
      go_ret
      exact ⟨rfl, rfl⟩
    · rw [win_no (fun h => h2 h.2)]
      go_enter Try.func68, Try.ntmps68
      go_wp2
      go_ret
      exact ⟨rfl, rfl⟩
  · rw [win_no (fun h => h1 h.1)]
    go_enter Try.func68, Try.ntmps68
    go_wp2
    go_ret
    exact ⟨rfl, rfl⟩
theorem isVar_any (p c h s : Int) (w : World) :
    Calls Try.prog 66 #[.agg #[.int .i64 p, .int .i64 c, .int .i64 h, .int .i64 s]] w fun e w' => e = .returned (.bool (vOk p c h s)) ∧ Past w w' := by
  cases h1 : win p 2 24
  · have e : vOk p c h s = false := by simp [vOk, h1]
    rw [e]
    go_enter Try.func66, Try.ntmps66
    go_wp2_with (go_at_call 71; refine (within_any _ _ _ _).mono ?_; rintro e w' ⟨rfl, rfl⟩)
    go_ret
    exact ⟨rfl, (by repeat (first | exact Past.refl _ | assumption | refine Past.alloc ?_ _ | refine Past.drew ?_ | refine Past.drewN ?_ _ | refine Past.setCell ?_ (by first | (simp; done) | (simp <;> omega)) _ | refine Past.trans ?_ (past_over _ _) | refine Past.trans ?_ (by assumption)))⟩
  · cases h2 : win c 1 15
    · have e : vOk p c h s = false := by simp [vOk, h2]
      rw [e]
      go_enter Try.func66, Try.ntmps66
      go_wp2_with (go_at_call 71; refine (within_any _ _ _ _).mono ?_; rintro e w' ⟨rfl, rfl⟩)
      go_ret
      exact ⟨rfl, (by repeat (first | exact Past.refl _ | assumption | refine Past.alloc ?_ _ | refine Past.drew ?_ | refine Past.drewN ?_ _ | refine Past.setCell ?_ (by first | (simp; done) | (simp <;> omega)) _ | refine Past.trans ?_ (past_over _ _) | refine Past.trans ?_ (by assumption)))⟩
    · cases h3 : win h 1 p
      · have e : vOk p c h s = false := by simp [vOk, h3]
        rw [e]
        go_enter Try.func66, Try.ntmps66
        go_wp2_with (go_at_call 71; refine (within_any _ _ _ _).mono ?_; rintro e w' ⟨rfl, rfl⟩)
        go_ret
        exact ⟨rfl, (by repeat (first | exact Past.refl _ | assumption | refine Past.alloc ?_ _ | refine Past.drew ?_ | refine Past.drewN ?_ _ | refine Past.setCell ?_ (by first | (simp; done) | (simp <;> omega)) _ | refine Past.trans ?_ (past_over _ _) | refine Past.trans ?_ (by assumption)))⟩
      · cases h4 : win s 1 6
        · have e : vOk p c h s = false := by simp [vOk, h4]
          rw [e]
          go_enter Try.func66, Try.ntmps66
          go_wp2_with (go_at_call 71; refine (within_any _ _ _ _).mono ?_; rintro e w' ⟨rfl, rfl⟩)
          go_ret
          exact ⟨rfl, (by repeat (first | exact Past.refl _ | assumption | refine Past.alloc ?_ _ | refine Past.drew ?_ | refine Past.drewN ?_ _ | refine Past.setCell ?_ (by first | (simp; done) | (simp <;> omega)) _ | refine Past.trans ?_ (past_over _ _) | refine Past.trans ?_ (by assumption)))⟩
        · have e : vOk p c h s = true := by simp [vOk, h1, h2, h3, h4]
          rw [e]
          go_enter Try.func66, Try.ntmps66
          go_wp2_with (go_at_call 71; refine (within_any _ _ _ _).mono ?_; rintro e w' ⟨rfl, rfl⟩)
          go_ret
          exact ⟨rfl, (by repeat (first | exact Past.refl _ | assumption | refine Past.alloc ?_ _ | refine Past.drew ?_ | refine Past.drewN ?_ _ | refine Past.setCell ?_ (by first | (simp; done) | (simp <;> omega)) _ | refine Past.trans ?_ (past_over _ _) | refine Past.trans ?_ (by assumption)))⟩
theorem sIsVar_any (p c h s : Int) (w : World) :
    Calls Try.prog 19 #[.agg #[.int .i64 p, .int .i64 c, .int .i64 h, .int .i64 s]] w fun e w' => e = .returned (.bool (vOk p c h s)) ∧ Past w w' := by
  cases h1 : win p 2 24
  · have e : vOk p c h s = false := by simp [vOk, h1]
    rw [e]
    go_enter Try.func19, Try.ntmps19
    go_wp2_with (go_at_call 68; refine (l01In_any _ _ _ _).mono ?_; rintro e w' ⟨rfl, rfl⟩)
    go_ret
    exact ⟨rfl, (by repeat (first | exact Past.refl _ | assumption | refine Past.alloc ?_ _ | refine Past.drew ?_ | refine Past.drewN ?_ _ | refine Past.setCell ?_ (by first | (simp; done) | (simp <;> omega)) _ | refine Past.trans ?_ (past_over _ _) | refine Past.trans ?_ (by assumption)))⟩
  · cases h2 : win c 1 15
    · have e : vOk p c h s = false := by simp [vOk, h2]
      rw [e]
      go_enter Try.func19, Try.ntmps19
      go_wp2_with (go_at_call 68; refine (l01In_any _ _ _ _).mono ?_; rintro e w' ⟨rfl, rfl⟩)
      go_ret
      exact ⟨rfl, (by repeat (first | exact Past.refl _ | assumption | refine Past.alloc ?_ _ | refine Past.drew ?_ | refine Past.drewN ?_ _ | refine Past.setCell ?_ (by first | (simp; done) | (simp <;> omega)) _ | refine Past.trans ?_ (past_over _ _) | refine Past.trans ?_ (by assumption)))⟩
    · cases h3 : win h 1 p
      · have e : vOk p c h s = false := by simp [vOk, h3]
        rw [e]
        go_enter Try.func19, Try.ntmps19
        go_wp2_with (go_at_call 68; refine (l01In_any _ _ _ _).mono ?_; rintro e w' ⟨rfl, rfl⟩)
        go_ret
        exact ⟨rfl, (by repeat (first | exact Past.refl _ | assumption | refine Past.alloc ?_ _ | refine Past.drew ?_ | refine Past.drewN ?_ _ | refine Past.setCell ?_ (by first | (simp; done) | (simp <;> omega)) _ | refine Past.trans ?_ (past_over _ _) | refine Past.trans ?_ (by assumption)))⟩
      · cases h4 : win s 1 6
        · have e : vOk p c h s = false := by simp [vOk, h4]
          rw [e]
          go_enter Try.func19, Try.ntmps19
          go_wp2_with (go_at_call 68; refine (l01In_any _ _ _ _).mono ?_; rintro e w' ⟨rfl, rfl⟩)
          go_ret
          exact ⟨rfl, (by repeat (first | exact Past.refl _ | assumption | refine Past.alloc ?_ _ | refine Past.drew ?_ | refine Past.drewN ?_ _ | refine Past.setCell ?_ (by first | (simp; done) | (simp <;> omega)) _ | refine Past.trans ?_ (past_over _ _) | refine Past.trans ?_ (by assumption)))⟩
        · have e : vOk p c h s = true := by simp [vOk, h1, h2, h3, h4]
          rw [e]
          go_enter Try.func19, Try.ntmps19
          go_wp2_with (go_at_call 68; refine (l01In_any _ _ _ _).mono ?_; rintro e w' ⟨rfl, rfl⟩)
          go_ret
          exact ⟨rfl, (by repeat (first | exact Past.refl _ | assumption | refine Past.alloc ?_ _ | refine Past.drew ?_ | refine Past.drewN ?_ _ | refine Past.setCell ?_ (by first | (simp; done) | (simp <;> omega)) _ | refine Past.trans ?_ (past_over _ _) | refine Past.trans ?_ (by assumption)))⟩
theorem sFullVar (w : World) : Calls Try.prog 111 #[] w fun e w' => e = .returned (.agg #[.int .i64 24, .int .i64 15, .int .i64 6, .int .i64 6]) ∧ Past w w' := by
  go_enter Try.func111, Try.ntmps111
  go_wp2
  refine bodyPost_ret (v := .agg #[.int .i64 24, .int .i64 15, .int .i64 6, .int .i64 6]) (by simp [results, Try.results111, go_sem]) rfl ⟨rfl, (by repeat (first | exact Past.refl _ | assumption | refine Past.alloc ?_ _ | refine Past.drew ?_ | refine Past.drewN ?_ _ | refine Past.setCell ?_ (by first | (simp; done) | (simp <;> omega)) _ | refine Past.trans ?_ (past_over _ _) | refine Past.trans ?_ (by assumption)))⟩
theorem kinds (p c h s : Int) (w : World) :
    Calls Try.prog 20 #[.agg #[.int .i64 p, .int .i64 c, .int .i64 h, .int .i64 s]] w fun e w' => e = .returned (.int .i64 (kindsF p c h s)) ∧ Past w w' := by
  cases hv : vOk p c h s
  · rw [show kindsF p c h s = -1 from by simp [kindsF, hv]]
    go_enter Try.func20, Try.ntmps20
    go_wp2_with (go_at_call 66; (with_reducible refine (isVar_any _ _ _ _ _).mono ?_); rintro e w1 ⟨rfl, hb1⟩; obtain ⟨hc1, hf1, _⟩ := hb1.cells; have hz1_0 : w.heap.size < w1.heap.size := Past.lt hb1 (by first | omega | (simp <;> omega)))
    go_ret
    exact ⟨rfl, (by repeat (first | exact Past.refl _ | assumption | refine Past.alloc ?_ _ | refine Past.drew ?_ | refine Past.drewN ?_ _ | refine Past.setCell ?_ (by first | (simp; done) | (simp <;> omega)) _ | refine Past.trans ?_ (past_over _ _) | refine Past.trans ?_ (by assumption)))⟩
  · rw [show kindsF p c h s = s * (s + 1) / 2 from by simp [kindsF, hv]]
    obtain ⟨_, _, _, s1, s2⟩ := vOk_yes hv
    obtain ⟨m1, m2⟩ := mul_bd (s := s) (t := s + 1) (n := 6) (m := 7) (by omega) s2 (by omega) (by omega)
    go_enter Try.func20, Try.ntmps20
    go_wp2_with (go_at_call 66; (with_reducible refine (isVar_any _ _ _ _ _).mono ?_); rintro e w1 ⟨rfl, hb1⟩; obtain ⟨hc1, hf1, _⟩ := hb1.cells; have hz1_0 : w.heap.size < w1.heap.size := Past.lt hb1 (by first | omega | (simp <;> omega)))
    go_ret
    exact ⟨rfl, (by repeat (first | exact Past.refl _ | assumption | refine Past.alloc ?_ _ | refine Past.drew ?_ | refine Past.drewN ?_ _ | refine Past.setCell ?_ (by first | (simp; done) | (simp <;> omega)) _ | refine Past.trans ?_ (past_over _ _) | refine Past.trans ?_ (by assumption)))⟩
theorem total (p c h s : Int) (w : World) :
    Calls Try.prog 24 #[.agg #[.int .i64 p, .int .i64 c, .int .i64 h, .int .i64 s]] w fun e w' => e = .returned (.int .i64 (totalF p c h s)) ∧ Past w w' := by
  cases hv : vOk p c h s
  · rw [show totalF p c h s = -1 from by simp [totalF, hv]]
    go_enter Try.func24, Try.ntmps24
    go_wp2_with (go_at_call 66; (with_reducible refine (isVar_any _ _ _ _ _).mono ?_); rintro e w1 ⟨rfl, hb1⟩; obtain ⟨hc1, hf1, _⟩ := hb1.cells; have hz1_0 : w.heap.size < w1.heap.size := Past.lt hb1 (by first | omega | (simp <;> omega)))
    go_ret
    exact ⟨rfl, (by repeat (first | exact Past.refl _ | assumption | refine Past.alloc ?_ _ | refine Past.drew ?_ | refine Past.drewN ?_ _ | refine Past.setCell ?_ (by first | (simp; done) | (simp <;> omega)) _ | refine Past.trans ?_ (past_over _ _) | refine Past.trans ?_ (by assumption)))⟩
  · rw [show totalF p c h s = s * s from by simp [totalF, hv]]
    obtain ⟨_, _, _, s1, s2⟩ := vOk_yes hv
    obtain ⟨m1, m2⟩ := mul_bd (s := s) (t := s) (n := 6) (m := 6) (by omega) s2 (by omega) s2
    go_enter Try.func24, Try.ntmps24
    go_wp2_with (go_at_call 66; (with_reducible refine (isVar_any _ _ _ _ _).mono ?_); rintro e w1 ⟨rfl, hb1⟩; obtain ⟨hc1, hf1, _⟩ := hb1.cells; have hz1_0 : w.heap.size < w1.heap.size := Past.lt hb1 (by first | omega | (simp <;> omega)))
    go_ret
    exact ⟨rfl, (by repeat (first | exact Past.refl _ | assumption | refine Past.alloc ?_ _ | refine Past.drew ?_ | refine Past.drewN ?_ _ | refine Past.setCell ?_ (by first | (simp; done) | (simp <;> omega)) _ | refine Past.trans ?_ (past_over _ _) | refine Past.trans ?_ (by assumption)))⟩
end Go.Proofs.Ytapocfgajkkpdaa
