/-
  Contracts of the functions on variants: what each returns, and that it leaves all old memory as it was.
-/
import Derived.Test.YtnekcahpjjppiaaRows
import Derived.Test.YtnekcahpjjppiaaBase
namespace Go.Proofs.Ytnekcahpjjppiaa
open Go.ChangeShapes Go.WideShapes Go.ChangeAt Go.RowKit Go.Joins

theorem within_any (x lo hi : Int) (w : World) :
    Calls Try.prog 42 #[.int .i64 x, .int .i64 lo, .int .i64 hi] w fun e w' => e = .returned (.bool (win x lo hi)) ∧ w = w' := by
  by_cases h1 : lo ≤ x
  · by_cases h2 : x ≤ hi
    · rw [win_mk ⟨h1, h2⟩]
      go_enter Try.func42, Try.ntmps42
      go_wp2
      go_ret
      exact ⟨rfl, rfl⟩
    · rw [win_no (fun h => h2 h.2)]
      go_enter Try.func42, Try.ntmps42
      go_wp2
      go_ret
      exact ⟨rfl, rfl⟩
  · rw [win_no (fun h => h1 h.1)]
    go_enter Try.func42, Try.ntmps42
    go_wp2
    go_ret
    exact ⟨rfl, rfl⟩
theorem l01In_any (x lo hi : Int) (w : World) :
    Calls Try.prog 41 #[.int .i64 x, .int .i64 lo, .int .i64 hi] w fun e w' => e = .returned (.bool (win x lo hi)) ∧ w = w' := by
  by_cases h1 : lo ≤ x
  · by_cases h2 : x ≤ hi
    · rw [win_mk ⟨h1, h2⟩]
      go_enter Try.func41, Try.ntmps41
      go_wp2
      go_ret
      exact ⟨rfl, rfl⟩
    · rw [win_no (fun h => h2 h.2)]
      go_enter Try.func41, Try.ntmps41
      go_wp2
      go_ret
      exact ⟨rfl, rfl⟩
  · rw [win_no (fun h => h1 h.1)]
    go_enter Try.func41, Try.ntmps41
    go_wp2
    go_ret
    exact ⟨rfl, rfl⟩
theorem isVar_any (p c h s : Int) (w : World) :
    Calls Try.prog 17 #[.agg #[.int .i64 p, .int .i64 c, .int .i64 h, .int .i64 s]] w fun e w' => e = .returned (.bool (vOk p c h s)) ∧ Past w w' := by
  cases h1 : win p 2 24
  · have e : vOk p c h s = false := by simp [vOk, h1]
    rw [e]
    go_enter Try.func17, Try.ntmps17
    go_wp2_with (go_at_call 42; refine (within_any _ _ _ _).mono ?_; rintro e w' ⟨rfl, rfl⟩)
    go_ret
    exact ⟨rfl, (by repeat (first | exact Past.refl _ | refine Past.alloc ?_ _ | refine Past.drew ?_ | refine Past.setCell ?_ (by first | (simp; done) | (simp <;> omega)) _ | refine Past.trans ?_ (by assumption)))⟩
  · cases h2 : win c 1 15
    · have e : vOk p c h s = false := by simp [vOk, h2]
      rw [e]
      go_enter Try.func17, Try.ntmps17
      go_wp2_with (go_at_call 42; refine (within_any _ _ _ _).mono ?_; rintro e w' ⟨rfl, rfl⟩)
      go_ret
      exact ⟨rfl, (by repeat (first | exact Past.refl _ | refine Past.alloc ?_ _ | refine Past.drew ?_ | refine Past.setCell ?_ (by first | (simp; done) | (simp <;> omega)) _ | refine Past.trans ?_ (by assumption)))⟩
    · cases h3 : win h 1 p
      · have e : vOk p c h s = false := by simp [vOk, h3]
        rw [e]
        go_enter Try.func17, Try.ntmps17
        go_wp2_with (go_at_call 42; refine (within_any _ _ _ _).mono ?_; rintro e w' ⟨rfl, rfl⟩)
        go_ret
        exact ⟨rfl, (by repeat (first | exact Past.refl _ | refine Past.alloc ?_ _ | refine Past.drew ?_ | refine Past.setCell ?_ (by first | (simp; done) | (simp <;> omega)) _ | refine Past.trans ?_ (by assumption)))⟩
      · cases h4 : win s 1 6
        · have e : vOk p c h s = false := by simp [vOk, h4]
          rw [e]
          go_enter Try.func17, Try.ntmps17
          go_wp2_with (go_at_call 42; refine (within_any _ _ _ _).mono ?_; rintro e w' ⟨rfl, rfl⟩)
          go_ret
          exact ⟨rfl, (by repeat (first | exact Past.refl _ | refine Past.alloc ?_ _ | refine Past.drew ?_ | refine Past.setCell ?_ (by first | (simp; done) | (simp <;> omega)) _ | refine Past.trans ?_ (by assumption)))⟩
        · have e : vOk p c h s = true := by simp [vOk, h1, h2, h3, h4]
          rw [e]
          go_enter Try.func17, Try.ntmps17
          go_wp2_with (go_at_call 42; refine (within_any _ _ _ _).mono ?_; rintro e w' ⟨rfl, rfl⟩)
          go_ret
          exact ⟨rfl, (by repeat (first | exact Past.refl _ | refine Past.alloc ?_ _ | refine Past.drew ?_ | refine Past.setCell ?_ (by first | (simp; done) | (simp <;> omega)) _ | refine Past.trans ?_ (by assumption)))⟩
theorem sIsVar_any (p c h s : Int) (w : World) :
    Calls Try.prog 15 #[.agg #[.int .i64 p, .int .i64 c, .int .i64 h, .int .i64 s]] w fun e w' => e = .returned (.bool (vOk p c h s)) ∧ Past w w' := by
  cases h1 : win p 2 24
  · have e : vOk p c h s = false := by simp [vOk, h1]
    rw [e]
    go_enter Try.func15, Try.ntmps15
    go_wp2_with (go_at_call 41; refine (l01In_any _ _ _ _).mono ?_; rintro e w' ⟨rfl, rfl⟩)
    go_ret
    exact ⟨rfl, (by repeat (first | exact Past.refl _ | refine Past.alloc ?_ _ | refine Past.drew ?_ | refine Past.setCell ?_ (by first | (simp; done) | (simp <;> omega)) _ | refine Past.trans ?_ (by assumption)))⟩
  · cases h2 : win c 1 15
    · have e : vOk p c h s = false := by simp [vOk, h2]
      rw [e]
      go_enter Try.func15, Try.ntmps15
      go_wp2_with (go_at_call 41; refine (l01In_any _ _ _ _).mono ?_; rintro e w' ⟨rfl, rfl⟩)
      go_ret
      exact ⟨rfl, (by repeat (first | exact Past.refl _ | refine Past.alloc ?_ _ | refine Past.drew ?_ | refine Past.setCell ?_ (by first | (simp; done) | (simp <;> omega)) _ | refine Past.trans ?_ (by assumption)))⟩
    · cases h3 : win h 1 p
      · have e : vOk p c h s = false := by simp [vOk, h3]
        rw [e]
        go_enter Try.func15, Try.ntmps15
        go_wp2_with (go_at_call 41; refine (l01In_any _ _ _ _).mono ?_; rintro e w' ⟨rfl, rfl⟩)
        go_ret
        exact ⟨rfl, (by repeat (first | exact Past.refl _ | refine Past.alloc ?_ _ | refine Past.drew ?_ | refine Past.setCell ?_ (by first | (simp; done) | (simp <;> omega)) _ | refine Past.trans ?_ (by assumption)))⟩
      · cases h4 : win s 1 6
        · have e : vOk p c h s = false := by simp [vOk, h4]
          rw [e]
          go_enter Try.func15, Try.ntmps15
          go_wp2_with (go_at_call 41; refine (l01In_any _ _ _ _).mono ?_; rintro e w' ⟨rfl, rfl⟩)
          go_ret
          exact ⟨rfl, (by repeat (first | exact Past.refl _ | refine Past.alloc ?_ _ | refine Past.drew ?_ | refine Past.setCell ?_ (by first | (simp; done) | (simp <;> omega)) _ | refine Past.trans ?_ (by assumption)))⟩
        · have e : vOk p c h s = true := by simp [vOk, h1, h2, h3, h4]
          rw [e]
          go_enter Try.func15, Try.ntmps15
          go_wp2_with (go_at_call 41; refine (l01In_any _ _ _ _).mono ?_; rintro e w' ⟨rfl, rfl⟩)
          go_ret
          exact ⟨rfl, (by repeat (first | exact Past.refl _ | refine Past.alloc ?_ _ | refine Past.drew ?_ | refine Past.setCell ?_ (by first | (simp; done) | (simp <;> omega)) _ | refine Past.trans ?_ (by assumption)))⟩
theorem toVar_any (p c h s : Int) (w : World) :
    Calls Try.prog 16 #[.agg #[.int .i64 p, .int .i64 c, .int .i64 h, .int .i64 s]] w fun e w' => e = .returned (.agg #[.int .i64 p, .int .i64 c, .int .i64 h, .int .i64 s]) ∧ Past w w' := by
  go_enter Try.func16, Try.ntmps16
  go_wp2
  refine bodyPost_ret (v := .agg #[.int .i64 p, .int .i64 c, .int .i64 h, .int .i64 s]) (by simp [results, Try.results16, go_sem]) rfl ⟨rfl, (by repeat (first | exact Past.refl _ | refine Past.alloc ?_ _ | refine Past.drew ?_ | refine Past.setCell ?_ (by first | (simp; done) | (simp <;> omega)) _ | refine Past.trans ?_ (by assumption)))⟩
theorem fullVar (w : World) : Calls Try.prog 19 #[] w fun e w' => e = .returned (.agg #[.int .i64 24, .int .i64 15, .int .i64 6, .int .i64 6]) ∧ Past w w' := by
  go_enter Try.func19, Try.ntmps19
  go_wp2
  refine bodyPost_ret (v := .agg #[.int .i64 24, .int .i64 15, .int .i64 6, .int .i64 6]) (by simp [results, Try.results19, go_sem]) rfl ⟨rfl, (by repeat (first | exact Past.refl _ | refine Past.alloc ?_ _ | refine Past.drew ?_ | refine Past.setCell ?_ (by first | (simp; done) | (simp <;> omega)) _ | refine Past.trans ?_ (by assumption)))⟩
theorem sFullVar (w : World) : Calls Try.prog 18 #[] w fun e w' => e = .returned (.agg #[.int .i64 24, .int .i64 15, .int .i64 6, .int .i64 6]) ∧ Past w w' := by
  go_enter Try.func18, Try.ntmps18
  go_wp2
  refine bodyPost_ret (v := .agg #[.int .i64 24, .int .i64 15, .int .i64 6, .int .i64 6]) (by simp [results, Try.results18, go_sem]) rfl ⟨rfl, (by repeat (first | exact Past.refl _ | refine Past.alloc ?_ _ | refine Past.drew ?_ | refine Past.setCell ?_ (by first | (simp; done) | (simp <;> omega)) _ | refine Past.trans ?_ (by assumption)))⟩
theorem eqVar_same (p c h s : Int) (w : World) :
    Calls Try.prog 20 #[.agg #[.int .i64 p, .int .i64 c, .int .i64 h, .int .i64 s], .agg #[.int .i64 p, .int .i64 c, .int .i64 h, .int .i64 s]] w fun e w' => e = .returned (.bool true) ∧ Past w w' := by
  go_enter Try.func20, Try.ntmps20
  go_wp2
  go_ret
  exact ⟨rfl, (by repeat (first | exact Past.refl _ | refine Past.alloc ?_ _ | refine Past.drew ?_ | refine Past.setCell ?_ (by first | (simp; done) | (simp <;> omega)) _ | refine Past.trans ?_ (by assumption)))⟩
theorem small (p c h s : Int) (w : World) :
    Calls Try.prog 26 #[.agg #[.int .i64 p, .int .i64 c, .int .i64 h, .int .i64 s]] w fun e w' => e = .returned (.bool (smallF p c h s)) ∧ Past w w' := by
  cases hv : vOk p c h s
  · rw [show smallF p c h s = false from by simp [smallF, hv]]
    go_enter Try.func26, Try.ntmps26
    go_wp2_with (go_at_call 17; refine (isVar_any _ _ _ _ _).mono ?_; rintro e w1 ⟨rfl, hb1⟩; obtain ⟨hc1, hf1, _⟩ := hb1.cells; have hz1_0 : w.heap.size < w1.heap.size := Past.lt hb1 (by first | omega | (simp <;> omega)))
    go_ret
    exact ⟨rfl, (by repeat (first | exact Past.refl _ | refine Past.alloc ?_ _ | refine Past.drew ?_ | refine Past.setCell ?_ (by first | (simp; done) | (simp <;> omega)) _ | refine Past.trans ?_ (by assumption)))⟩
  · by_cases h1 : p ≤ 6
    · by_cases h2 : c ≤ 3
      · by_cases h3 : s ≤ 3
        all_goals
          have E : smallF p c h s = decide (s ≤ 3) := by simp [smallF, hv, h1, h2]
          rw [E]
          go_enter Try.func26, Try.ntmps26
          go_wp2_with (go_at_call 17; refine (isVar_any _ _ _ _ _).mono ?_; rintro e w1 ⟨rfl, hb1⟩; obtain ⟨hc1, hf1, _⟩ := hb1.cells; have hz1_0 : w.heap.size < w1.heap.size := Past.lt hb1 (by first | omega | (simp <;> omega)))
          go_ret
          exact ⟨ret_bool (by simp [h3]), (by repeat (first | exact Past.refl _ | refine Past.alloc ?_ _ | refine Past.drew ?_ | refine Past.setCell ?_ (by first | (simp; done) | (simp <;> omega)) _ | refine Past.trans ?_ (by assumption)))⟩
      · rw [show smallF p c h s = false from by simp [smallF, h2]]
        go_enter Try.func26, Try.ntmps26
        go_wp2_with (go_at_call 17; refine (isVar_any _ _ _ _ _).mono ?_; rintro e w1 ⟨rfl, hb1⟩; obtain ⟨hc1, hf1, _⟩ := hb1.cells; have hz1_0 : w.heap.size < w1.heap.size := Past.lt hb1 (by first | omega | (simp <;> omega)))
        go_ret
        exact ⟨rfl, (by repeat (first | exact Past.refl _ | refine Past.alloc ?_ _ | refine Past.drew ?_ | refine Past.setCell ?_ (by first | (simp; done) | (simp <;> omega)) _ | refine Past.trans ?_ (by assumption)))⟩
    · rw [show smallF p c h s = false from by simp [smallF, h1]]
      go_enter Try.func26, Try.ntmps26
      go_wp2_with (go_at_call 17; refine (isVar_any _ _ _ _ _).mono ?_; rintro e w1 ⟨rfl, hb1⟩; obtain ⟨hc1, hf1, _⟩ := hb1.cells; have hz1_0 : w.heap.size < w1.heap.size := Past.lt hb1 (by first | omega | (simp <;> omega)))
      go_ret
      exact ⟨rfl, (by repeat (first | exact Past.refl _ | refine Past.alloc ?_ _ | refine Past.drew ?_ | refine Past.setCell ?_ (by first | (simp; done) | (simp <;> omega)) _ | refine Past.trans ?_ (by assumption)))⟩
theorem sSmall (p c h s : Int) (w : World) :
    Calls Try.prog 25 #[.agg #[.int .i64 p, .int .i64 c, .int .i64 h, .int .i64 s]] w fun e w' => e = .returned (.bool (smallF p c h s)) ∧ Past w w' := by
  cases hv : vOk p c h s
  · rw [show smallF p c h s = false from by simp [smallF, hv]]
    go_enter Try.func25, Try.ntmps25
    go_wp2_with (go_at_call 15; refine (sIsVar_any _ _ _ _ _).mono ?_; rintro e w1 ⟨rfl, hb1⟩; obtain ⟨hc1, hf1, _⟩ := hb1.cells; have hz1_0 : w.heap.size < w1.heap.size := Past.lt hb1 (by first | omega | (simp <;> omega)))
    go_ret
    exact ⟨rfl, (by repeat (first | exact Past.refl _ | refine Past.alloc ?_ _ | refine Past.drew ?_ | refine Past.setCell ?_ (by first | (simp; done) | (simp <;> omega)) _ | refine Past.trans ?_ (by assumption)))⟩
  · by_cases h1 : p ≤ 6
    · by_cases h2 : c ≤ 3
      · by_cases h3 : s ≤ 3
        all_goals
          have E : smallF p c h s = decide (s ≤ 3) := by simp [smallF, hv, h1, h2]
          rw [E]
          go_enter Try.func25, Try.ntmps25
          go_wp2_with (go_at_call 15; refine (sIsVar_any _ _ _ _ _).mono ?_; rintro e w1 ⟨rfl, hb1⟩; obtain ⟨hc1, hf1, _⟩ := hb1.cells; have hz1_0 : w.heap.size < w1.heap.size := Past.lt hb1 (by first | omega | (simp <;> omega)))
          go_ret
          exact ⟨ret_bool (by simp [h3]), (by repeat (first | exact Past.refl _ | refine Past.alloc ?_ _ | refine Past.drew ?_ | refine Past.setCell ?_ (by first | (simp; done) | (simp <;> omega)) _ | refine Past.trans ?_ (by assumption)))⟩
      · rw [show smallF p c h s = false from by simp [smallF, h2]]
        go_enter Try.func25, Try.ntmps25
        go_wp2_with (go_at_call 15; refine (sIsVar_any _ _ _ _ _).mono ?_; rintro e w1 ⟨rfl, hb1⟩; obtain ⟨hc1, hf1, _⟩ := hb1.cells; have hz1_0 : w.heap.size < w1.heap.size := Past.lt hb1 (by first | omega | (simp <;> omega)))
        go_ret
        exact ⟨rfl, (by repeat (first | exact Past.refl _ | refine Past.alloc ?_ _ | refine Past.drew ?_ | refine Past.setCell ?_ (by first | (simp; done) | (simp <;> omega)) _ | refine Past.trans ?_ (by assumption)))⟩
    · rw [show smallF p c h s = false from by simp [smallF, h1]]
      go_enter Try.func25, Try.ntmps25
      go_wp2_with (go_at_call 15; refine (sIsVar_any _ _ _ _ _).mono ?_; rintro e w1 ⟨rfl, hb1⟩; obtain ⟨hc1, hf1, _⟩ := hb1.cells; have hz1_0 : w.heap.size < w1.heap.size := Past.lt hb1 (by first | omega | (simp <;> omega)))
      go_ret
      exact ⟨rfl, (by repeat (first | exact Past.refl _ | refine Past.alloc ?_ _ | refine Past.drew ?_ | refine Past.setCell ?_ (by first | (simp; done) | (simp <;> omega)) _ | refine Past.trans ?_ (by assumption)))⟩
theorem kinds (p c h s : Int) (w : World) :
    Calls Try.prog 28 #[.agg #[.int .i64 p, .int .i64 c, .int .i64 h, .int .i64 s]] w fun e w' => e = .returned (.int .i64 (kindsF p c h s)) ∧ Past w w' := by
  cases hv : vOk p c h s
  · rw [show kindsF p c h s = -1 from by simp [kindsF, hv]]
    go_enter Try.func28, Try.ntmps28
    go_wp2_with (go_at_call 17; refine (isVar_any _ _ _ _ _).mono ?_; rintro e w1 ⟨rfl, hb1⟩; obtain ⟨hc1, hf1, _⟩ := hb1.cells; have hz1_0 : w.heap.size < w1.heap.size := Past.lt hb1 (by first | omega | (simp <;> omega)))
    go_ret
    exact ⟨rfl, (by repeat (first | exact Past.refl _ | refine Past.alloc ?_ _ | refine Past.drew ?_ | refine Past.setCell ?_ (by first | (simp; done) | (simp <;> omega)) _ | refine Past.trans ?_ (by assumption)))⟩
  · rw [show kindsF p c h s = s * (s + 1) / 2 from by simp [kindsF, hv]]
    obtain ⟨_, _, _, s1, s2⟩ := vOk_yes hv
    obtain ⟨m1, m2⟩ := mul_bd (s := s) (t := s + 1) (n := 6) (m := 7) (by omega) s2 (by omega) (by omega)
    go_enter Try.func28, Try.ntmps28
    go_wp2_with (go_at_call 17; refine (isVar_any _ _ _ _ _).mono ?_; rintro e w1 ⟨rfl, hb1⟩; obtain ⟨hc1, hf1, _⟩ := hb1.cells; have hz1_0 : w.heap.size < w1.heap.size := Past.lt hb1 (by first | omega | (simp <;> omega)))
    go_ret
    exact ⟨rfl, (by repeat (first | exact Past.refl _ | refine Past.alloc ?_ _ | refine Past.drew ?_ | refine Past.setCell ?_ (by first | (simp; done) | (simp <;> omega)) _ | refine Past.trans ?_ (by assumption)))⟩
theorem sKinds (p c h s : Int) (w : World) :
    Calls Try.prog 27 #[.agg #[.int .i64 p, .int .i64 c, .int .i64 h, .int .i64 s]] w fun e w' => e = .returned (.int .i64 (kindsF p c h s)) ∧ Past w w' := by
  cases hv : vOk p c h s
  · rw [show kindsF p c h s = -1 from by simp [kindsF, hv]]
    go_enter Try.func27, Try.ntmps27
    go_wp2_with (go_at_call 15; refine (sIsVar_any _ _ _ _ _).mono ?_; rintro e w1 ⟨rfl, hb1⟩; obtain ⟨hc1, hf1, _⟩ := hb1.cells; have hz1_0 : w.heap.size < w1.heap.size := Past.lt hb1 (by first | omega | (simp <;> omega)))
    go_ret
    exact ⟨rfl, (by repeat (first | exact Past.refl _ | refine Past.alloc ?_ _ | refine Past.drew ?_ | refine Past.setCell ?_ (by first | (simp; done) | (simp <;> omega)) _ | refine Past.trans ?_ (by assumption)))⟩
  · rw [show kindsF p c h s = s * (s + 1) / 2 from by simp [kindsF, hv]]
    obtain ⟨_, _, _, s1, s2⟩ := vOk_yes hv
    obtain ⟨m1, m2⟩ := mul_bd (s := s) (t := s + 1) (n := 6) (m := 7) (by omega) s2 (by omega) (by omega)
    go_enter Try.func27, Try.ntmps27
    go_wp2_with (go_at_call 15; refine (sIsVar_any _ _ _ _ _).mono ?_; rintro e w1 ⟨rfl, hb1⟩; obtain ⟨hc1, hf1, _⟩ := hb1.cells; have hz1_0 : w.heap.size < w1.heap.size := Past.lt hb1 (by first | omega | (simp <;> omega)))
    go_ret
    exact ⟨rfl, (by repeat (first | exact Past.refl _ | refine Past.alloc ?_ _ | refine Past.drew ?_ | refine Past.setCell ?_ (by first | (simp; done) | (simp <;> omega)) _ | refine Past.trans ?_ (by assumption)))⟩
theorem total (p c h s : Int) (w : World) :
    Calls Try.prog 30 #[.agg #[.int .i64 p, .int .i64 c, .int .i64 h, .int .i64 s]] w fun e w' => e = .returned (.int .i64 (totalF p c h s)) ∧ Past w w' := by
  cases hv : vOk p c h s
  · rw [show totalF p c h s = -1 from by simp [totalF, hv]]
    go_enter Try.func30, Try.ntmps30
    go_wp2_with (go_at_call 17; refine (isVar_any _ _ _ _ _).mono ?_; rintro e w1 ⟨rfl, hb1⟩; obtain ⟨hc1, hf1, _⟩ := hb1.cells; have hz1_0 : w.heap.size < w1.heap.size := Past.lt hb1 (by first | omega | (simp <;> omega)))
    go_ret
    exact ⟨rfl, (by repeat (first | exact Past.refl _ | refine Past.alloc ?_ _ | refine Past.drew ?_ | refine Past.setCell ?_ (by first | (simp; done) | (simp <;> omega)) _ | refine Past.trans ?_ (by assumption)))⟩
  · rw [show totalF p c h s = s * s from by simp [totalF, hv]]
    obtain ⟨_, _, _, s1, s2⟩ := vOk_yes hv
    obtain ⟨m1, m2⟩ := mul_bd (s := s) (t := s) (n := 6) (m := 6) (by omega) s2 (by omega) s2
    go_enter Try.func30, Try.ntmps30
    go_wp2_with (go_at_call 17; refine (isVar_any _ _ _ _ _).mono ?_; rintro e w1 ⟨rfl, hb1⟩; obtain ⟨hc1, hf1, _⟩ := hb1.cells; have hz1_0 : w.heap.size < w1.heap.size := Past.lt hb1 (by first | omega | (simp <;> omega)))
    go_ret
    exact ⟨rfl, (by repeat (first | exact Past.refl _ | refine Past.alloc ?_ _ | refine Past.drew ?_ | refine Past.setCell ?_ (by first | (simp; done) | (simp <;> omega)) _ | refine Past.trans ?_ (by assumption)))⟩
theorem sTotal (p c h s : Int) (w : World) :
    Calls Try.prog 29 #[.agg #[.int .i64 p, .int .i64 c, .int .i64 h, .int .i64 s]] w fun e w' => e = .returned (.int .i64 (totalF p c h s)) ∧ Past w w' := by
  cases hv : vOk p c h s
  · rw [show totalF p c h s = -1 from by simp [totalF, hv]]
    go_enter Try.func29, Try.ntmps29
    go_wp2_with (go_at_call 15; refine (sIsVar_any _ _ _ _ _).mono ?_; rintro e w1 ⟨rfl, hb1⟩; obtain ⟨hc1, hf1, _⟩ := hb1.cells; have hz1_0 : w.heap.size < w1.heap.size := Past.lt hb1 (by first | omega | (simp <;> omega)))
    go_ret
    exact ⟨rfl, (by repeat (first | exact Past.refl _ | refine Past.alloc ?_ _ | refine Past.drew ?_ | refine Past.setCell ?_ (by first | (simp; done) | (simp <;> omega)) _ | refine Past.trans ?_ (by assumption)))⟩
  · rw [show totalF p c h s = s * s from by simp [totalF, hv]]
    obtain ⟨_, _, _, s1, s2⟩ := vOk_yes hv
    obtain ⟨m1, m2⟩ := mul_bd (s := s) (t := s) (n := 6) (m := 6) (by omega) s2 (by omega) s2
    go_enter Try.func29, Try.ntmps29
    go_wp2_with (go_at_call 15; refine (sIsVar_any _ _ _ _ _).mono ?_; rintro e w1 ⟨rfl, hb1⟩; obtain ⟨hc1, hf1, _⟩ := hb1.cells; have hz1_0 : w.heap.size < w1.heap.size := Past.lt hb1 (by first | omega | (simp <;> omega)))
    go_ret
    exact ⟨rfl, (by repeat (first | exact Past.refl _ | refine Past.alloc ?_ _ | refine Past.drew ?_ | refine Past.setCell ?_ (by first | (simp; done) | (simp <;> omega)) _ | refine Past.trans ?_ (by assumption)))⟩
theorem homes (p c h s : Int) (w : World) :
    Calls Try.prog 22 #[.agg #[.int .i64 p, .int .i64 c, .int .i64 h, .int .i64 s]] w fun e w' => e = .returned (.bool (apartF p c h s)) ∧ Past w w' := by
  cases hv : vOk p c h s
  · rw [show apartF p c h s = false from by simp [apartF, hv]]
    go_enter Try.func22, Try.ntmps22
    go_wp2_with (go_at_call 17; refine (isVar_any _ _ _ _ _).mono ?_; rintro e w1 ⟨rfl, hb1⟩; obtain ⟨hc1, hf1, _⟩ := hb1.cells; have hz1_0 : w.heap.size < w1.heap.size := Past.lt hb1 (by first | omega | (simp <;> omega)))
    go_ret
    exact ⟨rfl, (by repeat (first | exact Past.refl _ | refine Past.alloc ?_ _ | refine Past.drew ?_ | refine Past.setCell ?_ (by first | (simp; done) | (simp <;> omega)) _ | refine Past.trans ?_ (by assumption)))⟩
  · obtain ⟨_, _, _, _⟩ := vOk_yes hv
    by_cases h2 : 2 * h ≤ p
    all_goals
      have E : apartF p c h s = decide (2 * h ≤ p) := by simp [apartF, hv]
      rw [E]
      go_enter Try.func22, Try.ntmps22
      go_wp2_with (go_at_call 17; refine (isVar_any _ _ _ _ _).mono ?_; rintro e w1 ⟨rfl, hb1⟩; obtain ⟨hc1, hf1, _⟩ := hb1.cells; have hz1_0 : w.heap.size < w1.heap.size := Past.lt hb1 (by first | omega | (simp <;> omega)))
      go_ret
      exact ⟨ret_bool (by simp [h2]), (by repeat (first | exact Past.refl _ | refine Past.alloc ?_ _ | refine Past.drew ?_ | refine Past.setCell ?_ (by first | (simp; done) | (simp <;> omega)) _ | refine Past.trans ?_ (by assumption)))⟩
theorem sHomes (p c h s : Int) (w : World) :
    Calls Try.prog 21 #[.agg #[.int .i64 p, .int .i64 c, .int .i64 h, .int .i64 s]] w fun e w' => e = .returned (.bool (apartF p c h s)) ∧ Past w w' := by
  cases hv : vOk p c h s
  · rw [show apartF p c h s = false from by simp [apartF, hv]]
    go_enter Try.func21, Try.ntmps21
    go_wp2_with (go_at_call 15; refine (sIsVar_any _ _ _ _ _).mono ?_; rintro e w1 ⟨rfl, hb1⟩; obtain ⟨hc1, hf1, _⟩ := hb1.cells; have hz1_0 : w.heap.size < w1.heap.size := Past.lt hb1 (by first | omega | (simp <;> omega)))
    go_ret
    exact ⟨rfl, (by repeat (first | exact Past.refl _ | refine Past.alloc ?_ _ | refine Past.drew ?_ | refine Past.setCell ?_ (by first | (simp; done) | (simp <;> omega)) _ | refine Past.trans ?_ (by assumption)))⟩
  · obtain ⟨_, _, _, _⟩ := vOk_yes hv
    by_cases h2 : 2 * h ≤ p
    all_goals
      have E : apartF p c h s = decide (2 * h ≤ p) := by simp [apartF, hv]
      rw [E]
      go_enter Try.func21, Try.ntmps21
      go_wp2_with (go_at_call 15; refine (sIsVar_any _ _ _ _ _).mono ?_; rintro e w1 ⟨rfl, hb1⟩; obtain ⟨hc1, hf1, _⟩ := hb1.cells; have hz1_0 : w.heap.size < w1.heap.size := Past.lt hb1 (by first | omega | (simp <;> omega)))
      go_ret
      exact ⟨ret_bool (by simp [h2]), (by repeat (first | exact Past.refl _ | refine Past.alloc ?_ _ | refine Past.drew ?_ | refine Past.setCell ?_ (by first | (simp; done) | (simp <;> omega)) _ | refine Past.trans ?_ (by assumption)))⟩
end Go.Proofs.Ytnekcahpjjppiaa
