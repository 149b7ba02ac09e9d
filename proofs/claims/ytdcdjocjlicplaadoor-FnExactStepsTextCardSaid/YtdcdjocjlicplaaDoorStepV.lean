/-
  Contracts: the texts of steps; the walk of their law.
-/
import Derived.Test.YtdcdjocjlicplaaDoorStepU
import Derived.Test.YtdcdjocjlicplaaDoorPut
namespace Go.Proofs.YtdcdjocjlicplaaDoor
open Go.ChangeShapes Go.WideShapes Go.ChangeAt Go.RowKit Go.Joins

/-- The text that both functions answer. -/
def stepB (p c h s f t d : Int) (x : Bool) : ByteArray := if vOk p c h s = true then (if plS p s f t d x = true then stB p f t d x else ⟨#[]⟩) else ⟨#[]⟩
set_option maxHeartbeats 1000000 in
set_option maxRecDepth 100000 in
theorem stepTextAll (p c h s f t d : Int) (x : Bool) (w : World) :
    Calls Tryd.prog 16 #[.agg #[.int .i64 p, .int .i64 c, .int .i64 h, .int .i64 s], .agg #[.int .i64 f, .int .i64 t, .int .i64 d, .bool x]] w fun e w' => e = .returned (.string (stepB p c h s f t d x)) ∧ Past w w' := by
  cases hv : vOk p c h s
  · rw [show stepB p c h s f t d x = ⟨#[]⟩ from by simp [stepB, hv]]
    go_enter Tryd.func16, Tryd.ntmps16
    go_wp2_with (go_at_call 34; (with_reducible refine (isVar_any _ _ _ _ _).mono ?_); rintro e w1 ⟨rfl, hb1⟩; obtain ⟨hc1, hf1, _⟩ := hb1.cells; have hz1_0 : w.heap.size < w1.heap.size := Past.lt hb1 (by first | omega | (simp <;> omega)); have hz1_1 : w.heap.size + 1 < w1.heap.size := Past.lt hb1 (by first | omega | (simp <;> omega)))
    go_ret
    exact ⟨rfl, (by repeat (first | exact Past.refl _ | assumption | refine Past.alloc ?_ _ | refine Past.drew ?_ | refine Past.drewN ?_ _ | refine Past.setCell ?_ (by first | (simp; done) | (simp <;> omega)) _ | refine Past.trans ?_ (past_over _ _) | refine Past.trans ?_ (by assumption)))⟩
  · have h1 := vOk_yes hv
    cases hq : plS p s f t d x
    · rw [show stepB p c h s f t d x = ⟨#[]⟩ from by simp [stepB, hv, hq]]
      go_enter Tryd.func16, Tryd.ntmps16
      go_wp2_with (first | (go_at_call 34; (with_reducible refine (isVar_any _ _ _ _ _).mono ?_); rintro e w1 ⟨rfl, hb1⟩; obtain ⟨hc1, hf1, _⟩ := hb1.cells; have hz1_0 : w.heap.size < w1.heap.size := Past.lt hb1 (by first | omega | (simp <;> omega)); have hz1_1 : w.heap.size + 1 < w1.heap.size := Past.lt hb1 (by first | omega | (simp <;> omega))) | (go_at_call 44; (with_reducible refine (plainStep_any _ _ _ _ _ _ _ _ _ (by omega) (by omega)).mono ?_); rintro e w2 ⟨rfl, hb2⟩; obtain ⟨hc2, hf2, _⟩ := hb2.cells; have hz2_0 : w.heap.size < w2.heap.size := Past.lt hb2 (by first | omega | (simp <;> omega)); have hz2_1 : w.heap.size + 1 < w2.heap.size := Past.lt hb2 (by first | omega | (simp <;> omega))))
      go_ret
      exact ⟨rfl, (by repeat (first | exact Past.refl _ | assumption | refine Past.alloc ?_ _ | refine Past.drew ?_ | refine Past.drewN ?_ _ | refine Past.setCell ?_ (by first | (simp; done) | (simp <;> omega)) _ | refine Past.trans ?_ (past_over _ _) | refine Past.trans ?_ (by assumption)))⟩
    · rw [show stepB p c h s f t d x = stB p f t d x from by simp [stepB, hv, hq]]
      go_enter Tryd.func16, Tryd.ntmps16
      go_wp2_with (first | (go_at_call 34; (with_reducible refine (isVar_any _ _ _ _ _).mono ?_); rintro e w1 ⟨rfl, hb1⟩; obtain ⟨hc1, hf1, _⟩ := hb1.cells; have hz1_0 : w.heap.size < w1.heap.size := Past.lt hb1 (by first | omega | (simp <;> omega)); have hz1_1 : w.heap.size + 1 < w1.heap.size := Past.lt hb1 (by first | omega | (simp <;> omega))) | (go_at_call 44; (with_reducible refine (plainStep_any _ _ _ _ _ _ _ _ _ (by omega) (by omega)).mono ?_); rintro e w2 ⟨rfl, hb2⟩; obtain ⟨hc2, hf2, _⟩ := hb2.cells; have hz2_0 : w.heap.size < w2.heap.size := Past.lt hb2 (by first | omega | (simp <;> omega)); have hz2_1 : w.heap.size + 1 < w2.heap.size := Past.lt hb2 (by first | omega | (simp <;> omega))) | (go_at_call 45; (with_reducible refine (stepText_any _ _ _ _ _ _ _ _ _ (by omega) (by omega) hq).mono ?_); rintro e w3 ⟨rfl, hb3⟩; obtain ⟨hc3, hf3, _⟩ := hb3.cells; have hz3_0 : w.heap.size < w3.heap.size := Past.lt hb3 (by first | omega | (simp <;> omega)); have hz3_1 : w.heap.size + 1 < w3.heap.size := Past.lt hb3 (by first | omega | (simp <;> omega))))
      go_ret
      exact ⟨rfl, (by repeat (first | exact Past.refl _ | assumption | refine Past.alloc ?_ _ | refine Past.drew ?_ | refine Past.drewN ?_ _ | refine Past.setCell ?_ (by first | (simp; done) | (simp <;> omega)) _ | refine Past.trans ?_ (past_over _ _) | refine Past.trans ?_ (by assumption)))⟩
set_option maxHeartbeats 1000000 in
set_option maxRecDepth 100000 in
theorem sStepTextAll (p c h s f t d : Int) (x : Bool) (w : World) :
    Calls Tryd.prog 14 #[.agg #[.int .i64 p, .int .i64 c, .int .i64 h, .int .i64 s], .agg #[.int .i64 f, .int .i64 t, .int .i64 d, .bool x]] w fun e w' => e = .returned (.string (stepB p c h s f t d x)) ∧ Past w w' := by
  cases hv : vOk p c h s
  · rw [show stepB p c h s f t d x = ⟨#[]⟩ from by simp [stepB, hv]]
    go_enter Tryd.func14, Tryd.ntmps14
    go_wp2_with (go_at_call 39; (with_reducible refine (sIsVar_any _ _ _ _ _).mono ?_); rintro e w1 ⟨rfl, hb1⟩; obtain ⟨hc1, hf1, _⟩ := hb1.cells; have hz1_0 : w.heap.size < w1.heap.size := Past.lt hb1 (by first | omega | (simp <;> omega)); have hz1_1 : w.heap.size + 1 < w1.heap.size := Past.lt hb1 (by first | omega | (simp <;> omega)))
    go_ret
    exact ⟨rfl, (by repeat (first | exact Past.refl _ | assumption | refine Past.alloc ?_ _ | refine Past.drew ?_ | refine Past.drewN ?_ _ | refine Past.setCell ?_ (by first | (simp; done) | (simp <;> omega)) _ | refine Past.trans ?_ (past_over _ _) | refine Past.trans ?_ (by assumption)))⟩
  · have h1 := vOk_yes hv
    cases hq : plS p s f t d x
    · rw [show stepB p c h s f t d x = ⟨#[]⟩ from by simp [stepB, hv, hq]]
      go_enter Tryd.func14, Tryd.ntmps14
      go_wp2_with (first | (go_at_call 39; (with_reducible refine (sIsVar_any _ _ _ _ _).mono ?_); rintro e w1 ⟨rfl, hb1⟩; obtain ⟨hc1, hf1, _⟩ := hb1.cells; have hz1_0 : w.heap.size < w1.heap.size := Past.lt hb1 (by first | omega | (simp <;> omega)); have hz1_1 : w.heap.size + 1 < w1.heap.size := Past.lt hb1 (by first | omega | (simp <;> omega))) | (go_at_call 42; (with_reducible refine (l06Plain_any _ _ _ _ _ _ _ _ _ (by omega) (by omega)).mono ?_); rintro e w2 ⟨rfl, hb2⟩; obtain ⟨hc2, hf2, _⟩ := hb2.cells; have hz2_0 : w.heap.size < w2.heap.size := Past.lt hb2 (by first | omega | (simp <;> omega)); have hz2_1 : w.heap.size + 1 < w2.heap.size := Past.lt hb2 (by first | omega | (simp <;> omega))))
      go_ret
      exact ⟨rfl, (by repeat (first | exact Past.refl _ | assumption | refine Past.alloc ?_ _ | refine Past.drew ?_ | refine Past.drewN ?_ _ | refine Past.setCell ?_ (by first | (simp; done) | (simp <;> omega)) _ | refine Past.trans ?_ (past_over _ _) | refine Past.trans ?_ (by assumption)))⟩
    · rw [show stepB p c h s f t d x = stB p f t d x from by simp [stepB, hv, hq]]
      go_enter Tryd.func14, Tryd.ntmps14
      go_wp2_with (first | (go_at_call 39; (with_reducible refine (sIsVar_any _ _ _ _ _).mono ?_); rintro e w1 ⟨rfl, hb1⟩; obtain ⟨hc1, hf1, _⟩ := hb1.cells; have hz1_0 : w.heap.size < w1.heap.size := Past.lt hb1 (by first | omega | (simp <;> omega)); have hz1_1 : w.heap.size + 1 < w1.heap.size := Past.lt hb1 (by first | omega | (simp <;> omega))) | (go_at_call 42; (with_reducible refine (l06Plain_any _ _ _ _ _ _ _ _ _ (by omega) (by omega)).mono ?_); rintro e w2 ⟨rfl, hb2⟩; obtain ⟨hc2, hf2, _⟩ := hb2.cells; have hz2_0 : w.heap.size < w2.heap.size := Past.lt hb2 (by first | omega | (simp <;> omega)); have hz2_1 : w.heap.size + 1 < w2.heap.size := Past.lt hb2 (by first | omega | (simp <;> omega))) | (go_at_call 43; (with_reducible refine (l06Step_any _ _ _ _ _ _ _ _ _ (by omega) (by omega) hq).mono ?_); rintro e w3 ⟨rfl, hb3⟩; obtain ⟨hc3, hf3, _⟩ := hb3.cells; have hz3_0 : w.heap.size < w3.heap.size := Past.lt hb3 (by first | omega | (simp <;> omega)); have hz3_1 : w.heap.size + 1 < w3.heap.size := Past.lt hb3 (by first | omega | (simp <;> omega))))
      go_ret
      exact ⟨rfl, (by repeat (first | exact Past.refl _ | assumption | refine Past.alloc ?_ _ | refine Past.drew ?_ | refine Past.drewN ?_ _ | refine Past.setCell ?_ (by first | (simp; done) | (simp <;> omega)) _ | refine Past.trans ?_ (past_over _ _) | refine Past.trans ?_ (by assumption)))⟩
set_option maxHeartbeats 1000000 in
set_option maxRecDepth 100000 in
theorem FnExactStepText.walk (p c h s : Int) (_ : I64 p) (_ : I64 c) (_ : I64 h) (_ : I64 s) (f t d : Int) (x : Bool) (_ : I64 f) (_ : I64 t) (_ : I64 d) (w : World) :
    Calls Tryd.prog 4 #[.agg #[.int .i64 p, .int .i64 c, .int .i64 h, .int .i64 s], .agg #[.int .i64 f, .int .i64 t, .int .i64 d, .bool x]] w fun e w' => e = .returned (.bool true) ∧ Past w w' := by
  go_enter Tryd.func4, Tryd.ntmps4
  go_wp2
  refine wp_region_over (by kernel_rfl) (by kernel_rfl) ?_
  repeat (go_big_quiet_step ((first | (go_at_call 12; exact over_of (toVar_any _ _ _ _ _)) | (go_at_call 15; exact over_of (toStep_any _ _ _ _ _)) | (go_at_call 14; exact over_of (sStepTextAll _ _ _ _ _ _ _ _ _)))))
  refine wpQuiet_nil ?_
  intro w1 hb1
  obtain ⟨hc1, hf1, _⟩ := hb1.cells
  have hz1_0 : w.heap.size < w1.heap.size := Past.lt hb1 (by first | omega | (simp <;> omega))
  have hz1_1 : w.heap.size + 1 < w1.heap.size := Past.lt hb1 (by first | omega | (simp <;> omega))
  have q1_0 : w1.cell? ⟨w.heap.size, 0, none⟩ = some (.int .i64 p) := hb1.keep (by first | assumption | (simp; done) | (simp [go_sem]; done)); have q1_1 : w1.cell? ⟨w.heap.size, 1, none⟩ = some (.int .i64 c) := hb1.keep (by first | assumption | (simp; done) | (simp [go_sem]; done)); have q1_2 : w1.cell? ⟨w.heap.size, 2, none⟩ = some (.int .i64 h) := hb1.keep (by first | assumption | (simp; done) | (simp [go_sem]; done)); have q1_3 : w1.cell? ⟨w.heap.size, 3, none⟩ = some (.int .i64 s) := hb1.keep (by first | assumption | (simp; done) | (simp [go_sem]; done)); have q1_4 : w1.cell? ⟨w.heap.size + 1, 0, none⟩ = some (.int .i64 f) := hb1.keep (by first | assumption | (simp; done) | (simp [go_sem]; done)); have q1_5 : w1.cell? ⟨w.heap.size + 1, 1, none⟩ = some (.int .i64 t) := hb1.keep (by first | assumption | (simp; done) | (simp [go_sem]; done)); have q1_6 : w1.cell? ⟨w.heap.size + 1, 2, none⟩ = some (.int .i64 d) := hb1.keep (by first | assumption | (simp; done) | (simp [go_sem]; done)); have q1_7 : w1.cell? ⟨w.heap.size + 1, 3, none⟩ = some (.bool x) := hb1.keep (by first | assumption | (simp; done) | (simp [go_sem]; done))
  go_wp2
  refine wp_region_over (by kernel_rfl) (by kernel_rfl) ?_
  repeat (go_big_quiet_step ((first | (go_at_call 12; exact over_of (toVar_any _ _ _ _ _)) | (go_at_call 15; exact over_of (toStep_any _ _ _ _ _)) | (go_at_call 16; exact over_of (stepTextAll _ _ _ _ _ _ _ _ _)))))
  refine wpQuiet_nil ?_
  intro w2 hb2
  obtain ⟨hc2, hf2, _⟩ := hb2.cells
  go_wp2
  go_ret
  exact ⟨rfl, (by repeat (first | exact Past.refl _ | assumption | refine Past.alloc ?_ _ | refine Past.drew ?_ | refine Past.drewN ?_ _ | refine Past.setCell ?_ (by first | (simp; done) | (simp <;> omega)) _ | refine Past.trans ?_ (past_over _ _) | refine Past.trans ?_ (by assumption)))⟩
end Go.Proofs.YtdcdjocjlicplaaDoor
