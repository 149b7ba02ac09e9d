/-
  Walks of the laws on variants alone: each answers true, and leaves all old memory as it was.
-/
import Derived.Test.YtnekcahpjjppiaaVar
namespace Go.Proofs.Ytnekcahpjjppiaa
open Go.ChangeShapes Go.WideShapes Go.ChangeAt Go.RowKit Go.Joins

theorem FnExactConstants.walk (w : World) : Calls Try.prog 3 #[] w fun e w' => e = .returned (.bool true) ∧ Past w w' := by
  go_enter Try.func3, Try.ntmps3
  go_wp2
  go_ret
  exact ⟨rfl, (by repeat (first | exact Past.refl _ | refine Past.alloc ?_ _ | refine Past.drew ?_ | refine Past.trans ?_ (by assumption)))⟩
theorem FnExactIsVariant.walk (p c h s : Int) (_ : I64 p) (_ : I64 c) (_ : I64 h) (_ : I64 s) (w : World) :
    Calls Try.prog 4 #[.agg #[.int .i64 p, .int .i64 c, .int .i64 h, .int .i64 s]] w fun e w' => e = .returned (.bool true) ∧ Past w w' := by
  cases hv : vOk p c h s
  all_goals
    go_enter Try.func4, Try.ntmps4
    go_wp2_with (first | (go_at_call 16; refine (toVar_any _ _ _ _ _).mono ?_; rintro e w1 ⟨rfl, hb1⟩; obtain ⟨hc1, hf1, hs1⟩ := hb1.cells; try simp at hc1 hf1 hs1; have hz1_0 : w.heap.size < w1.heap.size := by omega) | (go_at_call 15; refine (sIsVar_any _ _ _ _ _).mono ?_; rintro e w2 ⟨rfl, hb2⟩; obtain ⟨hc2, hf2, hs2⟩ := hb2.cells; try simp at hc2 hf2 hs2; have hz2_0 : w.heap.size < w2.heap.size := by omega) | (go_at_call 17; refine (isVar_any _ _ _ _ _).mono ?_; rintro e w3 ⟨rfl, hb3⟩; obtain ⟨hc3, hf3, hs3⟩ := hb3.cells; try simp at hc3 hf3 hs3; have hz3_0 : w.heap.size < w3.heap.size := by omega))
    go_ret
    exact ⟨rfl, (by repeat (first | exact Past.refl _ | refine Past.alloc ?_ _ | refine Past.drew ?_ | refine Past.trans ?_ (by assumption)))⟩
theorem FnExactFullVariant.walk (w : World) : Calls Try.prog 5 #[] w fun e w' => e = .returned (.bool true) ∧ Past w w' := by
  go_enter Try.func5, Try.ntmps5
  go_wp2_with (first | (go_at_call 18; refine (sFullVar _).mono ?_; rintro e w1 ⟨rfl, hb1⟩; obtain ⟨hc1, hf1, hs1⟩ := hb1.cells; try simp at hc1 hf1 hs1) | (go_at_call 19; refine (fullVar _).mono ?_; rintro e w2 ⟨rfl, hb2⟩; obtain ⟨hc2, hf2, hs2⟩ := hb2.cells; try simp at hc2 hf2 hs2; have hz2_0 : w1.heap.size < w2.heap.size := by omega) | (go_at_call 20; refine (eqVar_same _ _ _ _ _).mono ?_; rintro e w3 ⟨rfl, hb3⟩; obtain ⟨hc3, hf3, hs3⟩ := hb3.cells; try simp at hc3 hf3 hs3))
  go_ret
  exact ⟨rfl, (by repeat (first | exact Past.refl _ | refine Past.alloc ?_ _ | refine Past.drew ?_ | refine Past.trans ?_ (by assumption)))⟩
theorem FnExactHomesApart.walk (p c h s : Int) (_ : I64 p) (_ : I64 c) (_ : I64 h) (_ : I64 s) (w : World) :
    Calls Try.prog 6 #[.agg #[.int .i64 p, .int .i64 c, .int .i64 h, .int .i64 s]] w fun e w' => e = .returned (.bool true) ∧ Past w w' := by
  cases hv : apartF p c h s
  all_goals
    go_enter Try.func6, Try.ntmps6
    go_wp2_with (first | (go_at_call 16; refine (toVar_any _ _ _ _ _).mono ?_; rintro e w1 ⟨rfl, hb1⟩; obtain ⟨hc1, hf1, hs1⟩ := hb1.cells; try simp at hc1 hf1 hs1; have hz1_0 : w.heap.size < w1.heap.size := by omega) | (go_at_call 21; refine (sHomes _ _ _ _ _).mono ?_; rintro e w2 ⟨rfl, hb2⟩; obtain ⟨hc2, hf2, hs2⟩ := hb2.cells; try simp at hc2 hf2 hs2; have hz2_0 : w.heap.size < w2.heap.size := by omega) | (go_at_call 22; refine (homes _ _ _ _ _).mono ?_; rintro e w3 ⟨rfl, hb3⟩; obtain ⟨hc3, hf3, hs3⟩ := hb3.cells; try simp at hc3 hf3 hs3; have hz3_0 : w.heap.size < w3.heap.size := by omega))
    go_ret
    exact ⟨rfl, (by repeat (first | exact Past.refl _ | refine Past.alloc ?_ _ | refine Past.drew ?_ | refine Past.trans ?_ (by assumption)))⟩
theorem FnExactIsSmallVariant.walk (p c h s : Int) (_ : I64 p) (_ : I64 c) (_ : I64 h) (_ : I64 s) (w : World) :
    Calls Try.prog 8 #[.agg #[.int .i64 p, .int .i64 c, .int .i64 h, .int .i64 s]] w fun e w' => e = .returned (.bool true) ∧ Past w w' := by
  cases hv : smallF p c h s
  all_goals
    go_enter Try.func8, Try.ntmps8
    go_wp2_with (first | (go_at_call 16; refine (toVar_any _ _ _ _ _).mono ?_; rintro e w1 ⟨rfl, hb1⟩; obtain ⟨hc1, hf1, hs1⟩ := hb1.cells; try simp at hc1 hf1 hs1; have hz1_0 : w.heap.size < w1.heap.size := by omega) | (go_at_call 25; refine (sSmall _ _ _ _ _).mono ?_; rintro e w2 ⟨rfl, hb2⟩; obtain ⟨hc2, hf2, hs2⟩ := hb2.cells; try simp at hc2 hf2 hs2; have hz2_0 : w.heap.size < w2.heap.size := by omega) | (go_at_call 26; refine (small _ _ _ _ _).mono ?_; rintro e w3 ⟨rfl, hb3⟩; obtain ⟨hc3, hf3, hs3⟩ := hb3.cells; try simp at hc3 hf3 hs3; have hz3_0 : w.heap.size < w3.heap.size := by omega))
    go_ret
    exact ⟨rfl, (by repeat (first | exact Past.refl _ | refine Past.alloc ?_ _ | refine Past.drew ?_ | refine Past.trans ?_ (by assumption)))⟩
theorem FnExactRollKinds.walk (p c h s : Int) (_ : I64 p) (_ : I64 c) (_ : I64 h) (_ : I64 s) (w : World) :
    Calls Try.prog 9 #[.agg #[.int .i64 p, .int .i64 c, .int .i64 h, .int .i64 s]] w fun e w' => e = .returned (.bool true) ∧ Past w w' := by
  go_enter Try.func9, Try.ntmps9
  go_wp2_with (first | (go_at_call 16; refine (toVar_any _ _ _ _ _).mono ?_; rintro e w1 ⟨rfl, hb1⟩; obtain ⟨hc1, hf1, hs1⟩ := hb1.cells; try simp at hc1 hf1 hs1; have hz1_0 : w.heap.size < w1.heap.size := by omega) | (go_at_call 27; refine (sKinds _ _ _ _ _).mono ?_; rintro e w2 ⟨rfl, hb2⟩; obtain ⟨hc2, hf2, hs2⟩ := hb2.cells; try simp at hc2 hf2 hs2; have hz2_0 : w.heap.size < w2.heap.size := by omega) | (go_at_call 28; refine (kinds _ _ _ _ _).mono ?_; rintro e w3 ⟨rfl, hb3⟩; obtain ⟨hc3, hf3, hs3⟩ := hb3.cells; try simp at hc3 hf3 hs3; have hz3_0 : w.heap.size < w3.heap.size := by omega))
  go_ret
  exact ⟨rfl, (by repeat (first | exact Past.refl _ | refine Past.alloc ?_ _ | refine Past.drew ?_ | refine Past.trans ?_ (by assumption)))⟩
theorem FnExactRollTotal.walk (p c h s : Int) (_ : I64 p) (_ : I64 c) (_ : I64 h) (_ : I64 s) (w : World) :
    Calls Try.prog 10 #[.agg #[.int .i64 p, .int .i64 c, .int .i64 h, .int .i64 s]] w fun e w' => e = .returned (.bool true) ∧ Past w w' := by
  go_enter Try.func10, Try.ntmps10
  go_wp2_with (first | (go_at_call 16; refine (toVar_any _ _ _ _ _).mono ?_; rintro e w1 ⟨rfl, hb1⟩; obtain ⟨hc1, hf1, hs1⟩ := hb1.cells; try simp at hc1 hf1 hs1; have hz1_0 : w.heap.size < w1.heap.size := by omega) | (go_at_call 29; refine (sTotal _ _ _ _ _).mono ?_; rintro e w2 ⟨rfl, hb2⟩; obtain ⟨hc2, hf2, hs2⟩ := hb2.cells; try simp at hc2 hf2 hs2; have hz2_0 : w.heap.size < w2.heap.size := by omega) | (go_at_call 30; refine (total _ _ _ _ _).mono ?_; rintro e w3 ⟨rfl, hb3⟩; obtain ⟨hc3, hf3, hs3⟩ := hb3.cells; try simp at hc3 hf3 hs3; have hz3_0 : w.heap.size < w3.heap.size := by omega))
  go_ret
  exact ⟨rfl, (by repeat (first | exact Past.refl _ | refine Past.alloc ?_ _ | refine Past.drew ?_ | refine Past.trans ?_ (by assumption)))⟩
end Go.Proofs.Ytnekcahpjjppiaa
