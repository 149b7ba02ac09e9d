/-
  The walks of the laws on the number of sides, and on the number of a side.
-/
import Derived.Test.YtmpfjnjlocfhdaaChoose
import Derived.Test.YtmpfjnjlocfhdaaRowI
import Derived.Deep.DeepCutAuto
namespace Go.Proofs.Ytmpfjnjlocfhdaa
open Go.ChangeShapes Go.WideShapes Go.ChangeAt Go.RowKit Go.Joins

set_option maxHeartbeats 8000000 in
set_option maxRecDepth 100000 in
theorem FnExactSideCount.walk (p c h s : Int) (_ : I64 p) (_ : I64 c) (_ : I64 h) (_ : I64 s) (w : World) :
    Calls Try.prog 5 #[.agg #[.int .i64 p, .int .i64 c, .int .i64 h, .int .i64 s]] w fun e w' => e = .returned (.bool true) ∧ Past w w' := by
  obtain ⟨w0, hw0⟩ : ∃ w0 : World, w0 = (w.alloc (.cells #[.int .i64 p, .int .i64 c, .int .i64 h, .int .i64 s] 23)) := ⟨_, rfl⟩
  have hp0 : Past w w0 := by rw [hw0]; exact (by repeat (first | exact Past.refl _ | assumption | refine Past.alloc ?_ _ | refine Past.drew ?_ | refine Past.drewN ?_ _ | refine Past.setCell ?_ (by first | (simp; done) | (simp <;> omega)) _ | refine Past.trans ?_ (past_over _ _) | refine Past.trans ?_ (by assumption)))
  have q0_0 : w0.cell? ⟨w.heap.size, 0, none⟩ = some (.int .i64 p) := by rw [hw0]; simp [go_sem]
  have q0_1 : w0.cell? ⟨w.heap.size, 1, none⟩ = some (.int .i64 c) := by rw [hw0]; simp [go_sem]
  have q0_2 : w0.cell? ⟨w.heap.size, 2, none⟩ = some (.int .i64 h) := by rw [hw0]; simp [go_sem]
  have q0_3 : w0.cell? ⟨w.heap.size, 3, none⟩ = some (.int .i64 s) := by rw [hw0]; simp [go_sem]
  have zs0 : w0.heap.size = w.heap.size + 1 := by rw [hw0]; simp [go_sem]
  have zw : w.heap.size < w0.heap.size := by omega
  clear zs0
  go_enter Try.func5, Try.ntmps5
  go_upto_region 1 with fail
  rw [← hw0]
  clear hw0
  go_wp2_with fail
  (with_reducible refine (toVar_any _ _ _ _ _).mono ?_)
  rintro e w1 ⟨rfl, hb1⟩
  have hp1 := hp0.trans hb1
  have z1 : w0.heap.size ≤ w1.heap.size := hb1.sz
  have q1_0 : w1.cell? ⟨w.heap.size, 0, none⟩ = some (.int .i64 p) := hb1.keep q0_0; have q1_1 : w1.cell? ⟨w.heap.size, 1, none⟩ = some (.int .i64 c) := hb1.keep q0_1; have q1_2 : w1.cell? ⟨w.heap.size, 2, none⟩ = some (.int .i64 h) := hb1.keep q0_2; have q1_3 : w1.cell? ⟨w.heap.size, 3, none⟩ = some (.int .i64 s) := hb1.keep q0_3
  go_wp2_with fail
  (with_reducible refine (sSideCount _ _ _ _ _).mono ?_)
  rintro e w2 ⟨rfl, hb2⟩
  have hp2 := hp1.trans hb2
  have z2 : w1.heap.size ≤ w2.heap.size := hb2.sz
  have q2_0 : w2.cell? ⟨w.heap.size, 0, none⟩ = some (.int .i64 p) := hb2.keep q1_0; have q2_1 : w2.cell? ⟨w.heap.size, 1, none⟩ = some (.int .i64 c) := hb2.keep q1_1; have q2_2 : w2.cell? ⟨w.heap.size, 2, none⟩ = some (.int .i64 h) := hb2.keep q1_2; have q2_3 : w2.cell? ⟨w.heap.size, 3, none⟩ = some (.int .i64 s) := hb2.keep q1_3
  go_wp2_with fail
  (with_reducible refine (toVar_any _ _ _ _ _).mono ?_)
  rintro e w3 ⟨rfl, hb3⟩
  have hp3 := hp2.trans hb3
  have z3 : w2.heap.size ≤ w3.heap.size := hb3.sz
  have q3_0 : w3.cell? ⟨w.heap.size, 0, none⟩ = some (.int .i64 p) := hb3.keep q2_0; have q3_1 : w3.cell? ⟨w.heap.size, 1, none⟩ = some (.int .i64 c) := hb3.keep q2_1; have q3_2 : w3.cell? ⟨w.heap.size, 2, none⟩ = some (.int .i64 h) := hb3.keep q2_2; have q3_3 : w3.cell? ⟨w.heap.size, 3, none⟩ = some (.int .i64 s) := hb3.keep q2_3
  go_wp2_with fail
  (with_reducible refine (sideCount _ _ _ _ _).mono ?_)
  rintro e w4 ⟨rfl, hb4⟩
  have hp4 := hp3.trans hb4
  have z4 : w3.heap.size ≤ w4.heap.size := hb4.sz
  have q4_0 : w4.cell? ⟨w.heap.size, 0, none⟩ = some (.int .i64 p) := hb4.keep q3_0; have q4_1 : w4.cell? ⟨w.heap.size, 1, none⟩ = some (.int .i64 c) := hb4.keep q3_1; have q4_2 : w4.cell? ⟨w.heap.size, 2, none⟩ = some (.int .i64 h) := hb4.keep q3_2; have q4_3 : w4.cell? ⟨w.heap.size, 3, none⟩ = some (.int .i64 s) := hb4.keep q3_3
  go_wp2
  go_ret
  exact ⟨rfl, hp4⟩
set_option maxHeartbeats 8000000 in
set_option maxRecDepth 100000 in
theorem FnExactSideNumber.walk (w : World) (p c h s : Int) (_ : I64 p) (_ : I64 c) (_ : I64 h) (_ : I64 s) (A : Option Addr) (n k : Nat) (xs : List Int) (hx : RdI w A n xs ∧ n ≤ maxLen) :
    Calls Try.prog 4 #[.agg #[.int .i64 p, .int .i64 c, .int .i64 h, .int .i64 s], .slice A n k] w fun e w' => e = .returned (.bool true) ∧ Past w w' := by
  obtain ⟨hx, bn⟩ := hx
  unfold maxLen at bn
  by_cases hbig : 1048576 < n
  · have hb : (1048576 : Int) < (n : Int) := by omega
    clear hbig
    go_enter Try.func4, Try.ntmps4
    go_wp2
    go_ret
    exact ⟨rfl, (by repeat (first | exact Past.refl _ | assumption | refine Past.alloc ?_ _ | refine Past.drew ?_ | refine Past.drewN ?_ _ | refine Past.setCell ?_ (by first | (simp; done) | (simp <;> omega)) _ | refine Past.trans ?_ (past_over _ _) | refine Past.trans ?_ (by assumption)))⟩
  · have hb : (n : Int) ≤ (1048576 : Int) := by omega
    have hn : n ≤ 1048576 := by omega
    clear hbig
    obtain ⟨N, K, hv⟩ := sideNumV_is p c h s xs
    have HV := Lib.hid hv
    clear hv
    obtain ⟨w0, hw0⟩ : ∃ w0 : World, w0 = (w.alloc (.cells #[.int .i64 p, .int .i64 c, .int .i64 h, .int .i64 s] 23)) := ⟨_, rfl⟩
    have hp0 : Past w w0 := by rw [hw0]; exact (by repeat (first | exact Past.refl _ | assumption | refine Past.alloc ?_ _ | refine Past.drew ?_ | refine Past.drewN ?_ _ | refine Past.setCell ?_ (by first | (simp; done) | (simp <;> omega)) _ | refine Past.trans ?_ (past_over _ _) | refine Past.trans ?_ (by assumption)))
    have q0_0 : w0.cell? ⟨w.heap.size, 0, none⟩ = some (.int .i64 p) := by rw [hw0]; simp [go_sem]
    have q0_1 : w0.cell? ⟨w.heap.size, 1, none⟩ = some (.int .i64 c) := by rw [hw0]; simp [go_sem]
    have q0_2 : w0.cell? ⟨w.heap.size, 2, none⟩ = some (.int .i64 h) := by rw [hw0]; simp [go_sem]
    have q0_3 : w0.cell? ⟨w.heap.size, 3, none⟩ = some (.int .i64 s) := by rw [hw0]; simp [go_sem]
    have zs0 : w0.heap.size = w.heap.size + 1 := by rw [hw0]; simp [go_sem]
    have zw : w.heap.size < w0.heap.size := by omega
    clear zs0
    go_enter Try.func4, Try.ntmps4
    go_upto_region 1 with fail
    rw [← hw0]
    clear hw0
    go_wp2_with fail
    (with_reducible refine (toVar_any _ _ _ _ _).mono ?_)
    rintro e w1 ⟨rfl, hb1⟩
    have hp1 := hp0.trans hb1
    have z1 : w0.heap.size ≤ w1.heap.size := hb1.sz
    have q1_0 : w1.cell? ⟨w.heap.size, 0, none⟩ = some (.int .i64 p) := hb1.keep q0_0; have q1_1 : w1.cell? ⟨w.heap.size, 1, none⟩ = some (.int .i64 c) := hb1.keep q0_1; have q1_2 : w1.cell? ⟨w.heap.size, 2, none⟩ = some (.int .i64 h) := hb1.keep q0_2; have q1_3 : w1.cell? ⟨w.heap.size, 3, none⟩ = some (.int .i64 s) := hb1.keep q0_3
    go_wp2_with fail
    (with_reducible refine (toInts' _ _ _ _ _ (hx.past hp1) hn).mono ?_)
    rintro e w2 ⟨gU, rfl, hoU, _, _, hb2⟩
    have hp2 := hp1.trans hb2
    have z2 : w1.heap.size ≤ w2.heap.size := hb2.sz
    have q2_0 : w2.cell? ⟨w.heap.size, 0, none⟩ = some (.int .i64 p) := hb2.keep q1_0; have q2_1 : w2.cell? ⟨w.heap.size, 1, none⟩ = some (.int .i64 c) := hb2.keep q1_1; have q2_2 : w2.cell? ⟨w.heap.size, 2, none⟩ = some (.int .i64 h) := hb2.keep q1_2; have q2_3 : w2.cell? ⟨w.heap.size, 3, none⟩ = some (.int .i64 s) := hb2.keep q1_3
    have hU2 := RowIn.mk hoU (Nat.le_refl _)
    go_wp2_with fail
    (with_reducible refine (sSideNumber_any _ _ _ _ _ _ _ _ _ _ _ HV hU2.rd hn).mono ?_)
    rintro e w3 ⟨rfl, hb3⟩
    have hp3 := hp2.trans hb3
    have z3 : w2.heap.size ≤ w3.heap.size := hb3.sz
    have q3_0 : w3.cell? ⟨w.heap.size, 0, none⟩ = some (.int .i64 p) := hb3.keep q2_0; have q3_1 : w3.cell? ⟨w.heap.size, 1, none⟩ = some (.int .i64 c) := hb3.keep q2_1; have q3_2 : w3.cell? ⟨w.heap.size, 2, none⟩ = some (.int .i64 h) := hb3.keep q2_2; have q3_3 : w3.cell? ⟨w.heap.size, 3, none⟩ = some (.int .i64 s) := hb3.keep q2_3
    have hU3 := hU2.past hb3
    go_wp2_with fail
    (with_reducible refine (toInts' _ _ _ _ _ (hx.past hp3) hn).mono ?_)
    rintro e w4 ⟨gX, rfl, hoX, _, _, hb4⟩
    have hp4 := hp3.trans hb4
    have z4 : w3.heap.size ≤ w4.heap.size := hb4.sz
    have q4_0 : w4.cell? ⟨w.heap.size, 0, none⟩ = some (.int .i64 p) := hb4.keep q3_0; have q4_1 : w4.cell? ⟨w.heap.size, 1, none⟩ = some (.int .i64 c) := hb4.keep q3_1; have q4_2 : w4.cell? ⟨w.heap.size, 2, none⟩ = some (.int .i64 h) := hb4.keep q3_2; have q4_3 : w4.cell? ⟨w.heap.size, 3, none⟩ = some (.int .i64 s) := hb4.keep q3_3
    have hX4 := RowIn.mk hoX (Nat.le_refl _)
    go_wp2_with fail
    (with_reducible refine (toVar_any _ _ _ _ _).mono ?_)
    rintro e w5 ⟨rfl, hb5⟩
    have hp5 := hp4.trans hb5
    have z5 : w4.heap.size ≤ w5.heap.size := hb5.sz
    have q5_0 : w5.cell? ⟨w.heap.size, 0, none⟩ = some (.int .i64 p) := hb5.keep q4_0; have q5_1 : w5.cell? ⟨w.heap.size, 1, none⟩ = some (.int .i64 c) := hb5.keep q4_1; have q5_2 : w5.cell? ⟨w.heap.size, 2, none⟩ = some (.int .i64 h) := hb5.keep q4_2; have q5_3 : w5.cell? ⟨w.heap.size, 3, none⟩ = some (.int .i64 s) := hb5.keep q4_3
    have hX5 := hX4.past hb5
    go_wp2_with fail
    (with_reducible refine (sideNumber_any _ _ _ _ _ _ _ _ _ _ _ HV hX5.rd hn).mono ?_)
    rintro e w6 ⟨rfl, hb6⟩
    have hp6 := hp5.trans hb6
    have z6 : w5.heap.size ≤ w6.heap.size := hb6.sz
    have q6_0 : w6.cell? ⟨w.heap.size, 0, none⟩ = some (.int .i64 p) := hb6.keep q5_0; have q6_1 : w6.cell? ⟨w.heap.size, 1, none⟩ = some (.int .i64 c) := hb6.keep q5_1; have q6_2 : w6.cell? ⟨w.heap.size, 2, none⟩ = some (.int .i64 h) := hb6.keep q5_2; have q6_3 : w6.cell? ⟨w.heap.size, 3, none⟩ = some (.int .i64 s) := hb6.keep q5_3
    have hX6 := hX5.past hb6
    go_wp2_with fail
    (with_reducible refine (toInts' _ _ _ _ _ (hx.past hp6) hn).mono ?_)
    rintro e w7 ⟨gY, rfl, hoY, _, _, hb7⟩
    have hp7 := hp6.trans hb7
    have z7 : w6.heap.size ≤ w7.heap.size := hb7.sz
    have q7_0 : w7.cell? ⟨w.heap.size, 0, none⟩ = some (.int .i64 p) := hb7.keep q6_0; have q7_1 : w7.cell? ⟨w.heap.size, 1, none⟩ = some (.int .i64 c) := hb7.keep q6_1; have q7_2 : w7.cell? ⟨w.heap.size, 2, none⟩ = some (.int .i64 h) := hb7.keep q6_2; have q7_3 : w7.cell? ⟨w.heap.size, 3, none⟩ = some (.int .i64 s) := hb7.keep q6_3
    have hX7 := hX6.past hb7
    have hY7 := RowIn.mk hoY (Nat.le_refl _)
    go_wp2_with fail
    (with_reducible refine (eqRowI hX7 hY7 (by omega)).mono ?_)
    rintro e w8 ⟨rfl, hb8⟩
    have hp8 := hp7.trans hb8
    have z8 : w7.heap.size ≤ w8.heap.size := hb8.sz
    have q8_0 : w8.cell? ⟨w.heap.size, 0, none⟩ = some (.int .i64 p) := hb8.keep q7_0; have q8_1 : w8.cell? ⟨w.heap.size, 1, none⟩ = some (.int .i64 c) := hb8.keep q7_1; have q8_2 : w8.cell? ⟨w.heap.size, 2, none⟩ = some (.int .i64 h) := hb8.keep q7_2; have q8_3 : w8.cell? ⟨w.heap.size, 3, none⟩ = some (.int .i64 s) := hb8.keep q7_3
    have hX8 := hX7.past hb8
    go_wp2
    go_ret
    exact ⟨rfl, hp8⟩
end Go.Proofs.Ytmpfjnjlocfhdaa
