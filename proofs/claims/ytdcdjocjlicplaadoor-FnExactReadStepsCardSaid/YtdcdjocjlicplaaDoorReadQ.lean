/-
  Contracts: the steps read of a text, by the reference's own function; the walk of the law.
-/
import Derived.Test.YtdcdjocjlicplaaDoorReadU
namespace Go.Proofs.YtdcdjocjlicplaaDoor
open Go.ChangeShapes Go.WideShapes Go.ChangeAt Go.RowKit Go.Joins

set_option maxHeartbeats 1000000 in
set_option maxRecDepth 100000 in
theorem sReadSteps_any (p c h s : Int) (st : ByteArray) (w : World) (hg : Glob w) (hz : st.size ≤ 1048576) :
    Calls Tryd.prog 28 #[.agg #[.int .i64 p, .int .i64 c, .int .i64 h, .int .i64 s], .string st] w (StepsOk w (stepsA p c h s st.data.toList)) := by
  cases hv : vOk p c h s
  · rw [show stepsA p c h s st.data.toList = none from by simp [stepsA, hv]]
    go_enter Tryd.func28, Tryd.ntmps28
    go_wp2_with (go_at_call 39; (with_reducible refine (sIsVar_any _ _ _ _ _).mono ?_); rintro e w1 ⟨rfl, hb1⟩; obtain ⟨hc1, hf1, _⟩ := hb1.cells; have hz1_0 : w.heap.size < w1.heap.size := Past.lt hb1 (by first | omega | (simp <;> omega)))
    go_ret2
    exact StepsOk.empty (w1 := w1) none rfl _ rfl (by repeat (first | exact Past.refl _ | assumption | refine Past.alloc ?_ _ | refine Past.drew ?_ | refine Past.drewN ?_ _ | refine Past.setCell ?_ (by first | (simp; done) | (simp <;> omega)) _ | refine Past.trans ?_ (past_over _ _) | refine Past.trans ?_ (by assumption)))
  · rw [show stepsA p c h s st.data.toList = stepsR p s st.data.toList from by simp [stepsA, hv]]
    have hr := fun w hh => l06Steps_any p c h s st w hv hh hz
    generalize stepsR p s st.data.toList = R at hr ⊢
    have HR := Lib.hid hr
    clear hr
    go_enter Tryd.func28, Tryd.ntmps28
    go_wp2_with (first | (go_at_call 39; (with_reducible refine (sIsVar_any _ _ _ _ _).mono ?_); rintro e w1 ⟨rfl, hb1⟩; obtain ⟨hc1, hf1, _⟩ := hb1.cells; have hz1_0 : w.heap.size < w1.heap.size := Past.lt hb1 (by first | omega | (simp <;> omega))) | (go_at_call 52; (with_reducible refine (HR.out _ (hg.past (by repeat (first | exact Past.refl _ | assumption | refine Past.alloc ?_ _ | refine Past.drew ?_ | refine Past.drewN ?_ _ | refine Past.setCell ?_ (by first | (simp; done) | (simp <;> omega)) _ | refine Past.trans ?_ (past_over _ _) | refine Past.trans ?_ (by assumption))))).mono ?_); rintro e w2 ⟨A, k, rfl, hown, hb2⟩))
    go_ret2
    have hp1 : Past w w1 := (by repeat (first | exact Past.refl _ | assumption | refine Past.alloc ?_ _ | refine Past.drew ?_ | refine Past.drewN ?_ _ | refine Past.setCell ?_ (by first | (simp; done) | (simp <;> omega)) _ | refine Past.trans ?_ (past_over _ _) | refine Past.trans ?_ (by assumption)))
    exact ⟨A, k, rfl, OwE.less hown hp1.sz, hp1.trans hb2⟩
theorem stepsA_le (p c h s : Int) (l : List UInt8) : ((stepsA p c h s l).getD []).length ≤ 4 := by
  unfold stepsA stepsR
  split
  · split
    · simp
    · split
      · simp
      · rename_i h4
        cases hK : allF (rdSt p s) (cutAt 32 l) with
        | none => simp
        | some K =>
          rw [Option.getD_some, allF_len hK]
          omega
  · simp
set_option maxHeartbeats 8000000 in
set_option maxRecDepth 100000 in
theorem FnExactReadSteps.walk (p c h s : Int) (_ : I64 p) (_ : I64 c) (_ : I64 h) (_ : I64 s) (t : ByteArray) (ht : t.size ≤ maxLen) (w : World) (hg : Glob w) :
    Calls Tryd.prog 8 #[.agg #[.int .i64 p, .int .i64 c, .int .i64 h, .int .i64 s], .string t] w fun e w' => e = .returned (.bool true) ∧ Past w w' := by
  unfold maxLen at ht
  by_cases hbig : 1048576 < t.size
  · have hb : (1048576 : Int) < (t.size : Int) := by omega
    clear hbig
    go_enter Tryd.func8, Tryd.ntmps8
    go_wp2
    go_ret
    exact ⟨rfl, (by repeat (first | exact Past.refl _ | assumption | refine Past.alloc ?_ _ | refine Past.drew ?_ | refine Past.drewN ?_ _ | refine Past.setCell ?_ (by first | (simp; done) | (simp <;> omega)) _ | refine Past.trans ?_ (past_over _ _) | refine Past.trans ?_ (by assumption)))⟩
  · have hb : (t.size : Int) ≤ (1048576 : Int) := by omega
    have ht2 : t.size ≤ 1048576 := by omega
    clear hbig
    have hL := stepsA_le p c h s t.data.toList
    obtain ⟨w0, hw0⟩ : ∃ w0 : World, w0 = (w.alloc (.cells #[.int .i64 p, .int .i64 c, .int .i64 h, .int .i64 s] 23)) := ⟨_, rfl⟩
    have hp0 : Past w w0 := by rw [hw0]; exact (by repeat (first | exact Past.refl _ | assumption | refine Past.alloc ?_ _ | refine Past.drew ?_ | refine Past.drewN ?_ _ | refine Past.setCell ?_ (by first | (simp; done) | (simp <;> omega)) _ | refine Past.trans ?_ (past_over _ _) | refine Past.trans ?_ (by assumption)))
    have q0_0 : w0.cell? ⟨w.heap.size, 0, none⟩ = some (.int .i64 p) := by rw [hw0]; simp [go_sem]
    have q0_1 : w0.cell? ⟨w.heap.size, 1, none⟩ = some (.int .i64 c) := by rw [hw0]; simp [go_sem]
    have q0_2 : w0.cell? ⟨w.heap.size, 2, none⟩ = some (.int .i64 h) := by rw [hw0]; simp [go_sem]
    have q0_3 : w0.cell? ⟨w.heap.size, 3, none⟩ = some (.int .i64 s) := by rw [hw0]; simp [go_sem]
    have zs0 : w0.heap.size = w.heap.size + 1 := by rw [hw0]; simp [go_sem]
    have zw : w.heap.size < w0.heap.size := by omega
    clear zs0
    go_enter Tryd.func8, Tryd.ntmps8
    go_upto_region 1 with fail
    rw [← hw0]
    clear hw0
    go_wp2_with fail
    (with_reducible refine (toVar_any _ _ _ _ _).mono ?_)
    rintro e w1 ⟨rfl, hb1⟩
    have hp1 := hp0.trans hb1
    have z1 : w0.heap.size ≤ w1.heap.size := hb1.sz
    have q1_0 : w1.cell? ⟨w.heap.size, 0, none⟩ = some (.int .i64 p) := hb1.keep q0_0; have q1_1 : w1.cell? ⟨w.heap.size, 1, none⟩ = some (.int .i64 c) := hb1.keep q0_1; have q1_2 : w1.cell? ⟨w.heap.size, 2, none⟩ = some (.int .i64 h) := hb1.keep q0_2; have q1_3 : w1.cell? ⟨w.heap.size, 3, none⟩ = some (.int .i64 s) := hb1.keep q0_3
    go_wp2_with fail
    (with_reducible refine (sReadSteps_any _ _ _ _ _ _ (hg.past (by with_reducible assumption)) ht2).mono ?_)
    rintro e w2 ⟨AW, kW, rfl, hoW, hb2⟩
    have hp2 := hp1.trans hb2
    have z2 : w1.heap.size ≤ w2.heap.size := hb2.sz
    have q2_0 : w2.cell? ⟨w.heap.size, 0, none⟩ = some (.int .i64 p) := hb2.keep q1_0; have q2_1 : w2.cell? ⟨w.heap.size, 1, none⟩ = some (.int .i64 c) := hb2.keep q1_1; have q2_2 : w2.cell? ⟨w.heap.size, 2, none⟩ = some (.int .i64 h) := hb2.keep q1_2; have q2_3 : w2.cell? ⟨w.heap.size, 3, none⟩ = some (.int .i64 s) := hb2.keep q1_3
    have hW2 := RowS.mk hoW (Nat.le_refl _)
    clear hoW
    go_wp2_with fail
    (with_reducible refine (toVar_any _ _ _ _ _).mono ?_)
    rintro e w3 ⟨rfl, hb3⟩
    have hp3 := hp2.trans hb3
    have z3 : w2.heap.size ≤ w3.heap.size := hb3.sz
    have q3_0 : w3.cell? ⟨w.heap.size, 0, none⟩ = some (.int .i64 p) := hb3.keep q2_0; have q3_1 : w3.cell? ⟨w.heap.size, 1, none⟩ = some (.int .i64 c) := hb3.keep q2_1; have q3_2 : w3.cell? ⟨w.heap.size, 2, none⟩ = some (.int .i64 h) := hb3.keep q2_2; have q3_3 : w3.cell? ⟨w.heap.size, 3, none⟩ = some (.int .i64 s) := hb3.keep q2_3
    have hW3 := hW2.past hb3
    go_wp2_with fail
    (with_reducible refine (readSteps_any _ _ _ _ _ _ (hg.past (by with_reducible assumption)) ht2).mono ?_)
    rintro e w4 ⟨AG, kG, rfl, hoG, hb4⟩
    have hp4 := hp3.trans hb4
    have z4 : w3.heap.size ≤ w4.heap.size := hb4.sz
    have q4_0 : w4.cell? ⟨w.heap.size, 0, none⟩ = some (.int .i64 p) := hb4.keep q3_0; have q4_1 : w4.cell? ⟨w.heap.size, 1, none⟩ = some (.int .i64 c) := hb4.keep q3_1; have q4_2 : w4.cell? ⟨w.heap.size, 2, none⟩ = some (.int .i64 h) := hb4.keep q3_2; have q4_3 : w4.cell? ⟨w.heap.size, 3, none⟩ = some (.int .i64 s) := hb4.keep q3_3
    have hW4 := hW3.past hb4
    have hG4 := RowS.mk hoG (Nat.le_refl _)
    clear hoG
    go_wp2_with fail
    (with_reducible refine (eqRowS hG4 hW4 (by omega)).mono ?_)
    rintro e w5 ⟨rfl, hb5⟩
    have hp5 := hp4.trans hb5
    have z5 : w4.heap.size ≤ w5.heap.size := hb5.sz
    have q5_0 : w5.cell? ⟨w.heap.size, 0, none⟩ = some (.int .i64 p) := hb5.keep q4_0; have q5_1 : w5.cell? ⟨w.heap.size, 1, none⟩ = some (.int .i64 c) := hb5.keep q4_1; have q5_2 : w5.cell? ⟨w.heap.size, 2, none⟩ = some (.int .i64 h) := hb5.keep q4_2; have q5_3 : w5.cell? ⟨w.heap.size, 3, none⟩ = some (.int .i64 s) := hb5.keep q4_3
    have hW5 := hW4.past hb5
    have hG5 := hG4.past hb5
    go_wp2_with fail
    (with_reducible refine (markRowS hG5 1 (by omega) (by omega) (by omega)).mono ?_)
    rintro e w6 ⟨rfl, hK6, hT6⟩
    have z6 : w5.heap.size ≤ w6.heap.size := hT6.sz
    have hp6 := hT6.past hp5 (by omega)
    have q6_0 : w6.cell? ⟨w.heap.size, 0, none⟩ = some (.int .i64 p) := hT6.cell q5_0 (.inl (by simp only; omega)); have q6_1 : w6.cell? ⟨w.heap.size, 1, none⟩ = some (.int .i64 c) := hT6.cell q5_1 (.inl (by simp only; omega)); have q6_2 : w6.cell? ⟨w.heap.size, 2, none⟩ = some (.int .i64 h) := hT6.cell q5_2 (.inl (by simp only; omega)); have q6_3 : w6.cell? ⟨w.heap.size, 3, none⟩ = some (.int .i64 s) := hT6.cell q5_3 (.inl (by simp only; omega))
    have hW6 := hW5.turn hT6 (by omega)
    have hG6 := hK6
    go_wp2_with fail
    (with_reducible refine (heldRowS hG6 (by omega) (by omega) (by omega)).mono ?_)
    rintro e w9 ⟨rfl, rfl⟩
    go_wp2_with fail
    (with_reducible refine (toVar_any _ _ _ _ _).mono ?_)
    rintro e w7 ⟨rfl, hb7⟩
    have hp7 := hp6.trans hb7
    have z7 : w6.heap.size ≤ w7.heap.size := hb7.sz
    have q7_0 : w7.cell? ⟨w.heap.size, 0, none⟩ = some (.int .i64 p) := hb7.keep q6_0; have q7_1 : w7.cell? ⟨w.heap.size, 1, none⟩ = some (.int .i64 c) := hb7.keep q6_1; have q7_2 : w7.cell? ⟨w.heap.size, 2, none⟩ = some (.int .i64 h) := hb7.keep q6_2; have q7_3 : w7.cell? ⟨w.heap.size, 3, none⟩ = some (.int .i64 s) := hb7.keep q6_3
    have hW7 := hW6.past hb7
    have hG7 := hG6.past hb7
    go_wp2_with fail
    (with_reducible refine (readSteps_any _ _ _ _ _ _ (hg.past (by with_reducible assumption)) ht2).mono ?_)
    rintro e w8 ⟨AH, kH, rfl, hoH, hb8⟩
    have hp8 := hp7.trans hb8
    have z8 : w7.heap.size ≤ w8.heap.size := hb8.sz
    have q8_0 : w8.cell? ⟨w.heap.size, 0, none⟩ = some (.int .i64 p) := hb8.keep q7_0; have q8_1 : w8.cell? ⟨w.heap.size, 1, none⟩ = some (.int .i64 c) := hb8.keep q7_1; have q8_2 : w8.cell? ⟨w.heap.size, 2, none⟩ = some (.int .i64 h) := hb8.keep q7_2; have q8_3 : w8.cell? ⟨w.heap.size, 3, none⟩ = some (.int .i64 s) := hb8.keep q7_3
    have hW8 := hW7.past hb8
    have hG8 := hG7.past hb8
    have hH8 := RowS.mk hoH (Nat.le_refl _)
    clear hoH
    go_wp2_with fail
    (with_reducible refine (eqRowS hH8 hW8 (by omega)).mono ?_)
    rintro e w9 ⟨rfl, hb9⟩
    have hp9 := hp8.trans hb9
    have z9 : w8.heap.size ≤ w9.heap.size := hb9.sz
    have q9_0 : w9.cell? ⟨w.heap.size, 0, none⟩ = some (.int .i64 p) := hb9.keep q8_0; have q9_1 : w9.cell? ⟨w.heap.size, 1, none⟩ = some (.int .i64 c) := hb9.keep q8_1; have q9_2 : w9.cell? ⟨w.heap.size, 2, none⟩ = some (.int .i64 h) := hb9.keep q8_2; have q9_3 : w9.cell? ⟨w.heap.size, 3, none⟩ = some (.int .i64 s) := hb9.keep q8_3
    have hW9 := hW8.past hb9
    have hG9 := hG8.past hb9
    have hH9 := hH8.past hb9
    go_wp2_with fail
    (with_reducible refine (heldRowS hG9 (by omega) (by omega) (by omega)).mono ?_)
    rintro e w9 ⟨rfl, rfl⟩
    go_wp2
    go_ret
    exact ⟨rfl, hp9⟩
end Go.Proofs.YtdcdjocjlicplaaDoor
