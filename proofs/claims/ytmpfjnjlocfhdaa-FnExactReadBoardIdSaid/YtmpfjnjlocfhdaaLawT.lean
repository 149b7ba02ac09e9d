/-
  The walk of the law on the board of its letters.
-/
import Derived.Test.YtmpfjnjlocfhdaaReadId4
import Derived.Deep.DeepCutAuto
namespace Go.Proofs.Ytmpfjnjlocfhdaa
open Go.ChangeShapes Go.WideShapes Go.ChangeAt Go.RowKit Go.Joins

set_option maxHeartbeats 8000000 in
set_option maxRecDepth 100000 in
theorem FnExactReadBoardId.walk (p c h s : Int) (_ : I64 p) (_ : I64 c) (_ : I64 h) (_ : I64 s) (t : ByteArray) (ht : t.size ≤ maxLen) (w : World) :
    Calls Try.prog 10 #[.agg #[.int .i64 p, .int .i64 c, .int .i64 h, .int .i64 s], .string t] w fun e w' => e = .returned (.bool true) ∧ Past w w' := by
  unfold maxLen at ht
  by_cases hbig : 1048576 < t.size
  · have hb : (1048576 : Int) < (t.size : Int) := by omega
    clear hbig
    go_enter Try.func10, Try.ntmps10
    go_wp2
    go_ret
    exact ⟨rfl, (by repeat (first | exact Past.refl _ | assumption | refine Past.alloc ?_ _ | refine Past.drew ?_ | refine Past.drewN ?_ _ | refine Past.setCell ?_ (by first | (simp; done) | (simp <;> omega)) _ | refine Past.trans ?_ (past_over _ _) | refine Past.trans ?_ (by assumption)))⟩
  · have hb : (t.size : Int) ≤ (1048576 : Int) := by omega
    have ht2 : t.size ≤ 1048576 := by omega
    clear hbig
    obtain ⟨hL, hM⟩ := rd_le p c h s t
    obtain ⟨w0, hw0⟩ : ∃ w0 : World, w0 = (w.alloc (.cells #[.int .i64 p, .int .i64 c, .int .i64 h, .int .i64 s] 23)) := ⟨_, rfl⟩
    have hp0 : Past w w0 := by rw [hw0]; exact (by repeat (first | exact Past.refl _ | assumption | refine Past.alloc ?_ _ | refine Past.drew ?_ | refine Past.drewN ?_ _ | refine Past.setCell ?_ (by first | (simp; done) | (simp <;> omega)) _ | refine Past.trans ?_ (past_over _ _) | refine Past.trans ?_ (by assumption)))
    have q0_0 : w0.cell? ⟨w.heap.size, 0, none⟩ = some (.int .i64 p) := by rw [hw0]; simp [go_sem]
    have q0_1 : w0.cell? ⟨w.heap.size, 1, none⟩ = some (.int .i64 c) := by rw [hw0]; simp [go_sem]
    have q0_2 : w0.cell? ⟨w.heap.size, 2, none⟩ = some (.int .i64 h) := by rw [hw0]; simp [go_sem]
    have q0_3 : w0.cell? ⟨w.heap.size, 3, none⟩ = some (.int .i64 s) := by rw [hw0]; simp [go_sem]
    have zs0 : w0.heap.size = w.heap.size + 1 := by rw [hw0]; simp [go_sem]
    have zw : w.heap.size < w0.heap.size := by omega
    clear zs0
    go_enter Try.func10, Try.ntmps10
    go_upto_region 1 with fail
    rw [← hw0]
    clear hw0
    go_wp2_with fail
    (with_reducible refine (toVar_any _ _ _ _ _).mono ?_)
    rintro e w1 ⟨rfl, hb1⟩
    have hp1 := hp0.trans hb1
    have z1 : w0.heap.size ≤ w1.heap.size := hb1.sz
    have q1_0 : w1.cell? ⟨w.heap.size, 0, none⟩ = some (.int .i64 p) := hb1.keep q0_0; have q1_1 : w1.cell? ⟨w.heap.size, 1, none⟩ = some (.int .i64 c) := hb1.keep q0_1; have q1_2 : w1.cell? ⟨w.heap.size, 2, none⟩ = some (.int .i64 h) := hb1.keep q0_2; have q1_3 : w1.cell? ⟨w.heap.size, 3, none⟩ = some (.int .i64 s) := hb1.keep q0_3
    go_wp2_with fail
    (with_reducible refine (sReadId_any _ _ _ _ _ _ ht2).mono ?_)
    rintro e w2 ⟨AW, kW, DW, lW, rfl, hvW, hb2⟩
    have hp2 := hp1.trans hb2
    have z2 : w1.heap.size ≤ w2.heap.size := hb2.sz
    have q2_0 : w2.cell? ⟨w.heap.size, 0, none⟩ = some (.int .i64 p) := hb2.keep q1_0; have q2_1 : w2.cell? ⟨w.heap.size, 1, none⟩ = some (.int .i64 c) := hb2.keep q1_1; have q2_2 : w2.cell? ⟨w.heap.size, 2, none⟩ = some (.int .i64 h) := hb2.keep q1_2; have q2_3 : w2.cell? ⟨w.heap.size, 3, none⟩ = some (.int .i64 s) := hb2.keep q1_3
    have hl2_0 : w.heap.size < w2.heap.size := by omega
    go_wp2_with fail
    have hNW := box_alloc 26 hvW (Nat.le_refl _) hb2
    have hb3 := (Past.refl w2).alloc (.cells #[.slice AW (rdL p c h s t).length kW, .slice DW (rdM p c h s t).length lW] 26)
    generalize w2.alloc (.cells #[.slice AW (rdL p c h s t).length kW, .slice DW (rdM p c h s t).length lW] 26) = w3 at hNW hb3 ⊢
    have hp3 := hp2.trans hb3
    have z3 : w2.heap.size ≤ w3.heap.size := hb3.sz
    have q3_0 : w3.cell? ⟨w.heap.size, 0, none⟩ = some (.int .i64 p) := hb3.keep q2_0; have q3_1 : w3.cell? ⟨w.heap.size, 1, none⟩ = some (.int .i64 c) := hb3.keep q2_1; have q3_2 : w3.cell? ⟨w.heap.size, 2, none⟩ = some (.int .i64 h) := hb3.keep q2_2; have q3_3 : w3.cell? ⟨w.heap.size, 3, none⟩ = some (.int .i64 s) := hb3.keep q2_3
    have hW3 := BoxIn.of_at hNW
    clear hNW
    have c3W0 := hW3.1; have c3W1 := hW3.2.1
    go_wp2_with fail
    (with_reducible refine (toVar_any _ _ _ _ _).mono ?_)
    rintro e w4 ⟨rfl, hb4⟩
    have hp4 := hp3.trans hb4
    have z4 : w3.heap.size ≤ w4.heap.size := hb4.sz
    have q4_0 : w4.cell? ⟨w.heap.size, 0, none⟩ = some (.int .i64 p) := hb4.keep q3_0; have q4_1 : w4.cell? ⟨w.heap.size, 1, none⟩ = some (.int .i64 c) := hb4.keep q3_1; have q4_2 : w4.cell? ⟨w.heap.size, 2, none⟩ = some (.int .i64 h) := hb4.keep q3_2; have q4_3 : w4.cell? ⟨w.heap.size, 3, none⟩ = some (.int .i64 s) := hb4.keep q3_3
    have hW4 := hW3.past hb4
    have c4W0 := hW4.1; have c4W1 := hW4.2.1
    go_wp2_with fail
    (with_reducible refine (readId_any _ _ _ _ _ _ ht2).mono ?_)
    rintro e w5 ⟨AG, kG, DG, lG, rfl, hvG, hb5⟩
    have hp5 := hp4.trans hb5
    have z5 : w4.heap.size ≤ w5.heap.size := hb5.sz
    have q5_0 : w5.cell? ⟨w.heap.size, 0, none⟩ = some (.int .i64 p) := hb5.keep q4_0; have q5_1 : w5.cell? ⟨w.heap.size, 1, none⟩ = some (.int .i64 c) := hb5.keep q4_1; have q5_2 : w5.cell? ⟨w.heap.size, 2, none⟩ = some (.int .i64 h) := hb5.keep q4_2; have q5_3 : w5.cell? ⟨w.heap.size, 3, none⟩ = some (.int .i64 s) := hb5.keep q4_3
    have hW5 := hW4.past hb5
    have c5W0 := hW5.1; have c5W1 := hW5.2.1
    have hl5_0 : w.heap.size < w5.heap.size := by omega
    have hl5W := World.block_lt_of_cell? w5 _ c5W0
    simp only at hl5W
    go_wp2_with fail
    have hNG := box_alloc 26 hvG (Nat.le_refl _) hb5
    have hb6 := (Past.refl w5).alloc (.cells #[.slice AG (rdL p c h s t).length kG, .slice DG (rdM p c h s t).length lG] 26)
    generalize w5.alloc (.cells #[.slice AG (rdL p c h s t).length kG, .slice DG (rdM p c h s t).length lG] 26) = w6 at hNG hb6 ⊢
    have hp6 := hp5.trans hb6
    have z6 : w5.heap.size ≤ w6.heap.size := hb6.sz
    have q6_0 : w6.cell? ⟨w.heap.size, 0, none⟩ = some (.int .i64 p) := hb6.keep q5_0; have q6_1 : w6.cell? ⟨w.heap.size, 1, none⟩ = some (.int .i64 c) := hb6.keep q5_1; have q6_2 : w6.cell? ⟨w.heap.size, 2, none⟩ = some (.int .i64 h) := hb6.keep q5_2; have q6_3 : w6.cell? ⟨w.heap.size, 3, none⟩ = some (.int .i64 s) := hb6.keep q5_3
    have hW6 := hW5.past hb6
    have c6W0 := hW6.1; have c6W1 := hW6.2.1
    have hG6 := BoxIn.of_at hNG
    clear hNG
    have c6G0 := hG6.1; have c6G1 := hG6.2.1
    go_wp2_with fail
    (with_reducible refine (eqBox hG6 hW6 (by omega) (by omega)).mono ?_)
    rintro e w7 ⟨rfl, hb7⟩
    have hp7 := hp6.trans hb7
    have z7 : w6.heap.size ≤ w7.heap.size := hb7.sz
    have q7_0 : w7.cell? ⟨w.heap.size, 0, none⟩ = some (.int .i64 p) := hb7.keep q6_0; have q7_1 : w7.cell? ⟨w.heap.size, 1, none⟩ = some (.int .i64 c) := hb7.keep q6_1; have q7_2 : w7.cell? ⟨w.heap.size, 2, none⟩ = some (.int .i64 h) := hb7.keep q6_2; have q7_3 : w7.cell? ⟨w.heap.size, 3, none⟩ = some (.int .i64 s) := hb7.keep q6_3
    have hW7 := hW6.past hb7
    have hG7 := hG6.past hb7
    have c7W0 := hW7.1; have c7W1 := hW7.2.1
    have c7G0 := hG7.1; have c7G1 := hG7.2.1
    go_wp2_with fail
    (with_reducible refine (markBox hG7 1 (by omega) (by omega) (by omega) (by omega)).mono ?_)
    rintro e w8 ⟨rfl, hK8, hT8⟩
    have z8 : w7.heap.size ≤ w8.heap.size := hT8.sz
    have hp8 := hT8.past hp7 (by omega)
    have q8_0 : w8.cell? ⟨w.heap.size, 0, none⟩ = some (.int .i64 p) := hT8.cell q7_0 (.inl (by simp only; omega)); have q8_1 : w8.cell? ⟨w.heap.size, 1, none⟩ = some (.int .i64 c) := hT8.cell q7_1 (.inl (by simp only; omega)); have q8_2 : w8.cell? ⟨w.heap.size, 2, none⟩ = some (.int .i64 h) := hT8.cell q7_2 (.inl (by simp only; omega)); have q8_3 : w8.cell? ⟨w.heap.size, 3, none⟩ = some (.int .i64 s) := hT8.cell q7_3 (.inl (by simp only; omega))
    have hW8 := hW7.turn hT8 (by omega)
    have hG8 := hK8
    have c8W0 := hW8.1; have c8W1 := hW8.2.1
    have c8G0 := hG8.1; have c8G1 := hG8.2.1
    go_wp2_with fail
    (with_reducible refine (heldBox hG8 (by omega) (by omega) (by omega) (by omega)).mono ?_)
    rintro e w9 ⟨rfl, hb9⟩
    have hp9 := hp8.trans hb9
    have z9 : w8.heap.size ≤ w9.heap.size := hb9.sz
    have q9_0 : w9.cell? ⟨w.heap.size, 0, none⟩ = some (.int .i64 p) := hb9.keep q8_0; have q9_1 : w9.cell? ⟨w.heap.size, 1, none⟩ = some (.int .i64 c) := hb9.keep q8_1; have q9_2 : w9.cell? ⟨w.heap.size, 2, none⟩ = some (.int .i64 h) := hb9.keep q8_2; have q9_3 : w9.cell? ⟨w.heap.size, 3, none⟩ = some (.int .i64 s) := hb9.keep q8_3
    have hW9 := hW8.past hb9
    have hG9 := hG8.past hb9
    have c9W0 := hW9.1; have c9W1 := hW9.2.1
    have c9G0 := hG9.1; have c9G1 := hG9.2.1
    go_wp2_with fail
    (with_reducible refine (toVar_any _ _ _ _ _).mono ?_)
    rintro e w10 ⟨rfl, hb10⟩
    have hp10 := hp9.trans hb10
    have z10 : w9.heap.size ≤ w10.heap.size := hb10.sz
    have q10_0 : w10.cell? ⟨w.heap.size, 0, none⟩ = some (.int .i64 p) := hb10.keep q9_0; have q10_1 : w10.cell? ⟨w.heap.size, 1, none⟩ = some (.int .i64 c) := hb10.keep q9_1; have q10_2 : w10.cell? ⟨w.heap.size, 2, none⟩ = some (.int .i64 h) := hb10.keep q9_2; have q10_3 : w10.cell? ⟨w.heap.size, 3, none⟩ = some (.int .i64 s) := hb10.keep q9_3
    have hW10 := hW9.past hb10
    have hG10 := hG9.past hb10
    have c10W0 := hW10.1; have c10W1 := hW10.2.1
    have c10G0 := hG10.1; have c10G1 := hG10.2.1
    go_wp2_with fail
    (with_reducible refine (readId_any _ _ _ _ _ _ ht2).mono ?_)
    rintro e w11 ⟨AH, kH, DH, lH, rfl, hvH, hb11⟩
    have hp11 := hp10.trans hb11
    have z11 : w10.heap.size ≤ w11.heap.size := hb11.sz
    have q11_0 : w11.cell? ⟨w.heap.size, 0, none⟩ = some (.int .i64 p) := hb11.keep q10_0; have q11_1 : w11.cell? ⟨w.heap.size, 1, none⟩ = some (.int .i64 c) := hb11.keep q10_1; have q11_2 : w11.cell? ⟨w.heap.size, 2, none⟩ = some (.int .i64 h) := hb11.keep q10_2; have q11_3 : w11.cell? ⟨w.heap.size, 3, none⟩ = some (.int .i64 s) := hb11.keep q10_3
    have hW11 := hW10.past hb11
    have hG11 := hG10.past hb11
    have c11W0 := hW11.1; have c11W1 := hW11.2.1
    have c11G0 := hG11.1; have c11G1 := hG11.2.1
    have hl11_0 : w.heap.size < w11.heap.size := by omega
    have hl11W := World.block_lt_of_cell? w11 _ c11W0
    simp only at hl11W
    have hl11G := World.block_lt_of_cell? w11 _ c11G0
    simp only at hl11G
    go_wp2_with fail
    have hNH := box_alloc 26 hvH (Nat.le_refl _) hb11
    have hb12 := (Past.refl w11).alloc (.cells #[.slice AH (rdL p c h s t).length kH, .slice DH (rdM p c h s t).length lH] 26)
    generalize w11.alloc (.cells #[.slice AH (rdL p c h s t).length kH, .slice DH (rdM p c h s t).length lH] 26) = w12 at hNH hb12 ⊢
    have hp12 := hp11.trans hb12
    have z12 : w11.heap.size ≤ w12.heap.size := hb12.sz
    have q12_0 : w12.cell? ⟨w.heap.size, 0, none⟩ = some (.int .i64 p) := hb12.keep q11_0; have q12_1 : w12.cell? ⟨w.heap.size, 1, none⟩ = some (.int .i64 c) := hb12.keep q11_1; have q12_2 : w12.cell? ⟨w.heap.size, 2, none⟩ = some (.int .i64 h) := hb12.keep q11_2; have q12_3 : w12.cell? ⟨w.heap.size, 3, none⟩ = some (.int .i64 s) := hb12.keep q11_3
    have hW12 := hW11.past hb12
    have hG12 := hG11.past hb12
    have c12W0 := hW12.1; have c12W1 := hW12.2.1
    have c12G0 := hG12.1; have c12G1 := hG12.2.1
    have hH12 := BoxIn.of_at hNH
    clear hNH
    have c12H0 := hH12.1; have c12H1 := hH12.2.1
    go_wp2_with fail
    (with_reducible refine (eqBox hH12 hW12 (by omega) (by omega)).mono ?_)
    rintro e w13 ⟨rfl, hb13⟩
    have hp13 := hp12.trans hb13
    have z13 : w12.heap.size ≤ w13.heap.size := hb13.sz
    have q13_0 : w13.cell? ⟨w.heap.size, 0, none⟩ = some (.int .i64 p) := hb13.keep q12_0; have q13_1 : w13.cell? ⟨w.heap.size, 1, none⟩ = some (.int .i64 c) := hb13.keep q12_1; have q13_2 : w13.cell? ⟨w.heap.size, 2, none⟩ = some (.int .i64 h) := hb13.keep q12_2; have q13_3 : w13.cell? ⟨w.heap.size, 3, none⟩ = some (.int .i64 s) := hb13.keep q12_3
    have hW13 := hW12.past hb13
    have hG13 := hG12.past hb13
    have hH13 := hH12.past hb13
    have c13W0 := hW13.1; have c13W1 := hW13.2.1
    have c13G0 := hG13.1; have c13G1 := hG13.2.1
    have c13H0 := hH13.1; have c13H1 := hH13.2.1
    go_wp2_with fail
    (with_reducible refine (heldBox hG13 (by omega) (by omega) (by omega) (by omega)).mono ?_)
    rintro e w14 ⟨rfl, hb14⟩
    have hp14 := hp13.trans hb14
    have z14 : w13.heap.size ≤ w14.heap.size := hb14.sz
    have q14_0 : w14.cell? ⟨w.heap.size, 0, none⟩ = some (.int .i64 p) := hb14.keep q13_0; have q14_1 : w14.cell? ⟨w.heap.size, 1, none⟩ = some (.int .i64 c) := hb14.keep q13_1; have q14_2 : w14.cell? ⟨w.heap.size, 2, none⟩ = some (.int .i64 h) := hb14.keep q13_2; have q14_3 : w14.cell? ⟨w.heap.size, 3, none⟩ = some (.int .i64 s) := hb14.keep q13_3
    have hW14 := hW13.past hb14
    have hG14 := hG13.past hb14
    have hH14 := hH13.past hb14
    have c14W0 := hW14.1; have c14W1 := hW14.2.1
    have c14G0 := hG14.1; have c14G1 := hG14.2.1
    have c14H0 := hH14.1; have c14H1 := hH14.2.1
    go_wp2
    go_ret
    exact ⟨rfl, hp14⟩
end Go.Proofs.Ytmpfjnjlocfhdaa
