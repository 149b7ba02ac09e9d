/-
  The walk of the law on the board of a list of bits.
-/
import Derived.Test.YtmpfjnjlocfhdaaOfBits2
import Derived.Test.YtmpfjnjlocfhdaaRowI
import Derived.Deep.DeepCutAuto
namespace Go.Proofs.Ytmpfjnjlocfhdaa
open Go.ChangeShapes Go.WideShapes Go.ChangeAt Go.RowKit Go.Joins

set_option maxHeartbeats 8000000 in
set_option maxRecDepth 100000 in
theorem FnExactBoardOfBits.walk (w : World) (p c h s : Int) (_ : I64 p) (_ : I64 c) (_ : I64 h) (_ : I64 s) (A : Option Addr) (n k : Nat) (xs : List Int) (hx : RdI w A n xs ∧ n ≤ maxLen) :
    Calls Try.prog 9 #[.agg #[.int .i64 p, .int .i64 c, .int .i64 h, .int .i64 s], .slice A n k] w fun e w' => e = .returned (.bool true) ∧ Past w w' := by
  obtain ⟨hx, bn⟩ := hx
  unfold maxLen at bn
  by_cases hbig : 1048576 < n
  · have hb : (1048576 : Int) < (n : Int) := by omega
    clear hbig
    go_enter Try.func9, Try.ntmps9
    go_wp2
    go_ret
    exact ⟨rfl, (by repeat (first | exact Past.refl _ | assumption | refine Past.alloc ?_ _ | refine Past.drew ?_ | refine Past.drewN ?_ _ | refine Past.setCell ?_ (by first | (simp; done) | (simp <;> omega)) _ | refine Past.trans ?_ (past_over _ _) | refine Past.trans ?_ (by assumption)))⟩
  · have hb : (n : Int) ≤ (1048576 : Int) := by omega
    have hn : n ≤ 1048576 := by omega
    clear hbig
    obtain ⟨hL, hM⟩ := obL_le p c h s xs
    obtain ⟨w0, hw0⟩ : ∃ w0 : World, w0 = (w.alloc (.cells #[.int .i64 p, .int .i64 c, .int .i64 h, .int .i64 s] 23)) := ⟨_, rfl⟩
    have hp0 : Past w w0 := by rw [hw0]; exact (by repeat (first | exact Past.refl _ | assumption | refine Past.alloc ?_ _ | refine Past.drew ?_ | refine Past.drewN ?_ _ | refine Past.setCell ?_ (by first | (simp; done) | (simp <;> omega)) _ | refine Past.trans ?_ (past_over _ _) | refine Past.trans ?_ (by assumption)))
    have q0_0 : w0.cell? ⟨w.heap.size, 0, none⟩ = some (.int .i64 p) := by rw [hw0]; simp [go_sem]
    have q0_1 : w0.cell? ⟨w.heap.size, 1, none⟩ = some (.int .i64 c) := by rw [hw0]; simp [go_sem]
    have q0_2 : w0.cell? ⟨w.heap.size, 2, none⟩ = some (.int .i64 h) := by rw [hw0]; simp [go_sem]
    have q0_3 : w0.cell? ⟨w.heap.size, 3, none⟩ = some (.int .i64 s) := by rw [hw0]; simp [go_sem]
    have zs0 : w0.heap.size = w.heap.size + 1 := by rw [hw0]; simp [go_sem]
    have zw : w.heap.size < w0.heap.size := by omega
    clear zs0
    go_enter Try.func9, Try.ntmps9
    go_upto_region 1 with fail
    rw [← hw0]
    clear hw0
    go_wp2_with fail
    (with_reducible refine (toVar_any _ _ _ _ _).mono ?_)
    rintro e w1 ⟨rfl, hb1⟩
    have hp1 := hp0.trans hb1
    have z1 : w0.heap.size ≤ w1.heap.size := hb1.sz
    have q1_0 : w1.cell? ⟨w.heap.size, 0, none⟩ = some (.int .i64 p) := hb1.keep q0_0; have q1_1 : w1.cell? ⟨w.heap.size, 1, none⟩ = some (.int .i64 c) := hb1.keep q0_1; have q1_2 : w1.cell? ⟨w.heap.size, 2, none⟩ = some (.int .i64 h) := hb1.keep q0_2; have q1_3 : w1.cell? ⟨w.heap.size, 3, none⟩ = some (.int .i64 s) := hb1.keep q0_3
    go_wp2_with fail
    (with_reducible refine (toInts' _ _ _ _ _ (hx.past hp1) hn).mono ?_)
    rintro e w2 ⟨gU, rfl, hoU, _, _, hb2⟩
    have hp2 := hp1.trans hb2
    have z2 : w1.heap.size ≤ w2.heap.size := hb2.sz
    have q2_0 : w2.cell? ⟨w.heap.size, 0, none⟩ = some (.int .i64 p) := hb2.keep q1_0; have q2_1 : w2.cell? ⟨w.heap.size, 1, none⟩ = some (.int .i64 c) := hb2.keep q1_1; have q2_2 : w2.cell? ⟨w.heap.size, 2, none⟩ = some (.int .i64 h) := hb2.keep q1_2; have q2_3 : w2.cell? ⟨w.heap.size, 3, none⟩ = some (.int .i64 s) := hb2.keep q1_3
    have hU2 := RowIn.mk hoU (Nat.le_refl _)
    go_wp2_with fail
    (with_reducible refine (sBoardOfBits_any _ _ _ _ _ _ _ _ _ hU2.rd hn).mono ?_)
    rintro e w3 ⟨AW, kW, DW, lW, rfl, hvW, hb3⟩
    have hp3 := hp2.trans hb3
    have z3 : w2.heap.size ≤ w3.heap.size := hb3.sz
    have q3_0 : w3.cell? ⟨w.heap.size, 0, none⟩ = some (.int .i64 p) := hb3.keep q2_0; have q3_1 : w3.cell? ⟨w.heap.size, 1, none⟩ = some (.int .i64 c) := hb3.keep q2_1; have q3_2 : w3.cell? ⟨w.heap.size, 2, none⟩ = some (.int .i64 h) := hb3.keep q2_2; have q3_3 : w3.cell? ⟨w.heap.size, 3, none⟩ = some (.int .i64 s) := hb3.keep q2_3
    have hU3 := hU2.past hb3
    have hl3_0 : w.heap.size < w3.heap.size := by omega
    go_wp2_with fail
    have hNW := box_alloc 26 hvW (Nat.le_refl _) hb3
    have hb4 := (Past.refl w3).alloc (.cells #[.slice AW (obL p c h s xs).length kW, .slice DW (obM p c h s xs).length lW] 26)
    generalize w3.alloc (.cells #[.slice AW (obL p c h s xs).length kW, .slice DW (obM p c h s xs).length lW] 26) = w4 at hNW hb4 ⊢
    have hp4 := hp3.trans hb4
    have z4 : w3.heap.size ≤ w4.heap.size := hb4.sz
    have q4_0 : w4.cell? ⟨w.heap.size, 0, none⟩ = some (.int .i64 p) := hb4.keep q3_0; have q4_1 : w4.cell? ⟨w.heap.size, 1, none⟩ = some (.int .i64 c) := hb4.keep q3_1; have q4_2 : w4.cell? ⟨w.heap.size, 2, none⟩ = some (.int .i64 h) := hb4.keep q3_2; have q4_3 : w4.cell? ⟨w.heap.size, 3, none⟩ = some (.int .i64 s) := hb4.keep q3_3
    have hU4 := hU3.past hb4
    have hW4 := BoxIn.of_at hNW
    clear hNW
    have c4W0 := hW4.1; have c4W1 := hW4.2.1
    go_wp2_with fail
    (with_reducible refine (toInts' _ _ _ _ _ (hx.past hp4) hn).mono ?_)
    rintro e w5 ⟨gX, rfl, hoX, _, _, hb5⟩
    have hp5 := hp4.trans hb5
    have z5 : w4.heap.size ≤ w5.heap.size := hb5.sz
    have q5_0 : w5.cell? ⟨w.heap.size, 0, none⟩ = some (.int .i64 p) := hb5.keep q4_0; have q5_1 : w5.cell? ⟨w.heap.size, 1, none⟩ = some (.int .i64 c) := hb5.keep q4_1; have q5_2 : w5.cell? ⟨w.heap.size, 2, none⟩ = some (.int .i64 h) := hb5.keep q4_2; have q5_3 : w5.cell? ⟨w.heap.size, 3, none⟩ = some (.int .i64 s) := hb5.keep q4_3
    have hW5 := hW4.past hb5
    have c5W0 := hW5.1; have c5W1 := hW5.2.1
    have hX5 := RowIn.mk hoX (Nat.le_refl _)
    go_wp2_with fail
    (with_reducible refine (toVar_any _ _ _ _ _).mono ?_)
    rintro e w6 ⟨rfl, hb6⟩
    have hp6 := hp5.trans hb6
    have z6 : w5.heap.size ≤ w6.heap.size := hb6.sz
    have q6_0 : w6.cell? ⟨w.heap.size, 0, none⟩ = some (.int .i64 p) := hb6.keep q5_0; have q6_1 : w6.cell? ⟨w.heap.size, 1, none⟩ = some (.int .i64 c) := hb6.keep q5_1; have q6_2 : w6.cell? ⟨w.heap.size, 2, none⟩ = some (.int .i64 h) := hb6.keep q5_2; have q6_3 : w6.cell? ⟨w.heap.size, 3, none⟩ = some (.int .i64 s) := hb6.keep q5_3
    have hW6 := hW5.past hb6
    have hX6 := hX5.past hb6
    have c6W0 := hW6.1; have c6W1 := hW6.2.1
    go_wp2_with fail
    (with_reducible refine (boardOfBits_any _ _ _ _ _ _ _ _ _ hX6.rd hn).mono ?_)
    rintro e w7 ⟨AG, kG, DG, lG, rfl, hvG, hb7⟩
    have hp7 := hp6.trans hb7
    have z7 : w6.heap.size ≤ w7.heap.size := hb7.sz
    have q7_0 : w7.cell? ⟨w.heap.size, 0, none⟩ = some (.int .i64 p) := hb7.keep q6_0; have q7_1 : w7.cell? ⟨w.heap.size, 1, none⟩ = some (.int .i64 c) := hb7.keep q6_1; have q7_2 : w7.cell? ⟨w.heap.size, 2, none⟩ = some (.int .i64 h) := hb7.keep q6_2; have q7_3 : w7.cell? ⟨w.heap.size, 3, none⟩ = some (.int .i64 s) := hb7.keep q6_3
    have hW7 := hW6.past hb7
    have hX7 := hX6.past hb7
    have c7W0 := hW7.1; have c7W1 := hW7.2.1
    have hl7_0 : w.heap.size < w7.heap.size := by omega
    have hl7W := World.block_lt_of_cell? w7 _ c7W0
    simp only at hl7W
    go_wp2_with fail
    have hNG := box_alloc 26 hvG (Nat.le_refl _) hb7
    have hb8 := (Past.refl w7).alloc (.cells #[.slice AG (obL p c h s xs).length kG, .slice DG (obM p c h s xs).length lG] 26)
    generalize w7.alloc (.cells #[.slice AG (obL p c h s xs).length kG, .slice DG (obM p c h s xs).length lG] 26) = w8 at hNG hb8 ⊢
    have hp8 := hp7.trans hb8
    have z8 : w7.heap.size ≤ w8.heap.size := hb8.sz
    have q8_0 : w8.cell? ⟨w.heap.size, 0, none⟩ = some (.int .i64 p) := hb8.keep q7_0; have q8_1 : w8.cell? ⟨w.heap.size, 1, none⟩ = some (.int .i64 c) := hb8.keep q7_1; have q8_2 : w8.cell? ⟨w.heap.size, 2, none⟩ = some (.int .i64 h) := hb8.keep q7_2; have q8_3 : w8.cell? ⟨w.heap.size, 3, none⟩ = some (.int .i64 s) := hb8.keep q7_3
    have hW8 := hW7.past hb8
    have hX8 := hX7.past hb8
    have c8W0 := hW8.1; have c8W1 := hW8.2.1
    have hG8 := BoxIn.of_at hNG
    clear hNG
    have c8G0 := hG8.1; have c8G1 := hG8.2.1
    go_wp2_with fail
    (with_reducible refine (eqBox hG8 hW8 (by omega) (by omega)).mono ?_)
    rintro e w9 ⟨rfl, hb9⟩
    have hp9 := hp8.trans hb9
    have z9 : w8.heap.size ≤ w9.heap.size := hb9.sz
    have q9_0 : w9.cell? ⟨w.heap.size, 0, none⟩ = some (.int .i64 p) := hb9.keep q8_0; have q9_1 : w9.cell? ⟨w.heap.size, 1, none⟩ = some (.int .i64 c) := hb9.keep q8_1; have q9_2 : w9.cell? ⟨w.heap.size, 2, none⟩ = some (.int .i64 h) := hb9.keep q8_2; have q9_3 : w9.cell? ⟨w.heap.size, 3, none⟩ = some (.int .i64 s) := hb9.keep q8_3
    have hW9 := hW8.past hb9
    have hX9 := hX8.past hb9
    have hG9 := hG8.past hb9
    have c9W0 := hW9.1; have c9W1 := hW9.2.1
    have c9G0 := hG9.1; have c9G1 := hG9.2.1
    go_wp2_with fail
    (with_reducible refine (toInts' _ _ _ _ _ (hx.past hp9) hn).mono ?_)
    rintro e w10 ⟨gY, rfl, hoY, _, _, hb10⟩
    have hp10 := hp9.trans hb10
    have z10 : w9.heap.size ≤ w10.heap.size := hb10.sz
    have q10_0 : w10.cell? ⟨w.heap.size, 0, none⟩ = some (.int .i64 p) := hb10.keep q9_0; have q10_1 : w10.cell? ⟨w.heap.size, 1, none⟩ = some (.int .i64 c) := hb10.keep q9_1; have q10_2 : w10.cell? ⟨w.heap.size, 2, none⟩ = some (.int .i64 h) := hb10.keep q9_2; have q10_3 : w10.cell? ⟨w.heap.size, 3, none⟩ = some (.int .i64 s) := hb10.keep q9_3
    have hW10 := hW9.past hb10
    have hX10 := hX9.past hb10
    have hG10 := hG9.past hb10
    have c10W0 := hW10.1; have c10W1 := hW10.2.1
    have c10G0 := hG10.1; have c10G1 := hG10.2.1
    have hY10 := RowIn.mk hoY (Nat.le_refl _)
    go_wp2_with fail
    (with_reducible refine (eqRowI hX10 hY10 (by omega)).mono ?_)
    rintro e w11 ⟨rfl, hb11⟩
    have hp11 := hp10.trans hb11
    have z11 : w10.heap.size ≤ w11.heap.size := hb11.sz
    have q11_0 : w11.cell? ⟨w.heap.size, 0, none⟩ = some (.int .i64 p) := hb11.keep q10_0; have q11_1 : w11.cell? ⟨w.heap.size, 1, none⟩ = some (.int .i64 c) := hb11.keep q10_1; have q11_2 : w11.cell? ⟨w.heap.size, 2, none⟩ = some (.int .i64 h) := hb11.keep q10_2; have q11_3 : w11.cell? ⟨w.heap.size, 3, none⟩ = some (.int .i64 s) := hb11.keep q10_3
    have hW11 := hW10.past hb11
    have hX11 := hX10.past hb11
    have hG11 := hG10.past hb11
    have c11W0 := hW11.1; have c11W1 := hW11.2.1
    have c11G0 := hG11.1; have c11G1 := hG11.2.1
    go_wp2_with fail
    (with_reducible refine (markRowI hX11 1 (by omega) (by omega) (by omega)).mono ?_)
    rintro e w12 ⟨rfl, hK12, hT12⟩
    have z12 : w11.heap.size ≤ w12.heap.size := hT12.sz
    have hp12 := hT12.past hp11 (by omega)
    have q12_0 : w12.cell? ⟨w.heap.size, 0, none⟩ = some (.int .i64 p) := hT12.cell q11_0 (.inl (by simp only; omega)); have q12_1 : w12.cell? ⟨w.heap.size, 1, none⟩ = some (.int .i64 c) := hT12.cell q11_1 (.inl (by simp only; omega)); have q12_2 : w12.cell? ⟨w.heap.size, 2, none⟩ = some (.int .i64 h) := hT12.cell q11_2 (.inl (by simp only; omega)); have q12_3 : w12.cell? ⟨w.heap.size, 3, none⟩ = some (.int .i64 s) := hT12.cell q11_3 (.inl (by simp only; omega))
    have hW12 := hW11.turn hT12 (by omega)
    have hX12 := hK12
    have hG12 := hG11.turn hT12 (by omega)
    have c12W0 := hW12.1; have c12W1 := hW12.2.1
    have c12G0 := hG12.1; have c12G1 := hG12.2.1
    go_wp2_with fail
    (with_reducible refine (eqBox hG12 hW12 (by omega) (by omega)).mono ?_)
    rintro e w13 ⟨rfl, hb13⟩
    have hp13 := hp12.trans hb13
    have z13 : w12.heap.size ≤ w13.heap.size := hb13.sz
    have q13_0 : w13.cell? ⟨w.heap.size, 0, none⟩ = some (.int .i64 p) := hb13.keep q12_0; have q13_1 : w13.cell? ⟨w.heap.size, 1, none⟩ = some (.int .i64 c) := hb13.keep q12_1; have q13_2 : w13.cell? ⟨w.heap.size, 2, none⟩ = some (.int .i64 h) := hb13.keep q12_2; have q13_3 : w13.cell? ⟨w.heap.size, 3, none⟩ = some (.int .i64 s) := hb13.keep q12_3
    have hW13 := hW12.past hb13
    have hG13 := hG12.past hb13
    have c13W0 := hW13.1; have c13W1 := hW13.2.1
    have c13G0 := hG13.1; have c13G1 := hG13.2.1
    go_wp2_with fail
    (with_reducible refine (markBox hG13 1 (by omega) (by omega) (by omega) (by omega)).mono ?_)
    rintro e w14 ⟨rfl, hK14, hT14⟩
    have z14 : w13.heap.size ≤ w14.heap.size := hT14.sz
    have hp14 := hT14.past hp13 (by omega)
    have q14_0 : w14.cell? ⟨w.heap.size, 0, none⟩ = some (.int .i64 p) := hT14.cell q13_0 (.inl (by simp only; omega)); have q14_1 : w14.cell? ⟨w.heap.size, 1, none⟩ = some (.int .i64 c) := hT14.cell q13_1 (.inl (by simp only; omega)); have q14_2 : w14.cell? ⟨w.heap.size, 2, none⟩ = some (.int .i64 h) := hT14.cell q13_2 (.inl (by simp only; omega)); have q14_3 : w14.cell? ⟨w.heap.size, 3, none⟩ = some (.int .i64 s) := hT14.cell q13_3 (.inl (by simp only; omega))
    have hW14 := hW13.turn hT14 (by omega)
    have hG14 := hK14
    have c14W0 := hW14.1; have c14W1 := hW14.2.1
    have c14G0 := hG14.1; have c14G1 := hG14.2.1
    go_wp2_with fail
    (with_reducible refine (heldBox hG14 (by omega) (by omega) (by omega) (by omega)).mono ?_)
    rintro e w15 ⟨rfl, hb15⟩
    have hp15 := hp14.trans hb15
    have z15 : w14.heap.size ≤ w15.heap.size := hb15.sz
    have q15_0 : w15.cell? ⟨w.heap.size, 0, none⟩ = some (.int .i64 p) := hb15.keep q14_0; have q15_1 : w15.cell? ⟨w.heap.size, 1, none⟩ = some (.int .i64 c) := hb15.keep q14_1; have q15_2 : w15.cell? ⟨w.heap.size, 2, none⟩ = some (.int .i64 h) := hb15.keep q14_2; have q15_3 : w15.cell? ⟨w.heap.size, 3, none⟩ = some (.int .i64 s) := hb15.keep q14_3
    have hW15 := hW14.past hb15
    have hG15 := hG14.past hb15
    have c15W0 := hW15.1; have c15W1 := hW15.2.1
    have c15G0 := hG15.1; have c15G1 := hG15.2.1
    go_wp2_with fail
    (with_reducible refine (toVar_any _ _ _ _ _).mono ?_)
    rintro e w16 ⟨rfl, hb16⟩
    have hp16 := hp15.trans hb16
    have z16 : w15.heap.size ≤ w16.heap.size := hb16.sz
    have q16_0 : w16.cell? ⟨w.heap.size, 0, none⟩ = some (.int .i64 p) := hb16.keep q15_0; have q16_1 : w16.cell? ⟨w.heap.size, 1, none⟩ = some (.int .i64 c) := hb16.keep q15_1; have q16_2 : w16.cell? ⟨w.heap.size, 2, none⟩ = some (.int .i64 h) := hb16.keep q15_2; have q16_3 : w16.cell? ⟨w.heap.size, 3, none⟩ = some (.int .i64 s) := hb16.keep q15_3
    have hW16 := hW15.past hb16
    have hG16 := hG15.past hb16
    have c16W0 := hW16.1; have c16W1 := hW16.2.1
    have c16G0 := hG16.1; have c16G1 := hG16.2.1
    go_wp2_with fail
    (with_reducible refine (toInts' _ _ _ _ _ (hx.past hp16) hn).mono ?_)
    rintro e w17 ⟨gZ, rfl, hoZ, _, _, hb17⟩
    have hp17 := hp16.trans hb17
    have z17 : w16.heap.size ≤ w17.heap.size := hb17.sz
    have q17_0 : w17.cell? ⟨w.heap.size, 0, none⟩ = some (.int .i64 p) := hb17.keep q16_0; have q17_1 : w17.cell? ⟨w.heap.size, 1, none⟩ = some (.int .i64 c) := hb17.keep q16_1; have q17_2 : w17.cell? ⟨w.heap.size, 2, none⟩ = some (.int .i64 h) := hb17.keep q16_2; have q17_3 : w17.cell? ⟨w.heap.size, 3, none⟩ = some (.int .i64 s) := hb17.keep q16_3
    have hW17 := hW16.past hb17
    have hG17 := hG16.past hb17
    have c17W0 := hW17.1; have c17W1 := hW17.2.1
    have c17G0 := hG17.1; have c17G1 := hG17.2.1
    have hZ17 := RowIn.mk hoZ (Nat.le_refl _)
    go_wp2_with fail
    (with_reducible refine (boardOfBits_any _ _ _ _ _ _ _ _ _ hZ17.rd hn).mono ?_)
    rintro e w18 ⟨AH, kH, DH, lH, rfl, hvH, hb18⟩
    have hp18 := hp17.trans hb18
    have z18 : w17.heap.size ≤ w18.heap.size := hb18.sz
    have q18_0 : w18.cell? ⟨w.heap.size, 0, none⟩ = some (.int .i64 p) := hb18.keep q17_0; have q18_1 : w18.cell? ⟨w.heap.size, 1, none⟩ = some (.int .i64 c) := hb18.keep q17_1; have q18_2 : w18.cell? ⟨w.heap.size, 2, none⟩ = some (.int .i64 h) := hb18.keep q17_2; have q18_3 : w18.cell? ⟨w.heap.size, 3, none⟩ = some (.int .i64 s) := hb18.keep q17_3
    have hW18 := hW17.past hb18
    have hG18 := hG17.past hb18
    have hZ18 := hZ17.past hb18
    have c18W0 := hW18.1; have c18W1 := hW18.2.1
    have c18G0 := hG18.1; have c18G1 := hG18.2.1
    have hl18_0 : w.heap.size < w18.heap.size := by omega
    have hl18W := World.block_lt_of_cell? w18 _ c18W0
    simp only at hl18W
    have hl18G := World.block_lt_of_cell? w18 _ c18G0
    simp only at hl18G
    go_wp2_with fail
    have hNH := box_alloc 26 hvH (Nat.le_refl _) hb18
    have hb19 := (Past.refl w18).alloc (.cells #[.slice AH (obL p c h s xs).length kH, .slice DH (obM p c h s xs).length lH] 26)
    generalize w18.alloc (.cells #[.slice AH (obL p c h s xs).length kH, .slice DH (obM p c h s xs).length lH] 26) = w19 at hNH hb19 ⊢
    have hp19 := hp18.trans hb19
    have z19 : w18.heap.size ≤ w19.heap.size := hb19.sz
    have q19_0 : w19.cell? ⟨w.heap.size, 0, none⟩ = some (.int .i64 p) := hb19.keep q18_0; have q19_1 : w19.cell? ⟨w.heap.size, 1, none⟩ = some (.int .i64 c) := hb19.keep q18_1; have q19_2 : w19.cell? ⟨w.heap.size, 2, none⟩ = some (.int .i64 h) := hb19.keep q18_2; have q19_3 : w19.cell? ⟨w.heap.size, 3, none⟩ = some (.int .i64 s) := hb19.keep q18_3
    have hW19 := hW18.past hb19
    have hG19 := hG18.past hb19
    have hZ19 := hZ18.past hb19
    have c19W0 := hW19.1; have c19W1 := hW19.2.1
    have c19G0 := hG19.1; have c19G1 := hG19.2.1
    have hH19 := BoxIn.of_at hNH
    clear hNH
    have c19H0 := hH19.1; have c19H1 := hH19.2.1
    go_wp2_with fail
    (with_reducible refine (eqBox hH19 hW19 (by omega) (by omega)).mono ?_)
    rintro e w20 ⟨rfl, hb20⟩
    have hp20 := hp19.trans hb20
    have z20 : w19.heap.size ≤ w20.heap.size := hb20.sz
    have q20_0 : w20.cell? ⟨w.heap.size, 0, none⟩ = some (.int .i64 p) := hb20.keep q19_0; have q20_1 : w20.cell? ⟨w.heap.size, 1, none⟩ = some (.int .i64 c) := hb20.keep q19_1; have q20_2 : w20.cell? ⟨w.heap.size, 2, none⟩ = some (.int .i64 h) := hb20.keep q19_2; have q20_3 : w20.cell? ⟨w.heap.size, 3, none⟩ = some (.int .i64 s) := hb20.keep q19_3
    have hW20 := hW19.past hb20
    have hG20 := hG19.past hb20
    have hH20 := hH19.past hb20
    have c20W0 := hW20.1; have c20W1 := hW20.2.1
    have c20G0 := hG20.1; have c20G1 := hG20.2.1
    have c20H0 := hH20.1; have c20H1 := hH20.2.1
    go_wp2_with fail
    (with_reducible refine (heldBox hG20 (by omega) (by omega) (by omega) (by omega)).mono ?_)
    rintro e w21 ⟨rfl, hb21⟩
    have hp21 := hp20.trans hb21
    have z21 : w20.heap.size ≤ w21.heap.size := hb21.sz
    have q21_0 : w21.cell? ⟨w.heap.size, 0, none⟩ = some (.int .i64 p) := hb21.keep q20_0; have q21_1 : w21.cell? ⟨w.heap.size, 1, none⟩ = some (.int .i64 c) := hb21.keep q20_1; have q21_2 : w21.cell? ⟨w.heap.size, 2, none⟩ = some (.int .i64 h) := hb21.keep q20_2; have q21_3 : w21.cell? ⟨w.heap.size, 3, none⟩ = some (.int .i64 s) := hb21.keep q20_3
    have hW21 := hW20.past hb21
    have hG21 := hG20.past hb21
    have hH21 := hH20.past hb21
    have c21W0 := hW21.1; have c21W1 := hW21.2.1
    have c21G0 := hG21.1; have c21G1 := hG21.2.1
    have c21H0 := hH21.1; have c21H1 := hH21.2.1
    go_wp2
    go_ret
    exact ⟨rfl, hp21⟩
end Go.Proofs.Ytmpfjnjlocfhdaa
