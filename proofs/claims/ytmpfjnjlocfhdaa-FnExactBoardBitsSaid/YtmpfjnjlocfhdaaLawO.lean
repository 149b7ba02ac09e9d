/-
  The walk of the law on the bits of a board.
-/
import Derived.Test.YtmpfjnjlocfhdaaBits
import Derived.Test.YtmpfjnjlocfhdaaRowI
import Derived.Deep.DeepCutAuto
namespace Go.Proofs.Ytmpfjnjlocfhdaa
open Go.ChangeShapes Go.WideShapes Go.ChangeAt Go.RowKit Go.Joins

set_option maxHeartbeats 8000000 in
set_option maxRecDepth 100000 in
theorem FnExactBoardBits.walk (w : World) (p c h s : Int) (_ : I64 p) (_ : I64 c) (_ : I64 h) (_ : I64 s) (A : Option Addr) (n k : Nat) (xs : List Int) (D : Option Addr) (m l : Nat) (ys : List Int) (hx : RdI w A n xs ∧ n ≤ maxLen) (hy : RdI w D m ys ∧ m ≤ maxLen) :
    Calls Try.prog 7 #[.agg #[.int .i64 p, .int .i64 c, .int .i64 h, .int .i64 s], .agg #[.slice A n k, .slice D m l]] w fun e w' => e = .returned (.bool true) ∧ Past w w' := by
  obtain ⟨hx, bn⟩ := hx
  obtain ⟨hy, bm⟩ := hy
  unfold maxLen at bn bm
  by_cases hfit : n + m ≤ 1048576
  · have hn : n ≤ 1048576 := by omega
    have hm : m ≤ 1048576 := by omega
    have hL := bbL_le p c h s xs ys
    obtain ⟨w0, hw0⟩ : ∃ w0 : World, w0 = ((w.alloc (.cells #[.int .i64 p, .int .i64 c, .int .i64 h, .int .i64 s] 23)).alloc (.cells #[.slice A n k, .slice D m l] 44)) := ⟨_, rfl⟩
    have hp0 : Past w w0 := by rw [hw0]; exact (by repeat (first | exact Past.refl _ | assumption | refine Past.alloc ?_ _ | refine Past.drew ?_ | refine Past.drewN ?_ _ | refine Past.setCell ?_ (by first | (simp; done) | (simp <;> omega)) _ | refine Past.trans ?_ (past_over _ _) | refine Past.trans ?_ (by assumption)))
    have q0_0 : w0.cell? ⟨w.heap.size, 0, none⟩ = some (.int .i64 p) := by rw [hw0]; simp [go_sem]
    have q0_1 : w0.cell? ⟨w.heap.size, 1, none⟩ = some (.int .i64 c) := by rw [hw0]; simp [go_sem]
    have q0_2 : w0.cell? ⟨w.heap.size, 2, none⟩ = some (.int .i64 h) := by rw [hw0]; simp [go_sem]
    have q0_3 : w0.cell? ⟨w.heap.size, 3, none⟩ = some (.int .i64 s) := by rw [hw0]; simp [go_sem]
    have q0_4 : w0.cell? ⟨w.heap.size + 1, 0, none⟩ = some (.slice A n k) := by rw [hw0]; simp [go_sem]
    have q0_5 : w0.cell? ⟨w.heap.size + 1, 1, none⟩ = some (.slice D m l) := by rw [hw0]; simp [go_sem]
    have zs0 : w0.heap.size = w.heap.size + 2 := by rw [hw0]; simp [go_sem]
    have zw0 : w.heap.size < w0.heap.size := by omega
    have zw1 : w.heap.size + 1 < w0.heap.size := by omega
    have zw : w.heap.size ≤ w0.heap.size := by omega
    clear zs0
    go_enter Try.func7, Try.ntmps7
    go_upto_region 1 with fail
    rw [← hw0]
    clear hw0
    go_wp2_with fail
    (with_reducible refine (szBoard_fits _ _ _ _ _ _ _ hfit).mono ?_)
    rintro e w1 ⟨rfl, hb1⟩
    have hp1 := hp0.trans hb1
    have z01 : w0.heap.size ≤ w1.heap.size := hb1.sz
    have q1_0 : w1.cell? ⟨w.heap.size, 0, none⟩ = some (.int .i64 p) := hb1.keep (by first | assumption | (simp; done) | (simp [go_sem]; done)); have q1_1 : w1.cell? ⟨w.heap.size, 1, none⟩ = some (.int .i64 c) := hb1.keep (by first | assumption | (simp; done) | (simp [go_sem]; done)); have q1_2 : w1.cell? ⟨w.heap.size, 2, none⟩ = some (.int .i64 h) := hb1.keep (by first | assumption | (simp; done) | (simp [go_sem]; done)); have q1_3 : w1.cell? ⟨w.heap.size, 3, none⟩ = some (.int .i64 s) := hb1.keep (by first | assumption | (simp; done) | (simp [go_sem]; done)); have q1_4 : w1.cell? ⟨w.heap.size + 1, 0, none⟩ = some (.slice A n k) := hb1.keep (by first | assumption | (simp; done) | (simp [go_sem]; done)); have q1_5 : w1.cell? ⟨w.heap.size + 1, 1, none⟩ = some (.slice D m l) := hb1.keep (by first | assumption | (simp; done) | (simp [go_sem]; done))
    go_upto_region 5 with fail
    go_region_held3 (fun w' => w'.cell? ⟨w.heap.size, 0, none⟩ = some (.int .i64 p) ∧ w'.cell? ⟨w.heap.size, 1, none⟩ = some (.int .i64 c) ∧ w'.cell? ⟨w.heap.size, 2, none⟩ = some (.int .i64 h) ∧ w'.cell? ⟨w.heap.size, 3, none⟩ = some (.int .i64 s) ∧ w'.cell? ⟨w.heap.size + 1, 0, none⟩ = some (.slice A n k) ∧ w'.cell? ⟨w.heap.size + 1, 1, none⟩ = some (.slice D m l) ∧ Past (w1) w') (first | (go_split_ands; refine ⟨?_, ?_, ?_, ?_, ?_, ?_, ?_⟩ <;> first | assumption | (refine Past.keep hb2 ?_; assumption) | (refine Past.keepz hb2 ⟨_, by assumption⟩ ?_; assumption) | (refine Past.trans ?_ hb2; first | assumption | exact Past.drew (Past.refl _) | exact Past.drew (by assumption)) | (refine Past.drew ?_; assumption)) | (refine ⟨?_, ?_, ?_, ?_, ?_, ?_, Past.drew (Past.refl _)⟩ <;> first | assumption | (simp; done))) (first | (go_at_call 16; (with_reducible refine (toVar_any _ _ _ _ _).mono ?_); rintro e w2 ⟨rfl, hb2⟩) | (go_at_call 33; (with_reducible refine (toBoard_any _ _ _ _ _ _ _ _ _ (hx.past (by repeat (first | exact Past.refl _ | assumption | refine Past.alloc ?_ _ | refine Past.drew ?_ | refine Past.drewN ?_ _ | refine Past.setCell ?_ (by first | (simp; done) | (simp <;> omega)) _ | refine Past.trans ?_ (past_over _ _) | refine Past.trans ?_ (by assumption)))) (hy.past (by repeat (first | exact Past.refl _ | assumption | refine Past.alloc ?_ _ | refine Past.drew ?_ | refine Past.drewN ?_ _ | refine Past.setCell ?_ (by first | (simp; done) | (simp <;> omega)) _ | refine Past.trans ?_ (past_over _ _) | refine Past.trans ?_ (by assumption)))) hn hm).mono ?_); rintro e w2 ⟨b, d, rfl, hob, hod, hbd, hb2⟩) | (go_at_call 32; (with_reducible refine (sBoardBits _ _ _ _ _ _ _ _ _ _ _ _ _ _ _ (hob.rd.past (by repeat (first | exact Past.refl _ | assumption | refine Past.alloc ?_ _ | refine Past.drew ?_ | refine Past.drewN ?_ _ | refine Past.setCell ?_ (by first | (simp; done) | (simp <;> omega)) _ | refine Past.trans ?_ (past_over _ _) | refine Past.trans ?_ (by assumption)))) (hod.rd.past (by repeat (first | exact Past.refl _ | assumption | refine Past.alloc ?_ _ | refine Past.drew ?_ | refine Past.drewN ?_ _ | refine Past.setCell ?_ (by first | (simp; done) | (simp <;> omega)) _ | refine Past.trans ?_ (past_over _ _) | refine Past.trans ?_ (by assumption)))) hn hm).mono ?_); rintro e w2 ⟨A2, k2, rfl, hor, hb2⟩; replace hor := OwI.less hor (Past.sz (a := w1) (by repeat (first | exact Past.refl _ | assumption | refine Past.alloc ?_ _ | refine Past.drew ?_ | refine Past.drewN ?_ _ | refine Past.setCell ?_ (by first | (simp; done) | (simp <;> omega)) _ | refine Past.trans ?_ (past_over _ _) | refine Past.trans ?_ (by assumption))))))
    go_split_ands
    replace hb2 : Past w1 w2 := by assumption
    have hB2 := RowIn.mk hor (Nat.le_refl _)
    clear hor
    have hp2 := hp1.trans hb2
    have z12 : w1.heap.size ≤ w2.heap.size := hb2.sz
    have q2_0 : w2.cell? ⟨w.heap.size, 0, none⟩ = some (.int .i64 p) := hb2.keep (by first | assumption | (simp; done) | (simp [go_sem]; done)); have q2_1 : w2.cell? ⟨w.heap.size, 1, none⟩ = some (.int .i64 c) := hb2.keep (by first | assumption | (simp; done) | (simp [go_sem]; done)); have q2_2 : w2.cell? ⟨w.heap.size, 2, none⟩ = some (.int .i64 h) := hb2.keep (by first | assumption | (simp; done) | (simp [go_sem]; done)); have q2_3 : w2.cell? ⟨w.heap.size, 3, none⟩ = some (.int .i64 s) := hb2.keep (by first | assumption | (simp; done) | (simp [go_sem]; done)); have q2_4 : w2.cell? ⟨w.heap.size + 1, 0, none⟩ = some (.slice A n k) := hb2.keep (by first | assumption | (simp; done) | (simp [go_sem]; done)); have q2_5 : w2.cell? ⟨w.heap.size + 1, 1, none⟩ = some (.slice D m l) := hb2.keep (by first | assumption | (simp; done) | (simp [go_sem]; done))
    go_wp2_with fail
    (with_reducible refine (toBoard_any _ _ _ _ _ _ _ _ _ (hx.past hp2) (hy.past hp2) hn hm).mono ?_)
    rintro e w3 ⟨b1, d1, rfl, hob1, hod1, hbd1, hb3⟩
    have hp3 := hp2.trans hb3
    have z23 : w2.heap.size ≤ w3.heap.size := hb3.sz
    have q3_0 : w3.cell? ⟨w.heap.size, 0, none⟩ = some (.int .i64 p) := hb3.keep (by first | assumption | (simp; done) | (simp [go_sem]; done)); have q3_1 : w3.cell? ⟨w.heap.size, 1, none⟩ = some (.int .i64 c) := hb3.keep (by first | assumption | (simp; done) | (simp [go_sem]; done)); have q3_2 : w3.cell? ⟨w.heap.size, 2, none⟩ = some (.int .i64 h) := hb3.keep (by first | assumption | (simp; done) | (simp [go_sem]; done)); have q3_3 : w3.cell? ⟨w.heap.size, 3, none⟩ = some (.int .i64 s) := hb3.keep (by first | assumption | (simp; done) | (simp [go_sem]; done)); have q3_4 : w3.cell? ⟨w.heap.size + 1, 0, none⟩ = some (.slice A n k) := hb3.keep (by first | assumption | (simp; done) | (simp [go_sem]; done)); have q3_5 : w3.cell? ⟨w.heap.size + 1, 1, none⟩ = some (.slice D m l) := hb3.keep (by first | assumption | (simp; done) | (simp [go_sem]; done))
    have hW3 := hB2.past hb3
    go_wp2_with fail
    have hX4 := BoxIn.new 26 hob1 hod1 hbd1 hb3.sz
    have hb4 := (Past.refl w3).alloc (.cells #[.slice (some ⟨b1, 0, none⟩) n n, .slice (some ⟨d1, 0, none⟩) m m] 26)
    have z34 : w3.heap.size + 1 ≤ (w3.alloc (.cells #[.slice (some ⟨b1, 0, none⟩) n n, .slice (some ⟨d1, 0, none⟩) m m] 26)).heap.size := by simp
    generalize w3.alloc (.cells #[.slice (some ⟨b1, 0, none⟩) n n, .slice (some ⟨d1, 0, none⟩) m m] 26) = w4 at hX4 hb4 z34 ⊢
    have hp4 := hp3.trans hb4
    have q4_0 : w4.cell? ⟨w.heap.size, 0, none⟩ = some (.int .i64 p) := hb4.keep (by first | assumption | (simp; done) | (simp [go_sem]; done)); have q4_1 : w4.cell? ⟨w.heap.size, 1, none⟩ = some (.int .i64 c) := hb4.keep (by first | assumption | (simp; done) | (simp [go_sem]; done)); have q4_2 : w4.cell? ⟨w.heap.size, 2, none⟩ = some (.int .i64 h) := hb4.keep (by first | assumption | (simp; done) | (simp [go_sem]; done)); have q4_3 : w4.cell? ⟨w.heap.size, 3, none⟩ = some (.int .i64 s) := hb4.keep (by first | assumption | (simp; done) | (simp [go_sem]; done)); have q4_4 : w4.cell? ⟨w.heap.size + 1, 0, none⟩ = some (.slice A n k) := hb4.keep (by first | assumption | (simp; done) | (simp [go_sem]; done)); have q4_5 : w4.cell? ⟨w.heap.size + 1, 1, none⟩ = some (.slice D m l) := hb4.keep (by first | assumption | (simp; done) | (simp [go_sem]; done))
    have hW4 := hW3.past hb4
    have hx1 := hX4.2.2.2.1.rd
    have hy1 := hX4.2.2.2.2.1.rd
    have c4X0 := hX4.1; have c4X1 := hX4.2.1
    go_region_held3 (fun w' => w'.cell? ⟨w.heap.size, 0, none⟩ = some (.int .i64 p) ∧ w'.cell? ⟨w.heap.size, 1, none⟩ = some (.int .i64 c) ∧ w'.cell? ⟨w.heap.size, 2, none⟩ = some (.int .i64 h) ∧ w'.cell? ⟨w.heap.size, 3, none⟩ = some (.int .i64 s) ∧ w'.cell? ⟨w.heap.size + 1, 0, none⟩ = some (.slice A n k) ∧ w'.cell? ⟨w.heap.size + 1, 1, none⟩ = some (.slice D m l) ∧ w'.cell? ⟨w3.heap.size, 0, none⟩ = some (.slice (some ⟨b1, 0, none⟩) n n) ∧ w'.cell? ⟨w3.heap.size, 1, none⟩ = some (.slice (some ⟨d1, 0, none⟩) m m) ∧ Past (w4) w') (first | (go_split_ands; refine ⟨?_, ?_, ?_, ?_, ?_, ?_, ?_, ?_, ?_⟩ <;> first | assumption | (refine Past.keep hb5 ?_; assumption) | (refine Past.keepz hb5 ⟨_, by assumption⟩ ?_; assumption) | (refine Past.trans ?_ hb5; first | assumption | exact Past.drew (Past.refl _) | exact Past.drew (by assumption)) | (refine Past.drew ?_; assumption)) | (refine ⟨?_, ?_, ?_, ?_, ?_, ?_, ?_, ?_, Past.drew (Past.refl _)⟩ <;> first | assumption | (simp; done))) (first | (go_at_call 16; (with_reducible refine (toVar_any _ _ _ _ _).mono ?_); rintro e w5 ⟨rfl, hb5⟩) | (go_at_call 34; (with_reducible refine (boardBits _ _ _ _ _ _ _ _ _ _ _ _ _ _ _ (hx1.past (by repeat (first | exact Past.refl _ | assumption | refine Past.alloc ?_ _ | refine Past.drew ?_ | refine Past.drewN ?_ _ | refine Past.setCell ?_ (by first | (simp; done) | (simp <;> omega)) _ | refine Past.trans ?_ (past_over _ _) | refine Past.trans ?_ (by assumption)))) (hy1.past (by repeat (first | exact Past.refl _ | assumption | refine Past.alloc ?_ _ | refine Past.drew ?_ | refine Past.drewN ?_ _ | refine Past.setCell ?_ (by first | (simp; done) | (simp <;> omega)) _ | refine Past.trans ?_ (past_over _ _) | refine Past.trans ?_ (by assumption)))) hn hm).mono ?_); rintro e w5 ⟨A5, k5, rfl, hor, hb5⟩; replace hor := OwI.less hor (Past.sz (a := w4) (by repeat (first | exact Past.refl _ | assumption | refine Past.alloc ?_ _ | refine Past.drew ?_ | refine Past.drewN ?_ _ | refine Past.setCell ?_ (by first | (simp; done) | (simp <;> omega)) _ | refine Past.trans ?_ (past_over _ _) | refine Past.trans ?_ (by assumption))))))
    go_split_ands
    replace hb5 : Past w4 w5 := by assumption
    have hB5 := RowIn.mk hor (Nat.le_refl _)
    clear hor
    have hp5 := hp4.trans hb5
    have z45 : w4.heap.size ≤ w5.heap.size := hb5.sz
    have q5_0 : w5.cell? ⟨w.heap.size, 0, none⟩ = some (.int .i64 p) := hb5.keep (by first | assumption | (simp; done) | (simp [go_sem]; done)); have q5_1 : w5.cell? ⟨w.heap.size, 1, none⟩ = some (.int .i64 c) := hb5.keep (by first | assumption | (simp; done) | (simp [go_sem]; done)); have q5_2 : w5.cell? ⟨w.heap.size, 2, none⟩ = some (.int .i64 h) := hb5.keep (by first | assumption | (simp; done) | (simp [go_sem]; done)); have q5_3 : w5.cell? ⟨w.heap.size, 3, none⟩ = some (.int .i64 s) := hb5.keep (by first | assumption | (simp; done) | (simp [go_sem]; done)); have q5_4 : w5.cell? ⟨w.heap.size + 1, 0, none⟩ = some (.slice A n k) := hb5.keep (by first | assumption | (simp; done) | (simp [go_sem]; done)); have q5_5 : w5.cell? ⟨w.heap.size + 1, 1, none⟩ = some (.slice D m l) := hb5.keep (by first | assumption | (simp; done) | (simp [go_sem]; done))
    have hW5 := hW4.past hb5
    have hX5 := hX4.past hb5
    have hG5 := hB5
    clear hB5 hB2 hW3 hW4 hx1 hy1
    have c5X0 := hX5.1; have c5X1 := hX5.2.1
    go_wp2_with fail
    (with_reducible refine (eqRowI hG5 hW5 (by omega)).mono ?_)
    rintro e w6 ⟨rfl, hb6⟩
    have hp6 := hp5.trans hb6
    have z56 : w5.heap.size ≤ w6.heap.size := hb6.sz
    have q6_0 : w6.cell? ⟨w.heap.size, 0, none⟩ = some (.int .i64 p) := hb6.keep (by first | assumption | (simp; done) | (simp [go_sem]; done)); have q6_1 : w6.cell? ⟨w.heap.size, 1, none⟩ = some (.int .i64 c) := hb6.keep (by first | assumption | (simp; done) | (simp [go_sem]; done)); have q6_2 : w6.cell? ⟨w.heap.size, 2, none⟩ = some (.int .i64 h) := hb6.keep (by first | assumption | (simp; done) | (simp [go_sem]; done)); have q6_3 : w6.cell? ⟨w.heap.size, 3, none⟩ = some (.int .i64 s) := hb6.keep (by first | assumption | (simp; done) | (simp [go_sem]; done)); have q6_4 : w6.cell? ⟨w.heap.size + 1, 0, none⟩ = some (.slice A n k) := hb6.keep (by first | assumption | (simp; done) | (simp [go_sem]; done)); have q6_5 : w6.cell? ⟨w.heap.size + 1, 1, none⟩ = some (.slice D m l) := hb6.keep (by first | assumption | (simp; done) | (simp [go_sem]; done))
    have hX6 := hX5.past hb6
    have hx1 := hX6.2.2.2.1.rd
    have hy1 := hX6.2.2.2.2.1.rd
    have c6X0 := hX6.1; have c6X1 := hX6.2.1
    go_wp2_with fail
    go_region_held3 (fun w' => w'.cell? ⟨w.heap.size, 0, none⟩ = some (.int .i64 p) ∧ w'.cell? ⟨w.heap.size, 1, none⟩ = some (.int .i64 c) ∧ w'.cell? ⟨w.heap.size, 2, none⟩ = some (.int .i64 h) ∧ w'.cell? ⟨w.heap.size, 3, none⟩ = some (.int .i64 s) ∧ w'.cell? ⟨w.heap.size + 1, 0, none⟩ = some (.slice A n k) ∧ w'.cell? ⟨w.heap.size + 1, 1, none⟩ = some (.slice D m l) ∧ w'.cell? ⟨w3.heap.size, 0, none⟩ = some (.slice (some ⟨b1, 0, none⟩) n n) ∧ w'.cell? ⟨w3.heap.size, 1, none⟩ = some (.slice (some ⟨d1, 0, none⟩) m m) ∧ Past (w6) w') (first | (go_split_ands; refine ⟨?_, ?_, ?_, ?_, ?_, ?_, ?_, ?_, ?_⟩ <;> first | assumption | (refine Past.keep hb7 ?_; assumption) | (refine Past.keepz hb7 ⟨_, by assumption⟩ ?_; assumption) | (refine Past.trans ?_ hb7; first | assumption | exact Past.drew (Past.refl _) | exact Past.drew (by assumption)) | (refine Past.drew ?_; assumption)) | (refine ⟨?_, ?_, ?_, ?_, ?_, ?_, ?_, ?_, Past.drew (Past.refl _)⟩ <;> first | assumption | (simp; done))) (first | (go_at_call 33; (with_reducible refine (toBoard_any _ _ _ _ _ _ _ _ _ (hx.past (by repeat (first | exact Past.refl _ | assumption | refine Past.alloc ?_ _ | refine Past.drew ?_ | refine Past.drewN ?_ _ | refine Past.setCell ?_ (by first | (simp; done) | (simp <;> omega)) _ | refine Past.trans ?_ (past_over _ _) | refine Past.trans ?_ (by assumption)))) (hy.past (by repeat (first | exact Past.refl _ | assumption | refine Past.alloc ?_ _ | refine Past.drew ?_ | refine Past.drewN ?_ _ | refine Past.setCell ?_ (by first | (simp; done) | (simp <;> omega)) _ | refine Past.trans ?_ (past_over _ _) | refine Past.trans ?_ (by assumption)))) hn hm).mono ?_); rintro e w7 ⟨b, d, rfl, hob, hod, hbd, hb7⟩) | (go_at_call 18; (with_reducible refine (eqBoard_same _ _ _ _ _ _ _ _ _ _ _ _ _ (hx1.past (by repeat (first | exact Past.refl _ | assumption | refine Past.alloc ?_ _ | refine Past.drew ?_ | refine Past.drewN ?_ _ | refine Past.setCell ?_ (by first | (simp; done) | (simp <;> omega)) _ | refine Past.trans ?_ (past_over _ _) | refine Past.trans ?_ (by assumption)))) (hy1.past (by repeat (first | exact Past.refl _ | assumption | refine Past.alloc ?_ _ | refine Past.drew ?_ | refine Past.drewN ?_ _ | refine Past.setCell ?_ (by first | (simp; done) | (simp <;> omega)) _ | refine Past.trans ?_ (past_over _ _) | refine Past.trans ?_ (by assumption)))) (hob.rd.past (by repeat (first | exact Past.refl _ | assumption | refine Past.alloc ?_ _ | refine Past.drew ?_ | refine Past.drewN ?_ _ | refine Past.setCell ?_ (by first | (simp; done) | (simp <;> omega)) _ | refine Past.trans ?_ (past_over _ _) | refine Past.trans ?_ (by assumption)))) (hod.rd.past (by repeat (first | exact Past.refl _ | assumption | refine Past.alloc ?_ _ | refine Past.drew ?_ | refine Past.drewN ?_ _ | refine Past.setCell ?_ (by first | (simp; done) | (simp <;> omega)) _ | refine Past.trans ?_ (past_over _ _) | refine Past.trans ?_ (by assumption)))) hn hm).mono ?_); rintro e w7 ⟨rfl, hb7⟩))
    go_split_ands
    have hb67 : Past w6 w7 := by assumption
    have hp7 := hp6.trans hb67
    have z67 : w6.heap.size ≤ w7.heap.size := hb67.sz
    have hX7 := hX6.past hb67
    have hW7 := (hW5.past hb6).past hb67
    have hG7 := (hG5.past hb6).past hb67
    have c7X0 := hX7.1; have c7X1 := hX7.2.1
    go_wp2_with fail
    (with_reducible refine (markBox hX7 1 (by omega) (by omega) (by omega) (by omega)).mono ?_)
    rintro e w8 ⟨rfl, -, hT8⟩
    have q8_0 : w8.cell? ⟨w.heap.size, 0, none⟩ = some (.int .i64 p) := hT8.cell (by assumption) (.inl (Nat.lt_of_lt_of_le zw0 (by omega))); have q8_1 : w8.cell? ⟨w.heap.size, 1, none⟩ = some (.int .i64 c) := hT8.cell (by assumption) (.inl (Nat.lt_of_lt_of_le zw0 (by omega))); have q8_2 : w8.cell? ⟨w.heap.size, 2, none⟩ = some (.int .i64 h) := hT8.cell (by assumption) (.inl (Nat.lt_of_lt_of_le zw0 (by omega))); have q8_3 : w8.cell? ⟨w.heap.size, 3, none⟩ = some (.int .i64 s) := hT8.cell (by assumption) (.inl (Nat.lt_of_lt_of_le zw0 (by omega))); have q8_4 : w8.cell? ⟨w.heap.size + 1, 0, none⟩ = some (.slice A n k) := hT8.cell (by assumption) (.inl (Nat.lt_of_lt_of_le zw1 (by omega))); have q8_5 : w8.cell? ⟨w.heap.size + 1, 1, none⟩ = some (.slice D m l) := hT8.cell (by assumption) (.inl (Nat.lt_of_lt_of_le zw1 (by omega)))
    have z78 : w7.heap.size ≤ w8.heap.size := hT8.sz
    have hp8 := hT8.past hp7 (by omega)
    have hW8 := hW7.turn hT8 (.inl (Nat.le_refl _))
    have hG8 := hG7.turn hT8 (.inr z34)
    go_wp2_with fail
    (with_reducible refine (eqRowI hG8 hW8 (by omega)).mono ?_)
    rintro e w9 ⟨rfl, hb9⟩
    have hp9 := hp8.trans hb9
    have z89 : w8.heap.size ≤ w9.heap.size := hb9.sz
    have q9_0 : w9.cell? ⟨w.heap.size, 0, none⟩ = some (.int .i64 p) := hb9.keep (by first | assumption | (simp; done) | (simp [go_sem]; done)); have q9_1 : w9.cell? ⟨w.heap.size, 1, none⟩ = some (.int .i64 c) := hb9.keep (by first | assumption | (simp; done) | (simp [go_sem]; done)); have q9_2 : w9.cell? ⟨w.heap.size, 2, none⟩ = some (.int .i64 h) := hb9.keep (by first | assumption | (simp; done) | (simp [go_sem]; done)); have q9_3 : w9.cell? ⟨w.heap.size, 3, none⟩ = some (.int .i64 s) := hb9.keep (by first | assumption | (simp; done) | (simp [go_sem]; done)); have q9_4 : w9.cell? ⟨w.heap.size + 1, 0, none⟩ = some (.slice A n k) := hb9.keep (by first | assumption | (simp; done) | (simp [go_sem]; done)); have q9_5 : w9.cell? ⟨w.heap.size + 1, 1, none⟩ = some (.slice D m l) := hb9.keep (by first | assumption | (simp; done) | (simp [go_sem]; done))
    have hW9 := hW8.past hb9
    have hG9 := hG8.past hb9
    go_wp2_with fail
    (with_reducible refine (markRowI hG9 1 (by omega) (by omega) (by omega)).mono ?_)
    rintro e w10 ⟨rfl, hG10, hT10⟩
    have q10_0 : w10.cell? ⟨w.heap.size, 0, none⟩ = some (.int .i64 p) := hT10.cell (by assumption) (.inl (Nat.lt_of_lt_of_le zw0 (by omega))); have q10_1 : w10.cell? ⟨w.heap.size, 1, none⟩ = some (.int .i64 c) := hT10.cell (by assumption) (.inl (Nat.lt_of_lt_of_le zw0 (by omega))); have q10_2 : w10.cell? ⟨w.heap.size, 2, none⟩ = some (.int .i64 h) := hT10.cell (by assumption) (.inl (Nat.lt_of_lt_of_le zw0 (by omega))); have q10_3 : w10.cell? ⟨w.heap.size, 3, none⟩ = some (.int .i64 s) := hT10.cell (by assumption) (.inl (Nat.lt_of_lt_of_le zw0 (by omega))); have q10_4 : w10.cell? ⟨w.heap.size + 1, 0, none⟩ = some (.slice A n k) := hT10.cell (by assumption) (.inl (Nat.lt_of_lt_of_le zw1 (by omega))); have q10_5 : w10.cell? ⟨w.heap.size + 1, 1, none⟩ = some (.slice D m l) := hT10.cell (by assumption) (.inl (Nat.lt_of_lt_of_le zw1 (by omega)))
    have z910 : w9.heap.size ≤ w10.heap.size := hT10.sz
    have hp10 := hT10.past hp9 (by omega)
    have hW10 := hW9.turn hT10 (.inl (by omega))
    go_wp2_with fail
    (with_reducible refine (heldRowI hG10 (by omega) (by omega) (by omega)).mono ?_)
    rintro e w11 ⟨rfl, rfl⟩
    obtain ⟨w11, hw11⟩ : ∃ w11 : World, w11 = w10 := ⟨_, rfl⟩
    have hb11 : Past w10 w11 := by rw [hw11]; exact Past.refl _
    rw [← hw11]
    clear hw11
    have hp11 := hp10.trans hb11
    have z1011 : w10.heap.size ≤ w11.heap.size := hb11.sz
    have q11_0 : w11.cell? ⟨w.heap.size, 0, none⟩ = some (.int .i64 p) := hb11.keep (by first | assumption | (simp; done) | (simp [go_sem]; done)); have q11_1 : w11.cell? ⟨w.heap.size, 1, none⟩ = some (.int .i64 c) := hb11.keep (by first | assumption | (simp; done) | (simp [go_sem]; done)); have q11_2 : w11.cell? ⟨w.heap.size, 2, none⟩ = some (.int .i64 h) := hb11.keep (by first | assumption | (simp; done) | (simp [go_sem]; done)); have q11_3 : w11.cell? ⟨w.heap.size, 3, none⟩ = some (.int .i64 s) := hb11.keep (by first | assumption | (simp; done) | (simp [go_sem]; done)); have q11_4 : w11.cell? ⟨w.heap.size + 1, 0, none⟩ = some (.slice A n k) := hb11.keep (by first | assumption | (simp; done) | (simp [go_sem]; done)); have q11_5 : w11.cell? ⟨w.heap.size + 1, 1, none⟩ = some (.slice D m l) := hb11.keep (by first | assumption | (simp; done) | (simp [go_sem]; done))
    have hW11 := hW10.past hb11
    have hG11 := hG10.past hb11
    go_wp2_with fail
    go_region_held3 (fun w' => w'.cell? ⟨w.heap.size, 0, none⟩ = some (.int .i64 p) ∧ w'.cell? ⟨w.heap.size, 1, none⟩ = some (.int .i64 c) ∧ w'.cell? ⟨w.heap.size, 2, none⟩ = some (.int .i64 h) ∧ w'.cell? ⟨w.heap.size, 3, none⟩ = some (.int .i64 s) ∧ w'.cell? ⟨w.heap.size + 1, 0, none⟩ = some (.slice A n k) ∧ w'.cell? ⟨w.heap.size + 1, 1, none⟩ = some (.slice D m l) ∧ Past (w11) w') (first | (go_split_ands; refine ⟨?_, ?_, ?_, ?_, ?_, ?_, ?_⟩ <;> first | assumption | (refine Past.keep hb12 ?_; assumption) | (refine Past.keepz hb12 ⟨_, by assumption⟩ ?_; assumption) | (refine Past.trans ?_ hb12; first | assumption | exact Past.drew (Past.refl _) | exact Past.drew (by assumption)) | (refine Past.drew ?_; assumption)) | (refine ⟨?_, ?_, ?_, ?_, ?_, ?_, Past.drew (Past.refl _)⟩ <;> first | assumption | (simp; done))) (first | (go_at_call 16; (with_reducible refine (toVar_any _ _ _ _ _).mono ?_); rintro e w12 ⟨rfl, hb12⟩) | (go_at_call 33; (with_reducible refine (toBoard_any _ _ _ _ _ _ _ _ _ (hx.past (by repeat (first | exact Past.refl _ | assumption | refine Past.alloc ?_ _ | refine Past.drew ?_ | refine Past.drewN ?_ _ | refine Past.setCell ?_ (by first | (simp; done) | (simp <;> omega)) _ | refine Past.trans ?_ (past_over _ _) | refine Past.trans ?_ (by assumption)))) (hy.past (by repeat (first | exact Past.refl _ | assumption | refine Past.alloc ?_ _ | refine Past.drew ?_ | refine Past.drewN ?_ _ | refine Past.setCell ?_ (by first | (simp; done) | (simp <;> omega)) _ | refine Past.trans ?_ (past_over _ _) | refine Past.trans ?_ (by assumption)))) hn hm).mono ?_); rintro e w12 ⟨b, d, rfl, hob, hod, hbd, hb12⟩) | (go_at_call 34; (with_reducible refine (boardBits _ _ _ _ _ _ _ _ _ _ _ _ _ _ _ (hob.rd.past (by repeat (first | exact Past.refl _ | assumption | refine Past.alloc ?_ _ | refine Past.drew ?_ | refine Past.drewN ?_ _ | refine Past.setCell ?_ (by first | (simp; done) | (simp <;> omega)) _ | refine Past.trans ?_ (past_over _ _) | refine Past.trans ?_ (by assumption)))) (hod.rd.past (by repeat (first | exact Past.refl _ | assumption | refine Past.alloc ?_ _ | refine Past.drew ?_ | refine Past.drewN ?_ _ | refine Past.setCell ?_ (by first | (simp; done) | (simp <;> omega)) _ | refine Past.trans ?_ (past_over _ _) | refine Past.trans ?_ (by assumption)))) hn hm).mono ?_); rintro e w12 ⟨A12, k12, rfl, hor, hb12⟩; replace hor := OwI.less hor (Past.sz (a := w11) (by repeat (first | exact Past.refl _ | assumption | refine Past.alloc ?_ _ | refine Past.drew ?_ | refine Past.drewN ?_ _ | refine Past.setCell ?_ (by first | (simp; done) | (simp <;> omega)) _ | refine Past.trans ?_ (past_over _ _) | refine Past.trans ?_ (by assumption))))))
    go_split_ands
    replace hb12 : Past w11 w12 := by assumption
    have hB12 := RowIn.mk hor (Nat.le_refl _)
    clear hor
    have hp12 := hp11.trans hb12
    have hW12 := hW11.past hb12
    have hG12 := hG11.past hb12
    have hH12 := hB12
    go_wp2_with fail
    (with_reducible refine (eqRowI hH12 hW12 (by omega)).mono ?_)
    rintro e w13 ⟨rfl, hb13⟩
    have hG13 := hG12.past hb13
    go_wp2_with fail
    (with_reducible refine (heldRowI hG13 (by omega) (by omega) (by omega)).mono ?_)
    rintro e w14 ⟨rfl, rfl⟩
    go_wp2
    go_ret
    exact ⟨rfl, hp12.trans hb13⟩
  · go_enter Try.func7, Try.ntmps7
    go_wp2_with (go_at_call 31; (with_reducible refine (szBoard_big _ _ _ _ _ _ _ (by omega) (by omega) (by omega)).mono ?_); rintro e w1 ⟨rfl, hb1⟩; obtain ⟨hc1, hf1, _⟩ := hb1.cells; have hz1_0 : w.heap.size < w1.heap.size := Past.lt hb1 (by first | omega | (simp <;> omega)); have hz1_1 : w.heap.size + 1 < w1.heap.size := Past.lt hb1 (by first | omega | (simp <;> omega)))
    go_ret
    exact ⟨rfl, (by repeat (first | exact Past.refl _ | assumption | refine Past.alloc ?_ _ | refine Past.drew ?_ | refine Past.drewN ?_ _ | refine Past.setCell ?_ (by first | (simp; done) | (simp <;> omega)) _ | refine Past.trans ?_ (past_over _ _) | refine Past.trans ?_ (by assumption)))⟩
end Go.Proofs.Ytmpfjnjlocfhdaa
