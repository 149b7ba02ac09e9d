/-
  Contracts: the board ahead of a step.
-/
import Derived.Test.YtapocfgajkkpdaaApply2
namespace Go.Proofs.Ytapocfgajkkpdaa
open Go.ChangeShapes Go.WideShapes Go.ChangeAt Go.RowKit Go.Joins

def unRes (X : List Int) (b l : Bool) : List Int := if (b && l) = true then X else []
def unCode (b l : Bool) : Int := if (b && l) = true then 0 else 4
set_option maxHeartbeats 4000000 in
set_option maxRecDepth 100000 in
theorem undo_off (P F : Nat) (c h s kd : Int) (b o d q n k m l : Nat) (xs ys : List Int) (w : World) (hx : RdI w (some ⟨b, o, none⟩) n xs) (hy : RdI w (some ⟨d, q, none⟩) m ys) (hn : n = P + 1) (hm : m = P + 1) (hP : P ≤ 24) (f1 : (F : Int) ≤ P) (bdx : Hid (Bd 15 xs)) (_ : Hid (Bd 15 ys)) (s1 : s ≤ 6) (HB : Hid (bOk P c h s xs ys = true)) (b2 l2 : Bool) (HB2 : Hid (bOk P c h s (upd xs (F : Int) (1)) ys = b2)) (HL2 : Hid (legB P h s (upd xs (F : Int) (1)) ys ⟨(F : Int), (-1), kd, false⟩ = l2)) :
    Calls Try.prog 55 #[.agg #[.int .i64 (P : Int), .int .i64 c, .int .i64 h, .int .i64 s], .agg #[.slice (some ⟨b, o, none⟩) n k, .slice (some ⟨d, q, none⟩) m l], .agg #[.int .i64 (F : Int), .int .i64 (-1), .int .i64 kd, .bool false]] w (BoardCode w (unRes (upd xs (F : Int) (1)) b2 l2) (unRes ys b2 l2) (unCode b2 l2)) := by
  have hn2 : n ≤ 1048576 := by omega
  have hm2 : m ≤ 1048576 := by omega
  have g1 : (P : Int) < (n : Int) := by omega
  have g2 : (P : Int) < (m : Int) := by omega
  have HN := Lib.hid hn
  have HM := Lib.hid hm
  have HF := Lib.hid (win_mk (x := (F : Int)) (lo := 0) (hi := (P : Int)) (by omega))
  have HT := Lib.hid (win_mk (x := (-1)) (lo := -1) (hi := (P : Int) - 1) (by omega))
  clear hn hm
  obtain ⟨w0, hw0⟩ : ∃ w0 : World, w0 = ((((w.alloc (.cells #[.int .i64 (P : Int), .int .i64 c, .int .i64 h, .int .i64 s] 25)).alloc (.cells #[.slice (some ⟨b, o, none⟩) n k, .slice (some ⟨d, q, none⟩) m l] 43)).alloc (.cells #[.int .i64 (F : Int), .int .i64 (-1), .int .i64 kd, .bool false] 66)).alloc (.cells #[.slice none 0 0, .slice none 0 0] 43)) := ⟨_, rfl⟩
  have hp0 : Past w w0 := by rw [hw0]; exact (by repeat (first | exact Past.refl _ | assumption | refine Past.alloc ?_ _ | refine Past.drew ?_ | refine Past.drewN ?_ _ | refine Past.setCell ?_ (by first | (simp; done) | (simp <;> omega)) _ | refine Past.trans ?_ (past_over _ _) | refine Past.trans ?_ (by assumption)))
  have q0_0 : w0.cell? ⟨w.heap.size, 0, none⟩ = some (.int .i64 (P : Int)) := by rw [hw0]; simp [go_sem]
  have q0_1 : w0.cell? ⟨w.heap.size, 1, none⟩ = some (.int .i64 c) := by rw [hw0]; simp [go_sem]
  have q0_2 : w0.cell? ⟨w.heap.size, 2, none⟩ = some (.int .i64 h) := by rw [hw0]; simp [go_sem]
  have q0_3 : w0.cell? ⟨w.heap.size, 3, none⟩ = some (.int .i64 s) := by rw [hw0]; simp [go_sem]
  have q0_4 : w0.cell? ⟨w.heap.size + 1, 0, none⟩ = some (.slice (some ⟨b, o, none⟩) n k) := by rw [hw0]; simp [go_sem]
  have q0_5 : w0.cell? ⟨w.heap.size + 1, 1, none⟩ = some (.slice (some ⟨d, q, none⟩) m l) := by rw [hw0]; simp [go_sem]
  have q0_6 : w0.cell? ⟨w.heap.size + 1 + 1, 0, none⟩ = some (.int .i64 (F : Int)) := by rw [hw0]; simp [go_sem]
  have q0_7 : w0.cell? ⟨w.heap.size + 1 + 1, 1, none⟩ = some (.int .i64 (-1)) := by rw [hw0]; simp [go_sem]
  have q0_8 : w0.cell? ⟨w.heap.size + 1 + 1, 2, none⟩ = some (.int .i64 kd) := by rw [hw0]; simp [go_sem]
  have q0_9 : w0.cell? ⟨w.heap.size + 1 + 1, 3, none⟩ = some (.bool false) := by rw [hw0]; simp [go_sem]
  have hR0 : Blk w0 (w.heap.size + 1 + 1 + 1) 43 #[.slice none 0 0, .slice none 0 0] := by rw [hw0]; exact Blk.at_ (by simp [go_sem])
  have zs : w0.heap.size = w.heap.size + 4 := by rw [hw0]; simp [go_sem]
  have zl : w.heap.size + 4 ≤ w0.heap.size := by omega
  clear zs
  go_enter Try.func55, Try.ntmps55
  go_upto_region 1 with fail
  rw [← hw0]
  clear hw0
  go_wp2_with fail
  (with_reducible refine (isBoard_b _ _ _ _ _ _ _ _ _ _ _ _ _ _ HB (hx.past hp0) (hy.past hp0) hn2 hm2).mono ?_)
  rintro e w1 ⟨rfl, hb1⟩
  have z01 : w0.heap.size ≤ w1.heap.size := hb1.sz
  have q1_0 : w1.cell? ⟨w.heap.size, 0, none⟩ = some (.int .i64 (P : Int)) := hb1.keep q0_0; have q1_1 : w1.cell? ⟨w.heap.size, 1, none⟩ = some (.int .i64 c) := hb1.keep q0_1; have q1_2 : w1.cell? ⟨w.heap.size, 2, none⟩ = some (.int .i64 h) := hb1.keep q0_2; have q1_3 : w1.cell? ⟨w.heap.size, 3, none⟩ = some (.int .i64 s) := hb1.keep q0_3; have q1_4 : w1.cell? ⟨w.heap.size + 1, 0, none⟩ = some (.slice (some ⟨b, o, none⟩) n k) := hb1.keep q0_4; have q1_5 : w1.cell? ⟨w.heap.size + 1, 1, none⟩ = some (.slice (some ⟨d, q, none⟩) m l) := hb1.keep q0_5; have q1_6 : w1.cell? ⟨w.heap.size + 1 + 1, 0, none⟩ = some (.int .i64 (F : Int)) := hb1.keep q0_6; have q1_7 : w1.cell? ⟨w.heap.size + 1 + 1, 1, none⟩ = some (.int .i64 (-1)) := hb1.keep q0_7; have q1_8 : w1.cell? ⟨w.heap.size + 1 + 1, 2, none⟩ = some (.int .i64 kd) := hb1.keep q0_8; have q1_9 : w1.cell? ⟨w.heap.size + 1 + 1, 3, none⟩ = some (.bool false) := hb1.keep q0_9
  have hR1 := hR0.past hb1
  have hp1 := hp0.trans hb1
  go_upto_region 5 with (first | (go_at_call 71; (with_reducible refine (within_b _ _ _ _ HF _).mono ?_); rintro e w9 ⟨rfl, rfl⟩) | (go_at_call 71; (with_reducible refine (within_b _ _ _ _ HT _).mono ?_); rintro e w9 ⟨rfl, rfl⟩))
  go_wp2_with fail
  (with_reducible refine (cloneBoard_any _ _ _ _ _ _ _ _ _ _ _ (hx.past hp1) (hy.past hp1) hn2 hm2).mono ?_)
  rintro e w2 ⟨ga, gd, ka, kb, rfl, hA2, hD2, hne, hb2⟩
  have q2_0 : w2.cell? ⟨w.heap.size, 0, none⟩ = some (.int .i64 (P : Int)) := hb2.keep q1_0; have q2_1 : w2.cell? ⟨w.heap.size, 1, none⟩ = some (.int .i64 c) := hb2.keep q1_1; have q2_2 : w2.cell? ⟨w.heap.size, 2, none⟩ = some (.int .i64 h) := hb2.keep q1_2; have q2_3 : w2.cell? ⟨w.heap.size, 3, none⟩ = some (.int .i64 s) := hb2.keep q1_3; have q2_4 : w2.cell? ⟨w.heap.size + 1, 0, none⟩ = some (.slice (some ⟨b, o, none⟩) n k) := hb2.keep q1_4; have q2_5 : w2.cell? ⟨w.heap.size + 1, 1, none⟩ = some (.slice (some ⟨d, q, none⟩) m l) := hb2.keep q1_5; have q2_6 : w2.cell? ⟨w.heap.size + 1 + 1, 0, none⟩ = some (.int .i64 (F : Int)) := hb2.keep q1_6; have q2_7 : w2.cell? ⟨w.heap.size + 1 + 1, 1, none⟩ = some (.int .i64 (-1)) := hb2.keep q1_7; have q2_8 : w2.cell? ⟨w.heap.size + 1 + 1, 2, none⟩ = some (.int .i64 kd) := hb2.keep q1_8; have q2_9 : w2.cell? ⟨w.heap.size + 1 + 1, 3, none⟩ = some (.bool false) := hb2.keep q1_9
  have hR2 := hR1.past hb2
  have hp2 := hp1.trans hb2
  go_upto_region 6 with fail
  have eA := own_at hA2
  have eD := own_at hD2
  have hb3 := (Past.refl w2).alloc (.cells #[.slice (some ⟨ga, 0, none⟩) n ka, .slice (some ⟨gd, 0, none⟩) m kb] 43)
  have hA3 := hA2.alloc (.cells #[.slice (some ⟨ga, 0, none⟩) n ka, .slice (some ⟨gd, 0, none⟩) m kb] 43)
  have hD3 := hD2.alloc (.cells #[.slice (some ⟨ga, 0, none⟩) n ka, .slice (some ⟨gd, 0, none⟩) m kb] 43)
  have u3_0 : (w2.alloc (.cells #[.slice (some ⟨ga, 0, none⟩) n ka, .slice (some ⟨gd, 0, none⟩) m kb] 43)).cell? ⟨w2.heap.size, 0, none⟩ = some (.slice (some ⟨ga, 0, none⟩) n ka) := by simp
  have u3_1 : (w2.alloc (.cells #[.slice (some ⟨ga, 0, none⟩) n ka, .slice (some ⟨gd, 0, none⟩) m kb] 43)).cell? ⟨w2.heap.size, 1, none⟩ = some (.slice (some ⟨gd, 0, none⟩) m kb) := by simp
  generalize w2.alloc (.cells #[.slice (some ⟨ga, 0, none⟩) n ka, .slice (some ⟨gd, 0, none⟩) m kb] 43) = w3 at hb3 hA3 hD3 u3_0 u3_1 ⊢
  have q3_0 : w3.cell? ⟨w.heap.size, 0, none⟩ = some (.int .i64 (P : Int)) := hb3.keep q2_0; have q3_1 : w3.cell? ⟨w.heap.size, 1, none⟩ = some (.int .i64 c) := hb3.keep q2_1; have q3_2 : w3.cell? ⟨w.heap.size, 2, none⟩ = some (.int .i64 h) := hb3.keep q2_2; have q3_3 : w3.cell? ⟨w.heap.size, 3, none⟩ = some (.int .i64 s) := hb3.keep q2_3; have q3_4 : w3.cell? ⟨w.heap.size + 1, 0, none⟩ = some (.slice (some ⟨b, o, none⟩) n k) := hb3.keep q2_4; have q3_5 : w3.cell? ⟨w.heap.size + 1, 1, none⟩ = some (.slice (some ⟨d, q, none⟩) m l) := hb3.keep q2_5; have q3_6 : w3.cell? ⟨w.heap.size + 1 + 1, 0, none⟩ = some (.int .i64 (F : Int)) := hb3.keep q2_6; have q3_7 : w3.cell? ⟨w.heap.size + 1 + 1, 1, none⟩ = some (.int .i64 (-1)) := hb3.keep q2_7; have q3_8 : w3.cell? ⟨w.heap.size + 1 + 1, 2, none⟩ = some (.int .i64 kd) := hb3.keep q2_8; have q3_9 : w3.cell? ⟨w.heap.size + 1 + 1, 3, none⟩ = some (.bool false) := hb3.keep q2_9
  have hR3 := hR2.past hb3
  have hp3 := hp2.trans hb3
  have c4 := hA3.cell_i (J := F) ((F : Int)) (by omega) (by omega)
  have v4 := bdx.out ((F : Int))
  have f4 : w3.frozen? ⟨ga, F, none⟩ = false := World.ownsRow.frozenAt hA3 _
  have hn4 := hA3.upd (J := F) ((F : Int)) (1) (by omega)
  have hT4 := Turn.set w3 ga (F) (.int .i64 (gAt xs ((F : Int)) + 1))
  have bd4 := Lib.hid (Bd.upd bdx.out (i := (F : Int)) (d := 1) (by omega) (by omega))
  generalize hg4 : gAt xs ((F : Int)) = y4 at c4 v4 hn4 hT4
  obtain ⟨v4a, v4b⟩ := v4
  clear hg4
  go_upto_region 12 with fail
  generalize (w3.setCell ⟨ga, F, none⟩ (.int .i64 (y4 + 1))) = w4 at hn4 hT4 ⊢
  have hA4 := hn4
  have hD4 := hD3.turn hT4 (by omega)
  have q4_0 : w4.cell? ⟨w.heap.size, 0, none⟩ = some (.int .i64 (P : Int)) := hT4.cell q3_0 (.inl (by simp only; omega)); have q4_1 : w4.cell? ⟨w.heap.size, 1, none⟩ = some (.int .i64 c) := hT4.cell q3_1 (.inl (by simp only; omega)); have q4_2 : w4.cell? ⟨w.heap.size, 2, none⟩ = some (.int .i64 h) := hT4.cell q3_2 (.inl (by simp only; omega)); have q4_3 : w4.cell? ⟨w.heap.size, 3, none⟩ = some (.int .i64 s) := hT4.cell q3_3 (.inl (by simp only; omega)); have q4_4 : w4.cell? ⟨w.heap.size + 1, 0, none⟩ = some (.slice (some ⟨b, o, none⟩) n k) := hT4.cell q3_4 (.inl (by simp only; omega)); have q4_5 : w4.cell? ⟨w.heap.size + 1, 1, none⟩ = some (.slice (some ⟨d, q, none⟩) m l) := hT4.cell q3_5 (.inl (by simp only; omega)); have q4_6 : w4.cell? ⟨w.heap.size + 1 + 1, 0, none⟩ = some (.int .i64 (F : Int)) := hT4.cell q3_6 (.inl (by simp only; omega)); have q4_7 : w4.cell? ⟨w.heap.size + 1 + 1, 1, none⟩ = some (.int .i64 (-1)) := hT4.cell q3_7 (.inl (by simp only; omega)); have q4_8 : w4.cell? ⟨w.heap.size + 1 + 1, 2, none⟩ = some (.int .i64 kd) := hT4.cell q3_8 (.inl (by simp only; omega)); have q4_9 : w4.cell? ⟨w.heap.size + 1 + 1, 3, none⟩ = some (.bool false) := hT4.cell q3_9 (.inl (by simp only; omega))
  have u4_0 : w4.cell? ⟨w2.heap.size, 0, none⟩ = some (.slice (some ⟨ga, 0, none⟩) n ka) := hT4.cell u3_0 (.inr (by simp only; omega)); have u4_1 : w4.cell? ⟨w2.heap.size, 1, none⟩ = some (.slice (some ⟨gd, 0, none⟩) m kb) := hT4.cell u3_1 (.inr (by simp only; omega))
  have hR4 := hT4.blk hR3 (.inl (by omega))
  have hp4 := Turn.past hT4 hp3 (by omega)
  have eA4 := own_at hA4
  have eD4 := own_at hD4
  go_wp2_with fail
  (with_reducible refine (isBoard_b _ _ _ _ _ _ _ _ _ _ _ _ _ _ HB2 hA4.rd hD4.rd hn2 hm2).mono ?_)
  rintro e w5 ⟨rfl, hb5⟩
  have q5_0 : w5.cell? ⟨w.heap.size, 0, none⟩ = some (.int .i64 (P : Int)) := hb5.keep q4_0; have q5_1 : w5.cell? ⟨w.heap.size, 1, none⟩ = some (.int .i64 c) := hb5.keep q4_1; have q5_2 : w5.cell? ⟨w.heap.size, 2, none⟩ = some (.int .i64 h) := hb5.keep q4_2; have q5_3 : w5.cell? ⟨w.heap.size, 3, none⟩ = some (.int .i64 s) := hb5.keep q4_3; have q5_4 : w5.cell? ⟨w.heap.size + 1, 0, none⟩ = some (.slice (some ⟨b, o, none⟩) n k) := hb5.keep q4_4; have q5_5 : w5.cell? ⟨w.heap.size + 1, 1, none⟩ = some (.slice (some ⟨d, q, none⟩) m l) := hb5.keep q4_5; have q5_6 : w5.cell? ⟨w.heap.size + 1 + 1, 0, none⟩ = some (.int .i64 (F : Int)) := hb5.keep q4_6; have q5_7 : w5.cell? ⟨w.heap.size + 1 + 1, 1, none⟩ = some (.int .i64 (-1)) := hb5.keep q4_7; have q5_8 : w5.cell? ⟨w.heap.size + 1 + 1, 2, none⟩ = some (.int .i64 kd) := hb5.keep q4_8; have q5_9 : w5.cell? ⟨w.heap.size + 1 + 1, 3, none⟩ = some (.bool false) := hb5.keep q4_9
  have hR5 := hR4.past hb5
  have hp5 := hp4.trans hb5
  have hA5 := hA4.past hb5
  have hD5 := hD4.past hb5
  have u5_0 : w5.cell? ⟨w2.heap.size, 0, none⟩ = some (.slice (some ⟨ga, 0, none⟩) n ka) := hb5.keep u4_0; have u5_1 : w5.cell? ⟨w2.heap.size, 1, none⟩ = some (.slice (some ⟨gd, 0, none⟩) m kb) := hb5.keep u4_1
  have r0 := hR5.cell 0 rfl; have r1 := hR5.cell 1 rfl; have r2 := hR5.free 0; have r3 := hR5.free 1
  replace hA5 := hA5.less (base' := w.heap.size) (by omega)
  replace hD5 := hD5.less (base' := w.heap.size) (by omega)
  cases b2
  · go_wp2
    refine bodyPost_ret (v := .tuple #[.agg #[.slice none 0 0, .slice none 0 0], .int .i64 4]) (by simp [r0, r1, results, Try.results55, go_sem]) rfl (BoardCode.empty ((hp5.setCell (by simp only; omega) _).setCell (by simp only; omega) _))
  · have F2 := Lib.hid (bFacts HB2.out)
    have h0x := Lib.hid F2.out.2.2.2.2.1.2.1
    have h0y := Lib.hid F2.out.2.2.2.2.2.2.1
    have ux : (upd xs (F : Int) (1)).sum ≤ 1000000 := by have := F2.out; omega
    have uy : ys.sum ≤ 1000000 := by have := F2.out; omega
    have hql := legalStep_any P c h s (F : Int) (-1) kd false (some ⟨ga, 0, none⟩) (some ⟨gd, 0, none⟩) n ka m kb (upd xs (F : Int) (1)) ys w5 hA5.rd hD5.rd HN.out HM.out hP s1 h0x h0y ux uy
    rw [HL2.out] at hql
    have HQ := Lib.hid hql
    clear hql ux uy r0 r1 r2 r3
    go_wp2_with fail
    (with_reducible refine (HQ.out).mono ?_)
    rintro e w6 ⟨rfl, hb6⟩
    have q6_0 : w6.cell? ⟨w.heap.size, 0, none⟩ = some (.int .i64 (P : Int)) := hb6.keep q5_0; have q6_1 : w6.cell? ⟨w.heap.size, 1, none⟩ = some (.int .i64 c) := hb6.keep q5_1; have q6_2 : w6.cell? ⟨w.heap.size, 2, none⟩ = some (.int .i64 h) := hb6.keep q5_2; have q6_3 : w6.cell? ⟨w.heap.size, 3, none⟩ = some (.int .i64 s) := hb6.keep q5_3; have q6_4 : w6.cell? ⟨w.heap.size + 1, 0, none⟩ = some (.slice (some ⟨b, o, none⟩) n k) := hb6.keep q5_4; have q6_5 : w6.cell? ⟨w.heap.size + 1, 1, none⟩ = some (.slice (some ⟨d, q, none⟩) m l) := hb6.keep q5_5; have q6_6 : w6.cell? ⟨w.heap.size + 1 + 1, 0, none⟩ = some (.int .i64 (F : Int)) := hb6.keep q5_6; have q6_7 : w6.cell? ⟨w.heap.size + 1 + 1, 1, none⟩ = some (.int .i64 (-1)) := hb6.keep q5_7; have q6_8 : w6.cell? ⟨w.heap.size + 1 + 1, 2, none⟩ = some (.int .i64 kd) := hb6.keep q5_8; have q6_9 : w6.cell? ⟨w.heap.size + 1 + 1, 3, none⟩ = some (.bool false) := hb6.keep q5_9
    have hR6 := hR5.past hb6
    have hp6 := hp5.trans hb6
    have hA6 := hA5.past hb6
    have hD6 := hD5.past hb6
    have u6_0 : w6.cell? ⟨w2.heap.size, 0, none⟩ = some (.slice (some ⟨ga, 0, none⟩) n ka) := hb6.keep u5_0; have u6_1 : w6.cell? ⟨w2.heap.size, 1, none⟩ = some (.slice (some ⟨gd, 0, none⟩) m kb) := hb6.keep u5_1
    have r0 := hR6.cell 0 rfl; have r1 := hR6.cell 1 rfl; have r2 := hR6.free 0; have r3 := hR6.free 1
    cases l2
    · go_wp2
      refine bodyPost_ret (v := .tuple #[.agg #[.slice none 0 0, .slice none 0 0], .int .i64 4]) (by simp [r0, r1, results, Try.results55, go_sem]) rfl (BoardCode.empty ((hp6.setCell (by simp only; omega) _).setCell (by simp only; omega) _))
    · go_wp2
      refine bodyPost_ret (v := .tuple #[.agg #[.slice (some ⟨ga, 0, none⟩) n ka, .slice (some ⟨gd, 0, none⟩) m kb], .int .i64 0]) (by simp [r0, r1, results, Try.results55, go_sem]) rfl (BoardNew.code ((hA6.far (by simp only; omega) _).far (by simp only; omega) _) ((hD6.far (by simp only; omega) _).far (by simp only; omega) _) hne ((hp6.setCell (by simp only; omega) _).setCell (by simp only; omega) _))
set_option maxHeartbeats 4000000 in
set_option maxRecDepth 100000 in
theorem undo_in (P F : Nat) (T : Nat) (t1 : (T : Int) < P) (c h s kd : Int) (b o d q n k m l : Nat) (xs ys : List Int) (w : World) (hx : RdI w (some ⟨b, o, none⟩) n xs) (hy : RdI w (some ⟨d, q, none⟩) m ys) (hn : n = P + 1) (hm : m = P + 1) (hP : P ≤ 24) (f1 : (F : Int) ≤ P) (bdx : Hid (Bd 15 xs)) (_ : Hid (Bd 15 ys)) (s1 : s ≤ 6) (HB : Hid (bOk P c h s xs ys = true)) (b2 l2 : Bool) (HB2 : Hid (bOk P c h s (upd (upd xs (F : Int) (1)) (T : Int) (-1)) ys = b2)) (HL2 : Hid (legB P h s (upd (upd xs (F : Int) (1)) (T : Int) (-1)) ys ⟨(F : Int), T, kd, false⟩ = l2)) :
    Calls Try.prog 55 #[.agg #[.int .i64 (P : Int), .int .i64 c, .int .i64 h, .int .i64 s], .agg #[.slice (some ⟨b, o, none⟩) n k, .slice (some ⟨d, q, none⟩) m l], .agg #[.int .i64 (F : Int), .int .i64 (T : Int), .int .i64 kd, .bool false]] w (BoardCode w (unRes (upd (upd xs (F : Int) (1)) (T : Int) (-1)) b2 l2) (unRes ys b2 l2) (unCode b2 l2)) := by
  have hn2 : n ≤ 1048576 := by omega
  have hm2 : m ≤ 1048576 := by omega
  have g1 : (P : Int) < (n : Int) := by omega
  have g2 : (P : Int) < (m : Int) := by omega
  have HN := Lib.hid hn
  have HM := Lib.hid hm
  have HF := Lib.hid (win_mk (x := (F : Int)) (lo := 0) (hi := (P : Int)) (by omega))
  have HT := Lib.hid (win_mk (x := T) (lo := -1) (hi := (P : Int) - 1) (by omega))
  clear hn hm
  obtain ⟨w0, hw0⟩ : ∃ w0 : World, w0 = ((((w.alloc (.cells #[.int .i64 (P : Int), .int .i64 c, .int .i64 h, .int .i64 s] 25)).alloc (.cells #[.slice (some ⟨b, o, none⟩) n k, .slice (some ⟨d, q, none⟩) m l] 43)).alloc (.cells #[.int .i64 (F : Int), .int .i64 (T : Int), .int .i64 kd, .bool false] 66)).alloc (.cells #[.slice none 0 0, .slice none 0 0] 43)) := ⟨_, rfl⟩
  have hp0 : Past w w0 := by rw [hw0]; exact (by repeat (first | exact Past.refl _ | assumption | refine Past.alloc ?_ _ | refine Past.drew ?_ | refine Past.drewN ?_ _ | refine Past.setCell ?_ (by first | (simp; done) | (simp <;> omega)) _ | refine Past.trans ?_ (past_over _ _) | refine Past.trans ?_ (by assumption)))
  have q0_0 : w0.cell? ⟨w.heap.size, 0, none⟩ = some (.int .i64 (P : Int)) := by rw [hw0]; simp [go_sem]
  have q0_1 : w0.cell? ⟨w.heap.size, 1, none⟩ = some (.int .i64 c) := by rw [hw0]; simp [go_sem]
  have q0_2 : w0.cell? ⟨w.heap.size, 2, none⟩ = some (.int .i64 h) := by rw [hw0]; simp [go_sem]
  have q0_3 : w0.cell? ⟨w.heap.size, 3, none⟩ = some (.int .i64 s) := by rw [hw0]; simp [go_sem]
  have q0_4 : w0.cell? ⟨w.heap.size + 1, 0, none⟩ = some (.slice (some ⟨b, o, none⟩) n k) := by rw [hw0]; simp [go_sem]
  have q0_5 : w0.cell? ⟨w.heap.size + 1, 1, none⟩ = some (.slice (some ⟨d, q, none⟩) m l) := by rw [hw0]; simp [go_sem]
  have q0_6 : w0.cell? ⟨w.heap.size + 1 + 1, 0, none⟩ = some (.int .i64 (F : Int)) := by rw [hw0]; simp [go_sem]
  have q0_7 : w0.cell? ⟨w.heap.size + 1 + 1, 1, none⟩ = some (.int .i64 (T : Int)) := by rw [hw0]; simp [go_sem]
  have q0_8 : w0.cell? ⟨w.heap.size + 1 + 1, 2, none⟩ = some (.int .i64 kd) := by rw [hw0]; simp [go_sem]
  have q0_9 : w0.cell? ⟨w.heap.size + 1 + 1, 3, none⟩ = some (.bool false) := by rw [hw0]; simp [go_sem]
  have hR0 : Blk w0 (w.heap.size + 1 + 1 + 1) 43 #[.slice none 0 0, .slice none 0 0] := by rw [hw0]; exact Blk.at_ (by simp [go_sem])
  have zs : w0.heap.size = w.heap.size + 4 := by rw [hw0]; simp [go_sem]
  have zl : w.heap.size + 4 ≤ w0.heap.size := by omega
  clear zs
  go_enter Try.func55, Try.ntmps55
  go_upto_region 1 with fail
  rw [← hw0]
  clear hw0
  go_wp2_with fail
  (with_reducible refine (isBoard_b _ _ _ _ _ _ _ _ _ _ _ _ _ _ HB (hx.past hp0) (hy.past hp0) hn2 hm2).mono ?_)
  rintro e w1 ⟨rfl, hb1⟩
  have z01 : w0.heap.size ≤ w1.heap.size := hb1.sz
  have q1_0 : w1.cell? ⟨w.heap.size, 0, none⟩ = some (.int .i64 (P : Int)) := hb1.keep q0_0; have q1_1 : w1.cell? ⟨w.heap.size, 1, none⟩ = some (.int .i64 c) := hb1.keep q0_1; have q1_2 : w1.cell? ⟨w.heap.size, 2, none⟩ = some (.int .i64 h) := hb1.keep q0_2; have q1_3 : w1.cell? ⟨w.heap.size, 3, none⟩ = some (.int .i64 s) := hb1.keep q0_3; have q1_4 : w1.cell? ⟨w.heap.size + 1, 0, none⟩ = some (.slice (some ⟨b, o, none⟩) n k) := hb1.keep q0_4; have q1_5 : w1.cell? ⟨w.heap.size + 1, 1, none⟩ = some (.slice (some ⟨d, q, none⟩) m l) := hb1.keep q0_5; have q1_6 : w1.cell? ⟨w.heap.size + 1 + 1, 0, none⟩ = some (.int .i64 (F : Int)) := hb1.keep q0_6; have q1_7 : w1.cell? ⟨w.heap.size + 1 + 1, 1, none⟩ = some (.int .i64 (T : Int)) := hb1.keep q0_7; have q1_8 : w1.cell? ⟨w.heap.size + 1 + 1, 2, none⟩ = some (.int .i64 kd) := hb1.keep q0_8; have q1_9 : w1.cell? ⟨w.heap.size + 1 + 1, 3, none⟩ = some (.bool false) := hb1.keep q0_9
  have hR1 := hR0.past hb1
  have hp1 := hp0.trans hb1
  go_upto_region 5 with (first | (go_at_call 71; (with_reducible refine (within_b _ _ _ _ HF _).mono ?_); rintro e w9 ⟨rfl, rfl⟩) | (go_at_call 71; (with_reducible refine (within_b _ _ _ _ HT _).mono ?_); rintro e w9 ⟨rfl, rfl⟩))
  go_wp2_with fail
  (with_reducible refine (cloneBoard_any _ _ _ _ _ _ _ _ _ _ _ (hx.past hp1) (hy.past hp1) hn2 hm2).mono ?_)
  rintro e w2 ⟨ga, gd, ka, kb, rfl, hA2, hD2, hne, hb2⟩
  have q2_0 : w2.cell? ⟨w.heap.size, 0, none⟩ = some (.int .i64 (P : Int)) := hb2.keep q1_0; have q2_1 : w2.cell? ⟨w.heap.size, 1, none⟩ = some (.int .i64 c) := hb2.keep q1_1; have q2_2 : w2.cell? ⟨w.heap.size, 2, none⟩ = some (.int .i64 h) := hb2.keep q1_2; have q2_3 : w2.cell? ⟨w.heap.size, 3, none⟩ = some (.int .i64 s) := hb2.keep q1_3; have q2_4 : w2.cell? ⟨w.heap.size + 1, 0, none⟩ = some (.slice (some ⟨b, o, none⟩) n k) := hb2.keep q1_4; have q2_5 : w2.cell? ⟨w.heap.size + 1, 1, none⟩ = some (.slice (some ⟨d, q, none⟩) m l) := hb2.keep q1_5; have q2_6 : w2.cell? ⟨w.heap.size + 1 + 1, 0, none⟩ = some (.int .i64 (F : Int)) := hb2.keep q1_6; have q2_7 : w2.cell? ⟨w.heap.size + 1 + 1, 1, none⟩ = some (.int .i64 (T : Int)) := hb2.keep q1_7; have q2_8 : w2.cell? ⟨w.heap.size + 1 + 1, 2, none⟩ = some (.int .i64 kd) := hb2.keep q1_8; have q2_9 : w2.cell? ⟨w.heap.size + 1 + 1, 3, none⟩ = some (.bool false) := hb2.keep q1_9
  have hR2 := hR1.past hb2
  have hp2 := hp1.trans hb2
  go_upto_region 6 with fail
  have eA := own_at hA2
  have eD := own_at hD2
  have hb3 := (Past.refl w2).alloc (.cells #[.slice (some ⟨ga, 0, none⟩) n ka, .slice (some ⟨gd, 0, none⟩) m kb] 43)
  have hA3 := hA2.alloc (.cells #[.slice (some ⟨ga, 0, none⟩) n ka, .slice (some ⟨gd, 0, none⟩) m kb] 43)
  have hD3 := hD2.alloc (.cells #[.slice (some ⟨ga, 0, none⟩) n ka, .slice (some ⟨gd, 0, none⟩) m kb] 43)
  have u3_0 : (w2.alloc (.cells #[.slice (some ⟨ga, 0, none⟩) n ka, .slice (some ⟨gd, 0, none⟩) m kb] 43)).cell? ⟨w2.heap.size, 0, none⟩ = some (.slice (some ⟨ga, 0, none⟩) n ka) := by simp
  have u3_1 : (w2.alloc (.cells #[.slice (some ⟨ga, 0, none⟩) n ka, .slice (some ⟨gd, 0, none⟩) m kb] 43)).cell? ⟨w2.heap.size, 1, none⟩ = some (.slice (some ⟨gd, 0, none⟩) m kb) := by simp
  generalize w2.alloc (.cells #[.slice (some ⟨ga, 0, none⟩) n ka, .slice (some ⟨gd, 0, none⟩) m kb] 43) = w3 at hb3 hA3 hD3 u3_0 u3_1 ⊢
  have q3_0 : w3.cell? ⟨w.heap.size, 0, none⟩ = some (.int .i64 (P : Int)) := hb3.keep q2_0; have q3_1 : w3.cell? ⟨w.heap.size, 1, none⟩ = some (.int .i64 c) := hb3.keep q2_1; have q3_2 : w3.cell? ⟨w.heap.size, 2, none⟩ = some (.int .i64 h) := hb3.keep q2_2; have q3_3 : w3.cell? ⟨w.heap.size, 3, none⟩ = some (.int .i64 s) := hb3.keep q2_3; have q3_4 : w3.cell? ⟨w.heap.size + 1, 0, none⟩ = some (.slice (some ⟨b, o, none⟩) n k) := hb3.keep q2_4; have q3_5 : w3.cell? ⟨w.heap.size + 1, 1, none⟩ = some (.slice (some ⟨d, q, none⟩) m l) := hb3.keep q2_5; have q3_6 : w3.cell? ⟨w.heap.size + 1 + 1, 0, none⟩ = some (.int .i64 (F : Int)) := hb3.keep q2_6; have q3_7 : w3.cell? ⟨w.heap.size + 1 + 1, 1, none⟩ = some (.int .i64 (T : Int)) := hb3.keep q2_7; have q3_8 : w3.cell? ⟨w.heap.size + 1 + 1, 2, none⟩ = some (.int .i64 kd) := hb3.keep q2_8; have q3_9 : w3.cell? ⟨w.heap.size + 1 + 1, 3, none⟩ = some (.bool false) := hb3.keep q2_9
  have hR3 := hR2.past hb3
  have hp3 := hp2.trans hb3
  have c4 := hA3.cell_i (J := F) ((F : Int)) (by omega) (by omega)
  have v4 := bdx.out ((F : Int))
  have f4 : w3.frozen? ⟨ga, F, none⟩ = false := World.ownsRow.frozenAt hA3 _
  have hn4 := hA3.upd (J := F) ((F : Int)) (1) (by omega)
  have hT4 := Turn.set w3 ga (F) (.int .i64 (gAt xs ((F : Int)) + 1))
  have bd4 := Lib.hid (Bd.upd bdx.out (i := (F : Int)) (d := 1) (by omega) (by omega))
  generalize hg4 : gAt xs ((F : Int)) = y4 at c4 v4 hn4 hT4
  obtain ⟨v4a, v4b⟩ := v4
  clear hg4
  go_upto_region 8 with fail
  generalize (w3.setCell ⟨ga, F, none⟩ (.int .i64 (y4 + 1))) = w4 at hn4 hT4 ⊢
  have hA4 := hn4
  have hD4 := hD3.turn hT4 (by omega)
  have q4_0 : w4.cell? ⟨w.heap.size, 0, none⟩ = some (.int .i64 (P : Int)) := hT4.cell q3_0 (.inl (by simp only; omega)); have q4_1 : w4.cell? ⟨w.heap.size, 1, none⟩ = some (.int .i64 c) := hT4.cell q3_1 (.inl (by simp only; omega)); have q4_2 : w4.cell? ⟨w.heap.size, 2, none⟩ = some (.int .i64 h) := hT4.cell q3_2 (.inl (by simp only; omega)); have q4_3 : w4.cell? ⟨w.heap.size, 3, none⟩ = some (.int .i64 s) := hT4.cell q3_3 (.inl (by simp only; omega)); have q4_4 : w4.cell? ⟨w.heap.size + 1, 0, none⟩ = some (.slice (some ⟨b, o, none⟩) n k) := hT4.cell q3_4 (.inl (by simp only; omega)); have q4_5 : w4.cell? ⟨w.heap.size + 1, 1, none⟩ = some (.slice (some ⟨d, q, none⟩) m l) := hT4.cell q3_5 (.inl (by simp only; omega)); have q4_6 : w4.cell? ⟨w.heap.size + 1 + 1, 0, none⟩ = some (.int .i64 (F : Int)) := hT4.cell q3_6 (.inl (by simp only; omega)); have q4_7 : w4.cell? ⟨w.heap.size + 1 + 1, 1, none⟩ = some (.int .i64 (T : Int)) := hT4.cell q3_7 (.inl (by simp only; omega)); have q4_8 : w4.cell? ⟨w.heap.size + 1 + 1, 2, none⟩ = some (.int .i64 kd) := hT4.cell q3_8 (.inl (by simp only; omega)); have q4_9 : w4.cell? ⟨w.heap.size + 1 + 1, 3, none⟩ = some (.bool false) := hT4.cell q3_9 (.inl (by simp only; omega))
  have u4_0 : w4.cell? ⟨w2.heap.size, 0, none⟩ = some (.slice (some ⟨ga, 0, none⟩) n ka) := hT4.cell u3_0 (.inr (by simp only; omega)); have u4_1 : w4.cell? ⟨w2.heap.size, 1, none⟩ = some (.slice (some ⟨gd, 0, none⟩) m kb) := hT4.cell u3_1 (.inr (by simp only; omega))
  have hR4 := hT4.blk hR3 (.inl (by omega))
  have hp4 := Turn.past hT4 hp3 (by omega)
  have c5 := hA4.cell_i (J := T) ((T : Int)) (by omega) (by omega)
  have v5 := bd4.out ((T : Int))
  have f5 : w4.frozen? ⟨ga, T, none⟩ = false := World.ownsRow.frozenAt hA4 _
  have hn5 := hA4.upd (J := T) ((T : Int)) (-1) (by omega)
  have hT5 := Turn.set w4 ga (T) (.int .i64 (gAt (upd xs ((F : Int)) (1)) ((T : Int)) + -1))
  have bd5 := Lib.hid (Bd.upd bd4.out (i := (T : Int)) (d := -1) (by omega) (by omega))
  generalize hg5 : gAt (upd xs ((F : Int)) (1)) ((T : Int)) = y5 at c5 v5 hn5 hT5
  obtain ⟨v5a, v5b⟩ := v5
  clear hg5
  go_upto_region 12 with fail
  rw [show y5 + (-1) = y5 - 1 from by omega] at hn5 hT5
  generalize (w4.setCell ⟨ga, T, none⟩ (.int .i64 (y5 - 1))) = w5 at hn5 hT5 ⊢
  have hA5 := hn5
  have hD5 := hD4.turn hT5 (by omega)
  have q5_0 : w5.cell? ⟨w.heap.size, 0, none⟩ = some (.int .i64 (P : Int)) := hT5.cell q4_0 (.inl (by simp only; omega)); have q5_1 : w5.cell? ⟨w.heap.size, 1, none⟩ = some (.int .i64 c) := hT5.cell q4_1 (.inl (by simp only; omega)); have q5_2 : w5.cell? ⟨w.heap.size, 2, none⟩ = some (.int .i64 h) := hT5.cell q4_2 (.inl (by simp only; omega)); have q5_3 : w5.cell? ⟨w.heap.size, 3, none⟩ = some (.int .i64 s) := hT5.cell q4_3 (.inl (by simp only; omega)); have q5_4 : w5.cell? ⟨w.heap.size + 1, 0, none⟩ = some (.slice (some ⟨b, o, none⟩) n k) := hT5.cell q4_4 (.inl (by simp only; omega)); have q5_5 : w5.cell? ⟨w.heap.size + 1, 1, none⟩ = some (.slice (some ⟨d, q, none⟩) m l) := hT5.cell q4_5 (.inl (by simp only; omega)); have q5_6 : w5.cell? ⟨w.heap.size + 1 + 1, 0, none⟩ = some (.int .i64 (F : Int)) := hT5.cell q4_6 (.inl (by simp only; omega)); have q5_7 : w5.cell? ⟨w.heap.size + 1 + 1, 1, none⟩ = some (.int .i64 (T : Int)) := hT5.cell q4_7 (.inl (by simp only; omega)); have q5_8 : w5.cell? ⟨w.heap.size + 1 + 1, 2, none⟩ = some (.int .i64 kd) := hT5.cell q4_8 (.inl (by simp only; omega)); have q5_9 : w5.cell? ⟨w.heap.size + 1 + 1, 3, none⟩ = some (.bool false) := hT5.cell q4_9 (.inl (by simp only; omega))
  have u5_0 : w5.cell? ⟨w2.heap.size, 0, none⟩ = some (.slice (some ⟨ga, 0, none⟩) n ka) := hT5.cell u4_0 (.inr (by simp only; omega)); have u5_1 : w5.cell? ⟨w2.heap.size, 1, none⟩ = some (.slice (some ⟨gd, 0, none⟩) m kb) := hT5.cell u4_1 (.inr (by simp only; omega))
  have hR5 := hT5.blk hR4 (.inl (by omega))
  have hp5 := Turn.past hT5 hp4 (by omega)
  have eA5 := own_at hA5
  have eD5 := own_at hD5
  go_wp2_with fail
  (with_reducible refine (isBoard_b _ _ _ _ _ _ _ _ _ _ _ _ _ _ HB2 hA5.rd hD5.rd hn2 hm2).mono ?_)
  rintro e w6 ⟨rfl, hb6⟩
  have q6_0 : w6.cell? ⟨w.heap.size, 0, none⟩ = some (.int .i64 (P : Int)) := hb6.keep q5_0; have q6_1 : w6.cell? ⟨w.heap.size, 1, none⟩ = some (.int .i64 c) := hb6.keep q5_1; have q6_2 : w6.cell? ⟨w.heap.size, 2, none⟩ = some (.int .i64 h) := hb6.keep q5_2; have q6_3 : w6.cell? ⟨w.heap.size, 3, none⟩ = some (.int .i64 s) := hb6.keep q5_3; have q6_4 : w6.cell? ⟨w.heap.size + 1, 0, none⟩ = some (.slice (some ⟨b, o, none⟩) n k) := hb6.keep q5_4; have q6_5 : w6.cell? ⟨w.heap.size + 1, 1, none⟩ = some (.slice (some ⟨d, q, none⟩) m l) := hb6.keep q5_5; have q6_6 : w6.cell? ⟨w.heap.size + 1 + 1, 0, none⟩ = some (.int .i64 (F : Int)) := hb6.keep q5_6; have q6_7 : w6.cell? ⟨w.heap.size + 1 + 1, 1, none⟩ = some (.int .i64 (T : Int)) := hb6.keep q5_7; have q6_8 : w6.cell? ⟨w.heap.size + 1 + 1, 2, none⟩ = some (.int .i64 kd) := hb6.keep q5_8; have q6_9 : w6.cell? ⟨w.heap.size + 1 + 1, 3, none⟩ = some (.bool false) := hb6.keep q5_9
  have hR6 := hR5.past hb6
  have hp6 := hp5.trans hb6
  have hA6 := hA5.past hb6
  have hD6 := hD5.past hb6
  have u6_0 : w6.cell? ⟨w2.heap.size, 0, none⟩ = some (.slice (some ⟨ga, 0, none⟩) n ka) := hb6.keep u5_0; have u6_1 : w6.cell? ⟨w2.heap.size, 1, none⟩ = some (.slice (some ⟨gd, 0, none⟩) m kb) := hb6.keep u5_1
  have r0 := hR6.cell 0 rfl; have r1 := hR6.cell 1 rfl; have r2 := hR6.free 0; have r3 := hR6.free 1
  replace hA6 := hA6.less (base' := w.heap.size) (by omega)
  replace hD6 := hD6.less (base' := w.heap.size) (by omega)
  cases b2
  · go_wp2
    refine bodyPost_ret (v := .tuple #[.agg #[.slice none 0 0, .slice none 0 0], .int .i64 4]) (by simp [r0, r1, results, Try.results55, go_sem]) rfl (BoardCode.empty ((hp6.setCell (by simp only; omega) _).setCell (by simp only; omega) _))
  · have F2 := Lib.hid (bFacts HB2.out)
    have h0x := Lib.hid F2.out.2.2.2.2.1.2.1
    have h0y := Lib.hid F2.out.2.2.2.2.2.2.1
    have ux : (upd (upd xs (F : Int) (1)) (T : Int) (-1)).sum ≤ 1000000 := by have := F2.out; omega
    have uy : ys.sum ≤ 1000000 := by have := F2.out; omega
    have hql := legalStep_any P c h s (F : Int) T kd false (some ⟨ga, 0, none⟩) (some ⟨gd, 0, none⟩) n ka m kb (upd (upd xs (F : Int) (1)) (T : Int) (-1)) ys w6 hA6.rd hD6.rd HN.out HM.out hP s1 h0x h0y ux uy
    rw [HL2.out] at hql
    have HQ := Lib.hid hql
    clear hql ux uy r0 r1 r2 r3
    go_wp2_with fail
    (with_reducible refine (HQ.out).mono ?_)
    rintro e w7 ⟨rfl, hb7⟩
    have q7_0 : w7.cell? ⟨w.heap.size, 0, none⟩ = some (.int .i64 (P : Int)) := hb7.keep q6_0; have q7_1 : w7.cell? ⟨w.heap.size, 1, none⟩ = some (.int .i64 c) := hb7.keep q6_1; have q7_2 : w7.cell? ⟨w.heap.size, 2, none⟩ = some (.int .i64 h) := hb7.keep q6_2; have q7_3 : w7.cell? ⟨w.heap.size, 3, none⟩ = some (.int .i64 s) := hb7.keep q6_3; have q7_4 : w7.cell? ⟨w.heap.size + 1, 0, none⟩ = some (.slice (some ⟨b, o, none⟩) n k) := hb7.keep q6_4; have q7_5 : w7.cell? ⟨w.heap.size + 1, 1, none⟩ = some (.slice (some ⟨d, q, none⟩) m l) := hb7.keep q6_5; have q7_6 : w7.cell? ⟨w.heap.size + 1 + 1, 0, none⟩ = some (.int .i64 (F : Int)) := hb7.keep q6_6; have q7_7 : w7.cell? ⟨w.heap.size + 1 + 1, 1, none⟩ = some (.int .i64 (T : Int)) := hb7.keep q6_7; have q7_8 : w7.cell? ⟨w.heap.size + 1 + 1, 2, none⟩ = some (.int .i64 kd) := hb7.keep q6_8; have q7_9 : w7.cell? ⟨w.heap.size + 1 + 1, 3, none⟩ = some (.bool false) := hb7.keep q6_9
    have hR7 := hR6.past hb7
    have hp7 := hp6.trans hb7
    have hA7 := hA6.past hb7
    have hD7 := hD6.past hb7
    have u7_0 : w7.cell? ⟨w2.heap.size, 0, none⟩ = some (.slice (some ⟨ga, 0, none⟩) n ka) := hb7.keep u6_0; have u7_1 : w7.cell? ⟨w2.heap.size, 1, none⟩ = some (.slice (some ⟨gd, 0, none⟩) m kb) := hb7.keep u6_1
    have r0 := hR7.cell 0 rfl; have r1 := hR7.cell 1 rfl; have r2 := hR7.free 0; have r3 := hR7.free 1
    cases l2
    · go_wp2
      refine bodyPost_ret (v := .tuple #[.agg #[.slice none 0 0, .slice none 0 0], .int .i64 4]) (by simp [r0, r1, results, Try.results55, go_sem]) rfl (BoardCode.empty ((hp7.setCell (by simp only; omega) _).setCell (by simp only; omega) _))
    · go_wp2
      refine bodyPost_ret (v := .tuple #[.agg #[.slice (some ⟨ga, 0, none⟩) n ka, .slice (some ⟨gd, 0, none⟩) m kb], .int .i64 0]) (by simp [r0, r1, results, Try.results55, go_sem]) rfl (BoardNew.code ((hA7.far (by simp only; omega) _).far (by simp only; omega) _) ((hD7.far (by simp only; omega) _).far (by simp only; omega) _) hne ((hp7.setCell (by simp only; omega) _).setCell (by simp only; omega) _))
set_option maxHeartbeats 4000000 in
set_option maxRecDepth 100000 in
theorem undo_hit (P F : Nat) (T : Nat) (t1 : (T : Int) < P) (c h s kd : Int) (b o d q n k m l : Nat) (xs ys : List Int) (w : World) (hx : RdI w (some ⟨b, o, none⟩) n xs) (hy : RdI w (some ⟨d, q, none⟩) m ys) (hn : n = P + 1) (hm : m = P + 1) (hP : P ≤ 24) (f1 : (F : Int) ≤ P) (bdx : Hid (Bd 15 xs)) (bdy : Hid (Bd 15 ys)) (s1 : s ≤ 6) (HB : Hid (bOk P c h s xs ys = true)) (b2 l2 : Bool) (HB2 : Hid (bOk P c h s (upd (upd xs (F : Int) (1)) (T : Int) (-1)) (upd (upd ys ((P : Int) - 1 - (T : Int)) (1)) (P : Int) (-1)) = b2)) (HL2 : Hid (legB P h s (upd (upd xs (F : Int) (1)) (T : Int) (-1)) (upd (upd ys ((P : Int) - 1 - (T : Int)) (1)) (P : Int) (-1)) ⟨(F : Int), T, kd, true⟩ = l2)) :
    Calls Try.prog 55 #[.agg #[.int .i64 (P : Int), .int .i64 c, .int .i64 h, .int .i64 s], .agg #[.slice (some ⟨b, o, none⟩) n k, .slice (some ⟨d, q, none⟩) m l], .agg #[.int .i64 (F : Int), .int .i64 (T : Int), .int .i64 kd, .bool true]] w (BoardCode w (unRes (upd (upd xs (F : Int) (1)) (T : Int) (-1)) b2 l2) (unRes (upd (upd ys ((P : Int) - 1 - (T : Int)) (1)) (P : Int) (-1)) b2 l2) (unCode b2 l2)) := by
  have hn2 : n ≤ 1048576 := by omega
  have hm2 : m ≤ 1048576 := by omega
  have g1 : (P : Int) < (n : Int) := by omega
  have g2 : (P : Int) < (m : Int) := by omega
  have HN := Lib.hid hn
  have HM := Lib.hid hm
  have HF := Lib.hid (win_mk (x := (F : Int)) (lo := 0) (hi := (P : Int)) (by omega))
  have HT := Lib.hid (win_mk (x := T) (lo := -1) (hi := (P : Int) - 1) (by omega))
  clear hn hm
  obtain ⟨w0, hw0⟩ : ∃ w0 : World, w0 = ((((w.alloc (.cells #[.int .i64 (P : Int), .int .i64 c, .int .i64 h, .int .i64 s] 25)).alloc (.cells #[.slice (some ⟨b, o, none⟩) n k, .slice (some ⟨d, q, none⟩) m l] 43)).alloc (.cells #[.int .i64 (F : Int), .int .i64 (T : Int), .int .i64 kd, .bool true] 66)).alloc (.cells #[.slice none 0 0, .slice none 0 0] 43)) := ⟨_, rfl⟩
  have hp0 : Past w w0 := by rw [hw0]; exact (by repeat (first | exact Past.refl _ | assumption | refine Past.alloc ?_ _ | refine Past.drew ?_ | refine Past.drewN ?_ _ | refine Past.setCell ?_ (by first | (simp; done) | (simp <;> omega)) _ | refine Past.trans ?_ (past_over _ _) | refine Past.trans ?_ (by assumption)))
  have q0_0 : w0.cell? ⟨w.heap.size, 0, none⟩ = some (.int .i64 (P : Int)) := by rw [hw0]; simp [go_sem]
  have q0_1 : w0.cell? ⟨w.heap.size, 1, none⟩ = some (.int .i64 c) := by rw [hw0]; simp [go_sem]
  have q0_2 : w0.cell? ⟨w.heap.size, 2, none⟩ = some (.int .i64 h) := by rw [hw0]; simp [go_sem]
  have q0_3 : w0.cell? ⟨w.heap.size, 3, none⟩ = some (.int .i64 s) := by rw [hw0]; simp [go_sem]
  have q0_4 : w0.cell? ⟨w.heap.size + 1, 0, none⟩ = some (.slice (some ⟨b, o, none⟩) n k) := by rw [hw0]; simp [go_sem]
  have q0_5 : w0.cell? ⟨w.heap.size + 1, 1, none⟩ = some (.slice (some ⟨d, q, none⟩) m l) := by rw [hw0]; simp [go_sem]
  have q0_6 : w0.cell? ⟨w.heap.size + 1 + 1, 0, none⟩ = some (.int .i64 (F : Int)) := by rw [hw0]; simp [go_sem]
  have q0_7 : w0.cell? ⟨w.heap.size + 1 + 1, 1, none⟩ = some (.int .i64 (T : Int)) := by rw [hw0]; simp [go_sem]
  have q0_8 : w0.cell? ⟨w.heap.size + 1 + 1, 2, none⟩ = some (.int .i64 kd) := by rw [hw0]; simp [go_sem]
  have q0_9 : w0.cell? ⟨w.heap.size + 1 + 1, 3, none⟩ = some (.bool true) := by rw [hw0]; simp [go_sem]
  have hR0 : Blk w0 (w.heap.size + 1 + 1 + 1) 43 #[.slice none 0 0, .slice none 0 0] := by rw [hw0]; exact Blk.at_ (by simp [go_sem])
  have zs : w0.heap.size = w.heap.size + 4 := by rw [hw0]; simp [go_sem]
  have zl : w.heap.size + 4 ≤ w0.heap.size := by omega
  clear zs
  go_enter Try.func55, Try.ntmps55
  go_upto_region 1 with fail
  rw [← hw0]
  clear hw0
  go_wp2_with fail
  (with_reducible refine (isBoard_b _ _ _ _ _ _ _ _ _ _ _ _ _ _ HB (hx.past hp0) (hy.past hp0) hn2 hm2).mono ?_)
  rintro e w1 ⟨rfl, hb1⟩
  have z01 : w0.heap.size ≤ w1.heap.size := hb1.sz
  have q1_0 : w1.cell? ⟨w.heap.size, 0, none⟩ = some (.int .i64 (P : Int)) := hb1.keep q0_0; have q1_1 : w1.cell? ⟨w.heap.size, 1, none⟩ = some (.int .i64 c) := hb1.keep q0_1; have q1_2 : w1.cell? ⟨w.heap.size, 2, none⟩ = some (.int .i64 h) := hb1.keep q0_2; have q1_3 : w1.cell? ⟨w.heap.size, 3, none⟩ = some (.int .i64 s) := hb1.keep q0_3; have q1_4 : w1.cell? ⟨w.heap.size + 1, 0, none⟩ = some (.slice (some ⟨b, o, none⟩) n k) := hb1.keep q0_4; have q1_5 : w1.cell? ⟨w.heap.size + 1, 1, none⟩ = some (.slice (some ⟨d, q, none⟩) m l) := hb1.keep q0_5; have q1_6 : w1.cell? ⟨w.heap.size + 1 + 1, 0, none⟩ = some (.int .i64 (F : Int)) := hb1.keep q0_6; have q1_7 : w1.cell? ⟨w.heap.size + 1 + 1, 1, none⟩ = some (.int .i64 (T : Int)) := hb1.keep q0_7; have q1_8 : w1.cell? ⟨w.heap.size + 1 + 1, 2, none⟩ = some (.int .i64 kd) := hb1.keep q0_8; have q1_9 : w1.cell? ⟨w.heap.size + 1 + 1, 3, none⟩ = some (.bool true) := hb1.keep q0_9
  have hR1 := hR0.past hb1
  have hp1 := hp0.trans hb1
  go_upto_region 5 with (first | (go_at_call 71; (with_reducible refine (within_b _ _ _ _ HF _).mono ?_); rintro e w9 ⟨rfl, rfl⟩) | (go_at_call 71; (with_reducible refine (within_b _ _ _ _ HT _).mono ?_); rintro e w9 ⟨rfl, rfl⟩))
  go_wp2_with fail
  (with_reducible refine (cloneBoard_any _ _ _ _ _ _ _ _ _ _ _ (hx.past hp1) (hy.past hp1) hn2 hm2).mono ?_)
  rintro e w2 ⟨ga, gd, ka, kb, rfl, hA2, hD2, hne, hb2⟩
  have q2_0 : w2.cell? ⟨w.heap.size, 0, none⟩ = some (.int .i64 (P : Int)) := hb2.keep q1_0; have q2_1 : w2.cell? ⟨w.heap.size, 1, none⟩ = some (.int .i64 c) := hb2.keep q1_1; have q2_2 : w2.cell? ⟨w.heap.size, 2, none⟩ = some (.int .i64 h) := hb2.keep q1_2; have q2_3 : w2.cell? ⟨w.heap.size, 3, none⟩ = some (.int .i64 s) := hb2.keep q1_3; have q2_4 : w2.cell? ⟨w.heap.size + 1, 0, none⟩ = some (.slice (some ⟨b, o, none⟩) n k) := hb2.keep q1_4; have q2_5 : w2.cell? ⟨w.heap.size + 1, 1, none⟩ = some (.slice (some ⟨d, q, none⟩) m l) := hb2.keep q1_5; have q2_6 : w2.cell? ⟨w.heap.size + 1 + 1, 0, none⟩ = some (.int .i64 (F : Int)) := hb2.keep q1_6; have q2_7 : w2.cell? ⟨w.heap.size + 1 + 1, 1, none⟩ = some (.int .i64 (T : Int)) := hb2.keep q1_7; have q2_8 : w2.cell? ⟨w.heap.size + 1 + 1, 2, none⟩ = some (.int .i64 kd) := hb2.keep q1_8; have q2_9 : w2.cell? ⟨w.heap.size + 1 + 1, 3, none⟩ = some (.bool true) := hb2.keep q1_9
  have hR2 := hR1.past hb2
  have hp2 := hp1.trans hb2
  go_upto_region 6 with fail
  have eA := own_at hA2
  have eD := own_at hD2
  have hb3 := (Past.refl w2).alloc (.cells #[.slice (some ⟨ga, 0, none⟩) n ka, .slice (some ⟨gd, 0, none⟩) m kb] 43)
  have hA3 := hA2.alloc (.cells #[.slice (some ⟨ga, 0, none⟩) n ka, .slice (some ⟨gd, 0, none⟩) m kb] 43)
  have hD3 := hD2.alloc (.cells #[.slice (some ⟨ga, 0, none⟩) n ka, .slice (some ⟨gd, 0, none⟩) m kb] 43)
  have u3_0 : (w2.alloc (.cells #[.slice (some ⟨ga, 0, none⟩) n ka, .slice (some ⟨gd, 0, none⟩) m kb] 43)).cell? ⟨w2.heap.size, 0, none⟩ = some (.slice (some ⟨ga, 0, none⟩) n ka) := by simp
  have u3_1 : (w2.alloc (.cells #[.slice (some ⟨ga, 0, none⟩) n ka, .slice (some ⟨gd, 0, none⟩) m kb] 43)).cell? ⟨w2.heap.size, 1, none⟩ = some (.slice (some ⟨gd, 0, none⟩) m kb) := by simp
  generalize w2.alloc (.cells #[.slice (some ⟨ga, 0, none⟩) n ka, .slice (some ⟨gd, 0, none⟩) m kb] 43) = w3 at hb3 hA3 hD3 u3_0 u3_1 ⊢
  have q3_0 : w3.cell? ⟨w.heap.size, 0, none⟩ = some (.int .i64 (P : Int)) := hb3.keep q2_0; have q3_1 : w3.cell? ⟨w.heap.size, 1, none⟩ = some (.int .i64 c) := hb3.keep q2_1; have q3_2 : w3.cell? ⟨w.heap.size, 2, none⟩ = some (.int .i64 h) := hb3.keep q2_2; have q3_3 : w3.cell? ⟨w.heap.size, 3, none⟩ = some (.int .i64 s) := hb3.keep q2_3; have q3_4 : w3.cell? ⟨w.heap.size + 1, 0, none⟩ = some (.slice (some ⟨b, o, none⟩) n k) := hb3.keep q2_4; have q3_5 : w3.cell? ⟨w.heap.size + 1, 1, none⟩ = some (.slice (some ⟨d, q, none⟩) m l) := hb3.keep q2_5; have q3_6 : w3.cell? ⟨w.heap.size + 1 + 1, 0, none⟩ = some (.int .i64 (F : Int)) := hb3.keep q2_6; have q3_7 : w3.cell? ⟨w.heap.size + 1 + 1, 1, none⟩ = some (.int .i64 (T : Int)) := hb3.keep q2_7; have q3_8 : w3.cell? ⟨w.heap.size + 1 + 1, 2, none⟩ = some (.int .i64 kd) := hb3.keep q2_8; have q3_9 : w3.cell? ⟨w.heap.size + 1 + 1, 3, none⟩ = some (.bool true) := hb3.keep q2_9
  have hR3 := hR2.past hb3
  have hp3 := hp2.trans hb3
  have c4 := hA3.cell_i (J := F) ((F : Int)) (by omega) (by omega)
  have v4 := bdx.out ((F : Int))
  have f4 : w3.frozen? ⟨ga, F, none⟩ = false := World.ownsRow.frozenAt hA3 _
  have hn4 := hA3.upd (J := F) ((F : Int)) (1) (by omega)
  have hT4 := Turn.set w3 ga (F) (.int .i64 (gAt xs ((F : Int)) + 1))
  have bd4 := Lib.hid (Bd.upd bdx.out (i := (F : Int)) (d := 1) (by omega) (by omega))
  generalize hg4 : gAt xs ((F : Int)) = y4 at c4 v4 hn4 hT4
  obtain ⟨v4a, v4b⟩ := v4
  clear hg4
  go_upto_region 8 with fail
  generalize (w3.setCell ⟨ga, F, none⟩ (.int .i64 (y4 + 1))) = w4 at hn4 hT4 ⊢
  have hA4 := hn4
  have hD4 := hD3.turn hT4 (by omega)
  have q4_0 : w4.cell? ⟨w.heap.size, 0, none⟩ = some (.int .i64 (P : Int)) := hT4.cell q3_0 (.inl (by simp only; omega)); have q4_1 : w4.cell? ⟨w.heap.size, 1, none⟩ = some (.int .i64 c) := hT4.cell q3_1 (.inl (by simp only; omega)); have q4_2 : w4.cell? ⟨w.heap.size, 2, none⟩ = some (.int .i64 h) := hT4.cell q3_2 (.inl (by simp only; omega)); have q4_3 : w4.cell? ⟨w.heap.size, 3, none⟩ = some (.int .i64 s) := hT4.cell q3_3 (.inl (by simp only; omega)); have q4_4 : w4.cell? ⟨w.heap.size + 1, 0, none⟩ = some (.slice (some ⟨b, o, none⟩) n k) := hT4.cell q3_4 (.inl (by simp only; omega)); have q4_5 : w4.cell? ⟨w.heap.size + 1, 1, none⟩ = some (.slice (some ⟨d, q, none⟩) m l) := hT4.cell q3_5 (.inl (by simp only; omega)); have q4_6 : w4.cell? ⟨w.heap.size + 1 + 1, 0, none⟩ = some (.int .i64 (F : Int)) := hT4.cell q3_6 (.inl (by simp only; omega)); have q4_7 : w4.cell? ⟨w.heap.size + 1 + 1, 1, none⟩ = some (.int .i64 (T : Int)) := hT4.cell q3_7 (.inl (by simp only; omega)); have q4_8 : w4.cell? ⟨w.heap.size + 1 + 1, 2, none⟩ = some (.int .i64 kd) := hT4.cell q3_8 (.inl (by simp only; omega)); have q4_9 : w4.cell? ⟨w.heap.size + 1 + 1, 3, none⟩ = some (.bool true) := hT4.cell q3_9 (.inl (by simp only; omega))
  have u4_0 : w4.cell? ⟨w2.heap.size, 0, none⟩ = some (.slice (some ⟨ga, 0, none⟩) n ka) := hT4.cell u3_0 (.inr (by simp only; omega)); have u4_1 : w4.cell? ⟨w2.heap.size, 1, none⟩ = some (.slice (some ⟨gd, 0, none⟩) m kb) := hT4.cell u3_1 (.inr (by simp only; omega))
  have hR4 := hT4.blk hR3 (.inl (by omega))
  have hp4 := Turn.past hT4 hp3 (by omega)
  have c5 := hA4.cell_i (J := T) ((T : Int)) (by omega) (by omega)
  have v5 := bd4.out ((T : Int))
  have f5 : w4.frozen? ⟨ga, T, none⟩ = false := World.ownsRow.frozenAt hA4 _
  have hn5 := hA4.upd (J := T) ((T : Int)) (-1) (by omega)
  have hT5 := Turn.set w4 ga (T) (.int .i64 (gAt (upd xs ((F : Int)) (1)) ((T : Int)) + -1))
  have bd5 := Lib.hid (Bd.upd bd4.out (i := (T : Int)) (d := -1) (by omega) (by omega))
  generalize hg5 : gAt (upd xs ((F : Int)) (1)) ((T : Int)) = y5 at c5 v5 hn5 hT5
  obtain ⟨v5a, v5b⟩ := v5
  clear hg5
  go_upto_region 10 with fail
  rw [show y5 + (-1) = y5 - 1 from by omega] at hn5 hT5
  generalize (w4.setCell ⟨ga, T, none⟩ (.int .i64 (y5 - 1))) = w5 at hn5 hT5 ⊢
  have hA5 := hn5
  have hD5 := hD4.turn hT5 (by omega)
  have q5_0 : w5.cell? ⟨w.heap.size, 0, none⟩ = some (.int .i64 (P : Int)) := hT5.cell q4_0 (.inl (by simp only; omega)); have q5_1 : w5.cell? ⟨w.heap.size, 1, none⟩ = some (.int .i64 c) := hT5.cell q4_1 (.inl (by simp only; omega)); have q5_2 : w5.cell? ⟨w.heap.size, 2, none⟩ = some (.int .i64 h) := hT5.cell q4_2 (.inl (by simp only; omega)); have q5_3 : w5.cell? ⟨w.heap.size, 3, none⟩ = some (.int .i64 s) := hT5.cell q4_3 (.inl (by simp only; omega)); have q5_4 : w5.cell? ⟨w.heap.size + 1, 0, none⟩ = some (.slice (some ⟨b, o, none⟩) n k) := hT5.cell q4_4 (.inl (by simp only; omega)); have q5_5 : w5.cell? ⟨w.heap.size + 1, 1, none⟩ = some (.slice (some ⟨d, q, none⟩) m l) := hT5.cell q4_5 (.inl (by simp only; omega)); have q5_6 : w5.cell? ⟨w.heap.size + 1 + 1, 0, none⟩ = some (.int .i64 (F : Int)) := hT5.cell q4_6 (.inl (by simp only; omega)); have q5_7 : w5.cell? ⟨w.heap.size + 1 + 1, 1, none⟩ = some (.int .i64 (T : Int)) := hT5.cell q4_7 (.inl (by simp only; omega)); have q5_8 : w5.cell? ⟨w.heap.size + 1 + 1, 2, none⟩ = some (.int .i64 kd) := hT5.cell q4_8 (.inl (by simp only; omega)); have q5_9 : w5.cell? ⟨w.heap.size + 1 + 1, 3, none⟩ = some (.bool true) := hT5.cell q4_9 (.inl (by simp only; omega))
  have u5_0 : w5.cell? ⟨w2.heap.size, 0, none⟩ = some (.slice (some ⟨ga, 0, none⟩) n ka) := hT5.cell u4_0 (.inr (by simp only; omega)); have u5_1 : w5.cell? ⟨w2.heap.size, 1, none⟩ = some (.slice (some ⟨gd, 0, none⟩) m kb) := hT5.cell u4_1 (.inr (by simp only; omega))
  have hR5 := hT5.blk hR4 (.inl (by omega))
  have hp5 := Turn.past hT5 hp4 (by omega)
  have c6 := hD5.cell_i (J := P - 1 - T) ((P : Int) - 1 - (T : Int)) (by omega) (by omega)
  have v6 := bdy.out ((P : Int) - 1 - (T : Int))
  have f6 : w5.frozen? ⟨gd, P - 1 - T, none⟩ = false := World.ownsRow.frozenAt hD5 _
  have hn6 := hD5.upd (J := P - 1 - T) ((P : Int) - 1 - (T : Int)) (1) (by omega)
  have hT6 := Turn.set w5 gd (P - 1 - T) (.int .i64 (gAt ys ((P : Int) - 1 - (T : Int)) + 1))
  have bd6 := Lib.hid (Bd.upd bdy.out (i := (P : Int) - 1 - (T : Int)) (d := 1) (by omega) (by omega))
  generalize hg6 : gAt ys ((P : Int) - 1 - (T : Int)) = y6 at c6 v6 hn6 hT6
  obtain ⟨v6a, v6b⟩ := v6
  clear hg6
  go_upto_region 11 with fail
  generalize (w5.setCell ⟨gd, P - 1 - T, none⟩ (.int .i64 (y6 + 1))) = w6 at hn6 hT6 ⊢
  have hD6 := hn6
  have hA6 := hA5.turn hT6 (by omega)
  have q6_0 : w6.cell? ⟨w.heap.size, 0, none⟩ = some (.int .i64 (P : Int)) := hT6.cell q5_0 (.inl (by simp only; omega)); have q6_1 : w6.cell? ⟨w.heap.size, 1, none⟩ = some (.int .i64 c) := hT6.cell q5_1 (.inl (by simp only; omega)); have q6_2 : w6.cell? ⟨w.heap.size, 2, none⟩ = some (.int .i64 h) := hT6.cell q5_2 (.inl (by simp only; omega)); have q6_3 : w6.cell? ⟨w.heap.size, 3, none⟩ = some (.int .i64 s) := hT6.cell q5_3 (.inl (by simp only; omega)); have q6_4 : w6.cell? ⟨w.heap.size + 1, 0, none⟩ = some (.slice (some ⟨b, o, none⟩) n k) := hT6.cell q5_4 (.inl (by simp only; omega)); have q6_5 : w6.cell? ⟨w.heap.size + 1, 1, none⟩ = some (.slice (some ⟨d, q, none⟩) m l) := hT6.cell q5_5 (.inl (by simp only; omega)); have q6_6 : w6.cell? ⟨w.heap.size + 1 + 1, 0, none⟩ = some (.int .i64 (F : Int)) := hT6.cell q5_6 (.inl (by simp only; omega)); have q6_7 : w6.cell? ⟨w.heap.size + 1 + 1, 1, none⟩ = some (.int .i64 (T : Int)) := hT6.cell q5_7 (.inl (by simp only; omega)); have q6_8 : w6.cell? ⟨w.heap.size + 1 + 1, 2, none⟩ = some (.int .i64 kd) := hT6.cell q5_8 (.inl (by simp only; omega)); have q6_9 : w6.cell? ⟨w.heap.size + 1 + 1, 3, none⟩ = some (.bool true) := hT6.cell q5_9 (.inl (by simp only; omega))
  have u6_0 : w6.cell? ⟨w2.heap.size, 0, none⟩ = some (.slice (some ⟨ga, 0, none⟩) n ka) := hT6.cell u5_0 (.inr (by simp only; omega)); have u6_1 : w6.cell? ⟨w2.heap.size, 1, none⟩ = some (.slice (some ⟨gd, 0, none⟩) m kb) := hT6.cell u5_1 (.inr (by simp only; omega))
  have hR6 := hT6.blk hR5 (.inl (by omega))
  have hp6 := Turn.past hT6 hp5 (by omega)
  have c7 := hD6.cell_i (J := P) ((P : Int)) (by omega) (by omega)
  have v7 := bd6.out ((P : Int))
  have f7 : w6.frozen? ⟨gd, P, none⟩ = false := World.ownsRow.frozenAt hD6 _
  have hn7 := hD6.upd (J := P) ((P : Int)) (-1) (by omega)
  have hT7 := Turn.set w6 gd (P) (.int .i64 (gAt (upd ys ((P : Int) - 1 - (T : Int)) (1)) ((P : Int)) + -1))
  have bd7 := Lib.hid (Bd.upd bd6.out (i := (P : Int)) (d := -1) (by omega) (by omega))
  generalize hg7 : gAt (upd ys ((P : Int) - 1 - (T : Int)) (1)) ((P : Int)) = y7 at c7 v7 hn7 hT7
  obtain ⟨v7a, v7b⟩ := v7
  clear hg7
  go_upto_region 12 with fail
  rw [show y7 + (-1) = y7 - 1 from by omega] at hn7 hT7
  generalize (w6.setCell ⟨gd, P, none⟩ (.int .i64 (y7 - 1))) = w7 at hn7 hT7 ⊢
  have hD7 := hn7
  have hA7 := hA6.turn hT7 (by omega)
  have q7_0 : w7.cell? ⟨w.heap.size, 0, none⟩ = some (.int .i64 (P : Int)) := hT7.cell q6_0 (.inl (by simp only; omega)); have q7_1 : w7.cell? ⟨w.heap.size, 1, none⟩ = some (.int .i64 c) := hT7.cell q6_1 (.inl (by simp only; omega)); have q7_2 : w7.cell? ⟨w.heap.size, 2, none⟩ = some (.int .i64 h) := hT7.cell q6_2 (.inl (by simp only; omega)); have q7_3 : w7.cell? ⟨w.heap.size, 3, none⟩ = some (.int .i64 s) := hT7.cell q6_3 (.inl (by simp only; omega)); have q7_4 : w7.cell? ⟨w.heap.size + 1, 0, none⟩ = some (.slice (some ⟨b, o, none⟩) n k) := hT7.cell q6_4 (.inl (by simp only; omega)); have q7_5 : w7.cell? ⟨w.heap.size + 1, 1, none⟩ = some (.slice (some ⟨d, q, none⟩) m l) := hT7.cell q6_5 (.inl (by simp only; omega)); have q7_6 : w7.cell? ⟨w.heap.size + 1 + 1, 0, none⟩ = some (.int .i64 (F : Int)) := hT7.cell q6_6 (.inl (by simp only; omega)); have q7_7 : w7.cell? ⟨w.heap.size + 1 + 1, 1, none⟩ = some (.int .i64 (T : Int)) := hT7.cell q6_7 (.inl (by simp only; omega)); have q7_8 : w7.cell? ⟨w.heap.size + 1 + 1, 2, none⟩ = some (.int .i64 kd) := hT7.cell q6_8 (.inl (by simp only; omega)); have q7_9 : w7.cell? ⟨w.heap.size + 1 + 1, 3, none⟩ = some (.bool true) := hT7.cell q6_9 (.inl (by simp only; omega))
  have u7_0 : w7.cell? ⟨w2.heap.size, 0, none⟩ = some (.slice (some ⟨ga, 0, none⟩) n ka) := hT7.cell u6_0 (.inr (by simp only; omega)); have u7_1 : w7.cell? ⟨w2.heap.size, 1, none⟩ = some (.slice (some ⟨gd, 0, none⟩) m kb) := hT7.cell u6_1 (.inr (by simp only; omega))
  have hR7 := hT7.blk hR6 (.inl (by omega))
  have hp7 := Turn.past hT7 hp6 (by omega)
  have eA7 := own_at hA7
  have eD7 := own_at hD7
  go_wp2_with fail
  (with_reducible refine (isBoard_b _ _ _ _ _ _ _ _ _ _ _ _ _ _ HB2 hA7.rd hD7.rd hn2 hm2).mono ?_)
  rintro e w8 ⟨rfl, hb8⟩
  have q8_0 : w8.cell? ⟨w.heap.size, 0, none⟩ = some (.int .i64 (P : Int)) := hb8.keep q7_0; have q8_1 : w8.cell? ⟨w.heap.size, 1, none⟩ = some (.int .i64 c) := hb8.keep q7_1; have q8_2 : w8.cell? ⟨w.heap.size, 2, none⟩ = some (.int .i64 h) := hb8.keep q7_2; have q8_3 : w8.cell? ⟨w.heap.size, 3, none⟩ = some (.int .i64 s) := hb8.keep q7_3; have q8_4 : w8.cell? ⟨w.heap.size + 1, 0, none⟩ = some (.slice (some ⟨b, o, none⟩) n k) := hb8.keep q7_4; have q8_5 : w8.cell? ⟨w.heap.size + 1, 1, none⟩ = some (.slice (some ⟨d, q, none⟩) m l) := hb8.keep q7_5; have q8_6 : w8.cell? ⟨w.heap.size + 1 + 1, 0, none⟩ = some (.int .i64 (F : Int)) := hb8.keep q7_6; have q8_7 : w8.cell? ⟨w.heap.size + 1 + 1, 1, none⟩ = some (.int .i64 (T : Int)) := hb8.keep q7_7; have q8_8 : w8.cell? ⟨w.heap.size + 1 + 1, 2, none⟩ = some (.int .i64 kd) := hb8.keep q7_8; have q8_9 : w8.cell? ⟨w.heap.size + 1 + 1, 3, none⟩ = some (.bool true) := hb8.keep q7_9
  have hR8 := hR7.past hb8
  have hp8 := hp7.trans hb8
  have hA8 := hA7.past hb8
  have hD8 := hD7.past hb8
  have u8_0 : w8.cell? ⟨w2.heap.size, 0, none⟩ = some (.slice (some ⟨ga, 0, none⟩) n ka) := hb8.keep u7_0; have u8_1 : w8.cell? ⟨w2.heap.size, 1, none⟩ = some (.slice (some ⟨gd, 0, none⟩) m kb) := hb8.keep u7_1
  have r0 := hR8.cell 0 rfl; have r1 := hR8.cell 1 rfl; have r2 := hR8.free 0; have r3 := hR8.free 1
  replace hA8 := hA8.less (base' := w.heap.size) (by omega)
  replace hD8 := hD8.less (base' := w.heap.size) (by omega)
  cases b2
  · go_wp2
    refine bodyPost_ret (v := .tuple #[.agg #[.slice none 0 0, .slice none 0 0], .int .i64 4]) (by simp [r0, r1, results, Try.results55, go_sem]) rfl (BoardCode.empty ((hp8.setCell (by simp only; omega) _).setCell (by simp only; omega) _))
  · have F2 := Lib.hid (bFacts HB2.out)
    have h0x := Lib.hid F2.out.2.2.2.2.1.2.1
    have h0y := Lib.hid F2.out.2.2.2.2.2.2.1
    have ux : (upd (upd xs (F : Int) (1)) (T : Int) (-1)).sum ≤ 1000000 := by have := F2.out; omega
    have uy : (upd (upd ys ((P : Int) - 1 - (T : Int)) (1)) (P : Int) (-1)).sum ≤ 1000000 := by have := F2.out; omega
    have hql := legalStep_any P c h s (F : Int) T kd true (some ⟨ga, 0, none⟩) (some ⟨gd, 0, none⟩) n ka m kb (upd (upd xs (F : Int) (1)) (T : Int) (-1)) (upd (upd ys ((P : Int) - 1 - (T : Int)) (1)) (P : Int) (-1)) w8 hA8.rd hD8.rd HN.out HM.out hP s1 h0x h0y ux uy
    rw [HL2.out] at hql
    have HQ := Lib.hid hql
    clear hql ux uy r0 r1 r2 r3
    go_wp2_with fail
    (with_reducible refine (HQ.out).mono ?_)
    rintro e w9 ⟨rfl, hb9⟩
    have q9_0 : w9.cell? ⟨w.heap.size, 0, none⟩ = some (.int .i64 (P : Int)) := hb9.keep q8_0; have q9_1 : w9.cell? ⟨w.heap.size, 1, none⟩ = some (.int .i64 c) := hb9.keep q8_1; have q9_2 : w9.cell? ⟨w.heap.size, 2, none⟩ = some (.int .i64 h) := hb9.keep q8_2; have q9_3 : w9.cell? ⟨w.heap.size, 3, none⟩ = some (.int .i64 s) := hb9.keep q8_3; have q9_4 : w9.cell? ⟨w.heap.size + 1, 0, none⟩ = some (.slice (some ⟨b, o, none⟩) n k) := hb9.keep q8_4; have q9_5 : w9.cell? ⟨w.heap.size + 1, 1, none⟩ = some (.slice (some ⟨d, q, none⟩) m l) := hb9.keep q8_5; have q9_6 : w9.cell? ⟨w.heap.size + 1 + 1, 0, none⟩ = some (.int .i64 (F : Int)) := hb9.keep q8_6; have q9_7 : w9.cell? ⟨w.heap.size + 1 + 1, 1, none⟩ = some (.int .i64 (T : Int)) := hb9.keep q8_7; have q9_8 : w9.cell? ⟨w.heap.size + 1 + 1, 2, none⟩ = some (.int .i64 kd) := hb9.keep q8_8; have q9_9 : w9.cell? ⟨w.heap.size + 1 + 1, 3, none⟩ = some (.bool true) := hb9.keep q8_9
    have hR9 := hR8.past hb9
    have hp9 := hp8.trans hb9
    have hA9 := hA8.past hb9
    have hD9 := hD8.past hb9
    have u9_0 : w9.cell? ⟨w2.heap.size, 0, none⟩ = some (.slice (some ⟨ga, 0, none⟩) n ka) := hb9.keep u8_0; have u9_1 : w9.cell? ⟨w2.heap.size, 1, none⟩ = some (.slice (some ⟨gd, 0, none⟩) m kb) := hb9.keep u8_1
    have r0 := hR9.cell 0 rfl; have r1 := hR9.cell 1 rfl; have r2 := hR9.free 0; have r3 := hR9.free 1
    cases l2
    · go_wp2
      refine bodyPost_ret (v := .tuple #[.agg #[.slice none 0 0, .slice none 0 0], .int .i64 4]) (by simp [r0, r1, results, Try.results55, go_sem]) rfl (BoardCode.empty ((hp9.setCell (by simp only; omega) _).setCell (by simp only; omega) _))
    · go_wp2
      refine bodyPost_ret (v := .tuple #[.agg #[.slice (some ⟨ga, 0, none⟩) n ka, .slice (some ⟨gd, 0, none⟩) m kb], .int .i64 0]) (by simp [r0, r1, results, Try.results55, go_sem]) rfl (BoardNew.code ((hA9.far (by simp only; omega) _).far (by simp only; omega) _) ((hD9.far (by simp only; omega) _).far (by simp only; omega) _) hne ((hp9.setCell (by simp only; omega) _).setCell (by simp only; omega) _))
end Go.Proofs.Ytapocfgajkkpdaa
