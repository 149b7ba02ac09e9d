/-
  Contracts: the board behind a legal step.
-/
import Derived.Test.YtapocfgajkkpdaaPut
import Derived.Test.YtapocfgajkkpdaaLegal
namespace Go.Proofs.Ytapocfgajkkpdaa
open Go.ChangeShapes Go.WideShapes Go.ChangeAt Go.RowKit Go.Joins

set_option maxHeartbeats 4000000 in
set_option maxRecDepth 100000 in
theorem after_off (P F : Nat) (c h s kd : Int) (b o d q n k m l : Nat) (xs ys : List Int) (w : World) (hx : RdI w (some ⟨b, o, none⟩) n xs) (hy : RdI w (some ⟨d, q, none⟩) m ys) (hn : n = P + 1) (hm : m = P + 1) (hP : P ≤ 24) (f1 : (F : Int) ≤ P) (bdx : Hid (Bd 15 xs)) (_ : Hid (Bd 15 ys)) :
    Calls Try.prog 93 #[.agg #[.int .i64 (P : Int), .int .i64 c, .int .i64 h, .int .i64 s], .agg #[.slice (some ⟨b, o, none⟩) n k, .slice (some ⟨d, q, none⟩) m l], .agg #[.int .i64 (F : Int), .int .i64 (-1), .int .i64 kd, .bool false]] w (BoardNew w n m (apX xs ⟨(F : Int), (-1), kd, false⟩) (apY P ys ⟨(F : Int), (-1), kd, false⟩)) := by
  rw [show apX xs ⟨(F : Int), (-1), kd, false⟩ = upd xs F (-1) from rfl, show apY P ys ⟨(F : Int), (-1), kd, false⟩ = ys from rfl]
  have hn2 : n ≤ 1048576 := by omega
  have hm2 : m ≤ 1048576 := by omega
  have g1 : (P : Int) < (n : Int) := by omega
  have g2 : (P : Int) < (m : Int) := by omega
  clear hn hm
  obtain ⟨w0, hw0⟩ : ∃ w0 : World, w0 = ((((w.alloc (.cells #[.int .i64 (P : Int), .int .i64 c, .int .i64 h, .int .i64 s] 25)).alloc (.cells #[.slice (some ⟨b, o, none⟩) n k, .slice (some ⟨d, q, none⟩) m l] 43)).alloc (.cells #[.int .i64 (F : Int), .int .i64 (-1), .int .i64 kd, .bool false] 66)).alloc (.cells #[.slice none 0 0, .slice none 0 0] 43)) := ⟨_, rfl⟩
  have hp0 : Past w w0 := by rw [hw0]; exact (by repeat (first | exact Past.refl _ | assumption | refine Past.alloc ?_ _ | refine Past.drew ?_ | refine Past.drewN ?_ _ | refine Past.setCell ?_ (by first | (simp; done) | (simp <;> omega)) _ | refine Past.trans ?_ (past_over _ _) | refine Past.trans ?_ (by assumption)))
  have q0_0 : w0.cell? ⟨w.heap.size, 0, none⟩ = some (.int .i64 (P : Int)) := by rw [hw0]; simp [go_sem]
  have q0_1 : w0.cell? ⟨w.heap.size, 1, none⟩ = some (.int .i64 c) := by rw [hw0]; simp [go_sem]
  have q0_2 : w0.cell? ⟨w.heap.size, 2, none⟩ = some (.int .i64 h) := by rw [hw0]; simp [go_sem]
  have q0_3 : w0.cell? ⟨w.heap.size, 3, none⟩ = some (.int .i64 s) := by rw [hw0]; simp [go_sem]
  have q0_4 : w0.cell? ⟨w.heap.size + 1, 0, none⟩ = some (.slice (some ⟨b, o, none⟩) n k) := by rw [hw0]; simp [go_sem]
  have q0_5 : w0.cell? ⟨w.heap.size + 1, 1, none⟩ = some (.slice (some ⟨d, q, none⟩) m l) := by rw [hw0]; simp [go_sem]
  have q0_6 : w0.cell? ⟨w.heap.size + 1 + 1, 0, none⟩ = some (.int .i64 (F : Int)) := by rw [hw0]; simp [go_sem]
  have q0_7 : w0.cell? ⟨w.heap.size + 1 + 1, 1, none⟩ = some (.int .i64 (-1)) := by rw [hw0]; simp [go_sem]
  have q0_8 : w0.cell? ⟨w.heap.size + 1 + 1, 2, none⟩ = some (.int .i64 kd) := by rw [hw0]; simp [go_sem]
  have q0_9 : w0.cell? ⟨w.heap.size + 1 + 1, 3, none⟩ = some (.bool false) := by rw [hw0]; simp [go_sem]
  have hR0 : Blk w0 (w.heap.size + 1 + 1 + 1) 43 #[.slice none 0 0, .slice none 0 0] := by rw [hw0]; exact Blk.at_ (by simp [go_sem])
  have zs : w0.heap.size = w.heap.size + 4 := by rw [hw0]; simp [go_sem]
  have zl : w.heap.size + 4 ≤ w0.heap.size := by omega
  clear zs
  go_enter Try.func93, Try.ntmps93
  go_upto_region 1 with fail
  rw [← hw0]
  clear hw0
  go_wp2_with fail
  (with_reducible refine (cloneBoard_any _ _ _ _ _ _ _ _ _ _ _ (hx.past hp0) (hy.past hp0) hn2 hm2).mono ?_)
  rintro e w1 ⟨ga, gd, ka, kb, rfl, hA1, hD1, hne, hb1⟩
  have q1_0 : w1.cell? ⟨w.heap.size, 0, none⟩ = some (.int .i64 (P : Int)) := hb1.keep q0_0; have q1_1 : w1.cell? ⟨w.heap.size, 1, none⟩ = some (.int .i64 c) := hb1.keep q0_1; have q1_2 : w1.cell? ⟨w.heap.size, 2, none⟩ = some (.int .i64 h) := hb1.keep q0_2; have q1_3 : w1.cell? ⟨w.heap.size, 3, none⟩ = some (.int .i64 s) := hb1.keep q0_3; have q1_4 : w1.cell? ⟨w.heap.size + 1, 0, none⟩ = some (.slice (some ⟨b, o, none⟩) n k) := hb1.keep q0_4; have q1_5 : w1.cell? ⟨w.heap.size + 1, 1, none⟩ = some (.slice (some ⟨d, q, none⟩) m l) := hb1.keep q0_5; have q1_6 : w1.cell? ⟨w.heap.size + 1 + 1, 0, none⟩ = some (.int .i64 (F : Int)) := hb1.keep q0_6; have q1_7 : w1.cell? ⟨w.heap.size + 1 + 1, 1, none⟩ = some (.int .i64 (-1)) := hb1.keep q0_7; have q1_8 : w1.cell? ⟨w.heap.size + 1 + 1, 2, none⟩ = some (.int .i64 kd) := hb1.keep q0_8; have q1_9 : w1.cell? ⟨w.heap.size + 1 + 1, 3, none⟩ = some (.bool false) := hb1.keep q0_9
  have hR1 := hR0.past hb1
  have hp1 := hp0.trans hb1
  go_upto_region 2 with fail
  have eA := own_at hA1
  have eD := own_at hD1
  have hb2 := (Past.refl w1).alloc (.cells #[.slice (some ⟨ga, 0, none⟩) n ka, .slice (some ⟨gd, 0, none⟩) m kb] 43)
  have hA2 := hA1.alloc (.cells #[.slice (some ⟨ga, 0, none⟩) n ka, .slice (some ⟨gd, 0, none⟩) m kb] 43)
  have hD2 := hD1.alloc (.cells #[.slice (some ⟨ga, 0, none⟩) n ka, .slice (some ⟨gd, 0, none⟩) m kb] 43)
  have u2_0 : (w1.alloc (.cells #[.slice (some ⟨ga, 0, none⟩) n ka, .slice (some ⟨gd, 0, none⟩) m kb] 43)).cell? ⟨w1.heap.size, 0, none⟩ = some (.slice (some ⟨ga, 0, none⟩) n ka) := by simp
  have u2_1 : (w1.alloc (.cells #[.slice (some ⟨ga, 0, none⟩) n ka, .slice (some ⟨gd, 0, none⟩) m kb] 43)).cell? ⟨w1.heap.size, 1, none⟩ = some (.slice (some ⟨gd, 0, none⟩) m kb) := by simp
  generalize w1.alloc (.cells #[.slice (some ⟨ga, 0, none⟩) n ka, .slice (some ⟨gd, 0, none⟩) m kb] 43) = w2 at hb2 hA2 hD2 u2_0 u2_1 ⊢
  have q2_0 : w2.cell? ⟨w.heap.size, 0, none⟩ = some (.int .i64 (P : Int)) := hb2.keep q1_0; have q2_1 : w2.cell? ⟨w.heap.size, 1, none⟩ = some (.int .i64 c) := hb2.keep q1_1; have q2_2 : w2.cell? ⟨w.heap.size, 2, none⟩ = some (.int .i64 h) := hb2.keep q1_2; have q2_3 : w2.cell? ⟨w.heap.size, 3, none⟩ = some (.int .i64 s) := hb2.keep q1_3; have q2_4 : w2.cell? ⟨w.heap.size + 1, 0, none⟩ = some (.slice (some ⟨b, o, none⟩) n k) := hb2.keep q1_4; have q2_5 : w2.cell? ⟨w.heap.size + 1, 1, none⟩ = some (.slice (some ⟨d, q, none⟩) m l) := hb2.keep q1_5; have q2_6 : w2.cell? ⟨w.heap.size + 1 + 1, 0, none⟩ = some (.int .i64 (F : Int)) := hb2.keep q1_6; have q2_7 : w2.cell? ⟨w.heap.size + 1 + 1, 1, none⟩ = some (.int .i64 (-1)) := hb2.keep q1_7; have q2_8 : w2.cell? ⟨w.heap.size + 1 + 1, 2, none⟩ = some (.int .i64 kd) := hb2.keep q1_8; have q2_9 : w2.cell? ⟨w.heap.size + 1 + 1, 3, none⟩ = some (.bool false) := hb2.keep q1_9
  have hR2 := hR1.past hb2
  have hp2 := hp1.trans hb2
  have c3 := hA2.cell_i (J := F) ((F : Int)) (by omega) (by omega)
  have v3 := bdx.out ((F : Int))
  have f3 : w2.frozen? ⟨ga, F, none⟩ = false := World.ownsRow.frozenAt hA2 _
  have hn3 := hA2.upd (J := F) ((F : Int)) (-1) (by omega)
  have hT3 := Turn.set w2 ga (F) (.int .i64 (gAt xs ((F : Int)) + -1))
  have bd3 := Lib.hid (Bd.upd bdx.out (i := (F : Int)) (d := -1) (by omega) (by omega))
  generalize hg3 : gAt xs ((F : Int)) = y3 at c3 v3 hn3 hT3
  obtain ⟨v3a, v3b⟩ := v3
  clear hg3
  go_upto_region 8 with fail
  rw [show y3 + (-1) = y3 - 1 from by omega] at hn3 hT3
  generalize (w2.setCell ⟨ga, F, none⟩ (.int .i64 (y3 - 1))) = w3 at hn3 hT3 ⊢
  have hA3 := hn3
  have hD3 := hD2.turn hT3 (by omega)
  have q3_0 : w3.cell? ⟨w.heap.size, 0, none⟩ = some (.int .i64 (P : Int)) := hT3.cell q2_0 (.inl (by simp only; omega)); have q3_1 : w3.cell? ⟨w.heap.size, 1, none⟩ = some (.int .i64 c) := hT3.cell q2_1 (.inl (by simp only; omega)); have q3_2 : w3.cell? ⟨w.heap.size, 2, none⟩ = some (.int .i64 h) := hT3.cell q2_2 (.inl (by simp only; omega)); have q3_3 : w3.cell? ⟨w.heap.size, 3, none⟩ = some (.int .i64 s) := hT3.cell q2_3 (.inl (by simp only; omega)); have q3_4 : w3.cell? ⟨w.heap.size + 1, 0, none⟩ = some (.slice (some ⟨b, o, none⟩) n k) := hT3.cell q2_4 (.inl (by simp only; omega)); have q3_5 : w3.cell? ⟨w.heap.size + 1, 1, none⟩ = some (.slice (some ⟨d, q, none⟩) m l) := hT3.cell q2_5 (.inl (by simp only; omega)); have q3_6 : w3.cell? ⟨w.heap.size + 1 + 1, 0, none⟩ = some (.int .i64 (F : Int)) := hT3.cell q2_6 (.inl (by simp only; omega)); have q3_7 : w3.cell? ⟨w.heap.size + 1 + 1, 1, none⟩ = some (.int .i64 (-1)) := hT3.cell q2_7 (.inl (by simp only; omega)); have q3_8 : w3.cell? ⟨w.heap.size + 1 + 1, 2, none⟩ = some (.int .i64 kd) := hT3.cell q2_8 (.inl (by simp only; omega)); have q3_9 : w3.cell? ⟨w.heap.size + 1 + 1, 3, none⟩ = some (.bool false) := hT3.cell q2_9 (.inl (by simp only; omega))
  have u3_0 : w3.cell? ⟨w1.heap.size, 0, none⟩ = some (.slice (some ⟨ga, 0, none⟩) n ka) := hT3.cell u2_0 (.inr (by simp only; omega)); have u3_1 : w3.cell? ⟨w1.heap.size, 1, none⟩ = some (.slice (some ⟨gd, 0, none⟩) m kb) := hT3.cell u2_1 (.inr (by simp only; omega))
  have hR3 := hT3.blk hR2 (.inl (by omega))
  have hp3 := Turn.past hT3 hp2 (by omega)
  have r0 := hR3.cell 0 rfl; have r1 := hR3.cell 1 rfl; have r2 := hR3.free 0; have r3 := hR3.free 1
  replace hA3 := hA3.less (base' := w.heap.size) (by omega)
  replace hD3 := hD3.less (base' := w.heap.size) (by omega)
  go_wp2
  refine bodyPost_ret (v := .agg #[.slice (some ⟨ga, 0, none⟩) n ka, .slice (some ⟨gd, 0, none⟩) m kb]) (by simp [r0, r1, results, Try.results93, go_sem]) rfl ⟨ga, gd, ka, kb, rfl, (hA3.far (by simp only; omega) _).far (by simp only; omega) _, (hD3.far (by simp only; omega) _).far (by simp only; omega) _, hne, (hp3.setCell (by simp only; omega) _).setCell (by simp only; omega) _⟩
set_option maxHeartbeats 4000000 in
set_option maxRecDepth 100000 in
theorem after_in (P F : Nat) (T : Nat) (t1 : (T : Int) < P) (c h s kd : Int) (b o d q n k m l : Nat) (xs ys : List Int) (w : World) (hx : RdI w (some ⟨b, o, none⟩) n xs) (hy : RdI w (some ⟨d, q, none⟩) m ys) (hn : n = P + 1) (hm : m = P + 1) (hP : P ≤ 24) (f1 : (F : Int) ≤ P) (bdx : Hid (Bd 15 xs)) (_ : Hid (Bd 15 ys)) :
    Calls Try.prog 93 #[.agg #[.int .i64 (P : Int), .int .i64 c, .int .i64 h, .int .i64 s], .agg #[.slice (some ⟨b, o, none⟩) n k, .slice (some ⟨d, q, none⟩) m l], .agg #[.int .i64 (F : Int), .int .i64 (T : Int), .int .i64 kd, .bool false]] w (BoardNew w n m (apX xs ⟨(F : Int), T, kd, false⟩) (apY P ys ⟨(F : Int), T, kd, false⟩)) := by
  rw [show apX xs ⟨(F : Int), T, kd, false⟩ = upd (upd xs F (-1)) T (1) from if_pos (Int.natCast_nonneg T), show apY P ys ⟨(F : Int), T, kd, false⟩ = ys from rfl]
  have hn2 : n ≤ 1048576 := by omega
  have hm2 : m ≤ 1048576 := by omega
  have g1 : (P : Int) < (n : Int) := by omega
  have g2 : (P : Int) < (m : Int) := by omega
  clear hn hm
  obtain ⟨w0, hw0⟩ : ∃ w0 : World, w0 = ((((w.alloc (.cells #[.int .i64 (P : Int), .int .i64 c, .int .i64 h, .int .i64 s] 25)).alloc (.cells #[.slice (some ⟨b, o, none⟩) n k, .slice (some ⟨d, q, none⟩) m l] 43)).alloc (.cells #[.int .i64 (F : Int), .int .i64 (T : Int), .int .i64 kd, .bool false] 66)).alloc (.cells #[.slice none 0 0, .slice none 0 0] 43)) := ⟨_, rfl⟩
  have hp0 : Past w w0 := by rw [hw0]; exact (by repeat (first | exact Past.refl _ | assumption | refine Past.alloc ?_ _ | refine Past.drew ?_ | refine Past.drewN ?_ _ | refine Past.setCell ?_ (by first | (simp; done) | (simp <;> omega)) _ | refine Past.trans ?_ (past_over _ _) | refine Past.trans ?_ (by assumption)))
  have q0_0 : w0.cell? ⟨w.heap.size, 0, none⟩ = some (.int .i64 (P : Int)) := by rw [hw0]; simp [go_sem]
  have q0_1 : w0.cell? ⟨w.heap.size, 1, none⟩ = some (.int .i64 c) := by rw [hw0]; simp [go_sem]
  have q0_2 : w0.cell? ⟨w.heap.size, 2, none⟩ = some (.int .i64 h) := by rw [hw0]; simp [go_sem]
  have q0_3 : w0.cell? ⟨w.heap.size, 3, none⟩ = some (.int .i64 s) := by rw [hw0]; simp [go_sem]
  have q0_4 : w0.cell? ⟨w.heap.size + 1, 0, none⟩ = some (.slice (some ⟨b, o, none⟩) n k) := by rw [hw0]; simp [go_sem]
  have q0_5 : w0.cell? ⟨w.heap.size + 1, 1, none⟩ = some (.slice (some ⟨d, q, none⟩) m l) := by rw [hw0]; simp [go_sem]
  have q0_6 : w0.cell? ⟨w.heap.size + 1 + 1, 0, none⟩ = some (.int .i64 (F : Int)) := by rw [hw0]; simp [go_sem]
  have q0_7 : w0.cell? ⟨w.heap.size + 1 + 1, 1, none⟩ = some (.int .i64 (T : Int)) := by rw [hw0]; simp [go_sem]
  have q0_8 : w0.cell? ⟨w.heap.size + 1 + 1, 2, none⟩ = some (.int .i64 kd) := by rw [hw0]; simp [go_sem]
  have q0_9 : w0.cell? ⟨w.heap.size + 1 + 1, 3, none⟩ = some (.bool false) := by rw [hw0]; simp [go_sem]
  have hR0 : Blk w0 (w.heap.size + 1 + 1 + 1) 43 #[.slice none 0 0, .slice none 0 0] := by rw [hw0]; exact Blk.at_ (by simp [go_sem])
  have zs : w0.heap.size = w.heap.size + 4 := by rw [hw0]; simp [go_sem]
  have zl : w.heap.size + 4 ≤ w0.heap.size := by omega
  clear zs
  go_enter Try.func93, Try.ntmps93
  go_upto_region 1 with fail
  rw [← hw0]
  clear hw0
  go_wp2_with fail
  (with_reducible refine (cloneBoard_any _ _ _ _ _ _ _ _ _ _ _ (hx.past hp0) (hy.past hp0) hn2 hm2).mono ?_)
  rintro e w1 ⟨ga, gd, ka, kb, rfl, hA1, hD1, hne, hb1⟩
  have q1_0 : w1.cell? ⟨w.heap.size, 0, none⟩ = some (.int .i64 (P : Int)) := hb1.keep q0_0; have q1_1 : w1.cell? ⟨w.heap.size, 1, none⟩ = some (.int .i64 c) := hb1.keep q0_1; have q1_2 : w1.cell? ⟨w.heap.size, 2, none⟩ = some (.int .i64 h) := hb1.keep q0_2; have q1_3 : w1.cell? ⟨w.heap.size, 3, none⟩ = some (.int .i64 s) := hb1.keep q0_3; have q1_4 : w1.cell? ⟨w.heap.size + 1, 0, none⟩ = some (.slice (some ⟨b, o, none⟩) n k) := hb1.keep q0_4; have q1_5 : w1.cell? ⟨w.heap.size + 1, 1, none⟩ = some (.slice (some ⟨d, q, none⟩) m l) := hb1.keep q0_5; have q1_6 : w1.cell? ⟨w.heap.size + 1 + 1, 0, none⟩ = some (.int .i64 (F : Int)) := hb1.keep q0_6; have q1_7 : w1.cell? ⟨w.heap.size + 1 + 1, 1, none⟩ = some (.int .i64 (T : Int)) := hb1.keep q0_7; have q1_8 : w1.cell? ⟨w.heap.size + 1 + 1, 2, none⟩ = some (.int .i64 kd) := hb1.keep q0_8; have q1_9 : w1.cell? ⟨w.heap.size + 1 + 1, 3, none⟩ = some (.bool false) := hb1.keep q0_9
  have hR1 := hR0.past hb1
  have hp1 := hp0.trans hb1
  go_upto_region 2 with fail
  have eA := own_at hA1
  have eD := own_at hD1
  have hb2 := (Past.refl w1).alloc (.cells #[.slice (some ⟨ga, 0, none⟩) n ka, .slice (some ⟨gd, 0, none⟩) m kb] 43)
  have hA2 := hA1.alloc (.cells #[.slice (some ⟨ga, 0, none⟩) n ka, .slice (some ⟨gd, 0, none⟩) m kb] 43)
  have hD2 := hD1.alloc (.cells #[.slice (some ⟨ga, 0, none⟩) n ka, .slice (some ⟨gd, 0, none⟩) m kb] 43)
  have u2_0 : (w1.alloc (.cells #[.slice (some ⟨ga, 0, none⟩) n ka, .slice (some ⟨gd, 0, none⟩) m kb] 43)).cell? ⟨w1.heap.size, 0, none⟩ = some (.slice (some ⟨ga, 0, none⟩) n ka) := by simp
  have u2_1 : (w1.alloc (.cells #[.slice (some ⟨ga, 0, none⟩) n ka, .slice (some ⟨gd, 0, none⟩) m kb] 43)).cell? ⟨w1.heap.size, 1, none⟩ = some (.slice (some ⟨gd, 0, none⟩) m kb) := by simp
  generalize w1.alloc (.cells #[.slice (some ⟨ga, 0, none⟩) n ka, .slice (some ⟨gd, 0, none⟩) m kb] 43) = w2 at hb2 hA2 hD2 u2_0 u2_1 ⊢
  have q2_0 : w2.cell? ⟨w.heap.size, 0, none⟩ = some (.int .i64 (P : Int)) := hb2.keep q1_0; have q2_1 : w2.cell? ⟨w.heap.size, 1, none⟩ = some (.int .i64 c) := hb2.keep q1_1; have q2_2 : w2.cell? ⟨w.heap.size, 2, none⟩ = some (.int .i64 h) := hb2.keep q1_2; have q2_3 : w2.cell? ⟨w.heap.size, 3, none⟩ = some (.int .i64 s) := hb2.keep q1_3; have q2_4 : w2.cell? ⟨w.heap.size + 1, 0, none⟩ = some (.slice (some ⟨b, o, none⟩) n k) := hb2.keep q1_4; have q2_5 : w2.cell? ⟨w.heap.size + 1, 1, none⟩ = some (.slice (some ⟨d, q, none⟩) m l) := hb2.keep q1_5; have q2_6 : w2.cell? ⟨w.heap.size + 1 + 1, 0, none⟩ = some (.int .i64 (F : Int)) := hb2.keep q1_6; have q2_7 : w2.cell? ⟨w.heap.size + 1 + 1, 1, none⟩ = some (.int .i64 (T : Int)) := hb2.keep q1_7; have q2_8 : w2.cell? ⟨w.heap.size + 1 + 1, 2, none⟩ = some (.int .i64 kd) := hb2.keep q1_8; have q2_9 : w2.cell? ⟨w.heap.size + 1 + 1, 3, none⟩ = some (.bool false) := hb2.keep q1_9
  have hR2 := hR1.past hb2
  have hp2 := hp1.trans hb2
  have c3 := hA2.cell_i (J := F) ((F : Int)) (by omega) (by omega)
  have v3 := bdx.out ((F : Int))
  have f3 : w2.frozen? ⟨ga, F, none⟩ = false := World.ownsRow.frozenAt hA2 _
  have hn3 := hA2.upd (J := F) ((F : Int)) (-1) (by omega)
  have hT3 := Turn.set w2 ga (F) (.int .i64 (gAt xs ((F : Int)) + -1))
  have bd3 := Lib.hid (Bd.upd bdx.out (i := (F : Int)) (d := -1) (by omega) (by omega))
  generalize hg3 : gAt xs ((F : Int)) = y3 at c3 v3 hn3 hT3
  obtain ⟨v3a, v3b⟩ := v3
  clear hg3
  go_upto_region 4 with fail
  rw [show y3 + (-1) = y3 - 1 from by omega] at hn3 hT3
  generalize (w2.setCell ⟨ga, F, none⟩ (.int .i64 (y3 - 1))) = w3 at hn3 hT3 ⊢
  have hA3 := hn3
  have hD3 := hD2.turn hT3 (by omega)
  have q3_0 : w3.cell? ⟨w.heap.size, 0, none⟩ = some (.int .i64 (P : Int)) := hT3.cell q2_0 (.inl (by simp only; omega)); have q3_1 : w3.cell? ⟨w.heap.size, 1, none⟩ = some (.int .i64 c) := hT3.cell q2_1 (.inl (by simp only; omega)); have q3_2 : w3.cell? ⟨w.heap.size, 2, none⟩ = some (.int .i64 h) := hT3.cell q2_2 (.inl (by simp only; omega)); have q3_3 : w3.cell? ⟨w.heap.size, 3, none⟩ = some (.int .i64 s) := hT3.cell q2_3 (.inl (by simp only; omega)); have q3_4 : w3.cell? ⟨w.heap.size + 1, 0, none⟩ = some (.slice (some ⟨b, o, none⟩) n k) := hT3.cell q2_4 (.inl (by simp only; omega)); have q3_5 : w3.cell? ⟨w.heap.size + 1, 1, none⟩ = some (.slice (some ⟨d, q, none⟩) m l) := hT3.cell q2_5 (.inl (by simp only; omega)); have q3_6 : w3.cell? ⟨w.heap.size + 1 + 1, 0, none⟩ = some (.int .i64 (F : Int)) := hT3.cell q2_6 (.inl (by simp only; omega)); have q3_7 : w3.cell? ⟨w.heap.size + 1 + 1, 1, none⟩ = some (.int .i64 (T : Int)) := hT3.cell q2_7 (.inl (by simp only; omega)); have q3_8 : w3.cell? ⟨w.heap.size + 1 + 1, 2, none⟩ = some (.int .i64 kd) := hT3.cell q2_8 (.inl (by simp only; omega)); have q3_9 : w3.cell? ⟨w.heap.size + 1 + 1, 3, none⟩ = some (.bool false) := hT3.cell q2_9 (.inl (by simp only; omega))
  have u3_0 : w3.cell? ⟨w1.heap.size, 0, none⟩ = some (.slice (some ⟨ga, 0, none⟩) n ka) := hT3.cell u2_0 (.inr (by simp only; omega)); have u3_1 : w3.cell? ⟨w1.heap.size, 1, none⟩ = some (.slice (some ⟨gd, 0, none⟩) m kb) := hT3.cell u2_1 (.inr (by simp only; omega))
  have hR3 := hT3.blk hR2 (.inl (by omega))
  have hp3 := Turn.past hT3 hp2 (by omega)
  have c4 := hA3.cell_i (J := T) ((T : Int)) (by omega) (by omega)
  have v4 := bd3.out ((T : Int))
  have f4 : w3.frozen? ⟨ga, T, none⟩ = false := World.ownsRow.frozenAt hA3 _
  have hn4 := hA3.upd (J := T) ((T : Int)) (1) (by omega)
  have hT4 := Turn.set w3 ga (T) (.int .i64 (gAt (upd xs ((F : Int)) (-1)) ((T : Int)) + 1))
  have bd4 := Lib.hid (Bd.upd bd3.out (i := (T : Int)) (d := 1) (by omega) (by omega))
  generalize hg4 : gAt (upd xs ((F : Int)) (-1)) ((T : Int)) = y4 at c4 v4 hn4 hT4
  obtain ⟨v4a, v4b⟩ := v4
  clear hg4
  go_upto_region 8 with fail
  generalize (w3.setCell ⟨ga, T, none⟩ (.int .i64 (y4 + 1))) = w4 at hn4 hT4 ⊢
  have hA4 := hn4
  have hD4 := hD3.turn hT4 (by omega)
  have q4_0 : w4.cell? ⟨w.heap.size, 0, none⟩ = some (.int .i64 (P : Int)) := hT4.cell q3_0 (.inl (by simp only; omega)); have q4_1 : w4.cell? ⟨w.heap.size, 1, none⟩ = some (.int .i64 c) := hT4.cell q3_1 (.inl (by simp only; omega)); have q4_2 : w4.cell? ⟨w.heap.size, 2, none⟩ = some (.int .i64 h) := hT4.cell q3_2 (.inl (by simp only; omega)); have q4_3 : w4.cell? ⟨w.heap.size, 3, none⟩ = some (.int .i64 s) := hT4.cell q3_3 (.inl (by simp only; omega)); have q4_4 : w4.cell? ⟨w.heap.size + 1, 0, none⟩ = some (.slice (some ⟨b, o, none⟩) n k) := hT4.cell q3_4 (.inl (by simp only; omega)); have q4_5 : w4.cell? ⟨w.heap.size + 1, 1, none⟩ = some (.slice (some ⟨d, q, none⟩) m l) := hT4.cell q3_5 (.inl (by simp only; omega)); have q4_6 : w4.cell? ⟨w.heap.size + 1 + 1, 0, none⟩ = some (.int .i64 (F : Int)) := hT4.cell q3_6 (.inl (by simp only; omega)); have q4_7 : w4.cell? ⟨w.heap.size + 1 + 1, 1, none⟩ = some (.int .i64 (T : Int)) := hT4.cell q3_7 (.inl (by simp only; omega)); have q4_8 : w4.cell? ⟨w.heap.size + 1 + 1, 2, none⟩ = some (.int .i64 kd) := hT4.cell q3_8 (.inl (by simp only; omega)); have q4_9 : w4.cell? ⟨w.heap.size + 1 + 1, 3, none⟩ = some (.bool false) := hT4.cell q3_9 (.inl (by simp only; omega))
  have u4_0 : w4.cell? ⟨w1.heap.size, 0, none⟩ = some (.slice (some ⟨ga, 0, none⟩) n ka) := hT4.cell u3_0 (.inr (by simp only; omega)); have u4_1 : w4.cell? ⟨w1.heap.size, 1, none⟩ = some (.slice (some ⟨gd, 0, none⟩) m kb) := hT4.cell u3_1 (.inr (by simp only; omega))
  have hR4 := hT4.blk hR3 (.inl (by omega))
  have hp4 := Turn.past hT4 hp3 (by omega)
  have r0 := hR4.cell 0 rfl; have r1 := hR4.cell 1 rfl; have r2 := hR4.free 0; have r3 := hR4.free 1
  replace hA4 := hA4.less (base' := w.heap.size) (by omega)
  replace hD4 := hD4.less (base' := w.heap.size) (by omega)
  go_wp2
  refine bodyPost_ret (v := .agg #[.slice (some ⟨ga, 0, none⟩) n ka, .slice (some ⟨gd, 0, none⟩) m kb]) (by simp [r0, r1, results, Try.results93, go_sem]) rfl ⟨ga, gd, ka, kb, rfl, (hA4.far (by simp only; omega) _).far (by simp only; omega) _, (hD4.far (by simp only; omega) _).far (by simp only; omega) _, hne, (hp4.setCell (by simp only; omega) _).setCell (by simp only; omega) _⟩
set_option maxHeartbeats 4000000 in
set_option maxRecDepth 100000 in
theorem after_hit (P F : Nat) (T : Nat) (t1 : (T : Int) < P) (c h s kd : Int) (b o d q n k m l : Nat) (xs ys : List Int) (w : World) (hx : RdI w (some ⟨b, o, none⟩) n xs) (hy : RdI w (some ⟨d, q, none⟩) m ys) (hn : n = P + 1) (hm : m = P + 1) (hP : P ≤ 24) (f1 : (F : Int) ≤ P) (bdx : Hid (Bd 15 xs)) (bdy : Hid (Bd 15 ys)) :
    Calls Try.prog 93 #[.agg #[.int .i64 (P : Int), .int .i64 c, .int .i64 h, .int .i64 s], .agg #[.slice (some ⟨b, o, none⟩) n k, .slice (some ⟨d, q, none⟩) m l], .agg #[.int .i64 (F : Int), .int .i64 (T : Int), .int .i64 kd, .bool true]] w (BoardNew w n m (apX xs ⟨(F : Int), T, kd, true⟩) (apY P ys ⟨(F : Int), T, kd, true⟩)) := by
  rw [show apX xs ⟨(F : Int), T, kd, true⟩ = upd (upd xs F (-1)) T (1) from if_pos (Int.natCast_nonneg T), show apY P ys ⟨(F : Int), T, kd, true⟩ = upd (upd ys ((P : Int) - 1 - (T : Int)) (-1)) P (1) from rfl]
  have hn2 : n ≤ 1048576 := by omega
  have hm2 : m ≤ 1048576 := by omega
  have g1 : (P : Int) < (n : Int) := by omega
  have g2 : (P : Int) < (m : Int) := by omega
  clear hn hm
  obtain ⟨w0, hw0⟩ : ∃ w0 : World, w0 = ((((w.alloc (.cells #[.int .i64 (P : Int), .int .i64 c, .int .i64 h, .int .i64 s] 25)).alloc (.cells #[.slice (some ⟨b, o, none⟩) n k, .slice (some ⟨d, q, none⟩) m l] 43)).alloc (.cells #[.int .i64 (F : Int), .int .i64 (T : Int), .int .i64 kd, .bool true] 66)).alloc (.cells #[.slice none 0 0, .slice none 0 0] 43)) := ⟨_, rfl⟩
  have hp0 : Past w w0 := by rw [hw0]; exact (by repeat (first | exact Past.refl _ | assumption | refine Past.alloc ?_ _ | refine Past.drew ?_ | refine Past.drewN ?_ _ | refine Past.setCell ?_ (by first | (simp; done) | (simp <;> omega)) _ | refine Past.trans ?_ (past_over _ _) | refine Past.trans ?_ (by assumption)))
  have q0_0 : w0.cell? ⟨w.heap.size, 0, none⟩ = some (.int .i64 (P : Int)) := by rw [hw0]; simp [go_sem]
  have q0_1 : w0.cell? ⟨w.heap.size, 1, none⟩ = some (.int .i64 c) := by rw [hw0]; simp [go_sem]
  have q0_2 : w0.cell? ⟨w.heap.size, 2, none⟩ = some (.int .i64 h) := by rw [hw0]; simp [go_sem]
  have q0_3 : w0.cell? ⟨w.heap.size, 3, none⟩ = some (.int .i64 s) := by rw [hw0]; simp [go_sem]
  have q0_4 : w0.cell? ⟨w.heap.size + 1, 0, none⟩ = some (.slice (some ⟨b, o, none⟩) n k) := by rw [hw0]; simp [go_sem]
  have q0_5 : w0.cell? ⟨w.heap.size + 1, 1, none⟩ = some (.slice (some ⟨d, q, none⟩) m l) := by rw [hw0]; simp [go_sem]
  have q0_6 : w0.cell? ⟨w.heap.size + 1 + 1, 0, none⟩ = some (.int .i64 (F : Int)) := by rw [hw0]; simp [go_sem]
  have q0_7 : w0.cell? ⟨w.heap.size + 1 + 1, 1, none⟩ = some (.int .i64 (T : Int)) := by rw [hw0]; simp [go_sem]
  have q0_8 : w0.cell? ⟨w.heap.size + 1 + 1, 2, none⟩ = some (.int .i64 kd) := by rw [hw0]; simp [go_sem]
  have q0_9 : w0.cell? ⟨w.heap.size + 1 + 1, 3, none⟩ = some (.bool true) := by rw [hw0]; simp [go_sem]
  have hR0 : Blk w0 (w.heap.size + 1 + 1 + 1) 43 #[.slice none 0 0, .slice none 0 0] := by rw [hw0]; exact Blk.at_ (by simp [go_sem])
  have zs : w0.heap.size = w.heap.size + 4 := by rw [hw0]; simp [go_sem]
  have zl : w.heap.size + 4 ≤ w0.heap.size := by omega
  clear zs
  go_enter Try.func93, Try.ntmps93
  go_upto_region 1 with fail
  rw [← hw0]
  clear hw0
  go_wp2_with fail
  (with_reducible refine (cloneBoard_any _ _ _ _ _ _ _ _ _ _ _ (hx.past hp0) (hy.past hp0) hn2 hm2).mono ?_)
  rintro e w1 ⟨ga, gd, ka, kb, rfl, hA1, hD1, hne, hb1⟩
  have q1_0 : w1.cell? ⟨w.heap.size, 0, none⟩ = some (.int .i64 (P : Int)) := hb1.keep q0_0; have q1_1 : w1.cell? ⟨w.heap.size, 1, none⟩ = some (.int .i64 c) := hb1.keep q0_1; have q1_2 : w1.cell? ⟨w.heap.size, 2, none⟩ = some (.int .i64 h) := hb1.keep q0_2; have q1_3 : w1.cell? ⟨w.heap.size, 3, none⟩ = some (.int .i64 s) := hb1.keep q0_3; have q1_4 : w1.cell? ⟨w.heap.size + 1, 0, none⟩ = some (.slice (some ⟨b, o, none⟩) n k) := hb1.keep q0_4; have q1_5 : w1.cell? ⟨w.heap.size + 1, 1, none⟩ = some (.slice (some ⟨d, q, none⟩) m l) := hb1.keep q0_5; have q1_6 : w1.cell? ⟨w.heap.size + 1 + 1, 0, none⟩ = some (.int .i64 (F : Int)) := hb1.keep q0_6; have q1_7 : w1.cell? ⟨w.heap.size + 1 + 1, 1, none⟩ = some (.int .i64 (T : Int)) := hb1.keep q0_7; have q1_8 : w1.cell? ⟨w.heap.size + 1 + 1, 2, none⟩ = some (.int .i64 kd) := hb1.keep q0_8; have q1_9 : w1.cell? ⟨w.heap.size + 1 + 1, 3, none⟩ = some (.bool true) := hb1.keep q0_9
  have hR1 := hR0.past hb1
  have hp1 := hp0.trans hb1
  go_upto_region 2 with fail
  have eA := own_at hA1
  have eD := own_at hD1
  have hb2 := (Past.refl w1).alloc (.cells #[.slice (some ⟨ga, 0, none⟩) n ka, .slice (some ⟨gd, 0, none⟩) m kb] 43)
  have hA2 := hA1.alloc (.cells #[.slice (some ⟨ga, 0, none⟩) n ka, .slice (some ⟨gd, 0, none⟩) m kb] 43)
  have hD2 := hD1.alloc (.cells #[.slice (some ⟨ga, 0, none⟩) n ka, .slice (some ⟨gd, 0, none⟩) m kb] 43)
  have u2_0 : (w1.alloc (.cells #[.slice (some ⟨ga, 0, none⟩) n ka, .slice (some ⟨gd, 0, none⟩) m kb] 43)).cell? ⟨w1.heap.size, 0, none⟩ = some (.slice (some ⟨ga, 0, none⟩) n ka) := by simp
  have u2_1 : (w1.alloc (.cells #[.slice (some ⟨ga, 0, none⟩) n ka, .slice (some ⟨gd, 0, none⟩) m kb] 43)).cell? ⟨w1.heap.size, 1, none⟩ = some (.slice (some ⟨gd, 0, none⟩) m kb) := by simp
  generalize w1.alloc (.cells #[.slice (some ⟨ga, 0, none⟩) n ka, .slice (some ⟨gd, 0, none⟩) m kb] 43) = w2 at hb2 hA2 hD2 u2_0 u2_1 ⊢
  have q2_0 : w2.cell? ⟨w.heap.size, 0, none⟩ = some (.int .i64 (P : Int)) := hb2.keep q1_0; have q2_1 : w2.cell? ⟨w.heap.size, 1, none⟩ = some (.int .i64 c) := hb2.keep q1_1; have q2_2 : w2.cell? ⟨w.heap.size, 2, none⟩ = some (.int .i64 h) := hb2.keep q1_2; have q2_3 : w2.cell? ⟨w.heap.size, 3, none⟩ = some (.int .i64 s) := hb2.keep q1_3; have q2_4 : w2.cell? ⟨w.heap.size + 1, 0, none⟩ = some (.slice (some ⟨b, o, none⟩) n k) := hb2.keep q1_4; have q2_5 : w2.cell? ⟨w.heap.size + 1, 1, none⟩ = some (.slice (some ⟨d, q, none⟩) m l) := hb2.keep q1_5; have q2_6 : w2.cell? ⟨w.heap.size + 1 + 1, 0, none⟩ = some (.int .i64 (F : Int)) := hb2.keep q1_6; have q2_7 : w2.cell? ⟨w.heap.size + 1 + 1, 1, none⟩ = some (.int .i64 (T : Int)) := hb2.keep q1_7; have q2_8 : w2.cell? ⟨w.heap.size + 1 + 1, 2, none⟩ = some (.int .i64 kd) := hb2.keep q1_8; have q2_9 : w2.cell? ⟨w.heap.size + 1 + 1, 3, none⟩ = some (.bool true) := hb2.keep q1_9
  have hR2 := hR1.past hb2
  have hp2 := hp1.trans hb2
  have c3 := hA2.cell_i (J := F) ((F : Int)) (by omega) (by omega)
  have v3 := bdx.out ((F : Int))
  have f3 : w2.frozen? ⟨ga, F, none⟩ = false := World.ownsRow.frozenAt hA2 _
  have hn3 := hA2.upd (J := F) ((F : Int)) (-1) (by omega)
  have hT3 := Turn.set w2 ga (F) (.int .i64 (gAt xs ((F : Int)) + -1))
  have bd3 := Lib.hid (Bd.upd bdx.out (i := (F : Int)) (d := -1) (by omega) (by omega))
  generalize hg3 : gAt xs ((F : Int)) = y3 at c3 v3 hn3 hT3
  obtain ⟨v3a, v3b⟩ := v3
  clear hg3
  go_upto_region 4 with fail
  rw [show y3 + (-1) = y3 - 1 from by omega] at hn3 hT3
  generalize (w2.setCell ⟨ga, F, none⟩ (.int .i64 (y3 - 1))) = w3 at hn3 hT3 ⊢
  have hA3 := hn3
  have hD3 := hD2.turn hT3 (by omega)
  have q3_0 : w3.cell? ⟨w.heap.size, 0, none⟩ = some (.int .i64 (P : Int)) := hT3.cell q2_0 (.inl (by simp only; omega)); have q3_1 : w3.cell? ⟨w.heap.size, 1, none⟩ = some (.int .i64 c) := hT3.cell q2_1 (.inl (by simp only; omega)); have q3_2 : w3.cell? ⟨w.heap.size, 2, none⟩ = some (.int .i64 h) := hT3.cell q2_2 (.inl (by simp only; omega)); have q3_3 : w3.cell? ⟨w.heap.size, 3, none⟩ = some (.int .i64 s) := hT3.cell q2_3 (.inl (by simp only; omega)); have q3_4 : w3.cell? ⟨w.heap.size + 1, 0, none⟩ = some (.slice (some ⟨b, o, none⟩) n k) := hT3.cell q2_4 (.inl (by simp only; omega)); have q3_5 : w3.cell? ⟨w.heap.size + 1, 1, none⟩ = some (.slice (some ⟨d, q, none⟩) m l) := hT3.cell q2_5 (.inl (by simp only; omega)); have q3_6 : w3.cell? ⟨w.heap.size + 1 + 1, 0, none⟩ = some (.int .i64 (F : Int)) := hT3.cell q2_6 (.inl (by simp only; omega)); have q3_7 : w3.cell? ⟨w.heap.size + 1 + 1, 1, none⟩ = some (.int .i64 (T : Int)) := hT3.cell q2_7 (.inl (by simp only; omega)); have q3_8 : w3.cell? ⟨w.heap.size + 1 + 1, 2, none⟩ = some (.int .i64 kd) := hT3.cell q2_8 (.inl (by simp only; omega)); have q3_9 : w3.cell? ⟨w.heap.size + 1 + 1, 3, none⟩ = some (.bool true) := hT3.cell q2_9 (.inl (by simp only; omega))
  have u3_0 : w3.cell? ⟨w1.heap.size, 0, none⟩ = some (.slice (some ⟨ga, 0, none⟩) n ka) := hT3.cell u2_0 (.inr (by simp only; omega)); have u3_1 : w3.cell? ⟨w1.heap.size, 1, none⟩ = some (.slice (some ⟨gd, 0, none⟩) m kb) := hT3.cell u2_1 (.inr (by simp only; omega))
  have hR3 := hT3.blk hR2 (.inl (by omega))
  have hp3 := Turn.past hT3 hp2 (by omega)
  have c4 := hA3.cell_i (J := T) ((T : Int)) (by omega) (by omega)
  have v4 := bd3.out ((T : Int))
  have f4 : w3.frozen? ⟨ga, T, none⟩ = false := World.ownsRow.frozenAt hA3 _
  have hn4 := hA3.upd (J := T) ((T : Int)) (1) (by omega)
  have hT4 := Turn.set w3 ga (T) (.int .i64 (gAt (upd xs ((F : Int)) (-1)) ((T : Int)) + 1))
  have bd4 := Lib.hid (Bd.upd bd3.out (i := (T : Int)) (d := 1) (by omega) (by omega))
  generalize hg4 : gAt (upd xs ((F : Int)) (-1)) ((T : Int)) = y4 at c4 v4 hn4 hT4
  obtain ⟨v4a, v4b⟩ := v4
  clear hg4
  go_upto_region 6 with fail
  generalize (w3.setCell ⟨ga, T, none⟩ (.int .i64 (y4 + 1))) = w4 at hn4 hT4 ⊢
  have hA4 := hn4
  have hD4 := hD3.turn hT4 (by omega)
  have q4_0 : w4.cell? ⟨w.heap.size, 0, none⟩ = some (.int .i64 (P : Int)) := hT4.cell q3_0 (.inl (by simp only; omega)); have q4_1 : w4.cell? ⟨w.heap.size, 1, none⟩ = some (.int .i64 c) := hT4.cell q3_1 (.inl (by simp only; omega)); have q4_2 : w4.cell? ⟨w.heap.size, 2, none⟩ = some (.int .i64 h) := hT4.cell q3_2 (.inl (by simp only; omega)); have q4_3 : w4.cell? ⟨w.heap.size, 3, none⟩ = some (.int .i64 s) := hT4.cell q3_3 (.inl (by simp only; omega)); have q4_4 : w4.cell? ⟨w.heap.size + 1, 0, none⟩ = some (.slice (some ⟨b, o, none⟩) n k) := hT4.cell q3_4 (.inl (by simp only; omega)); have q4_5 : w4.cell? ⟨w.heap.size + 1, 1, none⟩ = some (.slice (some ⟨d, q, none⟩) m l) := hT4.cell q3_5 (.inl (by simp only; omega)); have q4_6 : w4.cell? ⟨w.heap.size + 1 + 1, 0, none⟩ = some (.int .i64 (F : Int)) := hT4.cell q3_6 (.inl (by simp only; omega)); have q4_7 : w4.cell? ⟨w.heap.size + 1 + 1, 1, none⟩ = some (.int .i64 (T : Int)) := hT4.cell q3_7 (.inl (by simp only; omega)); have q4_8 : w4.cell? ⟨w.heap.size + 1 + 1, 2, none⟩ = some (.int .i64 kd) := hT4.cell q3_8 (.inl (by simp only; omega)); have q4_9 : w4.cell? ⟨w.heap.size + 1 + 1, 3, none⟩ = some (.bool true) := hT4.cell q3_9 (.inl (by simp only; omega))
  have u4_0 : w4.cell? ⟨w1.heap.size, 0, none⟩ = some (.slice (some ⟨ga, 0, none⟩) n ka) := hT4.cell u3_0 (.inr (by simp only; omega)); have u4_1 : w4.cell? ⟨w1.heap.size, 1, none⟩ = some (.slice (some ⟨gd, 0, none⟩) m kb) := hT4.cell u3_1 (.inr (by simp only; omega))
  have hR4 := hT4.blk hR3 (.inl (by omega))
  have hp4 := Turn.past hT4 hp3 (by omega)
  have c5 := hD4.cell_i (J := P - 1 - T) ((P : Int) - 1 - (T : Int)) (by omega) (by omega)
  have v5 := bdy.out ((P : Int) - 1 - (T : Int))
  have f5 : w4.frozen? ⟨gd, P - 1 - T, none⟩ = false := World.ownsRow.frozenAt hD4 _
  have hn5 := hD4.upd (J := P - 1 - T) ((P : Int) - 1 - (T : Int)) (-1) (by omega)
  have hT5 := Turn.set w4 gd (P - 1 - T) (.int .i64 (gAt ys ((P : Int) - 1 - (T : Int)) + -1))
  have bd5 := Lib.hid (Bd.upd bdy.out (i := (P : Int) - 1 - (T : Int)) (d := -1) (by omega) (by omega))
  generalize hg5 : gAt ys ((P : Int) - 1 - (T : Int)) = y5 at c5 v5 hn5 hT5
  obtain ⟨v5a, v5b⟩ := v5
  clear hg5
  go_upto_region 7 with fail
  rw [show y5 + (-1) = y5 - 1 from by omega] at hn5 hT5
  generalize (w4.setCell ⟨gd, P - 1 - T, none⟩ (.int .i64 (y5 - 1))) = w5 at hn5 hT5 ⊢
  have hD5 := hn5
  have hA5 := hA4.turn hT5 (by omega)
  have q5_0 : w5.cell? ⟨w.heap.size, 0, none⟩ = some (.int .i64 (P : Int)) := hT5.cell q4_0 (.inl (by simp only; omega)); have q5_1 : w5.cell? ⟨w.heap.size, 1, none⟩ = some (.int .i64 c) := hT5.cell q4_1 (.inl (by simp only; omega)); have q5_2 : w5.cell? ⟨w.heap.size, 2, none⟩ = some (.int .i64 h) := hT5.cell q4_2 (.inl (by simp only; omega)); have q5_3 : w5.cell? ⟨w.heap.size, 3, none⟩ = some (.int .i64 s) := hT5.cell q4_3 (.inl (by simp only; omega)); have q5_4 : w5.cell? ⟨w.heap.size + 1, 0, none⟩ = some (.slice (some ⟨b, o, none⟩) n k) := hT5.cell q4_4 (.inl (by simp only; omega)); have q5_5 : w5.cell? ⟨w.heap.size + 1, 1, none⟩ = some (.slice (some ⟨d, q, none⟩) m l) := hT5.cell q4_5 (.inl (by simp only; omega)); have q5_6 : w5.cell? ⟨w.heap.size + 1 + 1, 0, none⟩ = some (.int .i64 (F : Int)) := hT5.cell q4_6 (.inl (by simp only; omega)); have q5_7 : w5.cell? ⟨w.heap.size + 1 + 1, 1, none⟩ = some (.int .i64 (T : Int)) := hT5.cell q4_7 (.inl (by simp only; omega)); have q5_8 : w5.cell? ⟨w.heap.size + 1 + 1, 2, none⟩ = some (.int .i64 kd) := hT5.cell q4_8 (.inl (by simp only; omega)); have q5_9 : w5.cell? ⟨w.heap.size + 1 + 1, 3, none⟩ = some (.bool true) := hT5.cell q4_9 (.inl (by simp only; omega))
  have u5_0 : w5.cell? ⟨w1.heap.size, 0, none⟩ = some (.slice (some ⟨ga, 0, none⟩) n ka) := hT5.cell u4_0 (.inr (by simp only; omega)); have u5_1 : w5.cell? ⟨w1.heap.size, 1, none⟩ = some (.slice (some ⟨gd, 0, none⟩) m kb) := hT5.cell u4_1 (.inr (by simp only; omega))
  have hR5 := hT5.blk hR4 (.inl (by omega))
  have hp5 := Turn.past hT5 hp4 (by omega)
  have c6 := hD5.cell_i (J := P) ((P : Int)) (by omega) (by omega)
  have v6 := bd5.out ((P : Int))
  have f6 : w5.frozen? ⟨gd, P, none⟩ = false := World.ownsRow.frozenAt hD5 _
  have hn6 := hD5.upd (J := P) ((P : Int)) (1) (by omega)
  have hT6 := Turn.set w5 gd (P) (.int .i64 (gAt (upd ys ((P : Int) - 1 - (T : Int)) (-1)) ((P : Int)) + 1))
  have bd6 := Lib.hid (Bd.upd bd5.out (i := (P : Int)) (d := 1) (by omega) (by omega))
  generalize hg6 : gAt (upd ys ((P : Int) - 1 - (T : Int)) (-1)) ((P : Int)) = y6 at c6 v6 hn6 hT6
  obtain ⟨v6a, v6b⟩ := v6
  clear hg6
  go_upto_region 8 with fail
  generalize (w5.setCell ⟨gd, P, none⟩ (.int .i64 (y6 + 1))) = w6 at hn6 hT6 ⊢
  have hD6 := hn6
  have hA6 := hA5.turn hT6 (by omega)
  have q6_0 : w6.cell? ⟨w.heap.size, 0, none⟩ = some (.int .i64 (P : Int)) := hT6.cell q5_0 (.inl (by simp only; omega)); have q6_1 : w6.cell? ⟨w.heap.size, 1, none⟩ = some (.int .i64 c) := hT6.cell q5_1 (.inl (by simp only; omega)); have q6_2 : w6.cell? ⟨w.heap.size, 2, none⟩ = some (.int .i64 h) := hT6.cell q5_2 (.inl (by simp only; omega)); have q6_3 : w6.cell? ⟨w.heap.size, 3, none⟩ = some (.int .i64 s) := hT6.cell q5_3 (.inl (by simp only; omega)); have q6_4 : w6.cell? ⟨w.heap.size + 1, 0, none⟩ = some (.slice (some ⟨b, o, none⟩) n k) := hT6.cell q5_4 (.inl (by simp only; omega)); have q6_5 : w6.cell? ⟨w.heap.size + 1, 1, none⟩ = some (.slice (some ⟨d, q, none⟩) m l) := hT6.cell q5_5 (.inl (by simp only; omega)); have q6_6 : w6.cell? ⟨w.heap.size + 1 + 1, 0, none⟩ = some (.int .i64 (F : Int)) := hT6.cell q5_6 (.inl (by simp only; omega)); have q6_7 : w6.cell? ⟨w.heap.size + 1 + 1, 1, none⟩ = some (.int .i64 (T : Int)) := hT6.cell q5_7 (.inl (by simp only; omega)); have q6_8 : w6.cell? ⟨w.heap.size + 1 + 1, 2, none⟩ = some (.int .i64 kd) := hT6.cell q5_8 (.inl (by simp only; omega)); have q6_9 : w6.cell? ⟨w.heap.size + 1 + 1, 3, none⟩ = some (.bool true) := hT6.cell q5_9 (.inl (by simp only; omega))
  have u6_0 : w6.cell? ⟨w1.heap.size, 0, none⟩ = some (.slice (some ⟨ga, 0, none⟩) n ka) := hT6.cell u5_0 (.inr (by simp only; omega)); have u6_1 : w6.cell? ⟨w1.heap.size, 1, none⟩ = some (.slice (some ⟨gd, 0, none⟩) m kb) := hT6.cell u5_1 (.inr (by simp only; omega))
  have hR6 := hT6.blk hR5 (.inl (by omega))
  have hp6 := Turn.past hT6 hp5 (by omega)
  have r0 := hR6.cell 0 rfl; have r1 := hR6.cell 1 rfl; have r2 := hR6.free 0; have r3 := hR6.free 1
  replace hA6 := hA6.less (base' := w.heap.size) (by omega)
  replace hD6 := hD6.less (base' := w.heap.size) (by omega)
  go_wp2
  refine bodyPost_ret (v := .agg #[.slice (some ⟨ga, 0, none⟩) n ka, .slice (some ⟨gd, 0, none⟩) m kb]) (by simp [r0, r1, results, Try.results93, go_sem]) rfl ⟨ga, gd, ka, kb, rfl, (hA6.far (by simp only; omega) _).far (by simp only; omega) _, (hD6.far (by simp only; omega) _).far (by simp only; omega) _, hne, (hp6.setCell (by simp only; omega) _).setCell (by simp only; omega) _⟩
set_option maxHeartbeats 4000000 in
set_option maxRecDepth 100000 in
theorem sAfter_off (P F : Nat) (c h s kd : Int) (b o d q n k m l : Nat) (xs ys : List Int) (w : World) (hx : RdI w (some ⟨b, o, none⟩) n xs) (hy : RdI w (some ⟨d, q, none⟩) m ys) (hn : n = P + 1) (hm : m = P + 1) (hP : P ≤ 24) (f1 : (F : Int) ≤ P) (bdx : Hid (Bd 15 xs)) (_ : Hid (Bd 15 ys)) :
    Calls Try.prog 95 #[.agg #[.int .i64 (P : Int), .int .i64 c, .int .i64 h, .int .i64 s], .agg #[.slice (some ⟨b, o, none⟩) n k, .slice (some ⟨d, q, none⟩) m l], .agg #[.int .i64 (F : Int), .int .i64 (-1), .int .i64 kd, .bool false]] w (BoardNew w n m (apX xs ⟨(F : Int), (-1), kd, false⟩) (apY P ys ⟨(F : Int), (-1), kd, false⟩)) := by
  rw [show apX xs ⟨(F : Int), (-1), kd, false⟩ = upd xs F (-1) from rfl, show apY P ys ⟨(F : Int), (-1), kd, false⟩ = ys from rfl]
  have hn2 : n ≤ 1048576 := by omega
  have hm2 : m ≤ 1048576 := by omega
  have g1 : (P : Int) < (n : Int) := by omega
  have g2 : (P : Int) < (m : Int) := by omega
  clear hn hm
  obtain ⟨w0, hw0⟩ : ∃ w0 : World, w0 = ((((w.alloc (.cells #[.int .i64 (P : Int), .int .i64 c, .int .i64 h, .int .i64 s] 25)).alloc (.cells #[.slice (some ⟨b, o, none⟩) n k, .slice (some ⟨d, q, none⟩) m l] 43)).alloc (.cells #[.int .i64 (F : Int), .int .i64 (-1), .int .i64 kd, .bool false] 66)).alloc (.cells #[.slice none 0 0, .slice none 0 0] 43)) := ⟨_, rfl⟩
  have hp0 : Past w w0 := by rw [hw0]; exact (by repeat (first | exact Past.refl _ | assumption | refine Past.alloc ?_ _ | refine Past.drew ?_ | refine Past.drewN ?_ _ | refine Past.setCell ?_ (by first | (simp; done) | (simp <;> omega)) _ | refine Past.trans ?_ (past_over _ _) | refine Past.trans ?_ (by assumption)))
  have q0_0 : w0.cell? ⟨w.heap.size, 0, none⟩ = some (.int .i64 (P : Int)) := by rw [hw0]; simp [go_sem]
  have q0_1 : w0.cell? ⟨w.heap.size, 1, none⟩ = some (.int .i64 c) := by rw [hw0]; simp [go_sem]
  have q0_2 : w0.cell? ⟨w.heap.size, 2, none⟩ = some (.int .i64 h) := by rw [hw0]; simp [go_sem]
  have q0_3 : w0.cell? ⟨w.heap.size, 3, none⟩ = some (.int .i64 s) := by rw [hw0]; simp [go_sem]
  have q0_4 : w0.cell? ⟨w.heap.size + 1, 0, none⟩ = some (.slice (some ⟨b, o, none⟩) n k) := by rw [hw0]; simp [go_sem]
  have q0_5 : w0.cell? ⟨w.heap.size + 1, 1, none⟩ = some (.slice (some ⟨d, q, none⟩) m l) := by rw [hw0]; simp [go_sem]
  have q0_6 : w0.cell? ⟨w.heap.size + 1 + 1, 0, none⟩ = some (.int .i64 (F : Int)) := by rw [hw0]; simp [go_sem]
  have q0_7 : w0.cell? ⟨w.heap.size + 1 + 1, 1, none⟩ = some (.int .i64 (-1)) := by rw [hw0]; simp [go_sem]
  have q0_8 : w0.cell? ⟨w.heap.size + 1 + 1, 2, none⟩ = some (.int .i64 kd) := by rw [hw0]; simp [go_sem]
  have q0_9 : w0.cell? ⟨w.heap.size + 1 + 1, 3, none⟩ = some (.bool false) := by rw [hw0]; simp [go_sem]
  have hR0 : Blk w0 (w.heap.size + 1 + 1 + 1) 43 #[.slice none 0 0, .slice none 0 0] := by rw [hw0]; exact Blk.at_ (by simp [go_sem])
  have zs : w0.heap.size = w.heap.size + 4 := by rw [hw0]; simp [go_sem]
  have zl : w.heap.size + 4 ≤ w0.heap.size := by omega
  clear zs
  go_enter Try.func95, Try.ntmps95
  go_upto_region 1 with fail
  rw [← hw0]
  clear hw0
  go_region_held3 (fun w' => w'.cell? ⟨w.heap.size, 0, none⟩ = some (.int .i64 (P : Int)) ∧ w'.cell? ⟨w.heap.size, 1, none⟩ = some (.int .i64 c) ∧ w'.cell? ⟨w.heap.size, 2, none⟩ = some (.int .i64 h) ∧ w'.cell? ⟨w.heap.size, 3, none⟩ = some (.int .i64 s) ∧ w'.cell? ⟨w.heap.size + 1, 0, none⟩ = some (.slice (some ⟨b, o, none⟩) n k) ∧ w'.cell? ⟨w.heap.size + 1, 1, none⟩ = some (.slice (some ⟨d, q, none⟩) m l) ∧ w'.cell? ⟨w.heap.size + 1 + 1, 0, none⟩ = some (.int .i64 (F : Int)) ∧ w'.cell? ⟨w.heap.size + 1 + 1, 1, none⟩ = some (.int .i64 (-1)) ∧ w'.cell? ⟨w.heap.size + 1 + 1, 2, none⟩ = some (.int .i64 kd) ∧ w'.cell? ⟨w.heap.size + 1 + 1, 3, none⟩ = some (.bool false) ∧ Past (w0) w') (first | (go_split_ands; refine ⟨?_, ?_, ?_, ?_, ?_, ?_, ?_, ?_, ?_, ?_, ?_⟩ <;> first | assumption | (refine Past.keep hb1 ?_; assumption) | (refine Past.keepz hb1 ⟨_, by assumption⟩ ?_; assumption) | (refine Past.trans ?_ hb1; first | assumption | exact Past.drew (Past.refl _) | exact Past.drew (by assumption)) | (refine Past.drew ?_; assumption)) | (refine ⟨?_, ?_, ?_, ?_, ?_, ?_, ?_, ?_, ?_, ?_, Past.drew (Past.refl _)⟩ <;> first | assumption | (simp; done))) (first | (go_at_call 108; (with_reducible refine (own_any _ _ _ _ _ _ (hx.past (by repeat (first | exact Past.refl _ | assumption | refine Past.alloc ?_ _ | refine Past.drew ?_ | refine Past.drewN ?_ _ | refine Past.setCell ?_ (by first | (simp; done) | (simp <;> omega)) _ | refine Past.trans ?_ (past_over _ _) | refine Past.trans ?_ (by assumption)))) hn2).mono ?_); rintro e w1 ⟨ga, ka, rfl, hA, hb1⟩; have eA := own_at hA; have zA := Past.sz hb1; simp only [size_drew] at zA eA; replace hA := hA.less (base' := w0.heap.size) (by simp only [size_drew]; omega)) | (go_at_call 108; (with_reducible refine (own_any _ _ _ _ _ _ (hy.past (by repeat (first | exact Past.refl _ | assumption | refine Past.alloc ?_ _ | refine Past.drew ?_ | refine Past.drewN ?_ _ | refine Past.setCell ?_ (by first | (simp; done) | (simp <;> omega)) _ | refine Past.trans ?_ (past_over _ _) | refine Past.trans ?_ (by assumption)))) hm2).mono ?_); rintro e w1 ⟨gd, kb, rfl, hD, hb1⟩; have eD := own_at hD; replace hA := hA.past hb1; replace hD := hD.less (base' := w0.heap.size) zA))
  go_split_ands
  go_upto_region 2 with fail
  have hA2 : OwI w0.heap.size w1 (some ⟨ga, 0, none⟩) n ka xs := hA
  have hD2 : OwI w0.heap.size w1 (some ⟨gd, 0, none⟩) m kb ys := hD
  have hb2 : Past w0 w1 := by assumption
  have hne : ga ≠ gd := by omega
  obtain ⟨w2, rfl⟩ : ∃ w2 : World, w2 = w1 := ⟨_, rfl⟩
  have q2_0 : w2.cell? ⟨w.heap.size, 0, none⟩ = some (.int .i64 (P : Int)) := hb2.keep q0_0; have q2_1 : w2.cell? ⟨w.heap.size, 1, none⟩ = some (.int .i64 c) := hb2.keep q0_1; have q2_2 : w2.cell? ⟨w.heap.size, 2, none⟩ = some (.int .i64 h) := hb2.keep q0_2; have q2_3 : w2.cell? ⟨w.heap.size, 3, none⟩ = some (.int .i64 s) := hb2.keep q0_3; have q2_4 : w2.cell? ⟨w.heap.size + 1, 0, none⟩ = some (.slice (some ⟨b, o, none⟩) n k) := hb2.keep q0_4; have q2_5 : w2.cell? ⟨w.heap.size + 1, 1, none⟩ = some (.slice (some ⟨d, q, none⟩) m l) := hb2.keep q0_5; have q2_6 : w2.cell? ⟨w.heap.size + 1 + 1, 0, none⟩ = some (.int .i64 (F : Int)) := hb2.keep q0_6; have q2_7 : w2.cell? ⟨w.heap.size + 1 + 1, 1, none⟩ = some (.int .i64 (-1)) := hb2.keep q0_7; have q2_8 : w2.cell? ⟨w.heap.size + 1 + 1, 2, none⟩ = some (.int .i64 kd) := hb2.keep q0_8; have q2_9 : w2.cell? ⟨w.heap.size + 1 + 1, 3, none⟩ = some (.bool false) := hb2.keep q0_9
  have hR2 := hR0.past hb2
  have hp2 := hp0.trans hb2
  have c3 := hA2.cell_i (J := F) ((F : Int)) (by omega) (by omega)
  have v3 := bdx.out ((F : Int))
  have f3 : w2.frozen? ⟨ga, F, none⟩ = false := World.ownsRow.frozenAt hA2 _
  have hn3 := hA2.upd (J := F) ((F : Int)) (-1) (by omega)
  have hT3 := Turn.set w2 ga (F) (.int .i64 (gAt xs ((F : Int)) + -1))
  have bd3 := Lib.hid (Bd.upd bdx.out (i := (F : Int)) (d := -1) (by omega) (by omega))
  generalize hg3 : gAt xs ((F : Int)) = y3 at c3 v3 hn3 hT3
  obtain ⟨v3a, v3b⟩ := v3
  clear hg3
  have i3 : (0 : Int) ≤ (F : Int) := by omega
  have j3 : (F : Int) < (n : Int) := by omega
  go_region
  all_goals go_upto_region 9 with fail
  rw [show y3 + (-1) = y3 - 1 from by omega] at hn3 hT3
  replace hn3 := hn3.drew
  replace hT3 := Turn.drewR hT3
  generalize (w2.setCell ⟨ga, F, none⟩ (.int .i64 (y3 - 1))).drew = w3 at hn3 hT3 ⊢
  have hA3 := hn3
  have hD3 := hD2.turn hT3 (by omega)
  have q3_0 : w3.cell? ⟨w.heap.size, 0, none⟩ = some (.int .i64 (P : Int)) := hT3.cell q2_0 (.inl (by simp only; omega)); have q3_1 : w3.cell? ⟨w.heap.size, 1, none⟩ = some (.int .i64 c) := hT3.cell q2_1 (.inl (by simp only; omega)); have q3_2 : w3.cell? ⟨w.heap.size, 2, none⟩ = some (.int .i64 h) := hT3.cell q2_2 (.inl (by simp only; omega)); have q3_3 : w3.cell? ⟨w.heap.size, 3, none⟩ = some (.int .i64 s) := hT3.cell q2_3 (.inl (by simp only; omega)); have q3_4 : w3.cell? ⟨w.heap.size + 1, 0, none⟩ = some (.slice (some ⟨b, o, none⟩) n k) := hT3.cell q2_4 (.inl (by simp only; omega)); have q3_5 : w3.cell? ⟨w.heap.size + 1, 1, none⟩ = some (.slice (some ⟨d, q, none⟩) m l) := hT3.cell q2_5 (.inl (by simp only; omega)); have q3_6 : w3.cell? ⟨w.heap.size + 1 + 1, 0, none⟩ = some (.int .i64 (F : Int)) := hT3.cell q2_6 (.inl (by simp only; omega)); have q3_7 : w3.cell? ⟨w.heap.size + 1 + 1, 1, none⟩ = some (.int .i64 (-1)) := hT3.cell q2_7 (.inl (by simp only; omega)); have q3_8 : w3.cell? ⟨w.heap.size + 1 + 1, 2, none⟩ = some (.int .i64 kd) := hT3.cell q2_8 (.inl (by simp only; omega)); have q3_9 : w3.cell? ⟨w.heap.size + 1 + 1, 3, none⟩ = some (.bool false) := hT3.cell q2_9 (.inl (by simp only; omega))
  have hR3 := hT3.blk hR2 (.inl (by omega))
  have hp3 := Turn.past hT3 hp2 (by omega)
  have r0 := hR3.cell 0 rfl; have r1 := hR3.cell 1 rfl; have r2 := hR3.free 0; have r3 := hR3.free 1
  replace hA3 := hA3.less (base' := w.heap.size) (by omega)
  replace hD3 := hD3.less (base' := w.heap.size) (by omega)
  go_wp2
  refine bodyPost_ret (v := .agg #[.slice (some ⟨ga, 0, none⟩) n ka, .slice (some ⟨gd, 0, none⟩) m kb]) (by simp [r0, r1, results, Try.results95, go_sem]) rfl ⟨ga, gd, ka, kb, rfl, (hA3.far (by simp only; omega) _).far (by simp only; omega) _, (hD3.far (by simp only; omega) _).far (by simp only; omega) _, hne, (hp3.setCell (by simp only; omega) _).setCell (by simp only; omega) _⟩
set_option maxHeartbeats 4000000 in
set_option maxRecDepth 100000 in
theorem sAfter_in (P F : Nat) (T : Nat) (t1 : (T : Int) < P) (c h s kd : Int) (b o d q n k m l : Nat) (xs ys : List Int) (w : World) (hx : RdI w (some ⟨b, o, none⟩) n xs) (hy : RdI w (some ⟨d, q, none⟩) m ys) (hn : n = P + 1) (hm : m = P + 1) (hP : P ≤ 24) (f1 : (F : Int) ≤ P) (bdx : Hid (Bd 15 xs)) (_ : Hid (Bd 15 ys)) :
    Calls Try.prog 95 #[.agg #[.int .i64 (P : Int), .int .i64 c, .int .i64 h, .int .i64 s], .agg #[.slice (some ⟨b, o, none⟩) n k, .slice (some ⟨d, q, none⟩) m l], .agg #[.int .i64 (F : Int), .int .i64 (T : Int), .int .i64 kd, .bool false]] w (BoardNew w n m (apX xs ⟨(F : Int), T, kd, false⟩) (apY P ys ⟨(F : Int), T, kd, false⟩)) := by
  rw [show apX xs ⟨(F : Int), T, kd, false⟩ = upd (upd xs F (-1)) T (1) from if_pos (Int.natCast_nonneg T), show apY P ys ⟨(F : Int), T, kd, false⟩ = ys from rfl]
  have hn2 : n ≤ 1048576 := by omega
  have hm2 : m ≤ 1048576 := by omega
  have g1 : (P : Int) < (n : Int) := by omega
  have g2 : (P : Int) < (m : Int) := by omega
  clear hn hm
  obtain ⟨w0, hw0⟩ : ∃ w0 : World, w0 = ((((w.alloc (.cells #[.int .i64 (P : Int), .int .i64 c, .int .i64 h, .int .i64 s] 25)).alloc (.cells #[.slice (some ⟨b, o, none⟩) n k, .slice (some ⟨d, q, none⟩) m l] 43)).alloc (.cells #[.int .i64 (F : Int), .int .i64 (T : Int), .int .i64 kd, .bool false] 66)).alloc (.cells #[.slice none 0 0, .slice none 0 0] 43)) := ⟨_, rfl⟩
  have hp0 : Past w w0 := by rw [hw0]; exact (by repeat (first | exact Past.refl _ | assumption | refine Past.alloc ?_ _ | refine Past.drew ?_ | refine Past.drewN ?_ _ | refine Past.setCell ?_ (by first | (simp; done) | (simp <;> omega)) _ | refine Past.trans ?_ (past_over _ _) | refine Past.trans ?_ (by assumption)))
  have q0_0 : w0.cell? ⟨w.heap.size, 0, none⟩ = some (.int .i64 (P : Int)) := by rw [hw0]; simp [go_sem]
  have q0_1 : w0.cell? ⟨w.heap.size, 1, none⟩ = some (.int .i64 c) := by rw [hw0]; simp [go_sem]
  have q0_2 : w0.cell? ⟨w.heap.size, 2, none⟩ = some (.int .i64 h) := by rw [hw0]; simp [go_sem]
  have q0_3 : w0.cell? ⟨w.heap.size, 3, none⟩ = some (.int .i64 s) := by rw [hw0]; simp [go_sem]
  have q0_4 : w0.cell? ⟨w.heap.size + 1, 0, none⟩ = some (.slice (some ⟨b, o, none⟩) n k) := by rw [hw0]; simp [go_sem]
  have q0_5 : w0.cell? ⟨w.heap.size + 1, 1, none⟩ = some (.slice (some ⟨d, q, none⟩) m l) := by rw [hw0]; simp [go_sem]
  have q0_6 : w0.cell? ⟨w.heap.size + 1 + 1, 0, none⟩ = some (.int .i64 (F : Int)) := by rw [hw0]; simp [go_sem]
  have q0_7 : w0.cell? ⟨w.heap.size + 1 + 1, 1, none⟩ = some (.int .i64 (T : Int)) := by rw [hw0]; simp [go_sem]
  have q0_8 : w0.cell? ⟨w.heap.size + 1 + 1, 2, none⟩ = some (.int .i64 kd) := by rw [hw0]; simp [go_sem]
  have q0_9 : w0.cell? ⟨w.heap.size + 1 + 1, 3, none⟩ = some (.bool false) := by rw [hw0]; simp [go_sem]
  have hR0 : Blk w0 (w.heap.size + 1 + 1 + 1) 43 #[.slice none 0 0, .slice none 0 0] := by rw [hw0]; exact Blk.at_ (by simp [go_sem])
  have zs : w0.heap.size = w.heap.size + 4 := by rw [hw0]; simp [go_sem]
  have zl : w.heap.size + 4 ≤ w0.heap.size := by omega
  clear zs
  go_enter Try.func95, Try.ntmps95
  go_upto_region 1 with fail
  rw [← hw0]
  clear hw0
  go_region_held3 (fun w' => w'.cell? ⟨w.heap.size, 0, none⟩ = some (.int .i64 (P : Int)) ∧ w'.cell? ⟨w.heap.size, 1, none⟩ = some (.int .i64 c) ∧ w'.cell? ⟨w.heap.size, 2, none⟩ = some (.int .i64 h) ∧ w'.cell? ⟨w.heap.size, 3, none⟩ = some (.int .i64 s) ∧ w'.cell? ⟨w.heap.size + 1, 0, none⟩ = some (.slice (some ⟨b, o, none⟩) n k) ∧ w'.cell? ⟨w.heap.size + 1, 1, none⟩ = some (.slice (some ⟨d, q, none⟩) m l) ∧ w'.cell? ⟨w.heap.size + 1 + 1, 0, none⟩ = some (.int .i64 (F : Int)) ∧ w'.cell? ⟨w.heap.size + 1 + 1, 1, none⟩ = some (.int .i64 (T : Int)) ∧ w'.cell? ⟨w.heap.size + 1 + 1, 2, none⟩ = some (.int .i64 kd) ∧ w'.cell? ⟨w.heap.size + 1 + 1, 3, none⟩ = some (.bool false) ∧ Past (w0) w') (first | (go_split_ands; refine ⟨?_, ?_, ?_, ?_, ?_, ?_, ?_, ?_, ?_, ?_, ?_⟩ <;> first | assumption | (refine Past.keep hb1 ?_; assumption) | (refine Past.keepz hb1 ⟨_, by assumption⟩ ?_; assumption) | (refine Past.trans ?_ hb1; first | assumption | exact Past.drew (Past.refl _) | exact Past.drew (by assumption)) | (refine Past.drew ?_; assumption)) | (refine ⟨?_, ?_, ?_, ?_, ?_, ?_, ?_, ?_, ?_, ?_, Past.drew (Past.refl _)⟩ <;> first | assumption | (simp; done))) (first | (go_at_call 108; (with_reducible refine (own_any _ _ _ _ _ _ (hx.past (by repeat (first | exact Past.refl _ | assumption | refine Past.alloc ?_ _ | refine Past.drew ?_ | refine Past.drewN ?_ _ | refine Past.setCell ?_ (by first | (simp; done) | (simp <;> omega)) _ | refine Past.trans ?_ (past_over _ _) | refine Past.trans ?_ (by assumption)))) hn2).mono ?_); rintro e w1 ⟨ga, ka, rfl, hA, hb1⟩; have eA := own_at hA; have zA := Past.sz hb1; simp only [size_drew] at zA eA; replace hA := hA.less (base' := w0.heap.size) (by simp only [size_drew]; omega)) | (go_at_call 108; (with_reducible refine (own_any _ _ _ _ _ _ (hy.past (by repeat (first | exact Past.refl _ | assumption | refine Past.alloc ?_ _ | refine Past.drew ?_ | refine Past.drewN ?_ _ | refine Past.setCell ?_ (by first | (simp; done) | (simp <;> omega)) _ | refine Past.trans ?_ (past_over _ _) | refine Past.trans ?_ (by assumption)))) hm2).mono ?_); rintro e w1 ⟨gd, kb, rfl, hD, hb1⟩; have eD := own_at hD; replace hA := hA.past hb1; replace hD := hD.less (base' := w0.heap.size) zA))
  go_split_ands
  go_upto_region 2 with fail
  have hA2 : OwI w0.heap.size w1 (some ⟨ga, 0, none⟩) n ka xs := hA
  have hD2 : OwI w0.heap.size w1 (some ⟨gd, 0, none⟩) m kb ys := hD
  have hb2 : Past w0 w1 := by assumption
  have hne : ga ≠ gd := by omega
  obtain ⟨w2, rfl⟩ : ∃ w2 : World, w2 = w1 := ⟨_, rfl⟩
  have q2_0 : w2.cell? ⟨w.heap.size, 0, none⟩ = some (.int .i64 (P : Int)) := hb2.keep q0_0; have q2_1 : w2.cell? ⟨w.heap.size, 1, none⟩ = some (.int .i64 c) := hb2.keep q0_1; have q2_2 : w2.cell? ⟨w.heap.size, 2, none⟩ = some (.int .i64 h) := hb2.keep q0_2; have q2_3 : w2.cell? ⟨w.heap.size, 3, none⟩ = some (.int .i64 s) := hb2.keep q0_3; have q2_4 : w2.cell? ⟨w.heap.size + 1, 0, none⟩ = some (.slice (some ⟨b, o, none⟩) n k) := hb2.keep q0_4; have q2_5 : w2.cell? ⟨w.heap.size + 1, 1, none⟩ = some (.slice (some ⟨d, q, none⟩) m l) := hb2.keep q0_5; have q2_6 : w2.cell? ⟨w.heap.size + 1 + 1, 0, none⟩ = some (.int .i64 (F : Int)) := hb2.keep q0_6; have q2_7 : w2.cell? ⟨w.heap.size + 1 + 1, 1, none⟩ = some (.int .i64 (T : Int)) := hb2.keep q0_7; have q2_8 : w2.cell? ⟨w.heap.size + 1 + 1, 2, none⟩ = some (.int .i64 kd) := hb2.keep q0_8; have q2_9 : w2.cell? ⟨w.heap.size + 1 + 1, 3, none⟩ = some (.bool false) := hb2.keep q0_9
  have hR2 := hR0.past hb2
  have hp2 := hp0.trans hb2
  have c3 := hA2.cell_i (J := F) ((F : Int)) (by omega) (by omega)
  have v3 := bdx.out ((F : Int))
  have f3 : w2.frozen? ⟨ga, F, none⟩ = false := World.ownsRow.frozenAt hA2 _
  have hn3 := hA2.upd (J := F) ((F : Int)) (-1) (by omega)
  have hT3 := Turn.set w2 ga (F) (.int .i64 (gAt xs ((F : Int)) + -1))
  have bd3 := Lib.hid (Bd.upd bdx.out (i := (F : Int)) (d := -1) (by omega) (by omega))
  generalize hg3 : gAt xs ((F : Int)) = y3 at c3 v3 hn3 hT3
  obtain ⟨v3a, v3b⟩ := v3
  clear hg3
  have i3 : (0 : Int) ≤ (F : Int) := by omega
  have j3 : (F : Int) < (n : Int) := by omega
  go_region
  all_goals go_upto_region 4 with fail
  rw [show y3 + (-1) = y3 - 1 from by omega] at hn3 hT3
  replace hn3 := hn3.drew
  replace hT3 := Turn.drewR hT3
  generalize (w2.setCell ⟨ga, F, none⟩ (.int .i64 (y3 - 1))).drew = w3 at hn3 hT3 ⊢
  have hA3 := hn3
  have hD3 := hD2.turn hT3 (by omega)
  have q3_0 : w3.cell? ⟨w.heap.size, 0, none⟩ = some (.int .i64 (P : Int)) := hT3.cell q2_0 (.inl (by simp only; omega)); have q3_1 : w3.cell? ⟨w.heap.size, 1, none⟩ = some (.int .i64 c) := hT3.cell q2_1 (.inl (by simp only; omega)); have q3_2 : w3.cell? ⟨w.heap.size, 2, none⟩ = some (.int .i64 h) := hT3.cell q2_2 (.inl (by simp only; omega)); have q3_3 : w3.cell? ⟨w.heap.size, 3, none⟩ = some (.int .i64 s) := hT3.cell q2_3 (.inl (by simp only; omega)); have q3_4 : w3.cell? ⟨w.heap.size + 1, 0, none⟩ = some (.slice (some ⟨b, o, none⟩) n k) := hT3.cell q2_4 (.inl (by simp only; omega)); have q3_5 : w3.cell? ⟨w.heap.size + 1, 1, none⟩ = some (.slice (some ⟨d, q, none⟩) m l) := hT3.cell q2_5 (.inl (by simp only; omega)); have q3_6 : w3.cell? ⟨w.heap.size + 1 + 1, 0, none⟩ = some (.int .i64 (F : Int)) := hT3.cell q2_6 (.inl (by simp only; omega)); have q3_7 : w3.cell? ⟨w.heap.size + 1 + 1, 1, none⟩ = some (.int .i64 (T : Int)) := hT3.cell q2_7 (.inl (by simp only; omega)); have q3_8 : w3.cell? ⟨w.heap.size + 1 + 1, 2, none⟩ = some (.int .i64 kd) := hT3.cell q2_8 (.inl (by simp only; omega)); have q3_9 : w3.cell? ⟨w.heap.size + 1 + 1, 3, none⟩ = some (.bool false) := hT3.cell q2_9 (.inl (by simp only; omega))
  have hR3 := hT3.blk hR2 (.inl (by omega))
  have hp3 := Turn.past hT3 hp2 (by omega)
  have c4 := hA3.cell_i (J := T) ((T : Int)) (by omega) (by omega)
  have v4 := bd3.out ((T : Int))
  have f4 : w3.frozen? ⟨ga, T, none⟩ = false := World.ownsRow.frozenAt hA3 _
  have hn4 := hA3.upd (J := T) ((T : Int)) (1) (by omega)
  have hT4 := Turn.set w3 ga (T) (.int .i64 (gAt (upd xs ((F : Int)) (-1)) ((T : Int)) + 1))
  have bd4 := Lib.hid (Bd.upd bd3.out (i := (T : Int)) (d := 1) (by omega) (by omega))
  generalize hg4 : gAt (upd xs ((F : Int)) (-1)) ((T : Int)) = y4 at c4 v4 hn4 hT4
  obtain ⟨v4a, v4b⟩ := v4
  clear hg4
  have i4 : (0 : Int) ≤ (T : Int) := by omega
  have j4 : (T : Int) < (n : Int) := by omega
  go_region
  all_goals go_upto_region 9 with fail
  replace hn4 := hn4.drew
  replace hT4 := Turn.drewR hT4
  generalize (w3.setCell ⟨ga, T, none⟩ (.int .i64 (y4 + 1))).drew = w4 at hn4 hT4 ⊢
  have hA4 := hn4
  have hD4 := hD3.turn hT4 (by omega)
  have q4_0 : w4.cell? ⟨w.heap.size, 0, none⟩ = some (.int .i64 (P : Int)) := hT4.cell q3_0 (.inl (by simp only; omega)); have q4_1 : w4.cell? ⟨w.heap.size, 1, none⟩ = some (.int .i64 c) := hT4.cell q3_1 (.inl (by simp only; omega)); have q4_2 : w4.cell? ⟨w.heap.size, 2, none⟩ = some (.int .i64 h) := hT4.cell q3_2 (.inl (by simp only; omega)); have q4_3 : w4.cell? ⟨w.heap.size, 3, none⟩ = some (.int .i64 s) := hT4.cell q3_3 (.inl (by simp only; omega)); have q4_4 : w4.cell? ⟨w.heap.size + 1, 0, none⟩ = some (.slice (some ⟨b, o, none⟩) n k) := hT4.cell q3_4 (.inl (by simp only; omega)); have q4_5 : w4.cell? ⟨w.heap.size + 1, 1, none⟩ = some (.slice (some ⟨d, q, none⟩) m l) := hT4.cell q3_5 (.inl (by simp only; omega)); have q4_6 : w4.cell? ⟨w.heap.size + 1 + 1, 0, none⟩ = some (.int .i64 (F : Int)) := hT4.cell q3_6 (.inl (by simp only; omega)); have q4_7 : w4.cell? ⟨w.heap.size + 1 + 1, 1, none⟩ = some (.int .i64 (T : Int)) := hT4.cell q3_7 (.inl (by simp only; omega)); have q4_8 : w4.cell? ⟨w.heap.size + 1 + 1, 2, none⟩ = some (.int .i64 kd) := hT4.cell q3_8 (.inl (by simp only; omega)); have q4_9 : w4.cell? ⟨w.heap.size + 1 + 1, 3, none⟩ = some (.bool false) := hT4.cell q3_9 (.inl (by simp only; omega))
  have hR4 := hT4.blk hR3 (.inl (by omega))
  have hp4 := Turn.past hT4 hp3 (by omega)
  have r0 := hR4.cell 0 rfl; have r1 := hR4.cell 1 rfl; have r2 := hR4.free 0; have r3 := hR4.free 1
  replace hA4 := hA4.less (base' := w.heap.size) (by omega)
  replace hD4 := hD4.less (base' := w.heap.size) (by omega)
  go_wp2
  refine bodyPost_ret (v := .agg #[.slice (some ⟨ga, 0, none⟩) n ka, .slice (some ⟨gd, 0, none⟩) m kb]) (by simp [r0, r1, results, Try.results95, go_sem]) rfl ⟨ga, gd, ka, kb, rfl, (hA4.far (by simp only; omega) _).far (by simp only; omega) _, (hD4.far (by simp only; omega) _).far (by simp only; omega) _, hne, (hp4.setCell (by simp only; omega) _).setCell (by simp only; omega) _⟩
set_option maxHeartbeats 4000000 in
set_option maxRecDepth 100000 in
theorem sAfter_hit (P F : Nat) (T : Nat) (t1 : (T : Int) < P) (c h s kd : Int) (b o d q n k m l : Nat) (xs ys : List Int) (w : World) (hx : RdI w (some ⟨b, o, none⟩) n xs) (hy : RdI w (some ⟨d, q, none⟩) m ys) (hn : n = P + 1) (hm : m = P + 1) (hP : P ≤ 24) (f1 : (F : Int) ≤ P) (bdx : Hid (Bd 15 xs)) (bdy : Hid (Bd 15 ys)) :
    Calls Try.prog 95 #[.agg #[.int .i64 (P : Int), .int .i64 c, .int .i64 h, .int .i64 s], .agg #[.slice (some ⟨b, o, none⟩) n k, .slice (some ⟨d, q, none⟩) m l], .agg #[.int .i64 (F : Int), .int .i64 (T : Int), .int .i64 kd, .bool true]] w (BoardNew w n m (apX xs ⟨(F : Int), T, kd, true⟩) (apY P ys ⟨(F : Int), T, kd, true⟩)) := by
  rw [show apX xs ⟨(F : Int), T, kd, true⟩ = upd (upd xs F (-1)) T (1) from if_pos (Int.natCast_nonneg T), show apY P ys ⟨(F : Int), T, kd, true⟩ = upd (upd ys ((P : Int) - 1 - (T : Int)) (-1)) P (1) from rfl]
  have hn2 : n ≤ 1048576 := by omega
  have hm2 : m ≤ 1048576 := by omega
  have g1 : (P : Int) < (n : Int) := by omega
  have g2 : (P : Int) < (m : Int) := by omega
  clear hn hm
  obtain ⟨w0, hw0⟩ : ∃ w0 : World, w0 = ((((w.alloc (.cells #[.int .i64 (P : Int), .int .i64 c, .int .i64 h, .int .i64 s] 25)).alloc (.cells #[.slice (some ⟨b, o, none⟩) n k, .slice (some ⟨d, q, none⟩) m l] 43)).alloc (.cells #[.int .i64 (F : Int), .int .i64 (T : Int), .int .i64 kd, .bool true] 66)).alloc (.cells #[.slice none 0 0, .slice none 0 0] 43)) := ⟨_, rfl⟩
  have hp0 : Past w w0 := by rw [hw0]; exact (by repeat (first | exact Past.refl _ | assumption | refine Past.alloc ?_ _ | refine Past.drew ?_ | refine Past.drewN ?_ _ | refine Past.setCell ?_ (by first | (simp; done) | (simp <;> omega)) _ | refine Past.trans ?_ (past_over _ _) | refine Past.trans ?_ (by assumption)))
  have q0_0 : w0.cell? ⟨w.heap.size, 0, none⟩ = some (.int .i64 (P : Int)) := by rw [hw0]; simp [go_sem]
  have q0_1 : w0.cell? ⟨w.heap.size, 1, none⟩ = some (.int .i64 c) := by rw [hw0]; simp [go_sem]
  have q0_2 : w0.cell? ⟨w.heap.size, 2, none⟩ = some (.int .i64 h) := by rw [hw0]; simp [go_sem]
  have q0_3 : w0.cell? ⟨w.heap.size, 3, none⟩ = some (.int .i64 s) := by rw [hw0]; simp [go_sem]
  have q0_4 : w0.cell? ⟨w.heap.size + 1, 0, none⟩ = some (.slice (some ⟨b, o, none⟩) n k) := by rw [hw0]; simp [go_sem]
  have q0_5 : w0.cell? ⟨w.heap.size + 1, 1, none⟩ = some (.slice (some ⟨d, q, none⟩) m l) := by rw [hw0]; simp [go_sem]
  have q0_6 : w0.cell? ⟨w.heap.size + 1 + 1, 0, none⟩ = some (.int .i64 (F : Int)) := by rw [hw0]; simp [go_sem]
  have q0_7 : w0.cell? ⟨w.heap.size + 1 + 1, 1, none⟩ = some (.int .i64 (T : Int)) := by rw [hw0]; simp [go_sem]
  have q0_8 : w0.cell? ⟨w.heap.size + 1 + 1, 2, none⟩ = some (.int .i64 kd) := by rw [hw0]; simp [go_sem]
  have q0_9 : w0.cell? ⟨w.heap.size + 1 + 1, 3, none⟩ = some (.bool true) := by rw [hw0]; simp [go_sem]
  have hR0 : Blk w0 (w.heap.size + 1 + 1 + 1) 43 #[.slice none 0 0, .slice none 0 0] := by rw [hw0]; exact Blk.at_ (by simp [go_sem])
  have zs : w0.heap.size = w.heap.size + 4 := by rw [hw0]; simp [go_sem]
  have zl : w.heap.size + 4 ≤ w0.heap.size := by omega
  clear zs
  go_enter Try.func95, Try.ntmps95
  go_upto_region 1 with fail
  rw [← hw0]
  clear hw0
  go_region_held3 (fun w' => w'.cell? ⟨w.heap.size, 0, none⟩ = some (.int .i64 (P : Int)) ∧ w'.cell? ⟨w.heap.size, 1, none⟩ = some (.int .i64 c) ∧ w'.cell? ⟨w.heap.size, 2, none⟩ = some (.int .i64 h) ∧ w'.cell? ⟨w.heap.size, 3, none⟩ = some (.int .i64 s) ∧ w'.cell? ⟨w.heap.size + 1, 0, none⟩ = some (.slice (some ⟨b, o, none⟩) n k) ∧ w'.cell? ⟨w.heap.size + 1, 1, none⟩ = some (.slice (some ⟨d, q, none⟩) m l) ∧ w'.cell? ⟨w.heap.size + 1 + 1, 0, none⟩ = some (.int .i64 (F : Int)) ∧ w'.cell? ⟨w.heap.size + 1 + 1, 1, none⟩ = some (.int .i64 (T : Int)) ∧ w'.cell? ⟨w.heap.size + 1 + 1, 2, none⟩ = some (.int .i64 kd) ∧ w'.cell? ⟨w.heap.size + 1 + 1, 3, none⟩ = some (.bool true) ∧ Past (w0) w') (first | (go_split_ands; refine ⟨?_, ?_, ?_, ?_, ?_, ?_, ?_, ?_, ?_, ?_, ?_⟩ <;> first | assumption | (refine Past.keep hb1 ?_; assumption) | (refine Past.keepz hb1 ⟨_, by assumption⟩ ?_; assumption) | (refine Past.trans ?_ hb1; first | assumption | exact Past.drew (Past.refl _) | exact Past.drew (by assumption)) | (refine Past.drew ?_; assumption)) | (refine ⟨?_, ?_, ?_, ?_, ?_, ?_, ?_, ?_, ?_, ?_, Past.drew (Past.refl _)⟩ <;> first | assumption | (simp; done))) (first | (go_at_call 108; (with_reducible refine (own_any _ _ _ _ _ _ (hx.past (by repeat (first | exact Past.refl _ | assumption | refine Past.alloc ?_ _ | refine Past.drew ?_ | refine Past.drewN ?_ _ | refine Past.setCell ?_ (by first | (simp; done) | (simp <;> omega)) _ | refine Past.trans ?_ (past_over _ _) | refine Past.trans ?_ (by assumption)))) hn2).mono ?_); rintro e w1 ⟨ga, ka, rfl, hA, hb1⟩; have eA := own_at hA; have zA := Past.sz hb1; simp only [size_drew] at zA eA; replace hA := hA.less (base' := w0.heap.size) (by simp only [size_drew]; omega)) | (go_at_call 108; (with_reducible refine (own_any _ _ _ _ _ _ (hy.past (by repeat (first | exact Past.refl _ | assumption | refine Past.alloc ?_ _ | refine Past.drew ?_ | refine Past.drewN ?_ _ | refine Past.setCell ?_ (by first | (simp; done) | (simp <;> omega)) _ | refine Past.trans ?_ (past_over _ _) | refine Past.trans ?_ (by assumption)))) hm2).mono ?_); rintro e w1 ⟨gd, kb, rfl, hD, hb1⟩; have eD := own_at hD; replace hA := hA.past hb1; replace hD := hD.less (base' := w0.heap.size) zA))
  go_split_ands
  go_upto_region 2 with fail
  have hA2 : OwI w0.heap.size w1 (some ⟨ga, 0, none⟩) n ka xs := hA
  have hD2 : OwI w0.heap.size w1 (some ⟨gd, 0, none⟩) m kb ys := hD
  have hb2 : Past w0 w1 := by assumption
  have hne : ga ≠ gd := by omega
  obtain ⟨w2, rfl⟩ : ∃ w2 : World, w2 = w1 := ⟨_, rfl⟩
  have q2_0 : w2.cell? ⟨w.heap.size, 0, none⟩ = some (.int .i64 (P : Int)) := hb2.keep q0_0; have q2_1 : w2.cell? ⟨w.heap.size, 1, none⟩ = some (.int .i64 c) := hb2.keep q0_1; have q2_2 : w2.cell? ⟨w.heap.size, 2, none⟩ = some (.int .i64 h) := hb2.keep q0_2; have q2_3 : w2.cell? ⟨w.heap.size, 3, none⟩ = some (.int .i64 s) := hb2.keep q0_3; have q2_4 : w2.cell? ⟨w.heap.size + 1, 0, none⟩ = some (.slice (some ⟨b, o, none⟩) n k) := hb2.keep q0_4; have q2_5 : w2.cell? ⟨w.heap.size + 1, 1, none⟩ = some (.slice (some ⟨d, q, none⟩) m l) := hb2.keep q0_5; have q2_6 : w2.cell? ⟨w.heap.size + 1 + 1, 0, none⟩ = some (.int .i64 (F : Int)) := hb2.keep q0_6; have q2_7 : w2.cell? ⟨w.heap.size + 1 + 1, 1, none⟩ = some (.int .i64 (T : Int)) := hb2.keep q0_7; have q2_8 : w2.cell? ⟨w.heap.size + 1 + 1, 2, none⟩ = some (.int .i64 kd) := hb2.keep q0_8; have q2_9 : w2.cell? ⟨w.heap.size + 1 + 1, 3, none⟩ = some (.bool true) := hb2.keep q0_9
  have hR2 := hR0.past hb2
  have hp2 := hp0.trans hb2
  have c3 := hA2.cell_i (J := F) ((F : Int)) (by omega) (by omega)
  have v3 := bdx.out ((F : Int))
  have f3 : w2.frozen? ⟨ga, F, none⟩ = false := World.ownsRow.frozenAt hA2 _
  have hn3 := hA2.upd (J := F) ((F : Int)) (-1) (by omega)
  have hT3 := Turn.set w2 ga (F) (.int .i64 (gAt xs ((F : Int)) + -1))
  have bd3 := Lib.hid (Bd.upd bdx.out (i := (F : Int)) (d := -1) (by omega) (by omega))
  generalize hg3 : gAt xs ((F : Int)) = y3 at c3 v3 hn3 hT3
  obtain ⟨v3a, v3b⟩ := v3
  clear hg3
  have i3 : (0 : Int) ≤ (F : Int) := by omega
  have j3 : (F : Int) < (n : Int) := by omega
  go_region
  all_goals go_upto_region 4 with fail
  rw [show y3 + (-1) = y3 - 1 from by omega] at hn3 hT3
  replace hn3 := hn3.drew
  replace hT3 := Turn.drewR hT3
  generalize (w2.setCell ⟨ga, F, none⟩ (.int .i64 (y3 - 1))).drew = w3 at hn3 hT3 ⊢
  have hA3 := hn3
  have hD3 := hD2.turn hT3 (by omega)
  have q3_0 : w3.cell? ⟨w.heap.size, 0, none⟩ = some (.int .i64 (P : Int)) := hT3.cell q2_0 (.inl (by simp only; omega)); have q3_1 : w3.cell? ⟨w.heap.size, 1, none⟩ = some (.int .i64 c) := hT3.cell q2_1 (.inl (by simp only; omega)); have q3_2 : w3.cell? ⟨w.heap.size, 2, none⟩ = some (.int .i64 h) := hT3.cell q2_2 (.inl (by simp only; omega)); have q3_3 : w3.cell? ⟨w.heap.size, 3, none⟩ = some (.int .i64 s) := hT3.cell q2_3 (.inl (by simp only; omega)); have q3_4 : w3.cell? ⟨w.heap.size + 1, 0, none⟩ = some (.slice (some ⟨b, o, none⟩) n k) := hT3.cell q2_4 (.inl (by simp only; omega)); have q3_5 : w3.cell? ⟨w.heap.size + 1, 1, none⟩ = some (.slice (some ⟨d, q, none⟩) m l) := hT3.cell q2_5 (.inl (by simp only; omega)); have q3_6 : w3.cell? ⟨w.heap.size + 1 + 1, 0, none⟩ = some (.int .i64 (F : Int)) := hT3.cell q2_6 (.inl (by simp only; omega)); have q3_7 : w3.cell? ⟨w.heap.size + 1 + 1, 1, none⟩ = some (.int .i64 (T : Int)) := hT3.cell q2_7 (.inl (by simp only; omega)); have q3_8 : w3.cell? ⟨w.heap.size + 1 + 1, 2, none⟩ = some (.int .i64 kd) := hT3.cell q2_8 (.inl (by simp only; omega)); have q3_9 : w3.cell? ⟨w.heap.size + 1 + 1, 3, none⟩ = some (.bool true) := hT3.cell q2_9 (.inl (by simp only; omega))
  have hR3 := hT3.blk hR2 (.inl (by omega))
  have hp3 := Turn.past hT3 hp2 (by omega)
  have c4 := hA3.cell_i (J := T) ((T : Int)) (by omega) (by omega)
  have v4 := bd3.out ((T : Int))
  have f4 : w3.frozen? ⟨ga, T, none⟩ = false := World.ownsRow.frozenAt hA3 _
  have hn4 := hA3.upd (J := T) ((T : Int)) (1) (by omega)
  have hT4 := Turn.set w3 ga (T) (.int .i64 (gAt (upd xs ((F : Int)) (-1)) ((T : Int)) + 1))
  have bd4 := Lib.hid (Bd.upd bd3.out (i := (T : Int)) (d := 1) (by omega) (by omega))
  generalize hg4 : gAt (upd xs ((F : Int)) (-1)) ((T : Int)) = y4 at c4 v4 hn4 hT4
  obtain ⟨v4a, v4b⟩ := v4
  clear hg4
  have i4 : (0 : Int) ≤ (T : Int) := by omega
  have j4 : (T : Int) < (n : Int) := by omega
  go_region
  all_goals go_upto_region 7 with fail
  replace hn4 := hn4.drew
  replace hT4 := Turn.drewR hT4
  generalize (w3.setCell ⟨ga, T, none⟩ (.int .i64 (y4 + 1))).drew = w4 at hn4 hT4 ⊢
  have hA4 := hn4
  have hD4 := hD3.turn hT4 (by omega)
  have q4_0 : w4.cell? ⟨w.heap.size, 0, none⟩ = some (.int .i64 (P : Int)) := hT4.cell q3_0 (.inl (by simp only; omega)); have q4_1 : w4.cell? ⟨w.heap.size, 1, none⟩ = some (.int .i64 c) := hT4.cell q3_1 (.inl (by simp only; omega)); have q4_2 : w4.cell? ⟨w.heap.size, 2, none⟩ = some (.int .i64 h) := hT4.cell q3_2 (.inl (by simp only; omega)); have q4_3 : w4.cell? ⟨w.heap.size, 3, none⟩ = some (.int .i64 s) := hT4.cell q3_3 (.inl (by simp only; omega)); have q4_4 : w4.cell? ⟨w.heap.size + 1, 0, none⟩ = some (.slice (some ⟨b, o, none⟩) n k) := hT4.cell q3_4 (.inl (by simp only; omega)); have q4_5 : w4.cell? ⟨w.heap.size + 1, 1, none⟩ = some (.slice (some ⟨d, q, none⟩) m l) := hT4.cell q3_5 (.inl (by simp only; omega)); have q4_6 : w4.cell? ⟨w.heap.size + 1 + 1, 0, none⟩ = some (.int .i64 (F : Int)) := hT4.cell q3_6 (.inl (by simp only; omega)); have q4_7 : w4.cell? ⟨w.heap.size + 1 + 1, 1, none⟩ = some (.int .i64 (T : Int)) := hT4.cell q3_7 (.inl (by simp only; omega)); have q4_8 : w4.cell? ⟨w.heap.size + 1 + 1, 2, none⟩ = some (.int .i64 kd) := hT4.cell q3_8 (.inl (by simp only; omega)); have q4_9 : w4.cell? ⟨w.heap.size + 1 + 1, 3, none⟩ = some (.bool true) := hT4.cell q3_9 (.inl (by simp only; omega))
  have hR4 := hT4.blk hR3 (.inl (by omega))
  have hp4 := Turn.past hT4 hp3 (by omega)
  have c5 := hD4.cell_i (J := P - 1 - T) ((P : Int) - 1 - (T : Int)) (by omega) (by omega)
  have v5 := bdy.out ((P : Int) - 1 - (T : Int))
  have f5 : w4.frozen? ⟨gd, P - 1 - T, none⟩ = false := World.ownsRow.frozenAt hD4 _
  have hn5 := hD4.upd (J := P - 1 - T) ((P : Int) - 1 - (T : Int)) (-1) (by omega)
  have hT5 := Turn.set w4 gd (P - 1 - T) (.int .i64 (gAt ys ((P : Int) - 1 - (T : Int)) + -1))
  have bd5 := Lib.hid (Bd.upd bdy.out (i := (P : Int) - 1 - (T : Int)) (d := -1) (by omega) (by omega))
  generalize hg5 : gAt ys ((P : Int) - 1 - (T : Int)) = y5 at c5 v5 hn5 hT5
  obtain ⟨v5a, v5b⟩ := v5
  clear hg5
  go_upto_region 8 with fail
  rw [show y5 + (-1) = y5 - 1 from by omega] at hn5 hT5
  generalize (w4.setCell ⟨gd, P - 1 - T, none⟩ (.int .i64 (y5 - 1))) = w5 at hn5 hT5 ⊢
  have hD5 := hn5
  have hA5 := hA4.turn hT5 (by omega)
  have q5_0 : w5.cell? ⟨w.heap.size, 0, none⟩ = some (.int .i64 (P : Int)) := hT5.cell q4_0 (.inl (by simp only; omega)); have q5_1 : w5.cell? ⟨w.heap.size, 1, none⟩ = some (.int .i64 c) := hT5.cell q4_1 (.inl (by simp only; omega)); have q5_2 : w5.cell? ⟨w.heap.size, 2, none⟩ = some (.int .i64 h) := hT5.cell q4_2 (.inl (by simp only; omega)); have q5_3 : w5.cell? ⟨w.heap.size, 3, none⟩ = some (.int .i64 s) := hT5.cell q4_3 (.inl (by simp only; omega)); have q5_4 : w5.cell? ⟨w.heap.size + 1, 0, none⟩ = some (.slice (some ⟨b, o, none⟩) n k) := hT5.cell q4_4 (.inl (by simp only; omega)); have q5_5 : w5.cell? ⟨w.heap.size + 1, 1, none⟩ = some (.slice (some ⟨d, q, none⟩) m l) := hT5.cell q4_5 (.inl (by simp only; omega)); have q5_6 : w5.cell? ⟨w.heap.size + 1 + 1, 0, none⟩ = some (.int .i64 (F : Int)) := hT5.cell q4_6 (.inl (by simp only; omega)); have q5_7 : w5.cell? ⟨w.heap.size + 1 + 1, 1, none⟩ = some (.int .i64 (T : Int)) := hT5.cell q4_7 (.inl (by simp only; omega)); have q5_8 : w5.cell? ⟨w.heap.size + 1 + 1, 2, none⟩ = some (.int .i64 kd) := hT5.cell q4_8 (.inl (by simp only; omega)); have q5_9 : w5.cell? ⟨w.heap.size + 1 + 1, 3, none⟩ = some (.bool true) := hT5.cell q4_9 (.inl (by simp only; omega))
  have hR5 := hT5.blk hR4 (.inl (by omega))
  have hp5 := Turn.past hT5 hp4 (by omega)
  have c6 := hD5.cell_i (J := P) ((P : Int)) (by omega) (by omega)
  have v6 := bd5.out ((P : Int))
  have f6 : w5.frozen? ⟨gd, P, none⟩ = false := World.ownsRow.frozenAt hD5 _
  have hn6 := hD5.upd (J := P) ((P : Int)) (1) (by omega)
  have hT6 := Turn.set w5 gd (P) (.int .i64 (gAt (upd ys ((P : Int) - 1 - (T : Int)) (-1)) ((P : Int)) + 1))
  have bd6 := Lib.hid (Bd.upd bd5.out (i := (P : Int)) (d := 1) (by omega) (by omega))
  generalize hg6 : gAt (upd ys ((P : Int) - 1 - (T : Int)) (-1)) ((P : Int)) = y6 at c6 v6 hn6 hT6
  obtain ⟨v6a, v6b⟩ := v6
  clear hg6
  have i6 : (0 : Int) ≤ (P : Int) := by omega
  have j6 : (P : Int) < (m : Int) := by omega
  go_region
  all_goals go_upto_region 9 with fail
  replace hn6 := hn6.drew
  replace hT6 := Turn.drewR hT6
  generalize (w5.setCell ⟨gd, P, none⟩ (.int .i64 (y6 + 1))).drew = w6 at hn6 hT6 ⊢
  have hD6 := hn6
  have hA6 := hA5.turn hT6 (by omega)
  have q6_0 : w6.cell? ⟨w.heap.size, 0, none⟩ = some (.int .i64 (P : Int)) := hT6.cell q5_0 (.inl (by simp only; omega)); have q6_1 : w6.cell? ⟨w.heap.size, 1, none⟩ = some (.int .i64 c) := hT6.cell q5_1 (.inl (by simp only; omega)); have q6_2 : w6.cell? ⟨w.heap.size, 2, none⟩ = some (.int .i64 h) := hT6.cell q5_2 (.inl (by simp only; omega)); have q6_3 : w6.cell? ⟨w.heap.size, 3, none⟩ = some (.int .i64 s) := hT6.cell q5_3 (.inl (by simp only; omega)); have q6_4 : w6.cell? ⟨w.heap.size + 1, 0, none⟩ = some (.slice (some ⟨b, o, none⟩) n k) := hT6.cell q5_4 (.inl (by simp only; omega)); have q6_5 : w6.cell? ⟨w.heap.size + 1, 1, none⟩ = some (.slice (some ⟨d, q, none⟩) m l) := hT6.cell q5_5 (.inl (by simp only; omega)); have q6_6 : w6.cell? ⟨w.heap.size + 1 + 1, 0, none⟩ = some (.int .i64 (F : Int)) := hT6.cell q5_6 (.inl (by simp only; omega)); have q6_7 : w6.cell? ⟨w.heap.size + 1 + 1, 1, none⟩ = some (.int .i64 (T : Int)) := hT6.cell q5_7 (.inl (by simp only; omega)); have q6_8 : w6.cell? ⟨w.heap.size + 1 + 1, 2, none⟩ = some (.int .i64 kd) := hT6.cell q5_8 (.inl (by simp only; omega)); have q6_9 : w6.cell? ⟨w.heap.size + 1 + 1, 3, none⟩ = some (.bool true) := hT6.cell q5_9 (.inl (by simp only; omega))
  have hR6 := hT6.blk hR5 (.inl (by omega))
  have hp6 := Turn.past hT6 hp5 (by omega)
  have r0 := hR6.cell 0 rfl; have r1 := hR6.cell 1 rfl; have r2 := hR6.free 0; have r3 := hR6.free 1
  replace hA6 := hA6.less (base' := w.heap.size) (by omega)
  replace hD6 := hD6.less (base' := w.heap.size) (by omega)
  go_wp2
  refine bodyPost_ret (v := .agg #[.slice (some ⟨ga, 0, none⟩) n ka, .slice (some ⟨gd, 0, none⟩) m kb]) (by simp [r0, r1, results, Try.results95, go_sem]) rfl ⟨ga, gd, ka, kb, rfl, (hA6.far (by simp only; omega) _).far (by simp only; omega) _, (hD6.far (by simp only; omega) _).far (by simp only; omega) _, hne, (hp6.setCell (by simp only; omega) _).setCell (by simp only; omega) _⟩
end Go.Proofs.Ytapocfgajkkpdaa
