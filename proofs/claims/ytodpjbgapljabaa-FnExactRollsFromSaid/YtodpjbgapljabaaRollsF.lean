/-
  Contracts: rolls from a seed; the walk of their law.
-/
import Derived.Test.YtodpjbgapljabaaRolls
import Derived.Test.YtodpjbgapljabaaRowR
import Derived.Deep.DeepCutAuto
namespace Go.Proofs.Ytodpjbgapljabaa
open Go.ChangeShapes Go.WideShapes Go.ChangeAt Go.RowKit Go.Joins

def rcC (p c h s x n : Int) : Int := if vOk p c h s = true then (if (seedOk x && decide (0 ≤ n)) = true then (if n ≤ 400 then 0 else 3) else 2) else 1
theorem checkRolls (p c h s x n : Int) (w : World) :
    Calls Try.prog 22 #[.agg #[.int .i64 p, .int .i64 c, .int .i64 h, .int .i64 s], .int .i64 x, .int .i64 n] w fun e w' => e = .returned (.int .i64 (rcC p c h s x n)) ∧ Past w w' := by
  cases hv : vOk p c h s
  · rw [show rcC p c h s x n = 1 from by simp [rcC, hv]]
    go_enter Try.func22, Try.ntmps22
    go_wp2_with (go_at_call 27; (with_reducible refine (isVar_any _ _ _ _ _).mono ?_); rintro e w1 ⟨rfl, hb1⟩; obtain ⟨hc1, hf1, _⟩ := hb1.cells; have hz1_0 : w.heap.size < w1.heap.size := Past.lt hb1 (by first | omega | (simp <;> omega)))
    go_ret
    exact ⟨rfl, (by repeat (first | exact Past.refl _ | assumption | refine Past.alloc ?_ _ | refine Past.drew ?_ | refine Past.drewN ?_ _ | refine Past.setCell ?_ (by first | (simp; done) | (simp <;> omega)) _ | refine Past.trans ?_ (past_over _ _) | refine Past.trans ?_ (by assumption)))⟩
  · cases hs : seedOk x
    · rw [show rcC p c h s x n = 2 from by simp [rcC, hv, hs]]
      go_enter Try.func22, Try.ntmps22
      go_wp2_with (first | (go_at_call 27; (with_reducible refine (isVar_any _ _ _ _ _).mono ?_); rintro e w1 ⟨rfl, hb1⟩; obtain ⟨hc1, hf1, _⟩ := hb1.cells; have hz1_0 : w.heap.size < w1.heap.size := Past.lt hb1 (by first | omega | (simp <;> omega))) | (go_at_call 33; (with_reducible refine (isSeed _ _).mono ?_); rintro e w9 ⟨rfl, rfl⟩))
      go_ret
      exact ⟨rfl, (by repeat (first | exact Past.refl _ | assumption | refine Past.alloc ?_ _ | refine Past.drew ?_ | refine Past.drewN ?_ _ | refine Past.setCell ?_ (by first | (simp; done) | (simp <;> omega)) _ | refine Past.trans ?_ (past_over _ _) | refine Past.trans ?_ (by assumption)))⟩
    · by_cases h0 : n < 0
      · rw [show rcC p c h s x n = 2 from by simp [rcC, hv, hs, show ¬ 0 ≤ n from by omega]]
        go_enter Try.func22, Try.ntmps22
        go_wp2_with (first | (go_at_call 27; (with_reducible refine (isVar_any _ _ _ _ _).mono ?_); rintro e w1 ⟨rfl, hb1⟩; obtain ⟨hc1, hf1, _⟩ := hb1.cells; have hz1_0 : w.heap.size < w1.heap.size := Past.lt hb1 (by first | omega | (simp <;> omega))) | (go_at_call 33; (with_reducible refine (isSeed _ _).mono ?_); rintro e w9 ⟨rfl, rfl⟩))
        go_ret
        exact ⟨rfl, (by repeat (first | exact Past.refl _ | assumption | refine Past.alloc ?_ _ | refine Past.drew ?_ | refine Past.drewN ?_ _ | refine Past.setCell ?_ (by first | (simp; done) | (simp <;> omega)) _ | refine Past.trans ?_ (past_over _ _) | refine Past.trans ?_ (by assumption)))⟩
      · by_cases h4 : n ≤ 400
        · rw [show rcC p c h s x n = 0 from by simp [rcC, hv, hs, show 0 ≤ n from by omega, h4]]
          go_enter Try.func22, Try.ntmps22
          go_wp2_with (first | (go_at_call 27; (with_reducible refine (isVar_any _ _ _ _ _).mono ?_); rintro e w1 ⟨rfl, hb1⟩; obtain ⟨hc1, hf1, _⟩ := hb1.cells; have hz1_0 : w.heap.size < w1.heap.size := Past.lt hb1 (by first | omega | (simp <;> omega))) | (go_at_call 33; (with_reducible refine (isSeed _ _).mono ?_); rintro e w9 ⟨rfl, rfl⟩))
          go_ret
          exact ⟨rfl, (by repeat (first | exact Past.refl _ | assumption | refine Past.alloc ?_ _ | refine Past.drew ?_ | refine Past.drewN ?_ _ | refine Past.setCell ?_ (by first | (simp; done) | (simp <;> omega)) _ | refine Past.trans ?_ (past_over _ _) | refine Past.trans ?_ (by assumption)))⟩
        · rw [show rcC p c h s x n = 3 from by simp [rcC, hv, hs, show 0 ≤ n from by omega, h4]]
          have h5 : 400 < n := by omega
          clear h4
          go_enter Try.func22, Try.ntmps22
          go_wp2_with (first | (go_at_call 27; (with_reducible refine (isVar_any _ _ _ _ _).mono ?_); rintro e w1 ⟨rfl, hb1⟩; obtain ⟨hc1, hf1, _⟩ := hb1.cells; have hz1_0 : w.heap.size < w1.heap.size := Past.lt hb1 (by first | omega | (simp <;> omega))) | (go_at_call 33; (with_reducible refine (isSeed _ _).mono ?_); rintro e w9 ⟨rfl, rfl⟩))
          go_ret
          exact ⟨rfl, (by repeat (first | exact Past.refl _ | assumption | refine Past.alloc ?_ _ | refine Past.drew ?_ | refine Past.drewN ?_ _ | refine Past.setCell ?_ (by first | (simp; done) | (simp <;> omega)) _ | refine Past.trans ?_ (past_over _ _) | refine Past.trans ?_ (by assumption)))⟩
theorem sCheckRolls (p c h s x n : Int) (w : World) :
    Calls Try.prog 20 #[.agg #[.int .i64 p, .int .i64 c, .int .i64 h, .int .i64 s], .int .i64 x, .int .i64 n] w fun e w' => e = .returned (.int .i64 (rcC p c h s x n)) ∧ Past w w' := by
  cases hv : vOk p c h s
  · rw [show rcC p c h s x n = 1 from by simp [rcC, hv]]
    go_enter Try.func20, Try.ntmps20
    go_wp2_with (go_at_call 14; (with_reducible refine (sIsVar_any _ _ _ _ _).mono ?_); rintro e w1 ⟨rfl, hb1⟩; obtain ⟨hc1, hf1, _⟩ := hb1.cells; have hz1_0 : w.heap.size < w1.heap.size := Past.lt hb1 (by first | omega | (simp <;> omega)))
    go_ret
    exact ⟨rfl, (by repeat (first | exact Past.refl _ | assumption | refine Past.alloc ?_ _ | refine Past.drew ?_ | refine Past.drewN ?_ _ | refine Past.setCell ?_ (by first | (simp; done) | (simp <;> omega)) _ | refine Past.trans ?_ (past_over _ _) | refine Past.trans ?_ (by assumption)))⟩
  · cases hs : seedOk x
    · rw [show rcC p c h s x n = 2 from by simp [rcC, hv, hs]]
      go_enter Try.func20, Try.ntmps20
      go_wp2_with (first | (go_at_call 14; (with_reducible refine (sIsVar_any _ _ _ _ _).mono ?_); rintro e w1 ⟨rfl, hb1⟩; obtain ⟨hc1, hf1, _⟩ := hb1.cells; have hz1_0 : w.heap.size < w1.heap.size := Past.lt hb1 (by first | omega | (simp <;> omega))) | (go_at_call 30; (with_reducible refine (sIsSeed _ _).mono ?_); rintro e w9 ⟨rfl, rfl⟩))
      go_ret
      exact ⟨rfl, (by repeat (first | exact Past.refl _ | assumption | refine Past.alloc ?_ _ | refine Past.drew ?_ | refine Past.drewN ?_ _ | refine Past.setCell ?_ (by first | (simp; done) | (simp <;> omega)) _ | refine Past.trans ?_ (past_over _ _) | refine Past.trans ?_ (by assumption)))⟩
    · by_cases h0 : n < 0
      · rw [show rcC p c h s x n = 2 from by simp [rcC, hv, hs, show ¬ 0 ≤ n from by omega]]
        go_enter Try.func20, Try.ntmps20
        go_wp2_with (first | (go_at_call 14; (with_reducible refine (sIsVar_any _ _ _ _ _).mono ?_); rintro e w1 ⟨rfl, hb1⟩; obtain ⟨hc1, hf1, _⟩ := hb1.cells; have hz1_0 : w.heap.size < w1.heap.size := Past.lt hb1 (by first | omega | (simp <;> omega))) | (go_at_call 30; (with_reducible refine (sIsSeed _ _).mono ?_); rintro e w9 ⟨rfl, rfl⟩))
        go_ret
        exact ⟨rfl, (by repeat (first | exact Past.refl _ | assumption | refine Past.alloc ?_ _ | refine Past.drew ?_ | refine Past.drewN ?_ _ | refine Past.setCell ?_ (by first | (simp; done) | (simp <;> omega)) _ | refine Past.trans ?_ (past_over _ _) | refine Past.trans ?_ (by assumption)))⟩
      · by_cases h4 : n ≤ 400
        · rw [show rcC p c h s x n = 0 from by simp [rcC, hv, hs, show 0 ≤ n from by omega, h4]]
          go_enter Try.func20, Try.ntmps20
          go_wp2_with (first | (go_at_call 14; (with_reducible refine (sIsVar_any _ _ _ _ _).mono ?_); rintro e w1 ⟨rfl, hb1⟩; obtain ⟨hc1, hf1, _⟩ := hb1.cells; have hz1_0 : w.heap.size < w1.heap.size := Past.lt hb1 (by first | omega | (simp <;> omega))) | (go_at_call 30; (with_reducible refine (sIsSeed _ _).mono ?_); rintro e w9 ⟨rfl, rfl⟩))
          go_ret
          exact ⟨rfl, (by repeat (first | exact Past.refl _ | assumption | refine Past.alloc ?_ _ | refine Past.drew ?_ | refine Past.drewN ?_ _ | refine Past.setCell ?_ (by first | (simp; done) | (simp <;> omega)) _ | refine Past.trans ?_ (past_over _ _) | refine Past.trans ?_ (by assumption)))⟩
        · rw [show rcC p c h s x n = 3 from by simp [rcC, hv, hs, show 0 ≤ n from by omega, h4]]
          have h5 : 400 < n := by omega
          clear h4
          go_enter Try.func20, Try.ntmps20
          go_wp2_with (first | (go_at_call 14; (with_reducible refine (sIsVar_any _ _ _ _ _).mono ?_); rintro e w1 ⟨rfl, hb1⟩; obtain ⟨hc1, hf1, _⟩ := hb1.cells; have hz1_0 : w.heap.size < w1.heap.size := Past.lt hb1 (by first | omega | (simp <;> omega))) | (go_at_call 30; (with_reducible refine (sIsSeed _ _).mono ?_); rintro e w9 ⟨rfl, rfl⟩))
          go_ret
          exact ⟨rfl, (by repeat (first | exact Past.refl _ | assumption | refine Past.alloc ?_ _ | refine Past.drew ?_ | refine Past.drewN ?_ _ | refine Past.setCell ?_ (by first | (simp; done) | (simp <;> omega)) _ | refine Past.trans ?_ (past_over _ _) | refine Past.trans ?_ (by assumption)))⟩
/-- The seed behind j rolls; the first j rolls. -/
def sdTo (x : Int) : Nat → Int
  | 0 => x
  | j + 1 => nxt (nxt (sdTo x j))
def rfTo (s x : Int) : Nat → List Rol
  | 0 => []
  | j + 1 => rfTo s x j ++ [⟨mx (1 + nxt (sdTo x j) % s) (1 + nxt (nxt (sdTo x j)) % s), mn (1 + nxt (sdTo x j) % s) (1 + nxt (nxt (sdTo x j)) % s)⟩]
theorem rfTo_len (s x : Int) (j : Nat) : (rfTo s x j).length = j := by
  induction j with
  | zero => rfl
  | succ j ih => simp [rfTo, ih]
theorem sdTo_bd {x : Int} (h0 : 0 ≤ x) (h1 : x ≤ 2147483647) (j : Nat) : 0 ≤ sdTo x j ∧ sdTo x j ≤ 2147483647 := by
  cases j with
  | zero => exact ⟨h0, h1⟩
  | succ j => have := nxt_bd (nxt (sdTo x j)); simp only [sdTo]; omega
def rfL (p c h s x n : Int) : List Rol := if rcC p c h s x n = 0 then rfTo s x n.toNat else []
theorem rcC_zero {p c h s x n : Int} (h0 : rcC p c h s x n = 0) : vOk p c h s = true ∧ seedOk x = true ∧ 0 ≤ n ∧ n ≤ 400 := by
  unfold rcC at h0
  split at h0
  · rename_i hv
    split at h0
    · rename_i h1
      split at h0
      · simp only [Bool.and_eq_true, decide_eq_true_eq] at h1
        exact ⟨hv, h1.1, h1.2, by assumption⟩
      · omega
    · omega
  · omega
theorem rfL_le (p c h s x n : Int) : (rfL p c h s x n).length ≤ 1000 := by
  unfold rfL
  split
  · rename_i h0
    have := rcC_zero h0
    rw [rfTo_len]
    omega
  · simp
theorem rollsFrom_no (p c h s x n : Int) (w : World) (hc : Hid (rcC p c h s x n ≠ 0)) :
    Calls Try.prog 7 #[.agg #[.int .i64 p, .int .i64 c, .int .i64 h, .int .i64 s], .int .i64 x, .int .i64 n] w (RollsCode w [] (rcC p c h s x n)) := by
  have h1 := fun w => checkRolls p c h s x n w
  have hb : (rcC p c h s x n != 0) = true := by rw [bne_iff_ne]; exact hc.out
  generalize rcC p c h s x n = code at h1 hb
  have H1 := Lib.hid h1
  clear h1
  go_enter Try.func7, Try.ntmps7
  go_wp2_with (go_at_call 22; (with_reducible refine (H1.out _).mono ?_); rintro e w1 ⟨rfl, hb1⟩; obtain ⟨hc1, hf1, _⟩ := hb1.cells; have hz1_0 : w.heap.size < w1.heap.size := Past.lt hb1 (by first | omega | (simp <;> omega)))
  go_ret2
  exact ⟨none, 0, rfl, OwE.nil _ _ _ _ _, (by repeat (first | exact Past.refl _ | assumption | refine Past.alloc ?_ _ | refine Past.drew ?_ | refine Past.drewN ?_ _ | refine Past.setCell ?_ (by first | (simp; done) | (simp <;> omega)) _ | refine Past.trans ?_ (past_over _ _) | refine Past.trans ?_ (by assumption)))⟩
theorem sRollsFrom_no (p c h s x n : Int) (w : World) (hc : Hid (rcC p c h s x n ≠ 0)) :
    Calls Try.prog 5 #[.agg #[.int .i64 p, .int .i64 c, .int .i64 h, .int .i64 s], .int .i64 x, .int .i64 n] w (RollsCode w [] (rcC p c h s x n)) := by
  have h1 := fun w => sCheckRolls p c h s x n w
  have hb : (rcC p c h s x n != 0) = true := by rw [bne_iff_ne]; exact hc.out
  generalize rcC p c h s x n = code at h1 hb
  have H1 := Lib.hid h1
  clear h1
  go_enter Try.func5, Try.ntmps5
  go_wp2_with (go_at_call 20; (with_reducible refine (H1.out _).mono ?_); rintro e w1 ⟨rfl, hb1⟩; obtain ⟨hc1, hf1, _⟩ := hb1.cells; have hz1_0 : w.heap.size < w1.heap.size := Past.lt hb1 (by first | omega | (simp <;> omega)))
  go_ret2
  have ho := RollsIn.empty (w.alloc (.cells #[.int .i64 p, .int .i64 c, .int .i64 h, .int .i64 s] 27)) _ rfl
  obtain ⟨A, k, hv, ho, hp⟩ := ho.past hb1
  simp only [Value.slice.injEq] at hv
  obtain ⟨rfl, _, rfl⟩ := hv
  simp only [World.size_alloc, List.length_nil] at ho
  exact ⟨some ⟨w.heap.size + 1, 0, none⟩, 0, rfl, OwR.less (base' := w.heap.size) ho (by omega), (by repeat (first | exact Past.refl _ | assumption | refine Past.alloc ?_ _ | refine Past.drew ?_ | refine Past.drewN ?_ _ | refine Past.setCell ?_ (by first | (simp; done) | (simp <;> omega)) _ | refine Past.trans ?_ (past_over _ _) | refine Past.trans ?_ (by assumption)))⟩
set_option maxHeartbeats 2000000 in
set_option maxRecDepth 100000 in
theorem rollsFrom_yes (p c h s x : Int) (N : Nat) (w : World) (hc : Hid (rcC p c h s x N = 0)) (s1 : 1 ≤ s) (s2 : s ≤ 6) (x0 : 0 ≤ x) (x1 : x ≤ 2147483647) (hN : N ≤ 400) :
    Calls Try.prog 7 #[.agg #[.int .i64 p, .int .i64 c, .int .i64 h, .int .i64 s], .int .i64 x, .int .i64 (N : Int)] w (RollsCode w (rfTo s x N) 0) := by
  obtain ⟨i0, hi, hz0, hz1, hz2⟩ := info_parts infoR
  have h1 := fun w => checkRolls p c h s x N w
  rw [hc.out] at h1
  have H1 := Lib.hid h1
  clear h1 hc
  obtain ⟨w0, hw0⟩ : ∃ w0 : World, w0 = w.alloc (.cells #[.int .i64 p, .int .i64 c, .int .i64 h, .int .i64 s] 27) := ⟨_, rfl⟩
  have hp0 : Past w w0 := by rw [hw0]; exact (by repeat (first | exact Past.refl _ | assumption | refine Past.alloc ?_ _ | refine Past.drew ?_ | refine Past.drewN ?_ _ | refine Past.setCell ?_ (by first | (simp; done) | (simp <;> omega)) _ | refine Past.trans ?_ (past_over _ _) | refine Past.trans ?_ (by assumption)))
  have c0 : w0.cell? ⟨w.heap.size, 0, none⟩ = some (.int .i64 p) := by rw [hw0]; simp [go_sem]
  have c1 : w0.cell? ⟨w.heap.size, 1, none⟩ = some (.int .i64 c) := by rw [hw0]; simp [go_sem]
  have c2 : w0.cell? ⟨w.heap.size, 2, none⟩ = some (.int .i64 h) := by rw [hw0]; simp [go_sem]
  have c3 : w0.cell? ⟨w.heap.size, 3, none⟩ = some (.int .i64 s) := by rw [hw0]; simp [go_sem]
  have z0 := World.block_lt_of_cell? w0 _ c0
  simp only at z0
  go_enter Try.func7, Try.ntmps7
  go_upto_region 1 with fail
  rw [← hw0]
  clear hw0
  go_wp2_with fail
  (with_reducible refine (H1.out _).mono ?_)
  rintro e w1 ⟨rfl, hp01⟩
  go_wp2_with fail
  go_loopw [1, 9, 20] (fun sd v i wr => ∃ j : Nat, j ≤ N ∧ sd = .int .i64 (sdTo x j) ∧ i = .int .i64 j ∧ RollsIn w0 wr v (rfTo s x j)) (fun _ _ i _ => N - (intOf i).toNat)
  case atStart => exact ⟨0, Nat.zero_le _, rfl, rfl, (RollsIn.nil w0).past hp01⟩
  case round =>
    obtain ⟨j, hj, rfl, rfl, A', k', rfl, hown, hp⟩ := hrel
    have q0 := hp.keep c0
    have q1 := hp.keep c1
    have q2 := hp.keep c2
    have q3 := hp.keep c3
    have qb := World.block_lt_of_cell? wr _ q3
    simp only at qb
    obtain ⟨sd0, sd1⟩ := sdTo_bd x0 x1 j
    have hlen := rfTo_len s x j
    by_cases hlt : j < N
    · have hlt2 : (j : Int) < (N : Int) := by omega
      have hrf := fun w => rollFrom p c h s (sdTo x j) w s1 s2 sd0 sd1
      obtain ⟨a, ha⟩ : ∃ a, mx (1 + nxt (sdTo x j) % s) (1 + nxt (nxt (sdTo x j)) % s) = a := ⟨_, rfl⟩
      obtain ⟨b, hb⟩ : ∃ b, mn (1 + nxt (sdTo x j) % s) (1 + nxt (nxt (sdTo x j)) % s) = b := ⟨_, rfl⟩
      obtain ⟨z, hz⟩ : ∃ z, nxt (nxt (sdTo x j)) = z := ⟨_, rfl⟩
      have HN : Hid (rfTo s x (j + 1) = rfTo s x j ++ [⟨a, b⟩]) := Lib.hid (by rw [← ha, ← hb]; rfl)
      have HZ : Hid (sdTo x (j + 1) = z) := Lib.hid hz
      rw [ha, hb, hz] at hrf
      have HRF := Lib.hid hrf
      clear hrf ha hb hz
      generalize rfTo s x j = X at hown hlen HN ⊢
      generalize sdTo x j = y at HRF sd0 sd1 ⊢
      subst hlen
      go_wp2_with fail
      (with_reducible refine (HRF.out _).mono ?_)
      rintro e w2 ⟨rfl, hp2⟩
      have hown2 := hown.past hp2
      have hp3 := hp.trans hp2
      clear hown
      go_wp2_with (at_builtin; refine wpList_append_own _ rfl _ _ 24 rfl w0.heap.size 40 i0 (.agg #[.int .i64 0, .int .i64 0]) 2 16 Try.underlying24 hi hz0 hz1 hz2 rfl (by decide) _ X.length (flat Rol.cells X) rfl (OwE.alloc (OwE.alloc hown2 _) _).2 ⟨w2.heap.size + 1, 0, none⟩ 1 1 [.int .i64 a, .int .i64 b] rfl rfl (World.news_of_block (Blk.at_ (by simp))) (by intro u hu; simp at hu; rcases hu with rfl | rfl <;> rfl) (by unfold maxLen; omega) (by omega) (Nat.le_trans hp3.size (by simp only [World.size_alloc]; omega)) ?_; intro v2 w5 hown5 hg5 hiff)
      go_roundw
      case rel => exact ⟨X.length + 1, by omega, by rw [HZ.out], by go_num, by rw [HN.out]; exact RollsIn.push (OwE.alloc (OwE.alloc hown2 _) _) ((hp3.alloc _).alloc _) hown5 hg5 (fun h => absurd (hiff.1 h).2 (by decide))⟩
      case measure => simp [intOf]; omega
    · obtain rfl : j = N := by omega
      go_wp2
      go_ret2
      exact ⟨A', k', rfl, OwE.less hown hp0.sz, hp0.trans hp⟩
set_option maxHeartbeats 2000000 in
set_option maxRecDepth 100000 in
theorem sRollsFrom_yes (p c h s x : Int) (N : Nat) (w : World) (hc : Hid (rcC p c h s x N = 0)) (s1 : 1 ≤ s) (s2 : s ≤ 6) (x0 : 0 ≤ x) (x1 : x ≤ 2147483647) (hN : N ≤ 400) :
    Calls Try.prog 5 #[.agg #[.int .i64 p, .int .i64 c, .int .i64 h, .int .i64 s], .int .i64 x, .int .i64 (N : Int)] w (RollsCode w (rfTo s x N) 0) := by
  obtain ⟨i0, hi, hz0, hz1, hz2⟩ := info_parts infoR
  have h1 := fun w => sCheckRolls p c h s x N w
  rw [hc.out] at h1
  have H1 := Lib.hid h1
  clear h1 hc
  obtain ⟨w0, hw0⟩ : ∃ w0 : World, w0 = w.alloc (.cells #[.int .i64 p, .int .i64 c, .int .i64 h, .int .i64 s] 27) := ⟨_, rfl⟩
  have hp0 : Past w w0 := by rw [hw0]; exact (by repeat (first | exact Past.refl _ | assumption | refine Past.alloc ?_ _ | refine Past.drew ?_ | refine Past.drewN ?_ _ | refine Past.setCell ?_ (by first | (simp; done) | (simp <;> omega)) _ | refine Past.trans ?_ (past_over _ _) | refine Past.trans ?_ (by assumption)))
  have c0 : w0.cell? ⟨w.heap.size, 0, none⟩ = some (.int .i64 p) := by rw [hw0]; simp [go_sem]
  have c1 : w0.cell? ⟨w.heap.size, 1, none⟩ = some (.int .i64 c) := by rw [hw0]; simp [go_sem]
  have c2 : w0.cell? ⟨w.heap.size, 2, none⟩ = some (.int .i64 h) := by rw [hw0]; simp [go_sem]
  have c3 : w0.cell? ⟨w.heap.size, 3, none⟩ = some (.int .i64 s) := by rw [hw0]; simp [go_sem]
  have z0 := World.block_lt_of_cell? w0 _ c0
  simp only at z0
  go_enter Try.func5, Try.ntmps5
  go_upto_region 1 with fail
  rw [← hw0]
  clear hw0
  go_wp2_with fail
  have HO := Lib.hid (RollsIn.empty w0 _ rfl)
  (with_reducible refine (H1.out _).mono ?_)
  rintro e w1 ⟨rfl, hp01⟩
  go_wp2_with fail
  go_loopw [1, 2, 8] (fun sd i v wr => ∃ j : Nat, j ≤ N ∧ sd = .int .i64 (sdTo x j) ∧ i = .int .i64 ((N : Int) - (j : Int)) ∧ RollsIn w0 wr v (rfTo s x j)) (fun _ i _ _ => (intOf i).toNat)
  case atStart => exact ⟨0, Nat.zero_le _, rfl, by simp, HO.out.past hp01⟩
  case round =>
    obtain ⟨j, hj, rfl, rfl, A', k', rfl, hown, hp⟩ := hrel
    have q0 := hp.keep c0
    have q1 := hp.keep c1
    have q2 := hp.keep c2
    have q3 := hp.keep c3
    have qb := World.block_lt_of_cell? wr _ q3
    simp only at qb
    obtain ⟨sd0, sd1⟩ := sdTo_bd x0 x1 j
    have hlen := rfTo_len s x j
    by_cases hlt : j < N
    · have hlt2 : (j : Int) < (N : Int) := by omega
      have hrf := fun w => sRollFrom p c h s (sdTo x j) w s1 s2 sd0 sd1
      obtain ⟨a, ha⟩ : ∃ a, mx (1 + nxt (sdTo x j) % s) (1 + nxt (nxt (sdTo x j)) % s) = a := ⟨_, rfl⟩
      obtain ⟨b, hb⟩ : ∃ b, mn (1 + nxt (sdTo x j) % s) (1 + nxt (nxt (sdTo x j)) % s) = b := ⟨_, rfl⟩
      obtain ⟨z, hz⟩ : ∃ z, nxt (nxt (sdTo x j)) = z := ⟨_, rfl⟩
      have HN : Hid (rfTo s x (j + 1) = rfTo s x j ++ [⟨a, b⟩]) := Lib.hid (by rw [← ha, ← hb]; rfl)
      have HZ : Hid (sdTo x (j + 1) = z) := Lib.hid hz
      rw [ha, hb, hz] at hrf
      have HRF := Lib.hid hrf
      clear hrf ha hb hz
      generalize rfTo s x j = X at hown hlen HN ⊢
      generalize sdTo x j = y at HRF sd0 sd1 ⊢
      subst hlen
      go_wp2_with fail
      (with_reducible refine (HRF.out _).mono ?_)
      rintro e w2 ⟨rfl, hp2⟩
      have hown2 := hown.past hp2
      have hp3 := hp.trans hp2
      clear hown
      go_wp2_with (at_builtin; refine wpList_append_own _ rfl _ _ 24 rfl w0.heap.size 40 i0 (.agg #[.int .i64 0, .int .i64 0]) 2 16 Try.underlying24 hi hz0 hz1 hz2 rfl (by decide) _ X.length (flat Rol.cells X) rfl (OwE.alloc (OwE.alloc hown2 _) _).2 ⟨w2.heap.size + 1, 0, none⟩ 1 1 [.int .i64 a, .int .i64 b] rfl rfl (World.news_of_block (Blk.at_ (by simp))) (by intro u hu; simp at hu; rcases hu with rfl | rfl <;> rfl) (by unfold maxLen; omega) (by omega) (Nat.le_trans hp3.size (by simp only [World.size_alloc]; omega)) ?_; intro v2 w5 hown5 hg5 hiff)
      go_roundw
      case rel => exact ⟨X.length + 1, by omega, by rw [HZ.out], by go_num, by rw [HN.out]; exact RollsIn.push (OwE.alloc (OwE.alloc hown2 _) _) ((hp3.alloc _).alloc _) hown5 hg5 (fun h => absurd (hiff.1 h).2 (by decide))⟩
      case measure => simp [intOf]; omega
    · obtain rfl : j = N := by omega
      go_wp2
      go_ret2
      exact ⟨A', k', rfl, OwE.less hown hp0.sz, hp0.trans hp⟩
theorem rollsFrom (p c h s x n : Int) (w : World) :
    Calls Try.prog 7 #[.agg #[.int .i64 p, .int .i64 c, .int .i64 h, .int .i64 s], .int .i64 x, .int .i64 n] w (RollsCode w (rfL p c h s x n) (rcC p c h s x n)) := by
  by_cases h0 : rcC p c h s x n = 0
  · obtain ⟨hv, hs, n0, n1⟩ := rcC_zero h0
    obtain ⟨_, _, _, s1, s2⟩ := vOk_yes hv
    obtain ⟨x0, x1⟩ := win_yes hs
    rw [show rfL p c h s x n = rfTo s x n.toNat from by simp [rfL, h0], h0]
    obtain ⟨N, rfl⟩ := Int.eq_ofNat_of_zero_le n0
    rw [Int.toNat_natCast]
    exact rollsFrom_yes p c h s x N w (Lib.hid h0) s1 s2 (by omega) (by omega) (by omega)
  · rw [show rfL p c h s x n = [] from by simp [rfL, h0]]
    exact rollsFrom_no p c h s x n w (Lib.hid h0)
theorem sRollsFrom (p c h s x n : Int) (w : World) :
    Calls Try.prog 5 #[.agg #[.int .i64 p, .int .i64 c, .int .i64 h, .int .i64 s], .int .i64 x, .int .i64 n] w (RollsCode w (rfL p c h s x n) (rcC p c h s x n)) := by
  by_cases h0 : rcC p c h s x n = 0
  · obtain ⟨hv, hs, n0, n1⟩ := rcC_zero h0
    obtain ⟨_, _, _, s1, s2⟩ := vOk_yes hv
    obtain ⟨x0, x1⟩ := win_yes hs
    rw [show rfL p c h s x n = rfTo s x n.toNat from by simp [rfL, h0], h0]
    obtain ⟨N, rfl⟩ := Int.eq_ofNat_of_zero_le n0
    rw [Int.toNat_natCast]
    exact sRollsFrom_yes p c h s x N w (Lib.hid h0) s1 s2 (by omega) (by omega) (by omega)
  · rw [show rfL p c h s x n = [] from by simp [rfL, h0]]
    exact sRollsFrom_no p c h s x n w (Lib.hid h0)
end Go.Proofs.Ytodpjbgapljabaa
