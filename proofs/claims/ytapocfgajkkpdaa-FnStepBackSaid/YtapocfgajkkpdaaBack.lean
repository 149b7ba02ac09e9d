/-
  Plain facts: a legal step can be undone; what it does to the pips and to the bar.
-/
import Derived.Test.YtapocfgajkkpdaaUndo2
namespace Go.Proofs.Ytapocfgajkkpdaa

theorem pipsTo_upd {xs : List Int} {I : Nat} {e : Int} (hI : I < xs.length) (j : Nat) : pipsTo (upd xs (I : Int) e) j = pipsTo xs j + (if I < j then ((I : Int) + 1) * e else 0) := by
  induction j with
  | zero => simp [pipsTo]
  | succ j ih =>
    have h1 : (upd xs (I : Int) e).getD j 0 = xs.getD j 0 + (if I = j then e else 0) := by
      have h2 := gAt_upd (xs := xs) (i := (I : Int)) (j := (j : Int)) (d := e) (by omega) (by omega) (by omega)
      unfold gAt at h2
      rw [Int.toNat_natCast] at h2
      rw [h2]
      by_cases h3 : I = j
      · rw [if_pos h3, if_pos (by omega)]
      · rw [if_neg h3, if_neg (by omega)]
    rw [pipsTo, pipsTo, ih, h1, Int.mul_add]
    by_cases h3 : I = j
    · subst h3
      rw [if_neg (Nat.lt_irrefl _), if_pos (Nat.lt_succ_self _), if_pos rfl]
      omega
    · rw [if_neg h3, Int.mul_zero]
      by_cases h4 : I < j
      · rw [if_pos h4, if_pos (by omega)]
        omega
      · rw [if_neg h4, if_neg (by omega)]
        omega
theorem pips_upd {xs : List Int} {i e : Int} (h0 : 0 ≤ i) (hi : i < (xs.length : Int)) : pipsF (upd xs i e) = pipsF xs + (i + 1) * e := by
  obtain ⟨I, rfl⟩ := Int.eq_ofNat_of_zero_le h0
  rw [pipsF, pipsF, upd_len, pipsTo_upd (by omega), if_pos (by omega)]
/-- What a legal step is. -/
theorem leg_shape {P : Nat} {h s : Int} {xs ys : List Int} {a : Stp} (hl : legB P h s xs ys a = true) :
    (1 ≤ a.d ∧ a.d ≤ s) ∧ (0 ≤ a.f ∧ a.f ≤ P) ∧ overF xs ys = false ∧ gAt xs a.f ≠ 0 ∧
      ((0 ≤ a.f - a.d ∧ a.t = a.f - a.d ∧ gAt ys (P - 1 - a.t) ≤ 1 ∧ (a.x = true ↔ gAt ys (P - 1 - a.t) = 1)) ∨ (a.f < a.d ∧ a.t = -1 ∧ a.x = false)) := by
  have hl0 := hl
  simp only [legB, Bool.and_eq_true, Stp.same, stp] at hl
  obtain ⟨h1, h2, ho, hs, _, h3, _, h4⟩ := hl
  replace h3 : toOf a.f a.d = a.t := of_decide_eq_true h3
  replace h4 : stHit P ys a.f a.d = a.x := eq_of_beq h4
  have d0 := win_yes h1
  have f0 := win_yes h2
  replace ho : overF xs ys = false := by simpa using ho
  have hx : gAt xs a.f ≠ 0 := fun hx => by
    rw [stOk_x hx] at hs
    cases hs
  refine ⟨d0, f0, ho, hx, ?_⟩
  by_cases ht : 0 ≤ a.f - a.d
  · rw [toOf_pos ht] at h3
    have hb : ¬ 0 < gAt xs P ∨ a.f = P := by
      by_cases h5 : 0 < gAt xs P
      · by_cases h6 : a.f = P
        · exact .inr h6
        · rw [stOk_bar h5 h6] at hs
          cases hs
      · exact .inl h5
    rw [stOk_in hx hb ht] at hs
    rw [stHit_in ht] at h4
    rw [h3] at hs h4
    refine .inl ⟨ht, h3.symm, of_decide_eq_true hs, ?_⟩
    rw [← h4, beq_iff_eq]
  · rw [toOf_neg ht] at h3
    rw [stHit_off ht] at h4
    exact .inr ⟨by omega, h3.symm, h4.symm⟩
section
variable {P : Nat} {c h s : Int} {xs ys : List Int} {a : Stp}
theorem back_x (hl : (xs.length : Int) = P + 1) (hg : legB P h s xs ys a = true) : unX (apX xs a) a = xs := by
  obtain ⟨hd, hf, _, _, ht⟩ := leg_shape hg
  refine ext_gAt (by rw [unX_len, apX_len]) fun j j0 j1 => ?_
  rw [unX_len, apX_len] at j1
  unfold unX apX
  rcases ht with ⟨t0, t1, _, _⟩ | ⟨_, t1, _⟩
  · have t2 : 0 ≤ a.t := by omega
    rw [if_pos t2, if_pos t2, gAt_upd t2 (by simp only [upd_len]; omega) j0, gAt_upd hf.1 (by simp only [upd_len]; omega) j0, gAt_upd t2 (by simp only [upd_len]; omega) j0, gAt_upd hf.1 (by omega) j0]
    split <;> split <;> omega
  · have t2 : ¬ 0 ≤ a.t := by omega
    rw [if_neg t2, if_neg t2, gAt_upd hf.1 (by simp only [upd_len]; omega) j0, gAt_upd hf.1 (by omega) j0]
    split <;> omega
theorem back_y (hl : (ys.length : Int) = P + 1) (hg : legB P h s xs ys a = true) : unY P (apY P ys a) a = ys := by
  obtain ⟨hd, hf, _, _, ht⟩ := leg_shape hg
  cases hx : a.x
  · rw [unY, if_neg (by simp [hx]), apY, if_neg (by simp [hx])]
  · rcases ht with ⟨t0, t1, _, _⟩ | ⟨_, _, t3⟩
    · refine ext_gAt (by rw [unY_len, apY_len]) fun j j0 j1 => ?_
      rw [unY_len, apY_len] at j1
      unfold unY apY
      rw [if_pos hx, if_pos hx, gAt_upd (by omega) (by simp only [upd_len]; omega) j0, gAt_upd (by omega) (by simp only [upd_len]; omega) j0, gAt_upd (by omega) (by simp only [upd_len]; omega) j0, gAt_upd (by omega) (by omega) j0]
      split <;> split <;> omega
    · rw [hx] at t3
      cases t3
theorem after_ok (hb : bOk P c h s xs ys = true) (hg : legB P h s xs ys a = true) : bOk P c h s (apX xs a) (apY P ys a) = true := by
  obtain ⟨hv, hx, hy, _, hap⟩ := bOk_yes hb
  obtain ⟨hv1, _, _, hv4⟩ := vOk_yes hv
  obtain ⟨lx, x0, xs1⟩ := sOk_yes hx
  obtain ⟨ly, y0, ys1⟩ := sOk_yes hy
  obtain ⟨hd, hf, ho, hxf, ht⟩ := leg_shape hg
  have sx := sum_nonneg x0
  have sy := sum_nonneg y0
  have ho2 : xs.sum ≠ 0 ∧ ys.sum ≠ 0 := by simpa [overF] using ho
  have hap2 : ∀ i : Int, 0 ≤ i → i < P → ¬ (0 < gAt xs i ∧ 0 < gAt ys (P - 1 - i)) := fun i i0 i1 => by
    have h1 := of_decide_eq_true hap i.toNat (by omega)
    rw [Int.toNat_natCast] at h1
    unfold gAt
    rw [show ((P : Int) - 1 - i).toNat = P - 1 - i.toNat from by omega]
    exact h1
  have gx : ∀ j : Int, 0 ≤ j → gAt (apX xs a) j = gAt xs j + (if a.f = j then -1 else 0) + (if 0 ≤ a.t ∧ a.t = j then 1 else 0) := fun j j0 => by
    unfold apX
    by_cases t2 : 0 ≤ a.t
    · rw [if_pos t2, gAt_upd t2 (by simp only [upd_len]; omega) j0, gAt_upd hf.1 (by omega) j0]
      split <;> split <;> split <;> omega
    · rw [if_neg t2, gAt_upd hf.1 (by omega) j0, if_neg (show ¬ (0 ≤ a.t ∧ a.t = j) from fun h => t2 h.1)]
      omega
  have gy : ∀ j : Int, 0 ≤ j → gAt (apY P ys a) j = gAt ys j + (if a.x = true ∧ (P : Int) - 1 - a.t = j then -1 else 0) + (if a.x = true ∧ (P : Int) = j then 1 else 0) := fun j j0 => by
    unfold apY
    by_cases t2 : a.x = true
    · have t3 : 0 ≤ a.t ∧ a.t < P := by
        rcases ht with ⟨t0, t1, _, _⟩ | ⟨_, _, t3⟩
        · omega
        · rw [t2] at t3; cases t3
      rw [if_pos t2, gAt_upd (by omega) (by simp only [upd_len]; omega) j0, gAt_upd (by omega) (by omega) j0]
      simp only [t2, true_and]
    · rw [if_neg t2]
      simp [t2]
  have hfp := gAt_nonneg x0 a.f
  have nx : ∀ x ∈ apX xs a, 0 ≤ x := nonneg_of_gAt fun j j0 _ => by
    rw [gx j j0]
    have := gAt_nonneg x0 j
    by_cases e : a.f = j
    · rw [if_pos e, ← e]
      split <;> omega
    · rw [if_neg e]
      split <;> omega
  have ny : ∀ x ∈ apY P ys a, 0 ≤ x := nonneg_of_gAt fun j j0 _ => by
    rw [gy j j0]
    have := gAt_nonneg y0 j
    by_cases e : a.x = true ∧ (P : Int) - 1 - a.t = j
    · rw [if_pos e]
      rcases ht with ⟨_, _, _, t4⟩ | ⟨_, _, t3⟩
      · have := t4.1 e.1
        rw [e.2] at this
        split <;> omega
      · rw [e.1] at t3; cases t3
    · rw [if_neg e]
      split <;> omega
  have ux : (apX xs a).sum = xs.sum ∨ (apX xs a).sum = xs.sum - 1 := by
    unfold apX
    by_cases t2 : 0 ≤ a.t
    · have t3 : a.t < P := by
        rcases ht with ⟨t0, t1, _, _⟩ | ⟨_, t1, _⟩ <;> omega
      rw [if_pos t2, sum_upd t2 (by simp only [upd_len]; omega), sum_upd hf.1 (by omega)]
      omega
    · rw [if_neg t2, sum_upd hf.1 (by omega)]
      omega
  have uy : (apY P ys a).sum = ys.sum := by
    unfold apY
    by_cases t2 : a.x = true
    · have t3 : 0 ≤ a.t ∧ a.t < P := by
        rcases ht with ⟨t0, t1, _, _⟩ | ⟨_, _, t3⟩
        · omega
        · rw [t2] at t3; cases t3
      rw [if_pos t2, sum_upd (by omega) (by simp only [upd_len]; omega), sum_upd (by omega) (by omega)]
      omega
    · rw [if_neg t2]
  have ox : sOk P c (apX xs a) = true := sOk_mk ⟨by rw [apX_len]; exact lx, nx, by omega⟩
  have oy : sOk P c (apY P ys a) = true := sOk_mk ⟨by rw [apY_len]; exact ly, ny, by omega⟩
  have px := sum_nonneg nx
  rw [bOk_apart hv ox oy (by omega)]
  refine decide_eq_true fun i hi hh => ?_
  rw [Int.toNat_natCast] at hi hh
  have e1 : (apX xs a).getD i 0 = gAt (apX xs a) (i : Int) := by rw [gAt, Int.toNat_natCast]
  have e2 : (apY P ys a).getD (P - 1 - i) 0 = gAt (apY P ys a) ((P : Int) - 1 - i) := by rw [gAt, show ((P : Int) - 1 - i).toNat = P - 1 - i from by omega]
  rw [e1, e2, gx _ (by omega), gy _ (by omega)] at hh
  have h1 := hap2 (i : Int) (by omega) (by omega)
  have q1 := gAt_nonneg x0 (i : Int)
  have q2 := gAt_nonneg y0 ((P : Int) - 1 - i)
  rw [if_neg (show ¬ (a.x = true ∧ (P : Int) = (P : Int) - 1 - i) from fun h => by omega)] at hh
  by_cases et : 0 ≤ a.t ∧ a.t = (i : Int)
  · rcases ht with ⟨t0, t1, t5, t4⟩ | ⟨_, t1, _⟩
    · rw [et.2] at t4 t5
      cases hax : a.x
      · rw [if_neg (show ¬ (a.x = true ∧ (P : Int) - 1 - a.t = (P : Int) - 1 - i) from fun h => by rw [hax] at h; cases h.1)] at hh
        have t6 : ¬ gAt ys ((P : Int) - 1 - i) = 1 := fun h => by
          have := t4.2 h
          rw [hax] at this
          cases this
        omega
      · rw [if_pos (show (a.x = true ∧ (P : Int) - 1 - a.t = (P : Int) - 1 - i) from ⟨hax, by omega⟩)] at hh
        have := t4.1 hax
        omega
    · omega
  · rw [if_neg et] at hh
    have h3 : (if a.f = (i : Int) then (-1 : Int) else 0) ≤ 0 := by split <;> omega
    have h4 : (if a.x = true ∧ (P : Int) - 1 - a.t = (P : Int) - 1 - i then (-1 : Int) else 0) ≤ 0 := by split <;> omega
    omega
theorem undo_ok (hb : bOk P c h s xs ys = true) (hg : legB P h s xs ys a = true) : unOk P c h s (apX xs a) (apY P ys a) a = true := by
  obtain ⟨hv, hx, hy, _, _⟩ := bOk_yes hb
  obtain ⟨hd, hf, _, _, ht⟩ := leg_shape hg
  have e1 := back_x (ys := ys) (h := h) (s := s) (sOk_yes hx).1 hg
  have e2 := back_y (xs := xs) (h := h) (s := s) (sOk_yes hy).1 hg
  have hsh : unShape P a = true := by
    simp only [unShape, Bool.and_eq_true]
    refine ⟨win_mk hf, win_mk ?_, ?_⟩
    · rcases ht with ⟨t0, t1, _, _⟩ | ⟨_, t1, _⟩ <;> omega
    · rcases ht with ⟨t0, t1, _, _⟩ | ⟨_, t1, t2⟩
      · rw [decide_eq_false (show ¬ a.t < 0 by omega)]
        simp
      · rw [t2]
        rfl
  rw [unOk, after_ok hb hg, hsh, unB, unG, e1, e2, hb, hg]
  rfl
/-- What a step does to the pips and to the bar. -/
theorem pips_step (hb : bOk P c h s xs ys = true) (hg : legB P h s xs ys a = true) :
    1 ≤ pipsF xs - pipsF (apX xs a) ∧ pipsF xs - pipsF (apX xs a) ≤ a.d ∧ pipsF ys ≤ pipsF (apY P ys a) ∧ (pipsF ys < pipsF (apY P ys a) ↔ a.x = true) ∧ gAt (apY P ys a) P - gAt ys P = (if a.x = true then 1 else 0) := by
  obtain ⟨hv, hx, hy, _, _⟩ := bOk_yes hb
  have lx := (sOk_yes hx).1
  have ly := (sOk_yes hy).1
  obtain ⟨hd, hf, _, _, ht⟩ := leg_shape hg
  have e1 : pipsF (apX xs a) = pipsF xs - (a.f + 1) + (if 0 ≤ a.t then a.t + 1 else 0) := by
    unfold apX
    by_cases t2 : 0 ≤ a.t
    · have t3 : a.t < P := by
        rcases ht with ⟨t0, t1, _, _⟩ | ⟨_, t1, _⟩ <;> omega
      rw [if_pos t2, if_pos t2, pips_upd t2 (by simp only [upd_len]; omega), pips_upd hf.1 (by omega), Int.mul_one, Int.mul_neg, Int.mul_one]
      omega
    · rw [if_neg t2, if_neg t2, pips_upd hf.1 (by omega), Int.mul_neg, Int.mul_one]
      omega
  cases hax : a.x
  · have e2 : apY P ys a = ys := by rw [apY, if_neg (by simp [hax])]
    rw [e2, e1]
    refine ⟨?_, ?_, Int.le_refl _, ⟨fun h => absurd h (Int.lt_irrefl _), fun h => by cases h⟩, by simp⟩
    · rcases ht with ⟨t0, t1, _, _⟩ | ⟨_, t1, _⟩
      · rw [if_pos (by omega)]; omega
      · rw [if_neg (by omega)]; omega
    · rcases ht with ⟨t0, t1, _, _⟩ | ⟨_, t1, _⟩
      · rw [if_pos (by omega)]; omega
      · rw [if_neg (by omega)]; omega
  · rcases ht with ⟨t0, t1, _, _⟩ | ⟨_, _, t3⟩
    · have e2 : apY P ys a = upd (upd ys (P - 1 - a.t) (-1)) P 1 := by rw [apY, if_pos hax]
      have e3 : pipsF (apY P ys a) = pipsF ys + (a.t + 1) := by
        rw [e2, pips_upd (by omega) (by simp only [upd_len]; omega), pips_upd (by omega) (by omega), Int.mul_one, Int.mul_neg, Int.mul_one]
        omega
      have e4 : gAt (apY P ys a) P = gAt ys P + 1 := by
        rw [e2, gAt_upd (by omega) (by simp only [upd_len]; omega) (by omega), gAt_upd (by omega) (by omega) (by omega), if_neg (by omega), if_pos rfl]
        omega
      rw [e1, e3, e4, if_pos (by omega)]
      refine ⟨by omega, by omega, by omega, ⟨fun _ => rfl, fun _ => by omega⟩, by rw [if_pos rfl]; omega⟩
    · rw [hax] at t3
      cases t3
end
end Go.Proofs.Ytapocfgajkkpdaa
