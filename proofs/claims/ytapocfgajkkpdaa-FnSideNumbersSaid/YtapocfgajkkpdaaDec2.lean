/-
  Plain facts: a side's number is recovered from the side with that number; sides in order have numbers in order.
-/
import Derived.Test.YtapocfgajkkpdaaDec
namespace Go.Proofs.Ytapocfgajkkpdaa

theorem inN_shift (r : Nat) (l : Int) (d : Nat) : inN r l (d + 1) = cnt r l.toNat + inN r (l - 1) d := by
  induction d with
  | zero => simp [inN]
  | succ d ih =>
    rw [inN, ih, inN, show l - ((d + 1 : Nat) : Int) = l - 1 - (d : Int) from by omega]
    omega
theorem dec_sum {r l : Nat} {N : Int} (hr : r ≤ 24) (hl : l ≤ 15) (h : okN r l N) : inN r (l : Int) (decD r l N) + decR r l N = N := by
  induction l generalizing N with
  | zero => simp [decD, decR, inN]
  | succ l ih =>
    by_cases hN : cnt r (l + 1) ≤ N
    · have h1 := ih (by omega) (okN_step hr hl h hN)
      rw [decD, decR, if_pos hN, if_pos hN, inN_shift, show ((l + 1 : Nat) : Int).toNat = l + 1 from by omega, show ((l + 1 : Nat) : Int) - 1 = (l : Int) from by omega]
      omega
    · rw [decD, decR, if_neg hN, if_neg hN]
      simp [inN]
theorem dst_take {P C : Nat} {N : Int} {j k : Nat} (h : j ≤ k) : (dst P C N k).2.2.take j = (dst P C N j).2.2 := by
  induction k with
  | zero => obtain rfl : j = 0 := by omega
            rfl
  | succ k ih =>
    by_cases e : j = k + 1
    · subst e
      rw [List.take_of_length_le (by rw [dst_len]; omega)]
    · rw [dst, List.take_append_of_le_length (by rw [dst_len]; omega)]
      exact ih (by omega)
theorem decL_at {P C : Nat} {N : Int} {j : Nat} (h : j ≤ P) : (decL P C N)[j]? = some (decD (P - j) (dst P C N j).1 (dst P C N j).2.1 : Int) := by
  have e : (decL P C N).take (j + 1) = (dst P C N (j + 1)).2.2 := dst_take (by omega)
  rw [← List.getElem?_take_of_lt (show j < j + 1 by omega), e, dst, List.getElem?_append_right (by rw [dst_len]; omega), dst_len, Nat.sub_self]
  rfl
theorem decL_take {P C : Nat} {N : Int} {j : Nat} (h : j ≤ P + 1) : (decL P C N).take j = (dst P C N j).2.2 := dst_take h
theorem num_dst {P C : Nat} {N : Int} (hP : P ≤ 24) (hC : C ≤ 15) (h : okN P C N) {j : Nat} (hj : j ≤ P + 1) :
    numTo P C (decL P C N) j + (dst P C N j).2.1 = N ∧ ((decL P C N).take j).sum + ((dst P C N j).1 : Int) = C := by
  induction j with
  | zero => exact ⟨by simp [numTo, dst], by simp [dst]⟩
  | succ j ih =>
    obtain ⟨h1, h2⟩ := ih (by omega)
    have hx := decL_at (P := P) (C := C) (N := N) (j := j) (by omega)
    have h3 := dec_sum (by omega) (Nat.le_trans (dst_left P C N j) hC) (dst_ok hP hC h (j := j) (by omega))
    have h4 := decD_le (P - j) (dst P C N j).1 (dst P C N j).2.1
    rw [numTo_succ hx, sum_take_succ hx, dst, Int.toNat_natCast, show (C : Int) - ((decL P C N).take j).sum = ((dst P C N j).1 : Int) from by omega]
    simp only
    omega
theorem decL_pos {P C : Nat} {N : Int} : ∀ x ∈ decL P C N, 0 ≤ x := by
  intro x hx
  obtain ⟨j, hj, rfl⟩ := List.getElem_of_mem hx
  have hl := decL_len P C N
  have h1 := decL_at (P := P) (C := C) (N := N) (j := j) (by omega)
  rw [List.getElem?_eq_getElem hj] at h1
  simp only [Option.some.injEq] at h1
  omega
theorem dst_end {P C : Nat} {N : Int} (hP : P ≤ 24) (hC : C ≤ 15) (h : okN P C N) : (dst P C N (P + 1)).2.1 = 0 := by
  have h1 := dst_ok hP hC h (j := P) (Nat.le_refl _)
  have h2 := decR_ok (by omega) (Nat.le_trans (dst_left P C N P) hC) h1
  rw [Nat.sub_self, cnt_none (by have := dst_left P C N P; omega)] at h2
  simp only [dst, Nat.sub_self]
  omega
theorem num_of_dec {P C : Nat} {N : Int} (hP : P ≤ 24) (hC : C ≤ 15) (h : okN P C N) : numTo P C (decL P C N) (P + 1) = N := by
  have h1 := (num_dst hP hC h (j := P + 1) (Nat.le_refl _)).1
  rw [dst_end hP hC h] at h1
  omega
theorem sOk_dec {P C : Nat} {N : Int} (hP : P ≤ 24) (hC : C ≤ 15) (h : okN P C N) : sOk P C (decL P C N) = true := by
  have h1 := (num_dst hP hC h (j := P + 1) (Nat.le_refl _)).2
  rw [List.take_of_length_le (by rw [decL_len]; omega)] at h1
  exact sOk_mk ⟨by rw [decL_len]; omega, decL_pos, by omega⟩
theorem dec_mono {r l : Nat} {N M : Int} (h : N < M) : decD r l N < decD r l M ∨ decD r l N = decD r l M ∧ decR r l N < decR r l M := by
  induction l generalizing N M with
  | zero => exact .inr ⟨rfl, h⟩
  | succ l ih =>
    by_cases hN : cnt r (l + 1) ≤ N
    · have hM : cnt r (l + 1) ≤ M := by omega
      have h1 := ih (show N - cnt r (l + 1) < M - cnt r (l + 1) by omega)
      simp only [decD, decR, if_pos hN, if_pos hM]
      omega
    · by_cases hM : cnt r (l + 1) ≤ M
      · simp only [decD, decR, if_neg hN, if_pos hM]
        exact .inl (by omega)
      · simp only [decD, decR, if_neg hN, if_neg hM]
        exact .inr ⟨trivial, h⟩
/-- Up to j the sides are one, or they part at some t. -/
theorem dst_lex {P C : Nat} {N M : Int} (h : N < M) (j : Nat) (hj : j ≤ P + 1) :
    (∃ t, t < j ∧ (∀ i, i < t → (decL P C N)[i]? = (decL P C M)[i]?) ∧ ∃ a b, (decL P C N)[t]? = some a ∧ (decL P C M)[t]? = some b ∧ a < b) ∨
    ((dst P C N j).1 = (dst P C M j).1 ∧ (dst P C N j).2.1 < (dst P C M j).2.1 ∧ ∀ i, i < j → (decL P C N)[i]? = (decL P C M)[i]?) := by
  induction j with
  | zero => exact .inr ⟨rfl, h, fun i hi => absurd hi (Nat.not_lt_zero _)⟩
  | succ j ih =>
    rcases ih (by omega) with ⟨t, ht, h1, h2⟩ | ⟨h1, h2, h3⟩
    · exact .inl ⟨t, by omega, h1, h2⟩
    · have a1 := decL_at (P := P) (C := C) (N := N) (j := j) (by omega)
      have a2 := decL_at (P := P) (C := C) (N := M) (j := j) (by omega)
      rcases dec_mono (r := P - j) (l := (dst P C N j).1) h2 with h4 | ⟨h4, h5⟩
      · exact .inl ⟨j, by omega, h3, _, _, a1, a2, by rw [← h1]; omega⟩
      · refine .inr ⟨by simp only [dst]; rw [← h1]; omega, by simp only [dst]; rw [← h1]; exact h5, fun i hi => ?_⟩
        by_cases e : i = j
        · subst e
          rw [a1, a2, ← h1, h4]
        · exact h3 i (by omega)
theorem dec_lex {P C : Nat} {N M : Int} (hP : P ≤ 24) (hC : C ≤ 15) (h1 : okN P C N) (h2 : okN P C M) (h : N < M) :
    ∃ t, t ≤ P ∧ (∀ i, i < t → (decL P C N)[i]? = (decL P C M)[i]?) ∧ ∃ a b, (decL P C N)[t]? = some a ∧ (decL P C M)[t]? = some b ∧ a < b := by
  rcases dst_lex (P := P) (C := C) h (P + 1) (Nat.le_refl _) with ⟨t, ht, h3, h4⟩ | ⟨_, h3, _⟩
  · exact ⟨t, by omega, h3, h4⟩
  · rw [dst_end hP hC h1, dst_end hP hC h2] at h3
    omega
end Go.Proofs.Ytapocfgajkkpdaa
