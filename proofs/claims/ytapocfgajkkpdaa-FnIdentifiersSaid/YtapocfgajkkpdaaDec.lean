/-
  Plain facts: the side with a number.
-/
import Derived.Test.YtapocfgajkkpdaaChoose
namespace Go.Proofs.Ytapocfgajkkpdaa

/-- The checkers on a point with r points behind it, with l left, for the number N. -/
def decD (r : Nat) : Nat → Int → Nat
  | 0, _ => 0
  | l + 1, N => if cnt r (l + 1) ≤ N then decD r l (N - cnt r (l + 1)) + 1 else 0
/-- The number that remains behind it. -/
def decR (r : Nat) : Nat → Int → Int
  | 0, N => N
  | l + 1, N => if cnt r (l + 1) ≤ N then decR r l (N - cnt r (l + 1)) else N
/-- N is the number of a list of r + 1 elements with a sum of at most l. -/
def okN (r l : Nat) (N : Int) : Prop := 0 ≤ N ∧ N < cnt (r + 1) l
theorem okN_zero {r : Nat} {N : Int} (hr : r ≤ 24) (h : okN r 0 N) : N < cnt r 0 := by
  have h1 := h.2
  rw [cnt_zero (by omega)] at h1
  rw [cnt_zero (by omega)]
  exact h1
theorem okN_step {r l : Nat} {N : Int} (hr : r ≤ 24) (hl : l + 1 ≤ 15) (h : okN r (l + 1) N) (hN : cnt r (l + 1) ≤ N) : okN r l (N - cnt r (l + 1)) := by
  have h1 := h.2
  rw [cnt_pascal (by omega) (by omega)] at h1
  exact ⟨by omega, by omega⟩
/-- One checker more: there is one left. -/
theorem okN_more {r l : Nat} {N : Int} (hr : r ≤ 24) (hl : l ≤ 15) (h : okN r l N) (hN : cnt r l ≤ N) : ∃ l', l = l' + 1 ∧ okN r l' (N - cnt r l) ∧ decD r l N = decD r l' (N - cnt r l) + 1 ∧ decR r l N = decR r l' (N - cnt r l) := by
  cases l with
  | zero => have := okN_zero hr h; omega
  | succ l' => exact ⟨l', rfl, okN_step hr hl h hN, by rw [decD, if_pos hN], by rw [decR, if_pos hN]⟩
theorem okN_none {r l : Nat} {N : Int} (hN : N < cnt r l) : decD r l N = 0 ∧ decR r l N = N := by
  cases l with
  | zero => exact ⟨rfl, rfl⟩
  | succ l' => exact ⟨by rw [decD, if_neg (by omega)], by rw [decR, if_neg (by omega)]⟩
theorem decD_le (r l : Nat) (N : Int) : decD r l N ≤ l := by
  induction l generalizing N with
  | zero => exact Nat.le_refl _
  | succ l ih =>
    unfold decD
    split
    · have := ih (N - cnt r (l + 1)); omega
    · omega
theorem decR_ok {r l : Nat} {N : Int} (hr : r ≤ 24) (hl : l ≤ 15) (h : okN r l N) : 0 ≤ decR r l N ∧ decR r l N < cnt r (l - decD r l N) := by
  induction l generalizing N with
  | zero => exact ⟨h.1, okN_zero hr h⟩
  | succ l ih =>
    by_cases hN : cnt r (l + 1) ≤ N
    · have h2 := ih (by omega) (okN_step hr hl h hN)
      rw [decD, decR, if_pos hN, if_pos hN, show l + 1 - (decD r l (N - cnt r (l + 1)) + 1) = l - decD r l (N - cnt r (l + 1)) from by omega]
      exact h2
    · rw [decD, decR, if_neg hN, if_neg hN, Nat.sub_zero]
      exact ⟨h.1, by omega⟩
/-- Behind j points: what is left, the number that remains, the side so far. -/
def dst (P C : Nat) (N : Int) : Nat → Nat × Int × List Int
  | 0 => (C, N, [])
  | j + 1 => ((dst P C N j).1 - decD (P - j) (dst P C N j).1 (dst P C N j).2.1, decR (P - j) (dst P C N j).1 (dst P C N j).2.1, (dst P C N j).2.2 ++ [(decD (P - j) (dst P C N j).1 (dst P C N j).2.1 : Int)])
theorem dst_len (P C : Nat) (N : Int) (j : Nat) : (dst P C N j).2.2.length = j := by
  induction j with
  | zero => rfl
  | succ j ih => simp [dst, ih]
theorem dst_left (P C : Nat) (N : Int) (j : Nat) : (dst P C N j).1 ≤ C := by
  induction j with
  | zero => exact Nat.le_refl _
  | succ j ih => simp only [dst]; omega
theorem dst_ok {P C : Nat} {N : Int} (hP : P ≤ 24) (hC : C ≤ 15) (h : okN P C N) {j : Nat} (hj : j ≤ P) : okN (P - j) (dst P C N j).1 (dst P C N j).2.1 := by
  induction j with
  | zero => exact h
  | succ j ih =>
    have h1 := ih (by omega)
    have h2 := decR_ok (r := P - j) (by omega) (Nat.le_trans (dst_left P C N j) hC) h1
    have e : P - (j + 1) + 1 = P - j := by omega
    unfold okN
    rw [e]
    exact h2
/-- The side with the number N. -/
def decL (P C : Nat) (N : Int) : List Int := (dst P C N (P + 1)).2.2
theorem decL_len (P C : Nat) (N : Int) : (decL P C N).length = P + 1 := dst_len P C N (P + 1)
def soOk (p c h s N : Int) : Bool := vOk p c h s && (decide (0 ≤ N) && decide (N < cntI (p + 1) c))
def soL (p c h s N : Int) : List Int := if soOk p c h s N = true then decL p.toNat c.toNat N else []
def soC (p c h s N : Int) : Int := if vOk p c h s = true then (if soOk p c h s N = true then 0 else 4) else 1
theorem soL_le (p c h s N : Int) : (soL p c h s N).length ≤ 1000 := by
  unfold soL
  split
  · rename_i hb
    simp only [soOk, Bool.and_eq_true] at hb
    have := (vOk_yes hb.1).1
    rw [decL_len]
    omega
  · simp
end Go.Proofs.Ytapocfgajkkpdaa
