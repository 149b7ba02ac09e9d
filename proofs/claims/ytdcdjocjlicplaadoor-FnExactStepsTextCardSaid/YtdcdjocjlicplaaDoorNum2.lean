/-
  Plain facts on boards: the last checker, pips, contact.
-/
import Derived.Test.YtdcdjocjlicplaaDoorNum
namespace Go.Proofs.YtdcdjocjlicplaaDoor

theorem bFacts {p c h s : Int} {xs ys : List Int} (hb : bOk p c h s xs ys = true) :
    (2 ≤ p ∧ p ≤ 24) ∧ (1 ≤ c ∧ c ≤ 15) ∧ (1 ≤ h ∧ h ≤ p) ∧ (1 ≤ s ∧ s ≤ 6) ∧ ((xs.length : Int) = p + 1 ∧ (∀ x ∈ xs, 0 ≤ x) ∧ xs.sum ≤ c) ∧ (ys.length : Int) = p + 1 ∧ (∀ x ∈ ys, 0 ≤ x) ∧ ys.sum ≤ c := by
  obtain ⟨h1, h2, h3, _⟩ := bOk_yes hb
  obtain ⟨a, b, d, e⟩ := vOk_yes h1
  exact ⟨a, b, d, e, sOk_yes h2, sOk_yes h3⟩
def overF (xs ys : List Int) : Bool := xs.sum == 0 || ys.sum == 0
theorem overF_x {xs ys : List Int} (h : (xs.sum == 0) = true) : overF xs ys = true := by simp [overF, h]
theorem overF_y {xs ys : List Int} (h : (xs.sum == 0) = false) : overF xs ys = (ys.sum == 0) := by simp [overF, h]
/-- The greatest index below j with a checker, or -1. -/
def lastTo (xs : List Int) : Nat → Int
  | 0 => -1
  | j + 1 => if 0 < xs.getD j 0 then (j : Int) else lastTo xs j
def lastF (xs : List Int) : Int := lastTo xs xs.length
theorem lastTo_bd (xs : List Int) (j : Nat) : -1 ≤ lastTo xs j ∧ lastTo xs j < (j : Int) := by
  induction j with
  | zero => simp [lastTo]
  | succ j ih =>
    unfold lastTo
    split <;> omega
theorem lastTo_yes {xs : List Int} {j : Nat} {x : Int} (hx : xs[j]? = some x) (h : 0 < x) : lastTo xs (j + 1) = (j : Int) := by
  rw [lastTo, getD_of hx, if_pos h]
theorem lastTo_no {xs : List Int} {j : Nat} {x : Int} (hx : xs[j]? = some x) (h : ¬ 0 < x) : lastTo xs (j + 1) = lastTo xs j := by
  rw [lastTo, getD_of hx, if_neg h]
theorem lastTo_neg {xs : List Int} (h0 : ∀ x ∈ xs, 0 ≤ x) {j : Nat} (hj : j ≤ xs.length) : lastTo xs j < 0 ↔ (xs.take j).sum = 0 := by
  induction j with
  | zero => simp [lastTo]
  | succ j ih =>
    have hx : xs[j]? = some xs[j] := List.getElem?_eq_getElem (by omega)
    have hn := h0 xs[j] (List.getElem_mem _)
    have hs := sum_take_succ hx
    have hb := (sum_take_le h0 j).1
    rw [hs]
    by_cases hp : 0 < xs[j]
    · rw [lastTo_yes hx hp]
      constructor <;> intro h <;> omega
    · rw [lastTo_no hx hp, ih (by omega)]
      constructor <;> intro h <;> omega
theorem lastF_neg {xs : List Int} (h0 : ∀ x ∈ xs, 0 ≤ x) : lastF xs < 0 ↔ xs.sum = 0 := by
  have := lastTo_neg h0 (Nat.le_refl xs.length)
  rwa [List.take_length] at this
theorem lastF_bd (xs : List Int) : -1 ≤ lastF xs ∧ lastF xs < (xs.length : Int) := lastTo_bd xs xs.length
/-- The pips of the first j points. -/
def pipsTo (xs : List Int) : Nat → Int
  | 0 => 0
  | j + 1 => pipsTo xs j + ((j : Int) + 1) * xs.getD j 0
def pipsF (xs : List Int) : Int := pipsTo xs xs.length
theorem pipsTo_succ {xs : List Int} {j : Nat} {x : Int} (hx : xs[j]? = some x) : pipsTo xs (j + 1) = pipsTo xs j + ((j : Int) + 1) * x := by
  rw [pipsTo, getD_of hx]
theorem pip_bd {j : Nat} {x : Int} (hj : j < 25) (h0 : 0 ≤ x) (h1 : x ≤ 15) : 0 ≤ ((j : Int) + 1) * x ∧ ((j : Int) + 1) * x ≤ 375 := by
  have h := mul_bd (s := (j : Int) + 1) (t := x) (n := 25) (m := 15) (by omega) (by omega) h0 h1
  omega
theorem pipsTo_bd {xs : List Int} (h0 : ∀ x ∈ xs, 0 ≤ x ∧ x ≤ 15) {j : Nat} (hj : j ≤ xs.length) (hl : xs.length ≤ 25) : 0 ≤ pipsTo xs j ∧ pipsTo xs j ≤ 375 * j := by
  induction j with
  | zero => simp [pipsTo]
  | succ j ih =>
    have hx : xs[j]? = some xs[j] := List.getElem?_eq_getElem (by omega)
    have hb := h0 xs[j] (List.getElem_mem _)
    have h1 := pip_bd (j := j) (by omega) hb.1 hb.2
    have h2 := ih (by omega)
    rw [pipsTo_succ hx]
    omega
def contactF (p : Int) (xs ys : List Int) : Bool := !overF xs ys && decide (p ≤ lastF xs + lastF ys)
theorem le15 {xs : List Int} {c : Int} (h0 : ∀ x ∈ xs, 0 ≤ x) (hs : xs.sum ≤ c) (hc : c ≤ 15) : ∀ x ∈ xs, 0 ≤ x ∧ x ≤ 15 :=
  fun x hx => ⟨h0 x hx, by have := mem_le_sum h0 hx; omega⟩
theorem contact_neg {p : Int} {xs ys : List Int} (hx : ∀ x ∈ xs, 0 ≤ x) (hy : ∀ x ∈ ys, 0 ≤ x) (h : lastF xs < 0 ∨ lastF ys < 0) : contactF p xs ys = false := by
  rw [lastF_neg hx, lastF_neg hy] at h
  have : overF xs ys = true := by simpa [overF] using h
  simp [contactF, this]
theorem contact_pos {p : Int} {xs ys : List Int} (hx : ∀ x ∈ xs, 0 ≤ x) (hy : ∀ x ∈ ys, 0 ≤ x) (h1 : 0 ≤ lastF xs) (h2 : 0 ≤ lastF ys) : contactF p xs ys = decide (p ≤ lastF xs + lastF ys) := by
  have a : ¬ xs.sum = 0 := fun h => by have := (lastF_neg hx).2 h; omega
  have b : ¬ ys.sum = 0 := fun h => by have := (lastF_neg hy).2 h; omega
  have : overF xs ys = false := by simp [overF, a, b]
  simp [contactF, this]
end Go.Proofs.YtdcdjocjlicplaaDoor
