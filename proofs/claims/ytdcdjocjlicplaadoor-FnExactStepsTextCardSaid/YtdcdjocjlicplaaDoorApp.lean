/-
  Plain facts on boards behind a step, and on boards from which a step leads.
-/
import Derived.Test.YtdcdjocjlicplaaDoorStp
namespace Go.Proofs.YtdcdjocjlicplaaDoor

/-- The number at an index, changed. -/
def upd (xs : List Int) (i d : Int) : List Int := xs.set i.toNat (gAt xs i + d)
theorem upd_len (xs : List Int) (i d : Int) : (upd xs i d).length = xs.length := by simp [upd]
theorem gAt_upd {xs : List Int} {i j d : Int} (hi : 0 ≤ i) (hl : i < (xs.length : Int)) (hj : 0 ≤ j) : gAt (upd xs i d) j = gAt xs j + (if i = j then d else 0) := by
  obtain ⟨I, rfl⟩ := Int.eq_ofNat_of_zero_le hi
  obtain ⟨J, rfl⟩ := Int.eq_ofNat_of_zero_le hj
  unfold gAt upd
  simp only [Int.toNat_natCast, List.getD_eq_getElem?_getD, List.getElem?_set]
  by_cases e : I = J
  · subst e
    rw [if_pos rfl, if_pos rfl, if_pos (by omega)]
    rw [gAt, Int.toNat_natCast, List.getD_eq_getElem?_getD]
    rfl
  · rw [if_neg e, if_neg (by omega), Int.add_zero]
theorem sum_set {xs : List Int} {i : Nat} (v : Int) (hi : i < xs.length) : (xs.set i v).sum = xs.sum - xs.getD i 0 + v := by
  induction xs generalizing i with
  | nil => simp at hi
  | cons a l ih =>
    cases i with
    | zero => simp; omega
    | succ i =>
      have h := ih (i := i) (by simpa using hi)
      simp only [List.set_cons_succ, List.sum_cons, List.getD_cons_succ] at *
      omega
theorem sum_upd {xs : List Int} {i d : Int} (hi : 0 ≤ i) (hl : i < (xs.length : Int)) : (upd xs i d).sum = xs.sum + d := by
  unfold upd
  rw [sum_set _ (by omega)]
  unfold gAt
  omega
/-- Two lists of one length that agree at each index are one. -/
theorem ext_gAt {xs ys : List Int} (hl : xs.length = ys.length) (h : ∀ j : Int, 0 ≤ j → j < (xs.length : Int) → gAt xs j = gAt ys j) : xs = ys := by
  apply List.ext_getElem hl
  intro i h1 h2
  have h3 := h i (by omega) (by omega)
  simpa [gAt, List.getD_eq_getElem?_getD, h1, h2] using h3
theorem gAt_nonneg {xs : List Int} (h0 : ∀ x ∈ xs, 0 ≤ x) (j : Int) : 0 ≤ gAt xs j := by
  unfold gAt
  rw [List.getD_eq_getElem?_getD]
  cases hx : xs[j.toNat]? with
  | none => simp
  | some x => exact h0 x (mem_of_get hx)
theorem gAt_le {xs : List Int} (h0 : ∀ x ∈ xs, 0 ≤ x) (j : Int) : gAt xs j ≤ xs.sum := by
  unfold gAt
  rw [List.getD_eq_getElem?_getD]
  cases hx : xs[j.toNat]? with
  | none => have := sum_nonneg h0; simpa using this
  | some x => exact mem_le_sum h0 (mem_of_get hx)
theorem nonneg_of_gAt {xs : List Int} (h : ∀ j : Int, 0 ≤ j → j < (xs.length : Int) → 0 ≤ gAt xs j) : ∀ x ∈ xs, 0 ≤ x := by
  intro x hx
  obtain ⟨i, hi, rfl⟩ := List.getElem_of_mem hx
  have h1 := h i (by omega) (by omega)
  simpa [gAt, List.getD_eq_getElem?_getD, hi] using h1
/-- The board behind a step: the owner's side, the other's. -/
def apX (xs : List Int) (a : Stp) : List Int := if 0 ≤ a.t then upd (upd xs a.f (-1)) a.t 1 else upd xs a.f (-1)
def apY (p : Int) (ys : List Int) (a : Stp) : List Int := if a.x = true then upd (upd ys (p - 1 - a.t) (-1)) p 1 else ys
/-- The board ahead of a step. -/
def unX (xs : List Int) (a : Stp) : List Int := if 0 ≤ a.t then upd (upd xs a.f 1) a.t (-1) else upd xs a.f 1
def unY (p : Int) (ys : List Int) (a : Stp) : List Int := if a.x = true then upd (upd ys (p - 1 - a.t) 1) p (-1) else ys
theorem apX_len (xs : List Int) (a : Stp) : (apX xs a).length = xs.length := by unfold apX; split <;> simp [upd_len]
theorem apY_len (p : Int) (ys : List Int) (a : Stp) : (apY p ys a).length = ys.length := by unfold apY; split <;> simp [upd_len]
theorem unX_len (xs : List Int) (a : Stp) : (unX xs a).length = xs.length := by unfold unX; split <;> simp [upd_len]
theorem unY_len (p : Int) (ys : List Int) (a : Stp) : (unY p ys a).length = ys.length := by unfold unY; split <;> simp [upd_len]
/-- All numbers of a list lie between -c and c. -/
def Bd (c : Int) (xs : List Int) : Prop := ∀ i : Int, -c ≤ gAt xs i ∧ gAt xs i ≤ c
theorem Bd.upd {c i d : Int} {xs : List Int} (h : Bd c xs) (h1 : -1 ≤ d) (h2 : d ≤ 1) : Bd (c + 1) (upd xs i d) := by
  have hc := h i
  intro j
  unfold gAt Proofs.YtdcdjocjlicplaaDoor.upd
  rw [List.getD_eq_getElem?_getD, List.getElem?_set]
  split
  · split
    · show -(c + 1) ≤ gAt xs i + d ∧ gAt xs i + d ≤ c + 1
      omega
    · show -(c + 1) ≤ (0 : Int) ∧ (0 : Int) ≤ c + 1
      omega
  · have := h j
    unfold gAt at this
    rw [List.getD_eq_getElem?_getD] at this
    omega
theorem Bd.of {c : Int} {xs : List Int} (h0 : ∀ x ∈ xs, 0 ≤ x) (hs : xs.sum ≤ c) : Bd c xs := fun i => by
  have h1 := gAt_nonneg h0 i
  have h2 := gAt_le h0 i
  omega
end Go.Proofs.YtdcdjocjlicplaaDoor
