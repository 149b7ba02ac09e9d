/-
  Plain facts on lists of numbers: sums, sides of a board.
-/
import Derived.Test.YtdcdjocjlicplaaDoorBase
namespace Go.Proofs.YtdcdjocjlicplaaDoor

theorem sum_take_succ {xs : List Int} {j : Nat} {x : Int} (h : xs[j]? = some x) : (xs.take (j + 1)).sum = (xs.take j).sum + x := by
  obtain ⟨hj, rfl⟩ := List.getElem?_eq_some_iff.1 h
  rw [List.take_succ_eq_append_getElem hj, List.sum_append]
  simp
theorem sum_nonneg {xs : List Int} (h : ∀ x ∈ xs, 0 ≤ x) : 0 ≤ xs.sum := by
  induction xs with
  | nil => simp
  | cons a l ih =>
    have h1 := h a (by simp)
    have h2 := ih (fun x hx => h x (by simp [hx]))
    simp only [List.sum_cons]
    omega
theorem sum_take_le {xs : List Int} (h : ∀ x ∈ xs, 0 ≤ x) (j : Nat) : 0 ≤ (xs.take j).sum ∧ (xs.take j).sum ≤ xs.sum := by
  have e : xs.sum = (xs.take j).sum + (xs.drop j).sum := by rw [← List.sum_append, List.take_append_drop]
  have h1 := sum_nonneg (xs := xs.take j) (fun x hx => h x (List.mem_of_mem_take hx))
  have h2 := sum_nonneg (xs := xs.drop j) (fun x hx => h x (List.mem_of_mem_drop hx))
  omega
theorem mem_le_sum {xs : List Int} (h : ∀ x ∈ xs, 0 ≤ x) {x : Int} (hx : x ∈ xs) : x ≤ xs.sum := by
  induction xs with
  | nil => simp at hx
  | cons a l ih =>
    have h1 := h a (by simp)
    have h2 := sum_nonneg (xs := l) (fun x hx => h x (by simp [hx]))
    simp only [List.sum_cons]
    rcases List.mem_cons.1 hx with rfl | h3
    · omega
    · have := ih (fun x hx => h x (by simp [hx])) h3
      omega
theorem mem_of_get {xs : List Int} {j : Nat} {x : Int} (h : xs[j]? = some x) : x ∈ xs := List.mem_of_getElem? h

/-- A side of a variant with p points and c checkers. -/
def sOk (p c : Int) (xs : List Int) : Bool := decide ((xs.length : Int) = p + 1) && (decide (∀ x ∈ xs, 0 ≤ x) && decide (xs.sum ≤ c))
theorem sOk_yes {p c : Int} {xs : List Int} (h : sOk p c xs = true) : (xs.length : Int) = p + 1 ∧ (∀ x ∈ xs, 0 ≤ x) ∧ xs.sum ≤ c := by
  simp only [sOk, Bool.and_eq_true, decide_eq_true_eq] at h
  exact h
theorem sOk_mk {p c : Int} {xs : List Int} (h : (xs.length : Int) = p + 1 ∧ (∀ x ∈ xs, 0 ≤ x) ∧ xs.sum ≤ c) : sOk p c xs = true := by
  simp only [sOk, Bool.and_eq_true, decide_eq_true_eq]
  exact h
theorem sOk_no {p c : Int} {xs : List Int} (h : ¬ ((xs.length : Int) = p + 1 ∧ (∀ x ∈ xs, 0 ≤ x) ∧ xs.sum ≤ c)) : sOk p c xs = false := by
  cases hs : sOk p c xs
  · rfl
  · exact absurd (sOk_yes hs) h
theorem sOk_len {p c : Int} {xs : List Int} (h : ¬ (xs.length : Int) = p + 1) : sOk p c xs = false := sOk_no fun h' => h h'.1
/-- After j elements all is well so far. -/
def soFar (c : Int) (xs : List Int) (j : Nat) : Prop := (∀ x ∈ xs.take j, 0 ≤ x) ∧ (xs.take j).sum ≤ c
theorem soFar_zero {c : Int} {xs : List Int} (h : 0 ≤ c) : soFar c xs 0 := ⟨by simp, by simpa using h⟩
theorem soFar_bd {c : Int} {xs : List Int} {j : Nat} (h : soFar c xs j) : 0 ≤ (xs.take j).sum ∧ (xs.take j).sum ≤ c := ⟨sum_nonneg h.1, h.2⟩
theorem soFar_succ {c : Int} {xs : List Int} {j : Nat} {x : Int} (h : soFar c xs j) (hx : xs[j]? = some x) (h0 : 0 ≤ x) (h1 : x ≤ c - (xs.take j).sum) : soFar c xs (j + 1) := by
  obtain ⟨hj, rfl⟩ := List.getElem?_eq_some_iff.1 hx
  refine ⟨fun y hy => ?_, by rw [sum_take_succ hx]; omega⟩
  rw [List.take_succ_eq_append_getElem hj, List.mem_append, List.mem_singleton] at hy
  rcases hy with hy | rfl
  · exact h.1 y hy
  · exact h0
theorem soFar_neg {p c : Int} {xs : List Int} {j : Nat} {x : Int} (hx : xs[j]? = some x) (h0 : x < 0) : sOk p c xs = false :=
  sOk_no fun h => by have := h.2.1 x (mem_of_get hx); omega
theorem soFar_big {p c : Int} {xs : List Int} {j : Nat} {x : Int} (hx : xs[j]? = some x) (h1 : c - (xs.take j).sum < x) : sOk p c xs = false :=
  sOk_no fun h => by
    have h2 := (sum_take_le h.2.1 (j + 1)).2
    rw [sum_take_succ hx] at h2
    omega
theorem soFar_end {p c : Int} {xs : List Int} {j : Nat} (h : soFar c xs j) (hl : (xs.length : Int) = p + 1) (hj : xs.length ≤ j) : sOk p c xs = true := by
  have h' := h
  unfold soFar at h'
  rw [List.take_of_length_le hj] at h'
  exact sOk_mk ⟨hl, h'.1, h'.2⟩
/-- After j elements all lie between 0 and c. -/
def inR (c : Int) (xs : List Int) (j : Nat) : Prop := ∀ x ∈ xs.take j, 0 ≤ x ∧ x ≤ c
theorem inR_zero {c : Int} {xs : List Int} : inR c xs 0 := by unfold inR; simp
theorem inR_succ {c : Int} {xs : List Int} {j : Nat} {x : Int} (h : inR c xs j) (hx : xs[j]? = some x) (h0 : 0 ≤ x) (h1 : x ≤ c) : inR c xs (j + 1) := by
  obtain ⟨hj, rfl⟩ := List.getElem?_eq_some_iff.1 hx
  intro y hy
  rw [List.take_succ_eq_append_getElem hj, List.mem_append, List.mem_singleton] at hy
  rcases hy with hy | rfl
  · exact h y hy
  · exact ⟨h0, h1⟩
theorem inR_not {p c : Int} {xs : List Int} {j : Nat} {x : Int} (hx : xs[j]? = some x) (h : ¬ (0 ≤ x ∧ x ≤ c)) : sOk p c xs = false :=
  sOk_no fun h' => h ⟨h'.2.1 x (mem_of_get hx), Int.le_trans (mem_le_sum h'.2.1 (mem_of_get hx)) h'.2.2⟩
theorem inR_end {c : Int} {xs : List Int} {j : Nat} (h : inR c xs j) (hj : xs.length ≤ j) : ∀ x ∈ xs, 0 ≤ x ∧ x ≤ c := by
  unfold inR at h
  rwa [List.take_of_length_le hj] at h
/-- No point holds checkers of both players. -/
def apartB (P : Nat) (xs ys : List Int) : Bool := decide (∀ i : Nat, i < P → ¬ (0 < xs.getD i 0 ∧ 0 < ys.getD (P - 1 - i) 0))
def apartTo (P j : Nat) (xs ys : List Int) : Prop := ∀ i : Nat, i < j → ¬ (0 < xs.getD i 0 ∧ 0 < ys.getD (P - 1 - i) 0)
theorem apartTo_zero {P : Nat} {xs ys : List Int} : apartTo P 0 xs ys := fun i hi => absurd hi (by omega)
theorem getD_of {xs : List Int} {j : Nat} {x : Int} (h : xs[j]? = some x) : xs.getD j 0 = x := by rw [List.getD_eq_getElem?_getD, h]; rfl
theorem apartTo_succ {P j : Nat} {xs ys : List Int} {x y : Int} (h : apartTo P j xs ys) (hx : xs[j]? = some x) (hy : ys[P - 1 - j]? = some y) (hn : ¬ (0 < x ∧ 0 < y)) : apartTo P (j + 1) xs ys := by
  intro i hi
  by_cases e : i = j
  · subst e
    rw [getD_of hx, getD_of hy]
    exact hn
  · exact h i (by omega)
theorem apartB_end {P j : Nat} {xs ys : List Int} (h : apartTo P j xs ys) (hj : P ≤ j) : apartB P xs ys = true := decide_eq_true fun i hi => h i (by omega)
theorem apartB_no {P j : Nat} {xs ys : List Int} {x y : Int} (hx : xs[j]? = some x) (hy : ys[P - 1 - j]? = some y) (hj : j < P) (hn : 0 < x ∧ 0 < y) : apartB P xs ys = false :=
  decide_eq_false fun h => h j hj (by rw [getD_of hx, getD_of hy]; exact hn)
/-- A valid board. -/
def bOk (p c h s : Int) (xs ys : List Int) : Bool := vOk p c h s && (sOk p c xs && (sOk p c ys && (decide (0 < xs.sum + ys.sum) && apartB p.toNat xs ys)))
theorem bOk_v {p c h s : Int} {xs ys : List Int} (hv : vOk p c h s = false) : bOk p c h s xs ys = false := by simp [bOk, hv]
theorem bOk_x {p c h s : Int} {xs ys : List Int} (hv : sOk p c xs = false) : bOk p c h s xs ys = false := by simp [bOk, hv]
theorem bOk_y {p c h s : Int} {xs ys : List Int} (hv : sOk p c ys = false) : bOk p c h s xs ys = false := by simp [bOk, hv]
theorem bOk_sum {p c h s : Int} {xs ys : List Int} (hv : ¬ 0 < xs.sum + ys.sum) : bOk p c h s xs ys = false := by simp [bOk, hv]
theorem bOk_apart {p c h s : Int} {xs ys : List Int} (hv : vOk p c h s = true) (hx : sOk p c xs = true) (hy : sOk p c ys = true) (hs : 0 < xs.sum + ys.sum) : bOk p c h s xs ys = apartB p.toNat xs ys := by simp [bOk, hv, hx, hy, hs]
theorem bOk_yes {p c h s : Int} {xs ys : List Int} (hb : bOk p c h s xs ys = true) : vOk p c h s = true ∧ sOk p c xs = true ∧ sOk p c ys = true ∧ 0 < xs.sum + ys.sum ∧ apartB p.toNat xs ys = true := by
  simp only [bOk, Bool.and_eq_true, decide_eq_true_eq] at hb
  exact hb
theorem sum_le_of {xs : List Int} {m : Int} (h : ∀ x ∈ xs, x ≤ m) : xs.sum ≤ xs.length * m := by
  induction xs with
  | nil => simp
  | cons a l ih =>
    have h1 := h a (by simp)
    have h2 := ih (fun x hx => h x (by simp [hx]))
    simp only [List.sum_cons, List.length_cons, Int.natCast_add, Int.add_mul]
    omega
end Go.Proofs.YtdcdjocjlicplaaDoor
