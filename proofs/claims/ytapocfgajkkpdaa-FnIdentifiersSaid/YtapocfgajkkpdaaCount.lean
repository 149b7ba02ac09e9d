/-
  Plain facts on counts: how many lists of so many elements have at most a sum.
-/
import Derived.Test.YtapocfgajkkpdaaNum2
namespace Go.Proofs.Ytapocfgajkkpdaa

/-- A binomial coefficient, as a loop makes it: the first i rounds. -/
def loopC (N K : Int) : Nat → Int
  | 0 => 1
  | i + 1 => (loopC N K i * (N - K + ((i : Int) + 1))).tdiv ((i : Int) + 1)
/-- How many lists of r elements have a sum of at most m. -/
def cnt (r m : Nat) : Int := loopC ((r : Int) + m) r r
/-- The rounds' bounds. -/
def okLoop (N K : Int) : Nat → Bool
  | 0 => true
  | i + 1 => okLoop N K i && decide (1 ≤ loopC N K i ∧ loopC N K i ≤ 100000000000)
def cntFacts (r m : Nat) : Bool :=
  (okLoop ((r : Int) + m) r (r + 1) && okLoop ((r : Int) + m) (min m r : Nat) (min m r + 1)) &&
  (decide (loopC ((r : Int) + m) (min m r : Nat) (min m r) = cnt r m) && (decide (1 ≤ cnt r m ∧ cnt r m ≤ 100000000000) &&
  (decide (cnt (r + 1) (m + 1) = cnt (r + 1) m + cnt r (m + 1)) && (decide (cnt r 0 = 1) && decide (cnt 0 m = 1)))))
theorem cnt_all : ((List.range 26).all fun r => (List.range 16).all fun m => cntFacts r m) = true := by decide +kernel
theorem cnt_facts {r m : Nat} (hr : r ≤ 25) (hm : m ≤ 15) : cntFacts r m = true := by
  have h := List.all_eq_true.1 cnt_all r (List.mem_range.2 (by omega))
  exact List.all_eq_true.1 h m (List.mem_range.2 (by omega))
theorem okLoop_at {N K : Int} {n j : Nat} (h : okLoop N K n = true) (hj : j < n) : 1 ≤ loopC N K j ∧ loopC N K j ≤ 100000000000 := by
  induction n with
  | zero => omega
  | succ n ih =>
    simp only [okLoop, Bool.and_eq_true, decide_eq_true_eq] at h
    by_cases e : j = n
    · exact e ▸ h.2
    · exact ih h.1 (by omega)
theorem cnt_bd {r m : Nat} (hr : r ≤ 25) (hm : m ≤ 15) : 1 ≤ cnt r m ∧ cnt r m ≤ 100000000000 := by
  have h := cnt_facts hr hm
  simp only [cntFacts, Bool.and_eq_true, decide_eq_true_eq] at h
  exact h.2.2.1
theorem cnt_loop {r m j : Nat} (hr : r ≤ 25) (hm : m ≤ 15) (hj : j ≤ r) : 1 ≤ loopC ((r : Int) + m) r j ∧ loopC ((r : Int) + m) r j ≤ 100000000000 := by
  have h := cnt_facts hr hm
  simp only [cntFacts, Bool.and_eq_true, decide_eq_true_eq] at h
  exact okLoop_at h.1.1 (by omega)
theorem cnt_loop2 {r m j : Nat} (hr : r ≤ 25) (hm : m ≤ 15) (hj : j ≤ min m r) : 1 ≤ loopC ((r : Int) + m) (min m r : Nat) j ∧ loopC ((r : Int) + m) (min m r : Nat) j ≤ 100000000000 := by
  have h := cnt_facts hr hm
  simp only [cntFacts, Bool.and_eq_true, decide_eq_true_eq] at h
  exact okLoop_at h.1.2 (by omega)
theorem cnt_min {r m : Nat} (hr : r ≤ 25) (hm : m ≤ 15) : loopC ((r : Int) + m) (min m r : Nat) (min m r) = cnt r m := by
  have h := cnt_facts hr hm
  simp only [cntFacts, Bool.and_eq_true, decide_eq_true_eq] at h
  exact h.2.1
theorem cnt_pascal {r m : Nat} (hr : r ≤ 25) (hm : m ≤ 15) : cnt (r + 1) (m + 1) = cnt (r + 1) m + cnt r (m + 1) := by
  have h := cnt_facts hr hm
  simp only [cntFacts, Bool.and_eq_true, decide_eq_true_eq] at h
  exact h.2.2.2.1
theorem cnt_zero {r : Nat} (hr : r ≤ 25) : cnt r 0 = 1 := by
  have h := cnt_facts hr (Nat.zero_le 15)
  simp only [cntFacts, Bool.and_eq_true, decide_eq_true_eq] at h
  exact h.2.2.2.2.1
theorem cnt_none {m : Nat} (hm : m ≤ 15) : cnt 0 m = 1 := by
  have h := cnt_facts (Nat.zero_le 25) hm
  simp only [cntFacts, Bool.and_eq_true, decide_eq_true_eq] at h
  exact h.2.2.2.2.2
/-- The numbers skipped by d checkers on a point with r points behind it. -/
def inN (r : Nat) (l : Int) : Nat → Int
  | 0 => 0
  | d + 1 => inN r l d + cnt r (l - d).toNat
theorem inN_bd {r : Nat} {l : Int} (hr : r ≤ 25) (hl : l ≤ 15) (d : Nat) : 0 ≤ inN r l d ∧ inN r l d ≤ 100000000000 * d := by
  induction d with
  | zero => simp [inN]
  | succ d ih =>
    have h := cnt_bd (r := r) (m := (l - d).toNat) hr (by omega)
    unfold inN
    omega
/-- A side's number, its first i points. -/
def numTo (P : Nat) (c : Int) (xs : List Int) : Nat → Int
  | 0 => 0
  | i + 1 => numTo P c xs i + inN (P - i) (c - (xs.take i).sum) (xs.getD i 0).toNat
theorem numTo_succ {P : Nat} {c : Int} {xs : List Int} {i : Nat} {x : Int} (hx : xs[i]? = some x) : numTo P c xs (i + 1) = numTo P c xs i + inN (P - i) (c - (xs.take i).sum) x.toNat := by
  rw [numTo, getD_of hx]
theorem numTo_bd {P : Nat} {c : Int} {xs : List Int} (hP : P ≤ 24) (hc : c ≤ 15) (h0 : ∀ x ∈ xs, 0 ≤ x) {i : Nat} (hi : i ≤ xs.length) : 0 ≤ numTo P c xs i ∧ numTo P c xs i ≤ 100000000000 * (xs.take i).sum := by
  induction i with
  | zero => simp [numTo]
  | succ i ih =>
    have hx : xs[i]? = some xs[i] := List.getElem?_eq_getElem (by omega)
    have h1 := h0 xs[i] (List.getElem_mem _)
    have h2 := (sum_take_le h0 i).1
    have h3 := inN_bd (r := P - i) (l := c - (xs.take i).sum) (by omega) (by omega) xs[i].toNat
    have h4 := ih (by omega)
    rw [numTo_succ hx, sum_take_succ hx]
    omega
def sideNumF (p c h s : Int) (xs : List Int) : Int := if (vOk p c h s && sOk p c xs) = true then numTo p.toNat c xs xs.length else 0
def codeV (b : Bool) : Int := if b = true then 0 else 1
end Go.Proofs.Ytapocfgajkkpdaa
