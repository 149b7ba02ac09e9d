/-
  Contracts: the laws' own comparisons of lists.
-/
import Derived.Test.YtapocfgajkkpdaaPut
import Derived.BigQuiet
import Derived.Deep.DeepCutAuto
namespace Go.Proofs.Ytapocfgajkkpdaa
open Go.ChangeShapes Go.WideShapes Go.ChangeAt Go.RowKit Go.Joins

theorem likeInts_same (A D : Option Addr) (n k m l : Nat) (xs : List Int) (w : World) (hx : RdI w A n xs) (hy : RdI w D m xs) (hn : n ≤ 1048576) :
    Calls Try.prog 59 #[.slice A n k, .slice D m l] w fun e w' => e = .returned (.bool true) ∧ Past w w' := by
  obtain rfl : n = m := by have := hx.1; have := hy.1; omega
  go_enter Try.func59, Try.ntmps59
  go_wp2_with fail
  go_loopw [5] (fun i wr => ∃ j : Nat, j ≤ n ∧ i = .int .i64 (j : Int) ∧ Past w wr) (fun i _ => n - (intOf i).toNat)
  case atStart => exact ⟨0, Nat.zero_le _, rfl, Past.refl _⟩
  case round =>
    obtain ⟨j, hj, rfl, hp⟩ := hrel
    by_cases hlt : j < n
    · have i1 : (j : Int) < (n : Int) := by omega
      have i2 : (0 : Int) ≤ (j : Int) := by omega
      obtain ⟨g1, o1, x1, rfl, hx1, q1⟩ := (hx.past hp).at_ hlt
      obtain ⟨g2, o2, x2, rfl, hx2, q2⟩ := (hy.past hp).at_ hlt
      rw [hx1] at hx2
      obtain rfl := Option.some.inj hx2
      have hne : (x1 != x1) = false := by simp
      clear hx1 hx2
      go_wp2_with fail
      go_quiet (fail)
      have hp2 : Past w (wr.drewN nq) := hp.drewN nq
      generalize wr.drewN nq = w2 at hp2 ⊢
      go_wp2_with fail
      go_roundw
      case rel => exact ⟨j + 1, by omega, by go_num, hp2⟩
      case measure => simp [intOf]; omega
    · have i1 : ¬ (j : Int) < (n : Int) := by omega
      go_wp2_with fail
      go_ret
      exact ⟨rfl, hp⟩
theorem w9Boards_same (A D A' D' : Option Addr) (n k m l n' k' m' l' : Nat) (xs ys : List Int) (w : World) (h1 : RdI w A n xs) (h2 : RdI w D m ys) (h3 : RdI w A' n' xs) (h4 : RdI w D' m' ys) (hn : n ≤ 1048576) (hm : m ≤ 1048576) :
    Calls Try.prog 34 #[.agg #[.slice A n k, .slice D m l], .agg #[.slice A' n' k', .slice D' m' l']] w fun e w' => e = .returned (.bool true) ∧ Past w w' := by
  obtain ⟨w1, hw1⟩ : ∃ w1, w1 = w.alloc (.cells #[.slice A n k, .slice D m l] 43) := ⟨_, rfl⟩
  have b1 : Blk w1 w.heap.size 43 #[.slice A n k, .slice D m l] := by rw [hw1]; exact Blk.new _ _ _
  have p1 : Past w w1 := by rw [hw1]; exact (by repeat (first | exact Past.refl _ | assumption | refine Past.alloc ?_ _ | refine Past.drew ?_ | refine Past.drewN ?_ _ | refine Past.setCell ?_ (by first | (simp; done) | (simp <;> omega)) _ | refine Past.trans ?_ (past_over _ _) | refine Past.trans ?_ (by assumption)))
  have z1 : w1.heap.size = w.heap.size + 1 := by rw [hw1]; simp
  obtain ⟨w2, hw2⟩ : ∃ w2, w2 = w1.alloc (.cells #[.slice A' n' k', .slice D' m' l'] 43) := ⟨_, rfl⟩
  have b2 : Blk w2 (w.heap.size + 1) 43 #[.slice A' n' k', .slice D' m' l'] := by rw [hw2]; exact Blk.at_ z1.symm
  have p12 : Past w1 w2 := by rw [hw2]; exact (by repeat (first | exact Past.refl _ | assumption | refine Past.alloc ?_ _ | refine Past.drew ?_ | refine Past.drewN ?_ _ | refine Past.setCell ?_ (by first | (simp; done) | (simp <;> omega)) _ | refine Past.trans ?_ (past_over _ _) | refine Past.trans ?_ (by assumption)))
  have b1' := b1.past p12
  have p2 := p1.trans p12
  go_enter Try.func34, Try.ntmps34
  go_upto_region 1 with fail
  rw [← hw1, ← hw2]
  clear hw1 hw2 z1 b1 p1 p12
  have c0 : w2.cell? ⟨w.heap.size, 0, none⟩ = some (.slice A n k) := b1'.cell 0 rfl
  have c1 : w2.cell? ⟨w.heap.size, 1, none⟩ = some (.slice D m l) := b1'.cell 1 rfl
  have d0 : w2.cell? ⟨w.heap.size + 1, 0, none⟩ = some (.slice A' n' k') := b2.cell 0 rfl
  have d1 : w2.cell? ⟨w.heap.size + 1, 1, none⟩ = some (.slice D' m' l') := b2.cell 1 rfl
  go_wp2_with fail
  (with_reducible refine (likeInts_same _ _ _ _ _ _ _ _ (h1.past p2) (h3.past p2) hn).mono ?_)
  rintro e w3 ⟨rfl, p3⟩
  have e1 := p3.keep c1
  have e2 := p3.keep d1
  go_wp2_with fail
  (with_reducible refine (likeInts_same _ _ _ _ _ _ _ _ ((h2.past p2).past p3) ((h4.past p2).past p3) hm).mono ?_)
  rintro e w4 ⟨rfl, p4⟩
  go_wp2_with fail
  go_ret
  exact ⟨rfl, p2.trans (p3.trans p4)⟩
end Go.Proofs.Ytapocfgajkkpdaa
