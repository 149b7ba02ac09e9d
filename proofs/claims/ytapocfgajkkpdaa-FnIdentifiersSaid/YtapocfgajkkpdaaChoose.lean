/-
  Contracts: counts of lists; how many sides there are.
-/
import Derived.Test.YtapocfgajkkpdaaSide
import Derived.Test.YtapocfgajkkpdaaSBoard
import Derived.Test.YtapocfgajkkpdaaCount
namespace Go.Proofs.Ytapocfgajkkpdaa
open Go.ChangeShapes Go.WideShapes Go.ChangeAt Go.RowKit Go.Joins

theorem loopC_step {N K : Int} {j : Nat} {X : Int} (h : loopC N K j = X) (h0 : 0 ≤ X * (N - K + ((j : Int) + 1))) : loopC N K (j + 1) = X * (N - K + ((j : Int) + 1)) / ((j : Int) + 1) := by
  rw [loopC, h, Int.tdiv_eq_ediv_of_nonneg h0]
theorem choose_any (r m : Nat) (hr : r ≤ 25) (hm : m ≤ 15) (w : World) :
    Calls Try.prog 101 #[.int .i64 ((r : Int) + (m : Int)), .int .i64 (r : Int)] w fun e w' => e = .returned (.int .i64 (cnt r m)) ∧ w = w' := by
  go_enter Try.func101, Try.ntmps101
  go_wp2
  go_loop [5, 6] (fun t i => ∃ (j : Nat) (X : Int), j ≤ r ∧ i = .int .i64 ((j : Int) + 1) ∧ t = .int .i64 X ∧ Hid (loopC ((r : Int) + (m : Int)) r j = X)) (fun _ i => r + 1 - (intOf i).toNat)
  case atStart => exact ⟨0, 1, Nat.zero_le _, by simp, rfl, Lib.hid rfl⟩
  case round =>
    obtain ⟨j, X, hj, rfl, rfl, HX⟩ := hrel
    have b1 := cnt_loop hr hm hj
    rw [HX.out] at b1
    obtain ⟨x0, x1⟩ := b1
    by_cases hlt : j < r
    · have hlt2 : (j : Int) + 1 ≤ (r : Int) := by omega
      obtain ⟨m0, m1⟩ := mul_bd (s := X) (t := (r : Int) + (m : Int) - (r : Int) + ((j : Int) + 1)) (n := 100000000000) (m := 41) (by omega) (by omega) (by omega) (by omega)
      have E := Lib.hid (loopC_step HX.out m0)
      go_wp2
      go_round
      case rel => exact ⟨j + 1, _, by omega, by go_num, rfl, E⟩
      case measure => simp [intOf]; omega
    · obtain rfl : j = r := by omega
      go_wp2
      go_ret
      exact ⟨ret_int (by rw [cnt, HX.out]), rfl⟩
theorem listsUpTo_any (r m : Nat) (hr : r ≤ 25) (hm : m ≤ 15) (w : World) :
    Calls Try.prog 67 #[.int .i64 (r : Int), .int .i64 (m : Int)] w fun e w' => e = .returned (.int .i64 (cnt r m)) ∧ w = w' := by
  go_enter Try.func67, Try.ntmps67
  go_wp2_with (go_at_call 101; (with_reducible refine (choose_any r m hr hm _).mono ?_); rintro e w9 ⟨rfl, rfl⟩)
  go_ret
  exact ⟨rfl, rfl⟩
theorem sChoose_any (r m : Nat) (hr : r ≤ 25) (hm : m ≤ 15) (w : World) :
    Calls Try.prog 102 #[.int .i64 ((r : Int) + (m : Int)), .int .i64 (m : Int)] w fun e w' => e = .returned (.int .i64 (cnt r m)) ∧ w = w' := by
  obtain ⟨q, hq⟩ : ∃ q : Nat, min m r = q := ⟨_, rfl⟩
  have hq2 : (if r < m then (r : Int) else (m : Int)) = (q : Int) := by split <;> omega
  have hqr : q ≤ r := by omega
  have hqm : q ≤ m := by omega
  have hend := cnt_min hr hm
  have hall := fun j (hj : j ≤ q) => cnt_loop2 (r := r) (m := m) (j := j) hr hm (by omega)
  rw [hq] at hend hall
  have HE := Lib.hid hend
  have HA := Lib.hid hall
  clear hend hall hq
  go_enter Try.func102, Try.ntmps102
  go_wp2
  go_loop [5, 6] (fun t i => ∃ (j : Nat) (X : Int), j ≤ q ∧ i = .int .i64 ((j : Int) + 1) ∧ t = .int .i64 X ∧ Hid (loopC ((r : Int) + (m : Int)) q j = X)) (fun _ i => q + 1 - (intOf i).toNat)
  case atStart => exact ⟨0, 1, Nat.zero_le _, by simp, rfl, Lib.hid rfl⟩
  case round =>
    obtain ⟨j, X, hj, rfl, rfl, HX⟩ := hrel
    have b1 := HA.out j hj
    rw [HX.out] at b1
    obtain ⟨x0, x1⟩ := b1
    by_cases hlt : j < q
    · have hlt2 : (j : Int) + 1 ≤ (q : Int) := by omega
      obtain ⟨m0, m1⟩ := mul_bd (s := X) (t := (r : Int) + (m : Int) - (q : Int) + ((j : Int) + 1)) (n := 100000000000) (m := 41) (by omega) (by omega) (by omega) (by omega)
      have E := Lib.hid (loopC_step HX.out m0)
      go_wp2
      go_round
      case rel => exact ⟨j + 1, _, by omega, by go_num, rfl, E⟩
      case measure => simp [intOf]; omega
    · obtain rfl : j = q := by omega
      go_wp2
      go_ret
      exact ⟨ret_int (by rw [← HE.out, HX.out]), rfl⟩
theorem sCount_any (r m : Nat) (hr : r ≤ 25) (hm : m ≤ 15) (w : World) :
    Calls Try.prog 69 #[.int .i64 (r : Int), .int .i64 (m : Int)] w fun e w' => e = .returned (.int .i64 (cnt r m)) ∧ w = w' := by
  go_enter Try.func69, Try.ntmps69
  go_wp2_with (go_at_call 102; (with_reducible refine (sChoose_any r m hr hm _).mono ?_); rintro e w9 ⟨rfl, rfl⟩)
  go_ret
  exact ⟨rfl, rfl⟩
def cntI (a b : Int) : Int := cnt a.toNat b.toNat
theorem listsUpTo_i (a b : Int) (a0 : 0 ≤ a) (a1 : a ≤ 25) (b0 : 0 ≤ b) (b1 : b ≤ 15) (w : World) :
    Calls Try.prog 67 #[.int .i64 a, .int .i64 b] w fun e w' => e = .returned (.int .i64 (cntI a b)) ∧ w = w' := by
  obtain ⟨r, rfl⟩ := Int.eq_ofNat_of_zero_le a0
  obtain ⟨m, rfl⟩ := Int.eq_ofNat_of_zero_le b0
  exact listsUpTo_any r m (by omega) (by omega) w
theorem sCount_i (a b : Int) (a0 : 0 ≤ a) (a1 : a ≤ 25) (b0 : 0 ≤ b) (b1 : b ≤ 15) (w : World) :
    Calls Try.prog 69 #[.int .i64 a, .int .i64 b] w fun e w' => e = .returned (.int .i64 (cntI a b)) ∧ w = w' := by
  obtain ⟨r, rfl⟩ := Int.eq_ofNat_of_zero_le a0
  obtain ⟨m, rfl⟩ := Int.eq_ofNat_of_zero_le b0
  exact sCount_any r m (by omega) (by omega) w
theorem cntI_bd {a b : Int} (a1 : a ≤ 25) (b1 : b ≤ 15) : 1 ≤ cntI a b ∧ cntI a b ≤ 100000000000 := cnt_bd (by omega) (by omega)
def countF (p c h s : Int) : Int := if vOk p c h s = true then cntI (p + 1) c else -1
theorem sideCount (p c h s : Int) (w : World) :
    Calls Try.prog 16 #[.agg #[.int .i64 p, .int .i64 c, .int .i64 h, .int .i64 s]] w fun e w' => e = .returned (.int .i64 (countF p c h s)) ∧ Past w w' := by
  cases hv : vOk p c h s
  · rw [show countF p c h s = -1 from by simp [countF, hv]]
    go_enter Try.func16, Try.ntmps16
    go_wp2_with (go_at_call 66; (with_reducible refine (isVar_any _ _ _ _ _).mono ?_); rintro e w1 ⟨rfl, hb1⟩; obtain ⟨hc1, hf1, _⟩ := hb1.cells; have hz1_0 : w.heap.size < w1.heap.size := Past.lt hb1 (by first | omega | (simp <;> omega)))
    go_ret
    exact ⟨rfl, (by repeat (first | exact Past.refl _ | assumption | refine Past.alloc ?_ _ | refine Past.drew ?_ | refine Past.drewN ?_ _ | refine Past.setCell ?_ (by first | (simp; done) | (simp <;> omega)) _ | refine Past.trans ?_ (past_over _ _) | refine Past.trans ?_ (by assumption)))⟩
  · rw [show countF p c h s = cntI (p + 1) c from by simp [countF, hv]]
    obtain ⟨⟨p1, p2⟩, ⟨c1, c2⟩, _, _⟩ := vOk_yes hv
    go_enter Try.func16, Try.ntmps16
    go_wp2_with (first | (go_at_call 66; (with_reducible refine (isVar_any _ _ _ _ _).mono ?_); rintro e w1 ⟨rfl, hb1⟩; obtain ⟨hc1, hf1, _⟩ := hb1.cells; have hz1_0 : w.heap.size < w1.heap.size := Past.lt hb1 (by first | omega | (simp <;> omega))) | (go_at_call 67; (with_reducible refine (listsUpTo_i _ _ (by omega) (by omega) (by omega) (by omega) _).mono ?_); rintro e w9 ⟨rfl, rfl⟩))
    go_ret
    exact ⟨rfl, (by repeat (first | exact Past.refl _ | assumption | refine Past.alloc ?_ _ | refine Past.drew ?_ | refine Past.drewN ?_ _ | refine Past.setCell ?_ (by first | (simp; done) | (simp <;> omega)) _ | refine Past.trans ?_ (past_over _ _) | refine Past.trans ?_ (by assumption)))⟩
theorem sSideCount (p c h s : Int) (w : World) :
    Calls Try.prog 64 #[.agg #[.int .i64 p, .int .i64 c, .int .i64 h, .int .i64 s]] w fun e w' => e = .returned (.int .i64 (countF p c h s)) ∧ Past w w' := by
  cases hv : vOk p c h s
  · rw [show countF p c h s = -1 from by simp [countF, hv]]
    go_enter Try.func64, Try.ntmps64
    go_wp2_with (go_at_call 19; (with_reducible refine (sIsVar_any _ _ _ _ _).mono ?_); rintro e w1 ⟨rfl, hb1⟩; obtain ⟨hc1, hf1, _⟩ := hb1.cells; have hz1_0 : w.heap.size < w1.heap.size := Past.lt hb1 (by first | omega | (simp <;> omega)))
    go_ret
    exact ⟨rfl, (by repeat (first | exact Past.refl _ | assumption | refine Past.alloc ?_ _ | refine Past.drew ?_ | refine Past.drewN ?_ _ | refine Past.setCell ?_ (by first | (simp; done) | (simp <;> omega)) _ | refine Past.trans ?_ (past_over _ _) | refine Past.trans ?_ (by assumption)))⟩
  · rw [show countF p c h s = cntI (p + 1) c from by simp [countF, hv]]
    obtain ⟨⟨p1, p2⟩, ⟨c1, c2⟩, _, _⟩ := vOk_yes hv
    go_enter Try.func64, Try.ntmps64
    go_wp2_with (first | (go_at_call 19; (with_reducible refine (sIsVar_any _ _ _ _ _).mono ?_); rintro e w1 ⟨rfl, hb1⟩; obtain ⟨hc1, hf1, _⟩ := hb1.cells; have hz1_0 : w.heap.size < w1.heap.size := Past.lt hb1 (by first | omega | (simp <;> omega))) | (go_at_call 69; (with_reducible refine (sCount_i _ _ (by omega) (by omega) (by omega) (by omega) _).mono ?_); rintro e w9 ⟨rfl, rfl⟩))
    go_ret
    exact ⟨rfl, (by repeat (first | exact Past.refl _ | assumption | refine Past.alloc ?_ _ | refine Past.drew ?_ | refine Past.drewN ?_ _ | refine Past.setCell ?_ (by first | (simp; done) | (simp <;> omega)) _ | refine Past.trans ?_ (past_over _ _) | refine Past.trans ?_ (by assumption)))⟩
theorem numTo_next {P : Nat} {c : Int} {xs : List Int} {i : Nat} {x : Int} (hx : xs[i]? = some x) (D : Nat) (hD : x = (D : Int)) : numTo P c xs (i + 1) = numTo P c xs i + inN (P - i) (c - (xs.take i).sum) D := by
  rw [numTo_succ hx, hD, Int.toNat_natCast]
theorem inN_next {r : Nat} {l a b : Int} {d : Nat} (ha : a.toNat = r) (hb : b = l - d) : inN r l (d + 1) = inN r l d + cntI a b := by
  rw [inN, cntI, ha, hb]
theorem sideNumber_v (p c h s : Int) (A : Option Addr) (n k : Nat) (w : World) (hv : vOk p c h s = false) :
    Calls Try.prog 15 #[.agg #[.int .i64 p, .int .i64 c, .int .i64 h, .int .i64 s], .slice A n k] w fun e w' => e = .returned (.tuple #[.int .i64 0, .int .i64 1]) ∧ Past w w' := by
  go_enter Try.func15, Try.ntmps15
  go_wp2_with (go_at_call 66; (with_reducible refine (isVar_any _ _ _ _ _).mono ?_); rintro e w1 ⟨rfl, hb1⟩; obtain ⟨hc1, hf1, _⟩ := hb1.cells; have hz1_0 : w.heap.size < w1.heap.size := Past.lt hb1 (by first | omega | (simp <;> omega)))
  go_ret2
  exact ⟨rfl, (by repeat (first | exact Past.refl _ | assumption | refine Past.alloc ?_ _ | refine Past.drew ?_ | refine Past.drewN ?_ _ | refine Past.setCell ?_ (by first | (simp; done) | (simp <;> omega)) _ | refine Past.trans ?_ (past_over _ _) | refine Past.trans ?_ (by assumption)))⟩
theorem sideNumber_s (p c h s : Int) (A : Option Addr) (n k : Nat) (xs : List Int) (w : World) (hx : RdI w A n xs) (hn : n ≤ 1048576) (hv : vOk p c h s = true) (hs : sOk p c xs = false) :
    Calls Try.prog 15 #[.agg #[.int .i64 p, .int .i64 c, .int .i64 h, .int .i64 s], .slice A n k] w fun e w' => e = .returned (.tuple #[.int .i64 0, .int .i64 1]) ∧ Past w w' := by
  obtain ⟨hp, hc, _, _⟩ := vOk_yes hv
  go_enter Try.func15, Try.ntmps15
  go_wp2_with (first | (go_at_call 66; (with_reducible refine (isVar_any _ _ _ _ _).mono ?_); rintro e w1 ⟨rfl, hb1⟩; obtain ⟨hc1, hf1, _⟩ := hb1.cells; have hz1_0 : w.heap.size < w1.heap.size := Past.lt hb1 (by first | omega | (simp <;> omega))) | (go_at_call 70; (with_reducible refine (isSide_any _ _ _ _ _ _ _ _ _ (hx.past (by repeat (first | exact Past.refl _ | assumption | refine Past.alloc ?_ _ | refine Past.drew ?_ | refine Past.drewN ?_ _ | refine Past.setCell ?_ (by first | (simp; done) | (simp <;> omega)) _ | refine Past.trans ?_ (past_over _ _) | refine Past.trans ?_ (by assumption)))) hn hp hc).mono ?_); rintro e w2 ⟨rfl, hb2⟩; obtain ⟨hc2, hf2, _⟩ := hb2.cells; have hz2_0 : w.heap.size < w2.heap.size := Past.lt hb2 (by first | omega | (simp <;> omega))))
  go_ret2
  exact ⟨rfl, (by repeat (first | exact Past.refl _ | assumption | refine Past.alloc ?_ _ | refine Past.drew ?_ | refine Past.drewN ?_ _ | refine Past.setCell ?_ (by first | (simp; done) | (simp <;> omega)) _ | refine Past.trans ?_ (past_over _ _) | refine Past.trans ?_ (by assumption)))⟩
set_option maxHeartbeats 1000000 in
theorem sideNumber_yes (P : Nat) (c h s : Int) (A : Option Addr) (n k : Nat) (xs : List Int) (w : World) (hx : RdI w A n xs) (hn : n = P + 1) (hP : P ≤ 24) (hv : vOk P c h s = true) (hs : sOk P c xs = true) :
    Calls Try.prog 15 #[.agg #[.int .i64 (P : Int), .int .i64 c, .int .i64 h, .int .i64 s], .slice A n k] w fun e w' => e = .returned (.tuple #[.int .i64 (numTo P c xs n), .int .i64 0]) ∧ Past w w' := by
  obtain ⟨hp, hc, _, _⟩ := vOk_yes hv
  have H0 := Lib.hid (sOk_yes hs).2.1
  have hsum := (sOk_yes hs).2.2
  have HL := Lib.hid hx.1
  have HN := Lib.hid hn
  have hn2 : n ≤ 1048576 := by omega
  have hn25 : n ≤ 25 := by omega
  clear hn
  obtain ⟨c1, c2⟩ := hc
  have hc' : 1 ≤ c ∧ c ≤ 15 := ⟨c1, c2⟩
  go_enter Try.func15, Try.ntmps15
  go_wp2_with (first | (go_at_call 66; (with_reducible refine (isVar_any _ _ _ _ _).mono ?_); rintro e w1 ⟨rfl, hb1⟩; obtain ⟨hc1, hf1, _⟩ := hb1.cells; have hz1_0 : w.heap.size < w1.heap.size := Past.lt hb1 (by first | omega | (simp <;> omega))) | (go_at_call 70; (with_reducible refine (isSide_any _ _ _ _ _ _ _ _ _ (hx.past (by repeat (first | exact Past.refl _ | assumption | refine Past.alloc ?_ _ | refine Past.drew ?_ | refine Past.drewN ?_ _ | refine Past.setCell ?_ (by first | (simp; done) | (simp <;> omega)) _ | refine Past.trans ?_ (past_over _ _) | refine Past.trans ?_ (by assumption)))) hn2 hp hc').mono ?_); rintro e w2 ⟨rfl, hb2⟩; obtain ⟨hc2, hf2, _⟩ := hb2.cells; have hz2_0 : w.heap.size < w2.heap.size := Past.lt hb2 (by first | omega | (simp <;> omega))))
  have hx2 : RdI w2 A n xs := hx.past (by repeat (first | exact Past.refl _ | assumption | refine Past.alloc ?_ _ | refine Past.drew ?_ | refine Past.drewN ?_ _ | refine Past.setCell ?_ (by first | (simp; done) | (simp <;> omega)) _ | refine Past.trans ?_ (past_over _ _) | refine Past.trans ?_ (by assumption)))
  go_loop [6, 7, 25] (fun t l i => ∃ j : Nat, j ≤ n ∧ i = .int .i64 j ∧ t = .int .i64 (numTo P c xs j) ∧ l = .int .i64 (c - (xs.take j).sum)) (fun _ _ i => n - (intOf i).toNat)
  case atStart => exact ⟨0, Nat.zero_le _, rfl, rfl, by simp⟩
  case round =>
    obtain ⟨j, hj, rfl, rfl, rfl⟩ := hrel
    obtain ⟨s0, s1⟩ := sum_take_le H0.out j
    obtain ⟨b0, b1⟩ := numTo_bd (P := P) (c := c) (xs := xs) hP c2 H0.out (i := j) (by rw [HL.out]; exact hj)
    by_cases hlt : j < n
    · obtain ⟨b, o, x, rfl, hxj, hcell⟩ := hx2.at_ hlt
      have x0 := H0.out x (mem_of_get hxj)
      have s2 := (sum_take_le H0.out (j + 1)).2
      rw [sum_take_succ hxj] at s2
      have ES := Lib.hid (sum_take_succ hxj)
      obtain ⟨D, rfl⟩ := Int.eq_ofNat_of_zero_le x0
      have EN := Lib.hid (numTo_next (P := P) (c := c) hxj D rfl)
      have hjP : j ≤ P := by have := HN.out; omega
      have hr : (((P : Int) - (j : Int))).toNat = P - j := by have := HN.out; omega
      have HR := Lib.hid hr
      have r0 : 0 ≤ ((P : Int) - (j : Int)) := by have := HN.out; omega
      have r1 : ((P : Int) - (j : Int)) ≤ 25 := by have := HN.out; omega
      generalize hS : (xs.take j).sum = SS at *
      generalize hT : numTo P c xs j = TT at *
      clear hxj hr hS hT
      go_wp2_with fail
      go_loop [6, 35] (fun t d => ∃ e : Nat, e ≤ D ∧ d = .int .i64 e ∧ t = .int .i64 (TT + inN (P - j) (c - SS) e)) (fun _ d => D - (intOf d).toNat)
      case atStart => exact ⟨0, Nat.zero_le _, rfl, by simp [inN]⟩
      case round =>
        obtain ⟨e, he, rfl, rfl⟩ := hrel
        obtain ⟨e0, e1⟩ := inN_bd (r := P - j) (l := c - SS) (by omega) (by omega) e
        by_cases hlt2 : e < D
        · have E := Lib.hid (inN_next (l := c - SS) (b := c - SS - (e : Int)) (d := e) HR.out rfl)
          obtain ⟨k0, k1⟩ := cntI_bd (a := ((P : Int) - (j : Int))) (b := c - SS - (e : Int)) (by omega) (by omega)
          generalize hI : inN (P - j) (c - SS) e = II at *
          clear hI
          go_wp2_with (go_at_call 67; (with_reducible refine (listsUpTo_i _ _ (by omega) (by omega) (by omega) (by omega) _).mono ?_); rintro e w9 ⟨rfl, rfl⟩)
          go_round
          case rel => exact ⟨e + 1, by omega, by go_num, by rw [E.out]; go_num⟩
          case measure => simp [intOf]; omega
        · obtain rfl : e = D := by omega
          go_wp2
          go_round
          case rel => exact ⟨j + 1, by omega, by go_num, by rw [EN.out], by rw [ES.out]; go_num⟩
          case measure => simp [intOf]; omega
    · obtain rfl : j = n := by omega
      go_wp2
      go_ret2
      exact ⟨rfl, (by repeat (first | exact Past.refl _ | assumption | refine Past.alloc ?_ _ | refine Past.drew ?_ | refine Past.drewN ?_ _ | refine Past.setCell ?_ (by first | (simp; done) | (simp <;> omega)) _ | refine Past.trans ?_ (past_over _ _) | refine Past.trans ?_ (by assumption)))⟩
/-- What the number of a side answers. -/
def sideNumV (p c h s : Int) (xs : List Int) : Value := if (vOk p c h s && sOk p c xs) = true then .tuple #[.int .i64 (numTo p.toNat c xs xs.length), .int .i64 0] else .tuple #[.int .i64 0, .int .i64 1]
theorem sideNumber_any (p c h s : Int) (A : Option Addr) (n k : Nat) (xs : List Int) (w : World) (N K : Int) (hv : Hid (sideNumV p c h s xs = .tuple #[.int .i64 N, .int .i64 K])) (hx : RdI w A n xs) (hn : n ≤ 1048576) :
    Calls Try.prog 15 #[.agg #[.int .i64 p, .int .i64 c, .int .i64 h, .int .i64 s], .slice A n k] w fun e w' => e = .returned (.tuple #[.int .i64 N, .int .i64 K]) ∧ Past w w' := by
  rw [← hv.out, sideNumV]
  cases h1 : vOk p c h s
  · rw [if_neg (by simp)]
    exact sideNumber_v p c h s A n k w h1
  · cases h2 : sOk p c xs
    · rw [if_neg (by simp)]
      exact sideNumber_s p c h s A n k xs w hx hn h1 h2
    · rw [if_pos (by simp)]
      have hp := (vOk_yes h1).1
      have hl := (sOk_yes h2).1
      obtain ⟨P, rfl⟩ := Int.eq_ofNat_of_zero_le (show 0 ≤ p from by omega)
      rw [Int.toNat_natCast, hx.1]
      exact sideNumber_yes P c h s A n k xs w hx (by have := hx.1; omega) (by omega) h1 h2
theorem sideNumV_is (p c h s : Int) (xs : List Int) : ∃ N K, sideNumV p c h s xs = .tuple #[.int .i64 N, .int .i64 K] := by
  unfold sideNumV
  split
  · exact ⟨_, _, rfl⟩
  · exact ⟨_, _, rfl⟩
end Go.Proofs.Ytapocfgajkkpdaa
