/-
  Contracts of the functions that look at a board: over, contact, home, pips, points.
-/
import Derived.Test.YtapocfgajkkpdaaBoard
import Derived.Test.YtapocfgajkkpdaaSBoard
import Derived.Test.YtapocfgajkkpdaaNum2
namespace Go.Proofs.Ytapocfgajkkpdaa
open Go.ChangeShapes Go.WideShapes Go.ChangeAt Go.RowKit Go.Joins

def isOverF (p c h s : Int) (xs ys : List Int) : Bool := bOk p c h s xs ys && overF xs ys
def allHomeF (p c h s : Int) (xs ys : List Int) : Bool := bOk p c h s xs ys && decide (lastF xs < h)
theorem isBoard_b (p c h s : Int) (A D : Option Addr) (n k m l : Nat) (xs ys : List Int) (b : Bool) (w : World) (hb : Hid (bOk p c h s xs ys = b)) (hx : RdI w A n xs) (hy : RdI w D m ys) (hn : n ≤ 1048576) (hm : m ≤ 1048576) :
    Calls Try.prog 31 #[.agg #[.int .i64 p, .int .i64 c, .int .i64 h, .int .i64 s], .agg #[.slice A n k, .slice D m l]] w fun e w' => e = .returned (.bool b) ∧ Past w w' :=
  (isBoard_any p c h s A D n k m l xs ys w hx hy hn hm).mono fun _ _ ⟨he, hp⟩ => ⟨he.trans (ret_bool hb.out), hp⟩
theorem sIsBoard_b (p c h s : Int) (A D : Option Addr) (n k m l : Nat) (xs ys : List Int) (b : Bool) (w : World) (hb : Hid (bOk p c h s xs ys = b)) (hx : RdI w A n xs) (hy : RdI w D m ys) (hn : n ≤ 1048576) (hm : m ≤ 1048576) :
    Calls Try.prog 26 #[.agg #[.int .i64 p, .int .i64 c, .int .i64 h, .int .i64 s], .agg #[.slice A n k, .slice D m l]] w fun e w' => e = .returned (.bool b) ∧ Past w w' :=
  (sIsBoard_any p c h s A D n k m l xs ys w hx hy hn hm).mono fun _ _ ⟨he, hp⟩ => ⟨he.trans (ret_bool hb.out), hp⟩
theorem last_any (A : Option Addr) (n k : Nat) (xs : List Int) (w : World) (hx : RdI w A n xs) (hn : n ≤ 1048576) :
    Calls Try.prog 106 #[.slice A n k] w fun e w' => e = .returned (.int .i64 (lastF xs)) ∧ w = w' := by
  have HL := Lib.hid hx.1
  go_enter Try.func106, Try.ntmps106
  go_wp2
  go_loop [3] (fun i => ∃ j : Nat, j ≤ n ∧ i = .int .i64 ((j : Int) - 1) ∧ Hid (lastF xs = lastTo xs j)) (fun i => (intOf i + 1).toNat)
  case atStart => exact ⟨n, Nat.le_refl _, rfl, by rw [lastF, HL.out]; exact rfl⟩
  case round =>
    obtain ⟨j, hj, rfl, hrest⟩ := hrel
    by_cases hlt : 0 < j
    · obtain ⟨i, rfl⟩ : ∃ i, j = i + 1 := ⟨j - 1, by omega⟩
      obtain ⟨b, o, x, rfl, hxj, hc⟩ := hx.at_ (j := i) (by omega)
      have HX := Lib.hid hxj
      clear hxj
      have ei : ((i + 1 : Nat) : Int) - 1 = (i : Int) := by omega
      rw [ei]
      clear ei
      by_cases hp : 0 < x
      · have E := Lib.hid (hrest.out.trans (lastTo_yes HX.out hp))
        go_wp2
        go_ret
        exact ⟨ret_int E.out.symm, rfl⟩
      · have E := Lib.hid (hrest.out.trans (lastTo_no HX.out hp))
        go_wp2
        go_round
        case rel => exact ⟨i, by omega, rfl, E⟩
        case measure => (simp [intOf])
    · obtain rfl : j = 0 := by omega
      have E := Lib.hid (hrest.out)
      clear hrest
      go_wp2
      go_ret
      exact ⟨ret_int E.out.symm, rfl⟩
theorem sLast_any (A : Option Addr) (n k : Nat) (xs : List Int) (w : World) (hx : RdI w A n xs) (hn : n ≤ 1048576) :
    Calls Try.prog 107 #[.slice A n k] w fun e w' => e = .returned (.int .i64 (lastF xs)) ∧ w = w' := by
  have HL := Lib.hid hx.1
  go_enter Try.func107, Try.ntmps107
  go_wp2
  go_loop [3, 4] (fun t i => ∃ j : Nat, j ≤ n ∧ i = .int .i64 j ∧ t = .int .i64 (lastTo xs j)) (fun _ i => n - (intOf i).toNat)
  case atStart => exact ⟨0, Nat.zero_le _, rfl, rfl⟩
  case round =>
    obtain ⟨j, hj, rfl, rfl⟩ := hrel
    by_cases hlt : j < n
    · obtain ⟨b, o, x, rfl, hxj, hc⟩ := hx.at_ hlt
      have HX := Lib.hid hxj
      clear hxj
      by_cases hp : 0 < x
      · have E := Lib.hid (lastTo_yes HX.out hp)
        go_wp2
        go_round
        case rel => exact ⟨j + 1, by omega, by go_num, by rw [E.out]⟩
        case measure => simp [intOf]; omega
      · have E := Lib.hid (lastTo_no HX.out hp)
        go_wp2
        go_round
        case rel => exact ⟨j + 1, by omega, by go_num, by rw [E.out]⟩
        case measure => simp [intOf]; omega
    · go_wp2
      go_ret
      exact ⟨ret_int (by rw [lastF, HL.out, show n = j from by omega]), rfl⟩
theorem pips_any (A : Option Addr) (n k : Nat) (xs : List Int) (w : World) (hx : RdI w A n xs) (hn : n ≤ 25) (hb : Hid (∀ x ∈ xs, 0 ≤ x ∧ x ≤ 15)) :
    Calls Try.prog 77 #[.slice A n k] w fun e w' => e = .returned (.int .i64 (pipsF xs)) ∧ w = w' := by
  have HL := Lib.hid hx.1
  go_enter Try.func77, Try.ntmps77
  go_wp2
  go_loop [3, 8] (fun t i => ∃ j : Nat, j ≤ n ∧ i = .int .i64 j ∧ t = .int .i64 (pipsTo xs j)) (fun _ i => n - (intOf i).toNat)
  case atStart => exact ⟨0, Nat.zero_le _, rfl, rfl⟩
  case round =>
    obtain ⟨j, hj, rfl, rfl⟩ := hrel
    obtain ⟨b1, b2⟩ := pipsTo_bd hb.out (j := j) (by rw [HL.out]; omega) (by rw [HL.out]; omega)
    by_cases hlt : j < n
    · obtain ⟨b, o, x, rfl, hxj, hc⟩ := hx.at_ hlt
      obtain ⟨e0, e1⟩ := hb.out x (mem_of_get hxj)
      obtain ⟨m0, m1⟩ := pip_bd (j := j) (x := x) (by omega) e0 e1
      have HS := Lib.hid (pipsTo_succ hxj)
      clear hxj
      go_wp2
      go_round
      case rel => exact ⟨j + 1, by omega, by go_num, by rw [HS.out]⟩
      case measure => simp [intOf]; omega
    · go_wp2
      go_ret
      exact ⟨ret_int (by rw [pipsF, HL.out, show n = j from by omega]), rfl⟩
theorem sPips_any (A : Option Addr) (n k : Nat) (xs : List Int) (w : World) (hx : RdI w A n xs) (hn : n ≤ 25) (hb : Hid (∀ x ∈ xs, 0 ≤ x ∧ x ≤ 15)) :
    Calls Try.prog 78 #[.slice A n k] w fun e w' => e = .returned (.int .i64 (pipsF xs)) ∧ w = w' := by
  have HL := Lib.hid hx.1
  go_enter Try.func78, Try.ntmps78
  go_wp2
  go_loop [3, 4] (fun t i => ∃ j : Nat, j ≤ n ∧ i = .int .i64 j ∧ t = .int .i64 (pipsTo xs j)) (fun _ i => n - (intOf i).toNat)
  case atStart => exact ⟨0, Nat.zero_le _, rfl, rfl⟩
  case round =>
    obtain ⟨j, hj, rfl, rfl⟩ := hrel
    obtain ⟨b1, b2⟩ := pipsTo_bd hb.out (j := j) (by rw [HL.out]; omega) (by rw [HL.out]; omega)
    by_cases hlt : j < n
    · obtain ⟨b, o, x, rfl, hxj, hc⟩ := hx.at_ hlt
      obtain ⟨e0, e1⟩ := hb.out x (mem_of_get hxj)
      obtain ⟨m0, m1⟩ := pip_bd (j := j) (x := x) (by omega) e0 e1
      have HS := Lib.hid (pipsTo_succ hxj)
      clear hxj
      go_wp2
      go_round
      case rel => exact ⟨j + 1, by omega, by go_num, by rw [HS.out]⟩
      case measure => simp [intOf]; omega
    · go_wp2
      go_ret
      exact ⟨ret_int (by rw [pipsF, HL.out, show n = j from by omega]), rfl⟩
theorem over_any (A D : Option Addr) (n k m l : Nat) (xs ys : List Int) (w : World) (hx : RdI w A n xs) (hy : RdI w D m ys) (hn : n ≤ 1048576) (hm : m ≤ 1048576)
    (h0x : Hid (∀ x ∈ xs, 0 ≤ x)) (h0y : Hid (∀ x ∈ ys, 0 ≤ x)) (ux : xs.sum ≤ 1000000) (uy : ys.sum ≤ 1000000) :
    Calls Try.prog 81 #[.agg #[.slice A n k, .slice D m l]] w fun e w' => e = .returned (.bool (overF xs ys)) ∧ Past w w' := by
  cases zx : (xs.sum == 0)
  · rw [overF_y zx]
    go_enter Try.func81, Try.ntmps81
    go_wp2_with (first | (go_at_call 75; (with_reducible refine (total_any _ _ _ _ _ (hx.past (by repeat (first | exact Past.refl _ | assumption | refine Past.alloc ?_ _ | refine Past.drew ?_ | refine Past.drewN ?_ _ | refine Past.setCell ?_ (by first | (simp; done) | (simp <;> omega)) _ | refine Past.trans ?_ (past_over _ _) | refine Past.trans ?_ (by assumption)))) h0x.out ux hn).mono ?_); rintro e w9 ⟨rfl, rfl⟩) | (go_at_call 75; (with_reducible refine (total_any _ _ _ _ _ (hy.past (by repeat (first | exact Past.refl _ | assumption | refine Past.alloc ?_ _ | refine Past.drew ?_ | refine Past.drewN ?_ _ | refine Past.setCell ?_ (by first | (simp; done) | (simp <;> omega)) _ | refine Past.trans ?_ (past_over _ _) | refine Past.trans ?_ (by assumption)))) h0y.out uy hm).mono ?_); rintro e w9 ⟨rfl, rfl⟩))
    go_ret
    exact ⟨rfl, (by repeat (first | exact Past.refl _ | assumption | refine Past.alloc ?_ _ | refine Past.drew ?_ | refine Past.drewN ?_ _ | refine Past.setCell ?_ (by first | (simp; done) | (simp <;> omega)) _ | refine Past.trans ?_ (past_over _ _) | refine Past.trans ?_ (by assumption)))⟩
  · rw [overF_x zx]
    go_enter Try.func81, Try.ntmps81
    go_wp2_with (first | (go_at_call 75; (with_reducible refine (total_any _ _ _ _ _ (hx.past (by repeat (first | exact Past.refl _ | assumption | refine Past.alloc ?_ _ | refine Past.drew ?_ | refine Past.drewN ?_ _ | refine Past.setCell ?_ (by first | (simp; done) | (simp <;> omega)) _ | refine Past.trans ?_ (past_over _ _) | refine Past.trans ?_ (by assumption)))) h0x.out ux hn).mono ?_); rintro e w9 ⟨rfl, rfl⟩) | (go_at_call 75; (with_reducible refine (total_any _ _ _ _ _ (hy.past (by repeat (first | exact Past.refl _ | assumption | refine Past.alloc ?_ _ | refine Past.drew ?_ | refine Past.drewN ?_ _ | refine Past.setCell ?_ (by first | (simp; done) | (simp <;> omega)) _ | refine Past.trans ?_ (past_over _ _) | refine Past.trans ?_ (by assumption)))) h0y.out uy hm).mono ?_); rintro e w9 ⟨rfl, rfl⟩))
    go_ret
    exact ⟨rfl, (by repeat (first | exact Past.refl _ | assumption | refine Past.alloc ?_ _ | refine Past.drew ?_ | refine Past.drewN ?_ _ | refine Past.setCell ?_ (by first | (simp; done) | (simp <;> omega)) _ | refine Past.trans ?_ (past_over _ _) | refine Past.trans ?_ (by assumption)))⟩
theorem sOver_any (A D : Option Addr) (n k m l : Nat) (xs ys : List Int) (w : World) (hx : RdI w A n xs) (hy : RdI w D m ys) (hn : n ≤ 1048576) (hm : m ≤ 1048576)
    (h0x : Hid (∀ x ∈ xs, 0 ≤ x)) (h0y : Hid (∀ x ∈ ys, 0 ≤ x)) (ux : xs.sum ≤ 1000000) (uy : ys.sum ≤ 1000000) :
    Calls Try.prog 116 #[.agg #[.slice A n k, .slice D m l]] w fun e w' => e = .returned (.bool (overF xs ys)) ∧ Past w w' := by
  cases zx : (xs.sum == 0)
  · rw [overF_y zx]
    go_enter Try.func116, Try.ntmps116
    go_wp2_with (first | (go_at_call 74; (with_reducible refine (sSum_any _ _ _ _ _ (hx.past (by repeat (first | exact Past.refl _ | assumption | refine Past.alloc ?_ _ | refine Past.drew ?_ | refine Past.drewN ?_ _ | refine Past.setCell ?_ (by first | (simp; done) | (simp <;> omega)) _ | refine Past.trans ?_ (past_over _ _) | refine Past.trans ?_ (by assumption)))) h0x.out ux hn).mono ?_); rintro e w9 ⟨rfl, rfl⟩) | (go_at_call 74; (with_reducible refine (sSum_any _ _ _ _ _ (hy.past (by repeat (first | exact Past.refl _ | assumption | refine Past.alloc ?_ _ | refine Past.drew ?_ | refine Past.drewN ?_ _ | refine Past.setCell ?_ (by first | (simp; done) | (simp <;> omega)) _ | refine Past.trans ?_ (past_over _ _) | refine Past.trans ?_ (by assumption)))) h0y.out uy hm).mono ?_); rintro e w9 ⟨rfl, rfl⟩))
    go_ret
    exact ⟨rfl, (by repeat (first | exact Past.refl _ | assumption | refine Past.alloc ?_ _ | refine Past.drew ?_ | refine Past.drewN ?_ _ | refine Past.setCell ?_ (by first | (simp; done) | (simp <;> omega)) _ | refine Past.trans ?_ (past_over _ _) | refine Past.trans ?_ (by assumption)))⟩
  · rw [overF_x zx]
    go_enter Try.func116, Try.ntmps116
    go_wp2_with (first | (go_at_call 74; (with_reducible refine (sSum_any _ _ _ _ _ (hx.past (by repeat (first | exact Past.refl _ | assumption | refine Past.alloc ?_ _ | refine Past.drew ?_ | refine Past.drewN ?_ _ | refine Past.setCell ?_ (by first | (simp; done) | (simp <;> omega)) _ | refine Past.trans ?_ (past_over _ _) | refine Past.trans ?_ (by assumption)))) h0x.out ux hn).mono ?_); rintro e w9 ⟨rfl, rfl⟩) | (go_at_call 74; (with_reducible refine (sSum_any _ _ _ _ _ (hy.past (by repeat (first | exact Past.refl _ | assumption | refine Past.alloc ?_ _ | refine Past.drew ?_ | refine Past.drewN ?_ _ | refine Past.setCell ?_ (by first | (simp; done) | (simp <;> omega)) _ | refine Past.trans ?_ (past_over _ _) | refine Past.trans ?_ (by assumption)))) h0y.out uy hm).mono ?_); rintro e w9 ⟨rfl, rfl⟩))
    go_ret
    exact ⟨rfl, (by repeat (first | exact Past.refl _ | assumption | refine Past.alloc ?_ _ | refine Past.drew ?_ | refine Past.drewN ?_ _ | refine Past.setCell ?_ (by first | (simp; done) | (simp <;> omega)) _ | refine Past.trans ?_ (past_over _ _) | refine Past.trans ?_ (by assumption)))⟩
theorem isOver (p c h s : Int) (A D : Option Addr) (n k m l : Nat) (xs ys : List Int) (w : World) (hx : RdI w A n xs) (hy : RdI w D m ys) (hn : n ≤ 1048576) (hm : m ≤ 1048576) :
    Calls Try.prog 37 #[.agg #[.int .i64 p, .int .i64 c, .int .i64 h, .int .i64 s], .agg #[.slice A n k, .slice D m l]] w fun e w' => e = .returned (.bool (isOverF p c h s xs ys)) ∧ Past w w' := by
  cases hb : bOk p c h s xs ys
  · rw [show isOverF p c h s xs ys = false from by simp [isOverF, hb]]
    go_enter Try.func37, Try.ntmps37
    go_wp2_with (go_at_call 31; (with_reducible refine (isBoard_any _ _ _ _ _ _ _ _ _ _ _ _ _ (hx.past (by repeat (first | exact Past.refl _ | assumption | refine Past.alloc ?_ _ | refine Past.drew ?_ | refine Past.drewN ?_ _ | refine Past.setCell ?_ (by first | (simp; done) | (simp <;> omega)) _ | refine Past.trans ?_ (past_over _ _) | refine Past.trans ?_ (by assumption)))) (hy.past (by repeat (first | exact Past.refl _ | assumption | refine Past.alloc ?_ _ | refine Past.drew ?_ | refine Past.drewN ?_ _ | refine Past.setCell ?_ (by first | (simp; done) | (simp <;> omega)) _ | refine Past.trans ?_ (past_over _ _) | refine Past.trans ?_ (by assumption)))) hn hm).mono ?_); rintro e w1 ⟨rfl, hb1⟩; obtain ⟨hc1, hf1, _⟩ := hb1.cells; have hz1_0 : w.heap.size < w1.heap.size := Past.lt hb1 (by first | omega | (simp <;> omega)); have hz1_1 : w.heap.size + 1 < w1.heap.size := Past.lt hb1 (by first | omega | (simp <;> omega)))
    go_ret
    exact ⟨rfl, (by repeat (first | exact Past.refl _ | assumption | refine Past.alloc ?_ _ | refine Past.drew ?_ | refine Past.drewN ?_ _ | refine Past.setCell ?_ (by first | (simp; done) | (simp <;> omega)) _ | refine Past.trans ?_ (past_over _ _) | refine Past.trans ?_ (by assumption)))⟩
  · have F := Lib.hid (bFacts hb)
    have h0x := Lib.hid F.out.2.2.2.2.1.2.1
    have h0y := Lib.hid F.out.2.2.2.2.2.2.1
    have ux : xs.sum ≤ 1000000 := by have := F.out; omega
    have uy : ys.sum ≤ 1000000 := by have := F.out; omega
    rw [show isOverF p c h s xs ys = overF xs ys from by simp [isOverF, hb]]
    go_enter Try.func37, Try.ntmps37
    go_wp2_with (first | (go_at_call 31; (with_reducible refine (isBoard_any _ _ _ _ _ _ _ _ _ _ _ _ _ (hx.past (by repeat (first | exact Past.refl _ | assumption | refine Past.alloc ?_ _ | refine Past.drew ?_ | refine Past.drewN ?_ _ | refine Past.setCell ?_ (by first | (simp; done) | (simp <;> omega)) _ | refine Past.trans ?_ (past_over _ _) | refine Past.trans ?_ (by assumption)))) (hy.past (by repeat (first | exact Past.refl _ | assumption | refine Past.alloc ?_ _ | refine Past.drew ?_ | refine Past.drewN ?_ _ | refine Past.setCell ?_ (by first | (simp; done) | (simp <;> omega)) _ | refine Past.trans ?_ (past_over _ _) | refine Past.trans ?_ (by assumption)))) hn hm).mono ?_); rintro e w1 ⟨rfl, hb1⟩; obtain ⟨hc1, hf1, _⟩ := hb1.cells; have hz1_0 : w.heap.size < w1.heap.size := Past.lt hb1 (by first | omega | (simp <;> omega)); have hz1_1 : w.heap.size + 1 < w1.heap.size := Past.lt hb1 (by first | omega | (simp <;> omega))) | (go_at_call 81; (with_reducible refine (over_any _ _ _ _ _ _ _ _ _ (hx.past (by repeat (first | exact Past.refl _ | assumption | refine Past.alloc ?_ _ | refine Past.drew ?_ | refine Past.drewN ?_ _ | refine Past.setCell ?_ (by first | (simp; done) | (simp <;> omega)) _ | refine Past.trans ?_ (past_over _ _) | refine Past.trans ?_ (by assumption)))) (hy.past (by repeat (first | exact Past.refl _ | assumption | refine Past.alloc ?_ _ | refine Past.drew ?_ | refine Past.drewN ?_ _ | refine Past.setCell ?_ (by first | (simp; done) | (simp <;> omega)) _ | refine Past.trans ?_ (past_over _ _) | refine Past.trans ?_ (by assumption)))) hn hm h0x h0y ux uy).mono ?_); rintro e w2 ⟨rfl, hb2⟩; obtain ⟨hc2, hf2, _⟩ := hb2.cells))
    go_ret
    exact ⟨rfl, (by repeat (first | exact Past.refl _ | assumption | refine Past.alloc ?_ _ | refine Past.drew ?_ | refine Past.drewN ?_ _ | refine Past.setCell ?_ (by first | (simp; done) | (simp <;> omega)) _ | refine Past.trans ?_ (past_over _ _) | refine Past.trans ?_ (by assumption)))⟩
end Go.Proofs.Ytapocfgajkkpdaa
