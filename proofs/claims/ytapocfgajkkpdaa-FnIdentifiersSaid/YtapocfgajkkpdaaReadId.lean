/-
  Contracts: a board out of its letters.
-/
import Derived.Test.YtapocfgajkkpdaaId2
import Derived.Test.YtapocfgajkkpdaaOfBits2
import Derived.Deep.DeepCutAuto
import Derived.Deep.RegionHeld3
namespace Go.Proofs.Ytapocfgajkkpdaa
open Go.ChangeShapes Go.WideShapes Go.ChangeAt Go.RowKit Go.Joins

def letN (j : Int) : Int := ((letU j).toNat : Int)
/-- The least letter below j that is x, or -1. -/
def letG (x : Int) : Nat → Int
  | 0 => -1
  | j + 1 => if letG x j = -1 then (if letN j = x then (j : Int) else -1) else letG x j
def letVal (x : Int) : Int := letG x 64
theorem letG_stay {x : Int} {j n : Nat} (h : letG x j ≠ -1) (hn : j ≤ n) : letG x n = letG x j := by
  induction n with
  | zero => obtain rfl : j = 0 := by omega
            rfl
  | succ n ih =>
    rcases Nat.lt_or_ge j (n + 1) with h1 | h1
    · have e := ih (by omega)
      rw [letG, e, if_neg h]
    · obtain rfl : j = n + 1 := by omega
      rfl
theorem letVal_hit {x : Int} {j : Nat} (h : letG x j = -1) (he : letN j = x) (hj : j < 64) : letVal x = (j : Int) := by
  have e : letG x (j + 1) = (j : Int) := by rw [letG, if_pos h, if_pos he]
  rw [letVal, letG_stay (j := j + 1) (by rw [e]; omega) (by omega), e]
theorem letG_next {x : Int} {j : Nat} (h : letG x j = -1) (he : ¬ letN j = x) : letG x (j + 1) = -1 := by rw [letG, if_pos h, if_neg he]
theorem letG_bd (x : Int) (n : Nat) : -1 ≤ letG x n ∧ letG x n ≤ (n : Int) - 1 ∨ letG x n = -1 := by
  induction n with
  | zero => right; rfl
  | succ n ih =>
    rw [letG]
    split
    · split
      · left; omega
      · right; rfl
    · rcases ih with h | h
      · left; omega
      · right; exact h
theorem letVal_bd (x : Int) : -1 ≤ letVal x ∧ letVal x ≤ 63 := by
  have := letG_bd x 64
  unfold letVal
  omega
set_option maxRecDepth 100000 in
theorem letter_B {v : Int} (h0 : 0 ≤ v) (h1 : v ≤ 63) (w : World) : (Instr.index 9 (.string lettersB) (.int .i64 v)).run Try.prog w = .ok (.int .u8 (letN v)) w := by
  rw [run_index_string w 9 lettersB .i64 v (by rfl), dif_pos ⟨h0, by rw [lettersB_size]; omega⟩]
  congr 3
  have hv : v.toNat < lettersL.length := by rw [lettersL_len]; omega
  rw [letU, List.getD_eq_getElem?_getD, List.getElem?_eq_getElem hv]
  rfl
set_option maxHeartbeats 1000000 in
set_option maxRecDepth 100000 in
theorem idValue_any (x : Int) (w : World) : Calls Try.prog 85 #[.int .u8 x] w fun e w' => e = .returned (.int .i64 (letVal x)) ∧ w = w' := by
  go_enter Try.func85, Try.ntmps85
  go_wp2
  go_loop [4] (fun i => ∃ j : Nat, j ≤ 64 ∧ i = .int .i64 (j : Int) ∧ letG x j = -1) (fun i => 64 - (intOf i).toNat)
  case atStart => exact ⟨0, Nat.zero_le _, rfl, rfl⟩
  case round =>
    obtain ⟨j, hj, rfl, hg⟩ := hrel
    by_cases hlt : j < 64
    · have hlt2 : (j : Int) < 64 := by omega
      have hix : ∀ w, (Instr.index 9 (.string (⟨#[65, 66, 67, 68, 69, 70, 71, 72, 73, 74, 75, 76, 77, 78, 79, 80, 81, 82, 83, 84, 85, 86, 87, 88, 89, 90, 97, 98, 99, 100, 101, 102, 103, 104, 105, 106, 107, 108, 109, 110, 111, 112, 113, 114, 115, 116, 117, 118, 119, 120, 121, 122, 48, 49, 50, 51, 52, 53, 54, 55, 56, 57, 43, 45]⟩ : ByteArray)) (.int .i64 (j : Int))).run Try.prog w = .ok (.int .u8 (letN (j : Int))) w := fun w => letter_lit (v := (j : Int)) (by omega) (by omega) w
      by_cases he : letN (j : Int) = x
      · have HV := Lib.hid (letVal_hit hg he hlt)
        clear hg
        rw [he] at hix
        clear he
        go_wp2
        go_ret
        rw [HV.out]
        exact ⟨rfl, rfl⟩
      · have HG := Lib.hid (letG_next hg he)
        clear hg
        generalize letN (j : Int) = y at hix he
        go_wp2
        go_round
        case rel => exact ⟨j + 1, by omega, by go_num, HG.out⟩
        case measure => simp [intOf]; omega
    · obtain rfl : j = 64 := by omega
      have HV := Lib.hid (show letVal x = -1 from hg)
      clear hg
      go_wp2
      go_ret
      rw [HV.out]
      exact ⟨rfl, rfl⟩
end Go.Proofs.Ytapocfgajkkpdaa
