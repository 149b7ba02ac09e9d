/-
  Contracts: the reference's number of a word.
-/
import Derived.Test.YtdcdjocjlicplaaDoorWordS
import Derived.IntWalk
namespace Go.Proofs.YtdcdjocjlicplaaDoor
open Go.ChangeShapes Go.WideShapes Go.ChangeAt Go.RowKit Go.Joins

theorem byAt_bd (s : ByteArray) (j : Nat) : 0 ≤ byAt s j ∧ byAt s j < 256 := by
  unfold byAt
  have := (s.data.toList.getD j 0).toNat_lt
  omega
theorem lvGo_step {s : ByteArray} {j : Nat} (h : j < s.size) (n : Int) : lvGo n (s.data.toList.drop j) = if byAt s j < 48 ∨ 57 < byAt s j then none else lvGo (10 * n + (byAt s j - 48)) (s.data.toList.drop (j + 1)) := by
  have hl : j < s.data.toList.length := by rw [Array.length_toList]; exact h
  have e : byAt s j = ((s.data.toList[j]).toNat : Int) := by rw [byAt, List.getD_eq_getElem?_getD, List.getElem?_eq_getElem hl]; rfl
  rw [List.drop_eq_getElem_cons hl, lvGo, e]
  by_cases hc : (s.data.toList[j]).toNat < 48 ∨ 57 < (s.data.toList[j]).toNat
  · rw [if_pos hc, if_pos (by omega)]
  · rw [if_neg hc, if_neg (by omega)]
theorem lvGo_bad {s : ByteArray} {j : Nat} {n : Int} (h : j < s.size) (hg : lvGo 0 s.data.toList = lvGo n (s.data.toList.drop j)) (hb : byAt s j < 48 ∨ 57 < byAt s j) : lvGo 0 s.data.toList = none := by rw [hg, lvGo_step h, if_pos hb]
theorem lvGo_next {s : ByteArray} {j : Nat} {n : Int} (h : j < s.size) (hg : lvGo 0 s.data.toList = lvGo n (s.data.toList.drop j)) (h0 : 48 ≤ byAt s j) (h1 : byAt s j ≤ 57) : lvGo 0 s.data.toList = lvGo (10 * n + (byAt s j - 48)) (s.data.toList.drop (j + 1)) := by rw [hg, lvGo_step h, if_neg (by omega)]
theorem lvGo_end {s : ByteArray} {n : Int} (hg : lvGo 0 s.data.toList = lvGo n (s.data.toList.drop s.size)) : lvGo 0 s.data.toList = some n := by
  rw [hg, List.drop_of_length_le (by rw [Array.length_toList]; exact Nat.le_refl _), lvGo]
theorem lv_no {s : ByteArray} (h : (s.size = 0 ∨ 15 < s.size) ∨ (1 < s.size ∧ byAt s 0 = 48)) : lv s.data.toList = none := by
  have hl : s.data.toList.length = s.size := Array.length_toList
  unfold lv
  rw [if_pos]
  rw [hl]
  rcases h with h | ⟨h1, h2⟩
  · exact .inl h
  · refine .inr ⟨h1, ?_⟩
    have hl2 : 0 < s.data.toList.length := by omega
    rw [byAt, List.getD_eq_getElem?_getD, List.getElem?_eq_getElem hl2, Option.getD_some] at h2
    rw [List.head?_eq_getElem?, List.getElem?_eq_getElem hl2]
    congr 1
    have h3 : (s.data.toList[0].toNat : Int) = 48 := h2
    exact UInt8.toNat_inj.1 (by show s.data.toList[0].toNat = 48; omega)
theorem lv_go {s : ByteArray} (h1 : s.size ≠ 0) (h2 : s.size ≤ 15) (h3 : s.size ≤ 1 ∨ byAt s 0 ≠ 48) : lv s.data.toList = lvGo 0 s.data.toList := by
  have hl : s.data.toList.length = s.size := Array.length_toList
  unfold lv
  rw [if_neg]
  rw [hl]
  rintro (h | ⟨h4, h5⟩)
  · omega
  · have hl2 : 0 < s.data.toList.length := by omega
    rw [List.head?_eq_getElem?, List.getElem?_eq_getElem hl2] at h5
    simp only [Option.some.injEq] at h5
    rcases h3 with h3 | h3
    · omega
    · apply h3
      rw [byAt, List.getD_eq_getElem?_getD, List.getElem?_eq_getElem hl2, Option.getD_some, h5]
      rfl
theorem pow_step {j : Nat} {n d : Int} (h0 : 0 ≤ n) (h : n < 10 ^ j) (d0 : 0 ≤ d) (d1 : d ≤ 9) : 0 ≤ 10 * n + d ∧ 10 * n + d < 10 ^ (j + 1) := by
  have e : (10 : Int) ^ (j + 1) = 10 * 10 ^ j := by rw [Int.pow_succ, Int.mul_comm]
  rw [e]
  omega
theorem pow_cap {j : Nat} {n : Int} (h : n < 10 ^ j) (hj : j ≤ 15) : n < 1000000000000000 := by
  have : (10 : Int) ^ j ≤ 10 ^ 15 := by
    have := Nat.pow_le_pow_right (n := 10) (by decide) hj
    exact_mod_cast this
  omega
def ValV (w : World) (r : Option Int) (e : Ending) (w' : World) : Prop := e = .returned (.tuple #[.int .i64 (r.getD 0), .bool r.isSome]) ∧ Past w w'
set_option maxHeartbeats 1000000 in
set_option maxRecDepth 100000 in
theorem l01Value_go (s : ByteArray) (w : World) (h1 : 0 < s.size) (h2 : s.size ≤ 15) (h3 : s.size ≤ 1 ∨ byAt s 0 ≠ 48) :
    Calls Tryd.prog 48 #[.string s] w (ValV w (lv s.data.toList)) := by
  rw [lv_go (by omega) h2 h3]
  have z0 : ((s.size : Int) == 0) = false := by rw [beq_eq_false_iff_ne]; omega
  have z1 : ¬ (15 : Int) < (s.size : Int) := by omega
  have ix0 : ∀ w, (Instr.index 9 (.string s) (.int .i64 0)).run Tryd.prog w = .ok (.int .u8 (byAt s 0)) w := fun w => by_ix (j := 0) h1 w
  have hc : (¬ (1 : Int) < (s.size : Int)) ∨ ((1 : Int) < (s.size : Int) ∧ (byAt s 0 == 48) = false) := by
    by_cases hl : (1 : Int) < (s.size : Int)
    · exact .inr ⟨hl, by rw [beq_eq_false_iff_ne]; rcases h3 with h3 | h3; omega; exact h3⟩
    · exact .inl hl
  clear h3
  rcases hc with hc | ⟨hc, hc2⟩
  all_goals
    go_enter Tryd.func48, Tryd.ntmps48
    go_wp2_with fail
    go_loop [4, 5] (fun v i => ∃ (j : Nat) (n : Int), j ≤ s.size ∧ i = .int .i64 (j : Int) ∧ v = .int .i64 n ∧ (0 ≤ n ∧ n < 10 ^ j) ∧ Hid (lvGo 0 s.data.toList = lvGo n (s.data.toList.drop j))) (fun _ i => s.size - (intOf i).toNat)
    case atStart => exact ⟨0, 0, Nat.zero_le _, rfl, rfl, by decide, Lib.hid (by rw [List.drop_zero])⟩
    case round =>
      obtain ⟨j, n, hj, rfl, rfl, ⟨n0, n1⟩, HG⟩ := hrel
      by_cases hlt : j < s.size
      · have hltz : (j : Int) < (s.size : Int) := by omega
        have hix := fun w => by_ix hlt w
        obtain ⟨b0, b1⟩ := byAt_bd s j
        by_cases hl : byAt s j < 48
        · have E := Lib.hid (lvGo_bad hlt HG.out (.inl hl))
          go_wp2
          go_ret2
          rw [E.out]
          exact ⟨rfl, (by repeat (first | exact Past.refl _ | assumption | refine Past.alloc ?_ _ | refine Past.drew ?_ | refine Past.drewN ?_ _ | refine Past.setCell ?_ (by first | (simp; done) | (simp <;> omega)) _ | refine Past.trans ?_ (past_over _ _) | refine Past.trans ?_ (by assumption)))⟩
        · by_cases hh : 57 < byAt s j
          · have E := Lib.hid (lvGo_bad hlt HG.out (.inr hh))
            go_wp2
            go_ret2
            rw [E.out]
            exact ⟨rfl, (by repeat (first | exact Past.refl _ | assumption | refine Past.alloc ?_ _ | refine Past.drew ?_ | refine Past.drewN ?_ _ | refine Past.setCell ?_ (by first | (simp; done) | (simp <;> omega)) _ | refine Past.trans ?_ (past_over _ _) | refine Past.trans ?_ (by assumption)))⟩
          · have E := Lib.hid (lvGo_next hlt HG.out (by omega) (by omega))
            obtain ⟨p0, p1⟩ := pow_step (d := byAt s j - 48) n0 n1 (by omega) (by omega)
            have pc := pow_cap n1 (by omega)
            have W1 : IntKind.u8.wrap (byAt s j - 48) = byAt s j - 48 := IntWalk.u8_in _ (by omega)
            have W2 : IntKind.i64.wrap (byAt s j - 48) = byAt s j - 48 := IntWalk.i64_in _ (by omega)
            have W3 : IntKind.i64.wrap (10 * n) = 10 * n := IntWalk.i64_in _ (by omega)
            have W4 : IntKind.i64.wrap (10 * n + (byAt s j - 48)) = 10 * n + (byAt s j - 48) := IntWalk.i64_in _ (by omega)
            have P := Lib.hid (And.intro p0 p1)
            clear n1 p0 p1
            go_wp2_with fail
            go_round
            case rel => exact ⟨j + 1, _, by omega, by go_num, rfl, P.out, E⟩
            case measure => simp [intOf]; omega
      · obtain rfl : j = s.size := by omega
        have hltz : ¬ (s.size : Int) < (s.size : Int) := by omega
        have E := Lib.hid (lvGo_end HG.out)
        go_wp2
        go_ret2
        rw [E.out]
        exact ⟨rfl, (by repeat (first | exact Past.refl _ | assumption | refine Past.alloc ?_ _ | refine Past.drew ?_ | refine Past.drewN ?_ _ | refine Past.setCell ?_ (by first | (simp; done) | (simp <;> omega)) _ | refine Past.trans ?_ (past_over _ _) | refine Past.trans ?_ (by assumption)))⟩
set_option maxHeartbeats 1000000 in
set_option maxRecDepth 100000 in
theorem l01Value_any (s : ByteArray) (w : World) :
    Calls Tryd.prog 48 #[.string s] w (ValV w (lv s.data.toList)) := by
  by_cases h0 : s.size = 0
  · rw [lv_no (.inl (.inl h0))]
    have z0 : ((s.size : Int) == 0) = true := by rw [beq_iff_eq]; omega
    clear h0
    go_enter Tryd.func48, Tryd.ntmps48
    go_wp2
    go_ret2
    exact ⟨rfl, (by repeat (first | exact Past.refl _ | assumption | refine Past.alloc ?_ _ | refine Past.drew ?_ | refine Past.drewN ?_ _ | refine Past.setCell ?_ (by first | (simp; done) | (simp <;> omega)) _ | refine Past.trans ?_ (past_over _ _) | refine Past.trans ?_ (by assumption)))⟩
  have z0 : ((s.size : Int) == 0) = false := by rw [beq_eq_false_iff_ne]; omega
  by_cases h15 : 15 < s.size
  · rw [lv_no (.inl (.inr h15))]
    have z1 : (15 : Int) < (s.size : Int) := by omega
    clear h0
    go_enter Tryd.func48, Tryd.ntmps48
    go_wp2
    go_ret2
    exact ⟨rfl, (by repeat (first | exact Past.refl _ | assumption | refine Past.alloc ?_ _ | refine Past.drew ?_ | refine Past.drewN ?_ _ | refine Past.setCell ?_ (by first | (simp; done) | (simp <;> omega)) _ | refine Past.trans ?_ (past_over _ _) | refine Past.trans ?_ (by assumption)))⟩
  by_cases h48 : 1 < s.size ∧ byAt s 0 = 48
  · rw [lv_no (.inr h48)]
    have z1 : ¬ (15 : Int) < (s.size : Int) := by omega
    have ix0 : ∀ w, (Instr.index 9 (.string s) (.int .i64 0)).run Tryd.prog w = .ok (.int .u8 (byAt s 0)) w := fun w => by_ix (j := 0) (by omega) w
    obtain ⟨a, b⟩ := h48
    have hc : (1 : Int) < (s.size : Int) := by omega
    rw [b] at ix0
    clear h0 a b
    go_enter Tryd.func48, Tryd.ntmps48
    go_wp2
    go_ret2
    exact ⟨rfl, (by repeat (first | exact Past.refl _ | assumption | refine Past.alloc ?_ _ | refine Past.drew ?_ | refine Past.drewN ?_ _ | refine Past.setCell ?_ (by first | (simp; done) | (simp <;> omega)) _ | refine Past.trans ?_ (past_over _ _) | refine Past.trans ?_ (by assumption)))⟩
  · refine l01Value_go s w (by omega) (by omega) ?_
    by_cases hl : 1 < s.size
    · exact .inr fun h => h48 ⟨hl, h⟩
    · exact .inl (by omega)
end Go.Proofs.YtdcdjocjlicplaaDoor
