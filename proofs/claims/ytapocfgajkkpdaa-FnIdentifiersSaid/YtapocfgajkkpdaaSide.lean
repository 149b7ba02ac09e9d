/-
  Contracts: the sum of a side; whether a list is a side.
-/
import Derived.Test.YtapocfgajkkpdaaMem
import Derived.Test.YtapocfgajkkpdaaNum
namespace Go.Proofs.Ytapocfgajkkpdaa
open Go.ChangeShapes Go.WideShapes Go.ChangeAt Go.RowKit Go.Joins

theorem total_any (A : Option Addr) (n k : Nat) (xs : List Int) (w : World) (hx : RdI w A n xs) (h0 : ∀ x ∈ xs, 0 ≤ x) (hs : xs.sum ≤ 1000000) (hn : n ≤ 1048576) :
    Calls Try.prog 75 #[.slice A n k] w fun e w' => e = .returned (.int .i64 xs.sum) ∧ w = w' := by
  have H0 := Lib.hid h0
  have HL := Lib.hid hx.1
  clear h0
  go_enter Try.func75, Try.ntmps75
  go_wp2
  go_loop [3, 8] (fun t i => ∃ j : Nat, j ≤ n ∧ i = .int .i64 j ∧ t = .int .i64 (xs.take j).sum) (fun _ i => n - (intOf i).toNat)
  case atStart => exact ⟨0, Nat.zero_le _, rfl, rfl⟩
  case round =>
    obtain ⟨j, hj, rfl, rfl⟩ := hrel
    obtain ⟨b1, b2⟩ := sum_take_le H0.out j
    by_cases hlt : j < n
    · obtain ⟨b, o, x, rfl, hxj, hc⟩ := hx.at_ hlt
      have e0 := H0.out x (mem_of_get hxj)
      have e1 := mem_le_sum H0.out (mem_of_get hxj)
      have HS := Lib.hid (sum_take_succ hxj)
      clear hxj
      go_wp2
      go_round
      case rel => exact ⟨j + 1, by omega, by go_num, by rw [HS.out]⟩
      case measure => simp [intOf]; omega
    · go_wp2
      go_ret
      exact ⟨ret_int (by rw [List.take_of_length_le (by have := HL.out; omega)]), rfl⟩
theorem sSum_any (A : Option Addr) (n k : Nat) (xs : List Int) (w : World) (hx : RdI w A n xs) (h0 : ∀ x ∈ xs, 0 ≤ x) (hs : xs.sum ≤ 1000000) (hn : n ≤ 1048576) :
    Calls Try.prog 74 #[.slice A n k] w fun e w' => e = .returned (.int .i64 xs.sum) ∧ w = w' := by
  have H0 := Lib.hid h0
  have HL := Lib.hid hx.1
  clear h0
  go_enter Try.func74, Try.ntmps74
  go_wp2
  go_loop [3, 4] (fun t i => ∃ j : Nat, j ≤ n ∧ i = .int .i64 j ∧ t = .int .i64 (xs.take j).sum) (fun _ i => n - (intOf i).toNat)
  case atStart => exact ⟨0, Nat.zero_le _, rfl, rfl⟩
  case round =>
    obtain ⟨j, hj, rfl, rfl⟩ := hrel
    obtain ⟨b1, b2⟩ := sum_take_le H0.out j
    by_cases hlt : j < n
    · obtain ⟨b, o, x, rfl, hxj, hc⟩ := hx.at_ hlt
      have e0 := H0.out x (mem_of_get hxj)
      have e1 := mem_le_sum H0.out (mem_of_get hxj)
      have HS := Lib.hid (sum_take_succ hxj)
      clear hxj
      go_wp2
      go_round
      case rel => exact ⟨j + 1, by omega, by go_num, by rw [HS.out]⟩
      case measure => simp [intOf]; omega
    · go_wp2
      go_ret
      exact ⟨ret_int (by rw [List.take_of_length_le (by have := HL.out; omega)]), rfl⟩
theorem isSide_any (p c h s : Int) (A : Option Addr) (n k : Nat) (xs : List Int) (w : World) (hx : RdI w A n xs) (hn : n ≤ 1048576) (hp : 2 ≤ p ∧ p ≤ 24) (hc : 1 ≤ c ∧ c ≤ 15) :
    Calls Try.prog 70 #[.agg #[.int .i64 p, .int .i64 c, .int .i64 h, .int .i64 s], .slice A n k] w fun e w' => e = .returned (.bool (sOk p c xs)) ∧ Past w w' := by
  have HL := Lib.hid hx.1
  obtain ⟨hp1, hp2⟩ := hp
  obtain ⟨hc1, hc2⟩ := hc
  replace hx := hx.alloc (.cells #[.int .i64 p, .int .i64 c, .int .i64 h, .int .i64 s] 25)
  by_cases hl : (n : Int) = p + 1
  · have hb : ((n : Int) != p + 1) = false := by rw [bne_eq_false_iff_eq]; exact hl
    have HN := Lib.hid hl
    clear hl
    go_enter Try.func70, Try.ntmps70
    go_wp2
    go_loop [5, 18] (fun t i => ∃ j : Nat, j ≤ n ∧ i = .int .i64 j ∧ t = .int .i64 (c - (xs.take j).sum) ∧ soFar c xs j) (fun _ i => n - (intOf i).toNat)
    case atStart => exact ⟨0, Nat.zero_le _, rfl, by simp, soFar_zero (by omega)⟩
    case round =>
      obtain ⟨j, hj, rfl, rfl, hsf⟩ := hrel
      obtain ⟨b1, b2⟩ := soFar_bd hsf
      by_cases hlt : j < n
      · obtain ⟨b, o, x, rfl, hxj, hcell⟩ := hx.at_ hlt
        have HX := Lib.hid hxj
        clear hxj
        by_cases hneg : x < 0
        · have E := Lib.hid (soFar_neg (p := p) (c := c) HX.out hneg)
          go_wp2
          go_ret
          exact ⟨ret_bool E.out.symm, (by repeat (first | exact Past.refl _ | assumption | refine Past.alloc ?_ _ | refine Past.drew ?_ | refine Past.drewN ?_ _ | refine Past.setCell ?_ (by first | (simp; done) | (simp <;> omega)) _ | refine Past.trans ?_ (past_over _ _) | refine Past.trans ?_ (by assumption)))⟩
        · by_cases hbig : c - (xs.take j).sum < x
          · have E := Lib.hid (soFar_big (p := p) (c := c) HX.out hbig)
            go_wp2
            go_ret
            exact ⟨ret_bool E.out.symm, (by repeat (first | exact Past.refl _ | assumption | refine Past.alloc ?_ _ | refine Past.drew ?_ | refine Past.drewN ?_ _ | refine Past.setCell ?_ (by first | (simp; done) | (simp <;> omega)) _ | refine Past.trans ?_ (past_over _ _) | refine Past.trans ?_ (by assumption)))⟩
          · have hsn := soFar_succ hsf HX.out (by omega) (by omega)
            have HS := Lib.hid (sum_take_succ HX.out)
            go_wp2
            go_round
            case rel => exact ⟨j + 1, by omega, by go_num, by rw [HS.out]; go_num, hsn⟩
            case measure => simp [intOf]; omega
      · have E := Lib.hid (soFar_end (p := p) hsf (by rw [HL.out]; exact HN.out) (by rw [HL.out]; omega))
        go_wp2
        go_ret
        exact ⟨ret_bool E.out.symm, (by repeat (first | exact Past.refl _ | assumption | refine Past.alloc ?_ _ | refine Past.drew ?_ | refine Past.drewN ?_ _ | refine Past.setCell ?_ (by first | (simp; done) | (simp <;> omega)) _ | refine Past.trans ?_ (past_over _ _) | refine Past.trans ?_ (by assumption)))⟩
  · have hb : ((n : Int) != p + 1) = true := by rw [bne_iff_ne]; exact hl
    have E := Lib.hid (sOk_len (p := p) (c := c) (xs := xs) (by rw [HL.out]; exact hl))
    clear hl
    go_enter Try.func70, Try.ntmps70
    go_wp2
    go_ret
    exact ⟨ret_bool E.out.symm, (by repeat (first | exact Past.refl _ | assumption | refine Past.alloc ?_ _ | refine Past.drew ?_ | refine Past.drewN ?_ _ | refine Past.setCell ?_ (by first | (simp; done) | (simp <;> omega)) _ | refine Past.trans ?_ (past_over _ _) | refine Past.trans ?_ (by assumption)))⟩
theorem l02Side_any (p c h s : Int) (A : Option Addr) (n k : Nat) (xs : List Int) (w : World) (hx : RdI w A n xs) (hn : n ≤ 1048576) (hp : 2 ≤ p ∧ p ≤ 24) (hc : 1 ≤ c ∧ c ≤ 15) :
    Calls Try.prog 73 #[.agg #[.int .i64 p, .int .i64 c, .int .i64 h, .int .i64 s], .slice A n k] w fun e w' => e = .returned (.bool (sOk p c xs)) ∧ Past w w' := by
  have HL := Lib.hid hx.1
  obtain ⟨hp1, hp2⟩ := hp
  obtain ⟨hc1, hc2⟩ := hc
  replace hx := hx.alloc (.cells #[.int .i64 p, .int .i64 c, .int .i64 h, .int .i64 s] 25)
  by_cases hl : (n : Int) = p + 1
  · have hb : ((n : Int) != p + 1) = false := by rw [bne_eq_false_iff_eq]; exact hl
    have hn25 : n ≤ 25 := by omega
    have HN := Lib.hid hl
    clear hl
    go_enter Try.func73, Try.ntmps73
    go_wp2
    go_loopw [5] (fun i wr => ∃ j : Nat, j ≤ n ∧ i = .int .i64 j ∧ inR c xs j ∧ Past (w.alloc (.cells #[.int .i64 p, .int .i64 c, .int .i64 h, .int .i64 s] 25)) wr) (fun i _ => n - (intOf i).toNat)
    case atStart => exact ⟨0, Nat.zero_le _, rfl, inR_zero, Past.refl _⟩
    case round =>
      obtain ⟨j, hj, rfl, hin, hpast⟩ := hrel
      have hxr := hx.past hpast
      obtain ⟨hcr, hfr, _⟩ := hpast.cells
      have hzr : w.heap.size < wr.heap.size := Past.lt hpast (by first | omega | (simp <;> omega))
      by_cases hlt : j < n
      · obtain ⟨b, o, x, rfl, hxj, hcell⟩ := hxr.at_ hlt
        have HX := Lib.hid hxj
        clear hxj
        have hj0 : (0 : Int) ≤ (j : Int) := by omega
        have hj1 : (j : Int) < (n : Int) := by omega
        by_cases hin2 : 0 ≤ x ∧ x ≤ c
        · have hw := win_mk hin2
          have hsn := inR_succ hin HX.out hin2.1 hin2.2
          clear hin2
          go_wp2
          go_quiet ((go_at_call 68; exact quiet_left (l01In_any _ _ _ _)))
          go_wp2
          go_roundw
          case rel => exact ⟨j + 1, by omega, by go_num, hsn, hpast.drewN _⟩
          case measure => simp [intOf]; omega
        · have hw := win_no hin2
          have E := Lib.hid (inR_not (p := p) HX.out hin2)
          clear hin2
          go_wp2
          go_quiet ((go_at_call 68; exact quiet_left (l01In_any _ _ _ _)))
          go_wp2
          go_ret
          exact ⟨ret_bool E.out.symm, (by repeat (first | exact Past.refl _ | assumption | refine Past.alloc ?_ _ | refine Past.drew ?_ | refine Past.drewN ?_ _ | refine Past.setCell ?_ (by first | (simp; done) | (simp <;> omega)) _ | refine Past.trans ?_ (past_over _ _) | refine Past.trans ?_ (by assumption)))⟩
      · have hall := inR_end hin (by rw [HL.out]; omega)
        have h0 : ∀ x ∈ xs, 0 ≤ x := fun x hx => (hall x hx).1
        have hsum : xs.sum ≤ 1000000 := by
          have h1 := sum_le_of (m := 15) (fun x hx => by have := (hall x hx).2; omega)
          have h2 := HL.out
          omega
        have H0 := Lib.hid h0
        clear hall h0
        by_cases hle : xs.sum ≤ c
        · have E := Lib.hid (sOk_mk (p := p) (c := c) (xs := xs) ⟨by rw [HL.out]; exact HN.out, H0.out, hle⟩)
          go_wp2
          go_quiet ((go_at_call 74; exact quiet_left (sSum_any _ _ _ _ _ (hxr.drewN _) H0.out hsum hn)))
          go_wp2
          go_ret
          exact ⟨ret_bool E.out.symm, (by repeat (first | exact Past.refl _ | assumption | refine Past.alloc ?_ _ | refine Past.drew ?_ | refine Past.drewN ?_ _ | refine Past.setCell ?_ (by first | (simp; done) | (simp <;> omega)) _ | refine Past.trans ?_ (past_over _ _) | refine Past.trans ?_ (by assumption)))⟩
        · have E := Lib.hid (sOk_no (p := p) (c := c) (xs := xs) (fun h => hle h.2.2))
          have hd : decide (xs.sum ≤ c) = false := decide_eq_false hle
          go_wp2
          go_quiet ((go_at_call 74; exact quiet_left (sSum_any _ _ _ _ _ (hxr.drewN _) H0.out hsum hn)))
          go_wp2
          go_ret
          exact ⟨ret_bool E.out.symm, (by repeat (first | exact Past.refl _ | assumption | refine Past.alloc ?_ _ | refine Past.drew ?_ | refine Past.drewN ?_ _ | refine Past.setCell ?_ (by first | (simp; done) | (simp <;> omega)) _ | refine Past.trans ?_ (past_over _ _) | refine Past.trans ?_ (by assumption)))⟩
  · have hb : ((n : Int) != p + 1) = true := by rw [bne_iff_ne]; exact hl
    have E := Lib.hid (sOk_len (p := p) (c := c) (xs := xs) (by rw [HL.out]; exact hl))
    clear hl
    go_enter Try.func73, Try.ntmps73
    go_wp2
    go_ret
    exact ⟨ret_bool E.out.symm, (by repeat (first | exact Past.refl _ | assumption | refine Past.alloc ?_ _ | refine Past.drew ?_ | refine Past.drewN ?_ _ | refine Past.setCell ?_ (by first | (simp; done) | (simp <;> omega)) _ | refine Past.trans ?_ (past_over _ _) | refine Past.trans ?_ (by assumption)))⟩
end Go.Proofs.Ytapocfgajkkpdaa
