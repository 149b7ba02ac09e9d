/-
  Contracts of the reference: whether a board is valid.
-/
import Derived.Test.YtapocfgajkkpdaaSide
namespace Go.Proofs.Ytapocfgajkkpdaa
open Go.ChangeShapes Go.WideShapes Go.ChangeAt Go.RowKit Go.Joins

theorem sIsVar_b (p c h s : Int) (b : Bool) (hv : Hid (vOk p c h s = b)) (w : World) :
    Calls Try.prog 19 #[.agg #[.int .i64 p, .int .i64 c, .int .i64 h, .int .i64 s]] w fun e w' => e = .returned (.bool b) ∧ Past w w' :=
  (sIsVar_any p c h s w).mono fun _ _ ⟨he, hp⟩ => ⟨he.trans (ret_bool hv.out), hp⟩
theorem l02Side_b (p c h s : Int) (A : Option Addr) (n k : Nat) (xs : List Int) (b : Bool) (hs : Hid (sOk p c xs = b)) (w : World) (hx : RdI w A n xs) (hn : n ≤ 1048576) (hp : 2 ≤ p ∧ p ≤ 24) (hc : 1 ≤ c ∧ c ≤ 15) :
    Calls Try.prog 73 #[.agg #[.int .i64 p, .int .i64 c, .int .i64 h, .int .i64 s], .slice A n k] w fun e w' => e = .returned (.bool b) ∧ Past w w' :=
  (l02Side_any p c h s A n k xs w hx hn hp hc).mono fun _ _ ⟨he, hp⟩ => ⟨he.trans (ret_bool hs.out), hp⟩
theorem sSumP (A : Option Addr) (n k : Nat) (xs : List Int) (w : World) (hx : RdI w A n xs) (h0 : ∀ x ∈ xs, 0 ≤ x) (hs : xs.sum ≤ 1000000) (hn : n ≤ 1048576) :
    Calls Try.prog 74 #[.slice A n k] w fun e w' => e = .returned (.int .i64 xs.sum) ∧ Past w w' :=
  (sSum_any A n k xs w hx h0 hs hn).mono fun _ _ ⟨he, hw⟩ => ⟨he, hw ▸ Past.refl _⟩
theorem sIsBoard_any (p c h s : Int) (A D : Option Addr) (n k m l : Nat) (xs ys : List Int) (w : World) (hx : RdI w A n xs) (hy : RdI w D m ys) (hn : n ≤ 1048576) (hm : m ≤ 1048576) :
    Calls Try.prog 26 #[.agg #[.int .i64 p, .int .i64 c, .int .i64 h, .int .i64 s], .agg #[.slice A n k, .slice D m l]] w fun e w' => e = .returned (.bool (bOk p c h s xs ys)) ∧ Past w w' := by
  cases hv : vOk p c h s
  · rw [bOk_v hv]
    have HV := Lib.hid hv
    clear hv
    go_enter Try.func26, Try.ntmps26
    go_wp2_with fail
    refine wp_region_over (by kernel_rfl) (by kernel_rfl) ?_
    repeat (go_big_quiet_step ((first | (go_at_call 19; exact over_of (sIsVar_b _ _ _ _ _ HV _)))))
    refine wpQuiet_nil ?_
    intro w1 hb1
    obtain ⟨hc1, hf1, _⟩ := hb1.cells
    go_wp2
    go_ret
    exact ⟨rfl, (by repeat (first | exact Past.refl _ | assumption | refine Past.alloc ?_ _ | refine Past.drew ?_ | refine Past.drewN ?_ _ | refine Past.setCell ?_ (by first | (simp; done) | (simp <;> omega)) _ | refine Past.trans ?_ (past_over _ _) | refine Past.trans ?_ (by assumption)))⟩
  have HV := Lib.hid hv
  clear hv
  obtain ⟨hp, hc, _, _⟩ := vOk_yes HV.out
  cases hsx : sOk p c xs
  · rw [bOk_x hsx]
    have HSX := Lib.hid hsx
    clear hsx
    go_enter Try.func26, Try.ntmps26
    go_wp2_with fail
    refine wp_region_over (by kernel_rfl) (by kernel_rfl) ?_
    repeat (go_big_quiet_step ((first | (go_at_call 19; exact over_of (sIsVar_b _ _ _ _ _ HV _)) | (go_at_call 73; exact over_of (l02Side_b _ _ _ _ _ _ _ _ _ HSX _ (hx.past (by repeat (first | exact Past.refl _ | assumption | refine Past.alloc ?_ _ | refine Past.drew ?_ | refine Past.drewN ?_ _ | refine Past.setCell ?_ (by first | (simp; done) | (simp <;> omega)) _ | refine Past.trans ?_ (past_over _ _) | refine Past.trans ?_ (by assumption)))) hn hp hc)))))
    refine wpQuiet_nil ?_
    intro w1 hb1
    obtain ⟨hc1, hf1, _⟩ := hb1.cells
    go_wp2
    go_ret
    exact ⟨rfl, (by repeat (first | exact Past.refl _ | assumption | refine Past.alloc ?_ _ | refine Past.drew ?_ | refine Past.drewN ?_ _ | refine Past.setCell ?_ (by first | (simp; done) | (simp <;> omega)) _ | refine Past.trans ?_ (past_over _ _) | refine Past.trans ?_ (by assumption)))⟩
  have HSX := Lib.hid hsx
  clear hsx
  cases hsy : sOk p c ys
  · rw [bOk_y hsy]
    have HSY := Lib.hid hsy
    clear hsy
    go_enter Try.func26, Try.ntmps26
    go_wp2_with fail
    refine wp_region_over (by kernel_rfl) (by kernel_rfl) ?_
    repeat (go_big_quiet_step ((first | (go_at_call 19; exact over_of (sIsVar_b _ _ _ _ _ HV _)) | (go_at_call 73; exact over_of (l02Side_b _ _ _ _ _ _ _ _ _ HSX _ (hx.past (by repeat (first | exact Past.refl _ | assumption | refine Past.alloc ?_ _ | refine Past.drew ?_ | refine Past.drewN ?_ _ | refine Past.setCell ?_ (by first | (simp; done) | (simp <;> omega)) _ | refine Past.trans ?_ (past_over _ _) | refine Past.trans ?_ (by assumption)))) hn hp hc)) | (go_at_call 73; exact over_of (l02Side_b _ _ _ _ _ _ _ _ _ HSY _ (hy.past (by repeat (first | exact Past.refl _ | assumption | refine Past.alloc ?_ _ | refine Past.drew ?_ | refine Past.drewN ?_ _ | refine Past.setCell ?_ (by first | (simp; done) | (simp <;> omega)) _ | refine Past.trans ?_ (past_over _ _) | refine Past.trans ?_ (by assumption)))) hm hp hc)))))
    refine wpQuiet_nil ?_
    intro w1 hb1
    obtain ⟨hc1, hf1, _⟩ := hb1.cells
    go_wp2
    go_ret
    exact ⟨rfl, (by repeat (first | exact Past.refl _ | assumption | refine Past.alloc ?_ _ | refine Past.drew ?_ | refine Past.drewN ?_ _ | refine Past.setCell ?_ (by first | (simp; done) | (simp <;> omega)) _ | refine Past.trans ?_ (past_over _ _) | refine Past.trans ?_ (by assumption)))⟩
  have HSY := Lib.hid hsy
  clear hsy
  have hyx := sOk_yes HSX.out
  have hyy := sOk_yes HSY.out
  have h0x := Lib.hid hyx.2.1
  have h0y := Lib.hid hyy.2.1
  have ux : xs.sum ≤ 1000000 := by have := hyx.2.2; omega
  have uy : ys.sum ≤ 1000000 := by have := hyy.2.2; omega
  have nx := sum_nonneg h0x.out
  have ny := sum_nonneg h0y.out
  have lx := Lib.hid hyx.1
  have ly := Lib.hid hyy.1
  clear hyx hyy
  by_cases hz : xs.sum = 0 ∧ ys.sum = 0
  · obtain ⟨zx, zy⟩ := hz
    have E := Lib.hid (bOk_sum (p := p) (c := c) (h := h) (s := s) (xs := xs) (ys := ys) (by omega))
    have bx : (xs.sum + ys.sum == 0) = true := beq_iff_eq.2 (by omega)
    clear zx zy
    go_enter Try.func26, Try.ntmps26
    go_wp2_with fail
    refine wp_region_over (by kernel_rfl) (by kernel_rfl) ?_
    repeat (go_big_quiet_step ((first | (go_at_call 19; exact over_of (sIsVar_b _ _ _ _ _ HV _)) | (go_at_call 73; exact over_of (l02Side_b _ _ _ _ _ _ _ _ _ HSX _ (hx.past (by repeat (first | exact Past.refl _ | assumption | refine Past.alloc ?_ _ | refine Past.drew ?_ | refine Past.drewN ?_ _ | refine Past.setCell ?_ (by first | (simp; done) | (simp <;> omega)) _ | refine Past.trans ?_ (past_over _ _) | refine Past.trans ?_ (by assumption)))) hn hp hc)) | (go_at_call 73; exact over_of (l02Side_b _ _ _ _ _ _ _ _ _ HSY _ (hy.past (by repeat (first | exact Past.refl _ | assumption | refine Past.alloc ?_ _ | refine Past.drew ?_ | refine Past.drewN ?_ _ | refine Past.setCell ?_ (by first | (simp; done) | (simp <;> omega)) _ | refine Past.trans ?_ (past_over _ _) | refine Past.trans ?_ (by assumption)))) hm hp hc)) | (go_at_call 74; exact over_same (sSum_any _ _ _ _ _ (hx.past (by repeat (first | exact Past.refl _ | assumption | refine Past.alloc ?_ _ | refine Past.drew ?_ | refine Past.drewN ?_ _ | refine Past.setCell ?_ (by first | (simp; done) | (simp <;> omega)) _ | refine Past.trans ?_ (past_over _ _) | refine Past.trans ?_ (by assumption)))) h0x.out ux hn)) | (go_at_call 74; exact over_same (sSum_any _ _ _ _ _ (hy.past (by repeat (first | exact Past.refl _ | assumption | refine Past.alloc ?_ _ | refine Past.drew ?_ | refine Past.drewN ?_ _ | refine Past.setCell ?_ (by first | (simp; done) | (simp <;> omega)) _ | refine Past.trans ?_ (past_over _ _) | refine Past.trans ?_ (by assumption)))) h0y.out uy hm)))))
    refine wpQuiet_nil ?_
    intro w1 hb1
    obtain ⟨hc1, hf1, _⟩ := hb1.cells
    go_wp2
    go_ret
    exact ⟨ret_bool E.out.symm, (by repeat (first | exact Past.refl _ | assumption | refine Past.alloc ?_ _ | refine Past.drew ?_ | refine Past.drewN ?_ _ | refine Past.setCell ?_ (by first | (simp; done) | (simp <;> omega)) _ | refine Past.trans ?_ (past_over _ _) | refine Past.trans ?_ (by assumption)))⟩
  obtain ⟨P, rfl⟩ := Int.eq_ofNat_of_zero_le (show 0 ≤ p from by omega)
  have E := Lib.hid (bOk_apart (h := h) (s := s) HV.out HSX.out HSY.out (show 0 < xs.sum + ys.sum from by omega))
  have ln : n = P + 1 := by have := lx.out; have := hx.1; omega
  have lm : m = P + 1 := by have := ly.out; have := hy.1; omega
  have g1 : (P : Int) < (n : Int) := by omega
  have g2 : (P : Int) < (m : Int) := by omega
  have LN := Lib.hid ln
  have LM := Lib.hid lm
  clear ln lm
  have bx : (xs.sum + ys.sum == 0) = false := beq_eq_false_iff_ne.2 (by omega)
  clear hz
  go_enter Try.func26, Try.ntmps26
  go_wp2_with fail
  refine wp_region_over (by kernel_rfl) (by kernel_rfl) ?_
  repeat (go_big_quiet_step ((first | (go_at_call 19; exact over_of (sIsVar_b _ _ _ _ _ HV _)) | (go_at_call 73; exact over_of (l02Side_b _ _ _ _ _ _ _ _ _ HSX _ (hx.past (by repeat (first | exact Past.refl _ | assumption | refine Past.alloc ?_ _ | refine Past.drew ?_ | refine Past.drewN ?_ _ | refine Past.setCell ?_ (by first | (simp; done) | (simp <;> omega)) _ | refine Past.trans ?_ (past_over _ _) | refine Past.trans ?_ (by assumption)))) hn hp hc)) | (go_at_call 73; exact over_of (l02Side_b _ _ _ _ _ _ _ _ _ HSY _ (hy.past (by repeat (first | exact Past.refl _ | assumption | refine Past.alloc ?_ _ | refine Past.drew ?_ | refine Past.drewN ?_ _ | refine Past.setCell ?_ (by first | (simp; done) | (simp <;> omega)) _ | refine Past.trans ?_ (past_over _ _) | refine Past.trans ?_ (by assumption)))) hm hp hc)) | (go_at_call 74; exact over_same (sSum_any _ _ _ _ _ (hx.past (by repeat (first | exact Past.refl _ | assumption | refine Past.alloc ?_ _ | refine Past.drew ?_ | refine Past.drewN ?_ _ | refine Past.setCell ?_ (by first | (simp; done) | (simp <;> omega)) _ | refine Past.trans ?_ (past_over _ _) | refine Past.trans ?_ (by assumption)))) h0x.out ux hn)) | (go_at_call 74; exact over_same (sSum_any _ _ _ _ _ (hy.past (by repeat (first | exact Past.refl _ | assumption | refine Past.alloc ?_ _ | refine Past.drew ?_ | refine Past.drewN ?_ _ | refine Past.setCell ?_ (by first | (simp; done) | (simp <;> omega)) _ | refine Past.trans ?_ (past_over _ _) | refine Past.trans ?_ (by assumption)))) h0y.out uy hm)))))
  refine wpQuiet_nil ?_
  intro w1 hb1
  obtain ⟨hc1, hf1, _⟩ := hb1.cells
  go_wp2
  have hxr : RdI w1 A n xs := hx.past (by repeat (first | exact Past.refl _ | assumption | refine Past.alloc ?_ _ | refine Past.drew ?_ | refine Past.drewN ?_ _ | refine Past.setCell ?_ (by first | (simp; done) | (simp <;> omega)) _ | refine Past.trans ?_ (past_over _ _) | refine Past.trans ?_ (by assumption)))
  have hyr : RdI w1 D m ys := hy.past (by repeat (first | exact Past.refl _ | assumption | refine Past.alloc ?_ _ | refine Past.drew ?_ | refine Past.drewN ?_ _ | refine Past.setCell ?_ (by first | (simp; done) | (simp <;> omega)) _ | refine Past.trans ?_ (past_over _ _) | refine Past.trans ?_ (by assumption)))
  go_loop [5] (fun i => ∃ j : Nat, j ≤ P ∧ i = .int .i64 j ∧ apartTo P j xs ys) (fun i => P - (intOf i).toNat)
  case atStart => exact ⟨0, Nat.zero_le _, rfl, apartTo_zero⟩
  case round =>
    obtain ⟨j, hj, rfl, hap⟩ := hrel
    by_cases hlt : j < P
    · obtain ⟨b, o, x, rfl, hxj, hcx⟩ := hxr.at_ (j := j) (by omega)
      obtain ⟨b', o', y, rfl, hyj, hcy⟩ := hyr.at_ (j := P - 1 - j) (by omega)
      have HX := Lib.hid hxj
      have HY := Lib.hid hyj
      clear hxj hyj
      by_cases hpx : 0 < x
      · by_cases hpy : 0 < y
        · have F := Lib.hid (apartB_no HX.out HY.out hlt ⟨hpx, hpy⟩)
          go_wp2
          go_ret
          exact ⟨ret_bool (by rw [E.out]; exact F.out.symm), (by repeat (first | exact Past.refl _ | assumption | refine Past.alloc ?_ _ | refine Past.drew ?_ | refine Past.drewN ?_ _ | refine Past.setCell ?_ (by first | (simp; done) | (simp <;> omega)) _ | refine Past.trans ?_ (past_over _ _) | refine Past.trans ?_ (by assumption)))⟩
        · have hn2 := apartTo_succ hap HX.out HY.out (fun h => hpy h.2)
          go_wp2
          go_round
          case rel => exact ⟨j + 1, by omega, by go_num, hn2⟩
          case measure => simp [intOf]; omega
      · have hn2 := apartTo_succ hap HX.out HY.out (fun h => hpx h.1)
        go_wp2
        go_round
        case rel => exact ⟨j + 1, by omega, by go_num, hn2⟩
        case measure => simp [intOf]; omega
    · have F := Lib.hid (apartB_end hap (by omega))
      go_wp2
      go_ret
      exact ⟨ret_bool (by rw [E.out]; exact F.out.symm), (by repeat (first | exact Past.refl _ | assumption | refine Past.alloc ?_ _ | refine Past.drew ?_ | refine Past.drewN ?_ _ | refine Past.setCell ?_ (by first | (simp; done) | (simp <;> omega)) _ | refine Past.trans ?_ (past_over _ _) | refine Past.trans ?_ (by assumption)))⟩
end Go.Proofs.Ytapocfgajkkpdaa
