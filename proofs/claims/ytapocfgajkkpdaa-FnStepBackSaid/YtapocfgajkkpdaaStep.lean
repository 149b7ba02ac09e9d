/-
  Contracts: the step of a checker with a die.
-/
import Derived.Test.YtapocfgajkkpdaaLook2
import Derived.Test.YtapocfgajkkpdaaStp
import Derived.Outline
namespace Go.Proofs.Ytapocfgajkkpdaa
open Go.ChangeShapes Go.WideShapes Go.ChangeAt Go.RowKit Go.Joins

theorem openPt_b (P : Nat) (i c h s : Int) (A D : Option Addr) (n k m l : Nat) (ys : List Int) (b : Bool) (w : World) (hb : Hid (decide (gAt ys ((P : Int) - 1 - i) ≤ 1) = b)) (hy : RdI w D m ys) (h0 : 0 ≤ i) (h1 : i < P) (hm : m = P + 1) (hP : P ≤ 24) :
    Calls Try.prog 115 #[.agg #[.int .i64 (P : Int), .int .i64 c, .int .i64 h, .int .i64 s], .agg #[.slice A n k, .slice D m l], .int .i64 i] w fun e w' => e = .returned (.bool b) ∧ Past w w' := by
  obtain ⟨I, rfl⟩ := Int.eq_ofNat_of_zero_le h0
  refine (openPoint P I c h s A D n k m l ys w hy (by omega) hm hP).mono fun e w' ⟨he, hp⟩ => ⟨he.trans (ret_bool ?_), hp⟩
  rw [← hb.out, openF, gAt, show ((P : Int) - 1 - (I : Int)).toNat = P - 1 - I from by omega]
theorem sOpenPt_b (P : Nat) (i c h s : Int) (A D : Option Addr) (n k m l : Nat) (ys : List Int) (b : Bool) (w : World) (hb : Hid (decide (gAt ys ((P : Int) - 1 - i) ≤ 1) = b)) (hy : RdI w D m ys) (h0 : 0 ≤ i) (h1 : i < P) (hm : m = P + 1) (hP : P ≤ 24) :
    Calls Try.prog 117 #[.agg #[.int .i64 (P : Int), .int .i64 c, .int .i64 h, .int .i64 s], .agg #[.slice A n k, .slice D m l], .int .i64 i] w fun e w' => e = .returned (.bool b) ∧ Past w w' := by
  obtain ⟨I, rfl⟩ := Int.eq_ofNat_of_zero_le h0
  refine (sOpenPoint P I c h s A D n k m l ys w hy (by omega) hm hP).mono fun e w' ⟨he, hp⟩ => ⟨he.trans (ret_bool ?_), hp⟩
  rw [← hb.out, openF, gAt, show ((P : Int) - 1 - (I : Int)).toNat = P - 1 - I from by omega]
set_option maxHeartbeats 4000000 in
theorem stepFrom_any (P : Nat) (c h s f d : Int) (A D : Option Addr) (n k m l : Nat) (xs ys : List Int) (w : World) (hx : RdI w A n xs) (hy : RdI w D m ys) (hn : n = P + 1) (hm : m = P + 1) (hP : P ≤ 24) (f0 : 0 ≤ f) (f1 : f ≤ P) (d0 : 1 ≤ d) (d1 : d ≤ 6) :
    Calls Try.prog 109 #[.agg #[.int .i64 (P : Int), .int .i64 c, .int .i64 h, .int .i64 s], .agg #[.slice A n k, .slice D m l], .int .i64 f, .int .i64 d] w fun e w' => e = .returned (sfV P h xs ys f d) ∧ Past w w' := by
  obtain ⟨F, rfl⟩ := Int.eq_ofNat_of_zero_le f0
  have g1 : (P : Int) < (n : Int) := by omega
  have g2 : (P : Int) < (m : Int) := by omega
  have HN := Lib.hid hn
  have HM := Lib.hid hm
  have hn2 : n ≤ 1048576 := by omega
  clear hn hm
  have bx := lastF_bd xs
  rw [hx.1] at bx
  obtain ⟨bx1, bx2⟩ := bx
  obtain ⟨b, o, x, rfl, hxj, hcx⟩ := hx.at_ (j := F) (by omega)
  obtain ⟨b', o', z, e', hzj, hcz⟩ := hx.at_ (j := P) (by omega)
  simp only [Option.some.injEq, Addr.mk.injEq, and_true] at e'
  obtain ⟨rfl, rfl⟩ := e'
  have ex := gAt_of hxj (rfl : (F : Int) = F)
  have ez := gAt_of hzj (rfl : (P : Int) = P)
  have EX := Lib.hid ex
  have EZ := Lib.hid ez
  have ub := World.block_lt_of_cell? w _ hcx
  simp only at ub
  have fx := far3 hcx
  have fz := far3 hcz
  clear hxj hzj ex ez
  by_cases hx0 : x = 0
  · have E := Lib.hid (sfV_no (p := P) (h := h) (ys := ys) (d := d) (stOk_x (f := F) (EX.out.trans hx0)))
    have hb : (x == 0) = true := beq_iff_eq.2 hx0
    clear hx0
    go_enter Try.func109, Try.ntmps109
    go_wp2
    exact bodyPost_ret (v := .tuple #[.agg #[.int .i64 0, .int .i64 0, .int .i64 0, .bool false], .bool false]) (by simp [*, results, Try.results109, go_sem]) rfl ⟨by rw [E.out], (by repeat (first | exact Past.refl _ | assumption | refine Past.alloc ?_ _ | refine Past.drew ?_ | refine Past.drewN ?_ _ | refine Past.setCell ?_ (by first | (simp; done) | (simp <;> omega)) _ | refine Past.trans ?_ (past_over _ _) | refine Past.trans ?_ (by assumption)))⟩
  have hb : (x == 0) = false := beq_eq_false_iff_ne.2 hx0
  by_cases hbar : 0 < z ∧ ¬ F = P
  · have E := Lib.hid (sfV_no (p := P) (h := h) (ys := ys) (d := d) (stOk_bar (f := F) (by rw [EZ.out]; exact hbar.1) (by have := hbar.2; omega)))
    have hb2 : ((F : Int) != (P : Int)) = true := by rw [bne_iff_ne]; have := hbar.2; omega
    obtain ⟨hz, _⟩ := hbar
    clear hx0
    go_enter Try.func109, Try.ntmps109
    go_wp2
    exact bodyPost_ret (v := .tuple #[.agg #[.int .i64 0, .int .i64 0, .int .i64 0, .bool false], .bool false]) (by simp [*, results, Try.results109, go_sem]) rfl ⟨by rw [E.out], (by repeat (first | exact Past.refl _ | assumption | refine Past.alloc ?_ _ | refine Past.drew ?_ | refine Past.drewN ?_ _ | refine Past.setCell ?_ (by first | (simp; done) | (simp <;> omega)) _ | refine Past.trans ?_ (past_over _ _) | refine Past.trans ?_ (by assumption)))⟩
  have hbar2 : ¬ 0 < gAt xs P ∨ (F : Int) = P := by
    rw [EZ.out]
    by_cases hz : 0 < z
    · exact .inr (by have : ¬ ¬ F = P := fun h => hbar ⟨hz, h⟩; omega)
    · exact .inl hz
  have HB := Lib.hid hbar2
  have hx1 : ¬ gAt xs F = 0 := by rw [EX.out]; exact hx0
  have HX := Lib.hid hx1
  have hbz : ¬ 0 < z ∨ (0 < z ∧ ((F : Int) != (P : Int)) = false) := by
    by_cases hz : 0 < z
    · exact .inr ⟨hz, by rw [bne_eq_false_iff_eq]; have : ¬ ¬ F = P := fun h => hbar ⟨hz, h⟩; omega⟩
    · exact .inl hz
  clear hbar2 hx1 hx0 hbar
  by_cases hto : 0 ≤ (F : Int) - d
  · obtain ⟨b', o', y, rfl, hyj, hcy⟩ := hy.at_ (j := P - 1 - (F - d.toNat)) (by omega)
    have ey := gAt_of (i := (P : Int) - 1 - ((F : Int) - d)) hyj (by omega)
    have EY := Lib.hid ey
    have hto2 : d ≤ (F : Int) := by omega
    have hyj2 : ((P : Int) - 1 - ((F : Int) - d)).toNat = P - 1 - (F - d.toNat) := by omega
    rw [← hyj2] at hcy
    clear hyj ey hyj2
    cases ho : decide (gAt ys ((P : Int) - 1 - ((F : Int) - d)) ≤ 1)
    · have E := Lib.hid (sfV_no (p := P) (h := h) (f := F) (d := d) ((stOk_in HX.out HB.out hto).trans ho))
      have HO := Lib.hid ho
      clear ho
      rcases hbz with hz | ⟨hz, hb2⟩
      all_goals
        go_enter Try.func109, Try.ntmps109
        go_wp2_with (go_at_call 115; (with_reducible refine (openPt_b _ _ _ _ _ _ _ _ _ _ _ _ _ _ HO (hy.past (by repeat (first | exact Past.refl _ | assumption | refine Past.alloc ?_ _ | refine Past.drew ?_ | refine Past.drewN ?_ _ | refine Past.setCell ?_ (by first | (simp; done) | (simp <;> omega)) _ | refine Past.trans ?_ (past_over _ _) | refine Past.trans ?_ (by assumption)))) (by omega) (by omega) HM.out (by omega)).mono ?_); rintro e w1 ⟨rfl, hb1⟩; obtain ⟨hc1, hf1, _⟩ := hb1.cells; have hz1_0 : w.heap.size < w1.heap.size := Past.lt hb1 (by first | omega | (simp <;> omega)); have hz1_1 : w.heap.size + 1 < w1.heap.size := Past.lt hb1 (by first | omega | (simp <;> omega)); have hz1_2 : w.heap.size + 2 < w1.heap.size := Past.lt hb1 (by first | omega | (simp <;> omega)))
        exact bodyPost_ret (v := .tuple #[.agg #[.int .i64 0, .int .i64 0, .int .i64 0, .bool false], .bool false]) (by simp [*, results, Try.results109, go_sem]) rfl ⟨by rw [E.out], (by repeat (first | exact Past.refl _ | assumption | refine Past.alloc ?_ _ | refine Past.drew ?_ | refine Past.drewN ?_ _ | refine Past.setCell ?_ (by first | (simp; done) | (simp <;> omega)) _ | refine Past.trans ?_ (past_over _ _) | refine Past.trans ?_ (by assumption)))⟩
    · have E := Lib.hid (sfV_in (p := P) (h := h) (f := F) (d := d) ((stOk_in HX.out HB.out hto).trans ho) hto)
      have HO := Lib.hid ho
      clear ho
      rcases hbz with hz | ⟨hz, hb2⟩
      all_goals
        go_enter Try.func109, Try.ntmps109
        go_wp2_with (go_at_call 115; (with_reducible refine (openPt_b _ _ _ _ _ _ _ _ _ _ _ _ _ _ HO (hy.past (by repeat (first | exact Past.refl _ | assumption | refine Past.alloc ?_ _ | refine Past.drew ?_ | refine Past.drewN ?_ _ | refine Past.setCell ?_ (by first | (simp; done) | (simp <;> omega)) _ | refine Past.trans ?_ (past_over _ _) | refine Past.trans ?_ (by assumption)))) (by omega) (by omega) HM.out (by omega)).mono ?_); rintro e w1 ⟨rfl, hb1⟩; obtain ⟨hc1, hf1, _⟩ := hb1.cells; have hz1_0 : w.heap.size < w1.heap.size := Past.lt hb1 (by first | omega | (simp <;> omega)); have hz1_1 : w.heap.size + 1 < w1.heap.size := Past.lt hb1 (by first | omega | (simp <;> omega)); have hz1_2 : w.heap.size + 2 < w1.heap.size := Past.lt hb1 (by first | omega | (simp <;> omega)); have fy := hb1.keep (far3 hcy _ _ _))
        exact bodyPost_ret (v := .tuple #[.agg #[.int .i64 F, .int .i64 (F - d), .int .i64 d, .bool (y == 1)], .bool true]) (by simp [*, results, Try.results109, go_sem]) rfl ⟨by rw [E.out, EY.out], (by repeat (first | exact Past.refl _ | assumption | refine Past.alloc ?_ _ | refine Past.drew ?_ | refine Past.drewN ?_ _ | refine Past.setCell ?_ (by first | (simp; done) | (simp <;> omega)) _ | refine Past.trans ?_ (past_over _ _) | refine Past.trans ?_ (by assumption)))⟩
  · have hto2 : (F : Int) < d := by omega
    by_cases htop : h ≤ lastF xs
    · have E := Lib.hid (sfV_no (p := P) (h := h) (f := F) (d := d) (ys := ys) ((stOk_off HX.out HB.out hto).trans (by rw [decide_eq_false (by omega), Bool.false_and])))
      rcases hbz with hz | ⟨hz, hb2⟩
      all_goals
        go_enter Try.func109, Try.ntmps109
        go_wp2_with (go_at_call 106; (with_reducible refine (last_any _ _ _ _ _ (hx.past (by repeat (first | exact Past.refl _ | assumption | refine Past.alloc ?_ _ | refine Past.drew ?_ | refine Past.drewN ?_ _ | refine Past.setCell ?_ (by first | (simp; done) | (simp <;> omega)) _ | refine Past.trans ?_ (past_over _ _) | refine Past.trans ?_ (by assumption)))) hn2).mono ?_); rintro e w9 ⟨rfl, rfl⟩)
        exact bodyPost_ret (v := .tuple #[.agg #[.int .i64 0, .int .i64 0, .int .i64 0, .bool false], .bool false]) (by simp [*, results, Try.results109, go_sem]) rfl ⟨by rw [E.out], (by repeat (first | exact Past.refl _ | assumption | refine Past.alloc ?_ _ | refine Past.drew ?_ | refine Past.drewN ?_ _ | refine Past.setCell ?_ (by first | (simp; done) | (simp <;> omega)) _ | refine Past.trans ?_ (past_over _ _) | refine Past.trans ?_ (by assumption)))⟩
    · by_cases hq : (F : Int) = d - 1
      · have E := Lib.hid (sfV_off (p := P) (h := h) (f := F) (d := d) (ys := ys) ((stOk_off HX.out HB.out hto).trans (by rw [decide_eq_true (by omega), decide_eq_true hq]; rfl)) hto)
        have hb3 : ((F : Int) != d - 1) = false := by rw [bne_eq_false_iff_eq]; exact hq
        clear hq
        rcases hbz with hz | ⟨hz, hb2⟩
        all_goals
          go_enter Try.func109, Try.ntmps109
          go_wp2_with (go_at_call 106; (with_reducible refine (last_any _ _ _ _ _ (hx.past (by repeat (first | exact Past.refl _ | assumption | refine Past.alloc ?_ _ | refine Past.drew ?_ | refine Past.drewN ?_ _ | refine Past.setCell ?_ (by first | (simp; done) | (simp <;> omega)) _ | refine Past.trans ?_ (past_over _ _) | refine Past.trans ?_ (by assumption)))) hn2).mono ?_); rintro e w9 ⟨rfl, rfl⟩)
          exact bodyPost_ret (v := .tuple #[.agg #[.int .i64 F, .int .i64 (-1), .int .i64 d, .bool false], .bool true]) (by simp [*, results, Try.results109, go_sem]) rfl ⟨by rw [E.out], (by repeat (first | exact Past.refl _ | assumption | refine Past.alloc ?_ _ | refine Past.drew ?_ | refine Past.drewN ?_ _ | refine Past.setCell ?_ (by first | (simp; done) | (simp <;> omega)) _ | refine Past.trans ?_ (past_over _ _) | refine Past.trans ?_ (by assumption)))⟩
      · have hb3 : ((F : Int) != d - 1) = true := by rw [bne_iff_ne]; exact hq
        by_cases hlt : lastF xs ≤ F
        · have E := Lib.hid (sfV_off (p := P) (h := h) (f := F) (d := d) (ys := ys) ((stOk_off HX.out HB.out hto).trans (by rw [decide_eq_true (by omega), decide_eq_true hlt, Bool.or_true]; rfl)) hto)
          clear hq
          rcases hbz with hz | ⟨hz, hb2⟩
          all_goals
            go_enter Try.func109, Try.ntmps109
            go_wp2_with (go_at_call 106; (with_reducible refine (last_any _ _ _ _ _ (hx.past (by repeat (first | exact Past.refl _ | assumption | refine Past.alloc ?_ _ | refine Past.drew ?_ | refine Past.drewN ?_ _ | refine Past.setCell ?_ (by first | (simp; done) | (simp <;> omega)) _ | refine Past.trans ?_ (past_over _ _) | refine Past.trans ?_ (by assumption)))) hn2).mono ?_); rintro e w9 ⟨rfl, rfl⟩)
            exact bodyPost_ret (v := .tuple #[.agg #[.int .i64 F, .int .i64 (-1), .int .i64 d, .bool false], .bool true]) (by simp [*, results, Try.results109, go_sem]) rfl ⟨by rw [E.out], (by repeat (first | exact Past.refl _ | assumption | refine Past.alloc ?_ _ | refine Past.drew ?_ | refine Past.drewN ?_ _ | refine Past.setCell ?_ (by first | (simp; done) | (simp <;> omega)) _ | refine Past.trans ?_ (past_over _ _) | refine Past.trans ?_ (by assumption)))⟩
        · have E := Lib.hid (sfV_no (p := P) (h := h) (f := F) (d := d) (ys := ys) ((stOk_off HX.out HB.out hto).trans (by rw [decide_eq_false hq, decide_eq_false hlt]; simp)))
          clear hq
          rcases hbz with hz | ⟨hz, hb2⟩
          all_goals
            go_enter Try.func109, Try.ntmps109
            go_wp2_with (go_at_call 106; (with_reducible refine (last_any _ _ _ _ _ (hx.past (by repeat (first | exact Past.refl _ | assumption | refine Past.alloc ?_ _ | refine Past.drew ?_ | refine Past.drewN ?_ _ | refine Past.setCell ?_ (by first | (simp; done) | (simp <;> omega)) _ | refine Past.trans ?_ (past_over _ _) | refine Past.trans ?_ (by assumption)))) hn2).mono ?_); rintro e w9 ⟨rfl, rfl⟩)
            exact bodyPost_ret (v := .tuple #[.agg #[.int .i64 0, .int .i64 0, .int .i64 0, .bool false], .bool false]) (by simp [*, results, Try.results109, go_sem]) rfl ⟨by rw [E.out], (by repeat (first | exact Past.refl _ | assumption | refine Past.alloc ?_ _ | refine Past.drew ?_ | refine Past.drewN ?_ _ | refine Past.setCell ?_ (by first | (simp; done) | (simp <;> omega)) _ | refine Past.trans ?_ (past_over _ _) | refine Past.trans ?_ (by assumption)))⟩
end Go.Proofs.Ytapocfgajkkpdaa
