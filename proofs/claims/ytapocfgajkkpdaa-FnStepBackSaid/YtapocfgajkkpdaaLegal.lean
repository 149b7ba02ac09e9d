/-
  Contracts: whether a step is legal.
-/
import Derived.Test.YtapocfgajkkpdaaSteps
import Derived.Outline
namespace Go.Proofs.Ytapocfgajkkpdaa
open Go.ChangeShapes Go.WideShapes Go.ChangeAt Go.RowKit Go.Joins

theorem legB_over {p h s : Int} {xs ys : List Int} {a : Stp} (ho : overF xs ys = true) : legB p h s xs ys a = false := by simp [legB, ho]
theorem legB_d {p h s : Int} {xs ys : List Int} {a : Stp} (hw : win a.d 1 s = false) : legB p h s xs ys a = false := by simp [legB, hw]
theorem legB_f {p h s : Int} {xs ys : List Int} {a : Stp} (hw : win a.f 0 p = false) : legB p h s xs ys a = false := by simp [legB, hw]
theorem legB_no {p h s : Int} {xs ys : List Int} {a : Stp} (hw : stOk p h xs ys a.f a.d = false) : legB p h s xs ys a = false := by simp [legB, hw]
theorem legB_yes {p h s : Int} {xs ys : List Int} {a : Stp} (ho : overF xs ys = false) (h1 : win a.d 1 s = true) (h2 : win a.f 0 p = true) (h3 : stOk p h xs ys a.f a.d = true) : legB p h s xs ys a = Stp.same (stp p ys a.f a.d) a := by simp [legB, ho, h1, h2, h3]
theorem within_b (x lo hi : Int) (b : Bool) (hb : Hid (win x lo hi = b)) (w : World) :
    Calls Try.prog 71 #[.int .i64 x, .int .i64 lo, .int .i64 hi] w fun e w' => e = .returned (.bool b) ∧ w = w' :=
  (within_any x lo hi w).mono fun _ _ ⟨he, hp⟩ => ⟨he.trans (ret_bool hb.out), hp⟩
theorem l01In_b (x lo hi : Int) (b : Bool) (hb : Hid (win x lo hi = b)) (w : World) :
    Calls Try.prog 68 #[.int .i64 x, .int .i64 lo, .int .i64 hi] w fun e w' => e = .returned (.bool b) ∧ w = w' :=
  (l01In_any x lo hi w).mono fun _ _ ⟨he, hp⟩ => ⟨he.trans (ret_bool hb.out), hp⟩
set_option maxHeartbeats 4000000 in
theorem legalStep_any (P : Nat) (c h s kf kt kd : Int) (kx : Bool) (A D : Option Addr) (n k m l : Nat) (xs ys : List Int) (w : World) (hx : RdI w A n xs) (hy : RdI w D m ys) (hn : n = P + 1) (hm : m = P + 1) (hP : P ≤ 24) (s1 : s ≤ 6)
    (h0x : Hid (∀ x ∈ xs, 0 ≤ x)) (h0y : Hid (∀ x ∈ ys, 0 ≤ x)) (ux : xs.sum ≤ 1000000) (uy : ys.sum ≤ 1000000) :
    Calls Try.prog 91 #[.agg #[.int .i64 (P : Int), .int .i64 c, .int .i64 h, .int .i64 s], .agg #[.slice A n k, .slice D m l], .agg #[.int .i64 kf, .int .i64 kt, .int .i64 kd, .bool kx]] w fun e w' => e = .returned (.bool (legB P h s xs ys ⟨kf, kt, kd, kx⟩)) ∧ Past w w' := by
  have HN := Lib.hid hn
  have HM := Lib.hid hm
  have hn2 : n ≤ 1048576 := by omega
  have hm2 : m ≤ 1048576 := by omega
  clear hn hm
  cases ho : overF xs ys
  · have HO := Lib.hid ho
    clear ho
    cases hwd : win kd 1 s
    · rw [legB_d (a := ⟨kf, kt, kd, kx⟩) hwd]
      have HD := Lib.hid hwd
      clear hwd
      go_enter Try.func91, Try.ntmps91
      go_wp2_with (first | (go_at_call 81; (with_reducible refine (over_b _ _ _ _ _ _ _ _ _ _ HO (hx.past (by repeat (first | exact Past.refl _ | assumption | refine Past.alloc ?_ _ | refine Past.drew ?_ | refine Past.drewN ?_ _ | refine Past.setCell ?_ (by first | (simp; done) | (simp <;> omega)) _ | refine Past.trans ?_ (past_over _ _) | refine Past.trans ?_ (by assumption)))) (hy.past (by repeat (first | exact Past.refl _ | assumption | refine Past.alloc ?_ _ | refine Past.drew ?_ | refine Past.drewN ?_ _ | refine Past.setCell ?_ (by first | (simp; done) | (simp <;> omega)) _ | refine Past.trans ?_ (past_over _ _) | refine Past.trans ?_ (by assumption)))) hn2 hm2 h0x h0y ux uy).mono ?_); rintro e w1 ⟨rfl, hb1⟩; obtain ⟨hc1, hf1, _⟩ := hb1.cells; have hz1_0 : w.heap.size < w1.heap.size := Past.lt hb1 (by first | omega | (simp <;> omega)); have hz1_1 : w.heap.size + 1 < w1.heap.size := Past.lt hb1 (by first | omega | (simp <;> omega)); have hz1_2 : w.heap.size + 1 + 1 < w1.heap.size := Past.lt hb1 (by first | omega | (simp <;> omega))) | (go_at_call 71; (with_reducible refine (within_b _ _ _ _ HD _).mono ?_); rintro e w9 ⟨rfl, rfl⟩))
      go_ret
      exact ⟨rfl, (by repeat (first | exact Past.refl _ | assumption | refine Past.alloc ?_ _ | refine Past.drew ?_ | refine Past.drewN ?_ _ | refine Past.setCell ?_ (by first | (simp; done) | (simp <;> omega)) _ | refine Past.trans ?_ (past_over _ _) | refine Past.trans ?_ (by assumption)))⟩
    cases hwf : win kf 0 P
    · rw [legB_f (a := ⟨kf, kt, kd, kx⟩) hwf]
      have HD := Lib.hid hwd
      have HF := Lib.hid hwf
      clear hwd hwf
      go_enter Try.func91, Try.ntmps91
      go_wp2_with (first | (go_at_call 81; (with_reducible refine (over_b _ _ _ _ _ _ _ _ _ _ HO (hx.past (by repeat (first | exact Past.refl _ | assumption | refine Past.alloc ?_ _ | refine Past.drew ?_ | refine Past.drewN ?_ _ | refine Past.setCell ?_ (by first | (simp; done) | (simp <;> omega)) _ | refine Past.trans ?_ (past_over _ _) | refine Past.trans ?_ (by assumption)))) (hy.past (by repeat (first | exact Past.refl _ | assumption | refine Past.alloc ?_ _ | refine Past.drew ?_ | refine Past.drewN ?_ _ | refine Past.setCell ?_ (by first | (simp; done) | (simp <;> omega)) _ | refine Past.trans ?_ (past_over _ _) | refine Past.trans ?_ (by assumption)))) hn2 hm2 h0x h0y ux uy).mono ?_); rintro e w1 ⟨rfl, hb1⟩; obtain ⟨hc1, hf1, _⟩ := hb1.cells; have hz1_0 : w.heap.size < w1.heap.size := Past.lt hb1 (by first | omega | (simp <;> omega)); have hz1_1 : w.heap.size + 1 < w1.heap.size := Past.lt hb1 (by first | omega | (simp <;> omega)); have hz1_2 : w.heap.size + 1 + 1 < w1.heap.size := Past.lt hb1 (by first | omega | (simp <;> omega))) | (go_at_call 71; (with_reducible refine (within_b _ _ _ _ HD _).mono ?_); rintro e w9 ⟨rfl, rfl⟩) | (go_at_call 71; (with_reducible refine (within_b _ _ _ _ HF _).mono ?_); rintro e w9 ⟨rfl, rfl⟩))
      go_ret
      exact ⟨rfl, (by repeat (first | exact Past.refl _ | assumption | refine Past.alloc ?_ _ | refine Past.drew ?_ | refine Past.drewN ?_ _ | refine Past.setCell ?_ (by first | (simp; done) | (simp <;> omega)) _ | refine Past.trans ?_ (past_over _ _) | refine Past.trans ?_ (by assumption)))⟩
    obtain ⟨d0, d1⟩ := win_yes hwd
    obtain ⟨f0, f1⟩ := win_yes hwf
    have HD := Lib.hid hwd
    have HF := Lib.hid hwf
    clear hwd hwf
    cases hs : stOk P h xs ys kf kd
    · rw [legB_no (a := ⟨kf, kt, kd, kx⟩) hs]
      have HS := Lib.hid (sfV_no hs)
      clear hs
      go_enter Try.func91, Try.ntmps91
      go_wp2_with (first | (go_at_call 81; (with_reducible refine (over_b _ _ _ _ _ _ _ _ _ _ HO (hx.past (by repeat (first | exact Past.refl _ | assumption | refine Past.alloc ?_ _ | refine Past.drew ?_ | refine Past.drewN ?_ _ | refine Past.setCell ?_ (by first | (simp; done) | (simp <;> omega)) _ | refine Past.trans ?_ (past_over _ _) | refine Past.trans ?_ (by assumption)))) (hy.past (by repeat (first | exact Past.refl _ | assumption | refine Past.alloc ?_ _ | refine Past.drew ?_ | refine Past.drewN ?_ _ | refine Past.setCell ?_ (by first | (simp; done) | (simp <;> omega)) _ | refine Past.trans ?_ (past_over _ _) | refine Past.trans ?_ (by assumption)))) hn2 hm2 h0x h0y ux uy).mono ?_); rintro e w1 ⟨rfl, hb1⟩; obtain ⟨hc1, hf1, _⟩ := hb1.cells; have hz1_0 : w.heap.size < w1.heap.size := Past.lt hb1 (by first | omega | (simp <;> omega)); have hz1_1 : w.heap.size + 1 < w1.heap.size := Past.lt hb1 (by first | omega | (simp <;> omega)); have hz1_2 : w.heap.size + 1 + 1 < w1.heap.size := Past.lt hb1 (by first | omega | (simp <;> omega))) | (go_at_call 71; (with_reducible refine (within_b _ _ _ _ HD _).mono ?_); rintro e w9 ⟨rfl, rfl⟩) | (go_at_call 71; (with_reducible refine (within_b _ _ _ _ HF _).mono ?_); rintro e w9 ⟨rfl, rfl⟩) | (go_at_call 109; (with_reducible refine (stepFrom_b P c h s _ _ _ _ _ _ _ _ _ _ _ _ HS (hx.past (by repeat (first | exact Past.refl _ | assumption | refine Past.alloc ?_ _ | refine Past.drew ?_ | refine Past.drewN ?_ _ | refine Past.setCell ?_ (by first | (simp; done) | (simp <;> omega)) _ | refine Past.trans ?_ (past_over _ _) | refine Past.trans ?_ (by assumption)))) (hy.past (by repeat (first | exact Past.refl _ | assumption | refine Past.alloc ?_ _ | refine Past.drew ?_ | refine Past.drewN ?_ _ | refine Past.setCell ?_ (by first | (simp; done) | (simp <;> omega)) _ | refine Past.trans ?_ (past_over _ _) | refine Past.trans ?_ (by assumption)))) HN.out HM.out hP f0 f1 d0 (by omega)).mono ?_); rintro e w2 ⟨rfl, hb2⟩; obtain ⟨hc2, hf2, _⟩ := hb2.cells; have hz2_0 : w.heap.size + 1 + 1 < w2.heap.size := Past.lt hb2 (by first | omega | (simp <;> omega))))
      go_ret
      exact ⟨rfl, (by repeat (first | exact Past.refl _ | assumption | refine Past.alloc ?_ _ | refine Past.drew ?_ | refine Past.drewN ?_ _ | refine Past.setCell ?_ (by first | (simp; done) | (simp <;> omega)) _ | refine Past.trans ?_ (past_over _ _) | refine Past.trans ?_ (by assumption)))⟩
    · rw [legB_yes (a := ⟨kf, kt, kd, kx⟩) HO.out HD.out HF.out hs]
      have HS := Lib.hid (sfV_yes hs)
      clear hs
      generalize htt : toOf kf kd = tt at HS
      generalize hhh : stHit P ys kf kd = hh at HS
      have HT := Lib.hid htt
      have HH := Lib.hid hhh
      clear htt hhh
      go_enter Try.func91, Try.ntmps91
      go_wp2_with (first | (go_at_call 81; (with_reducible refine (over_b _ _ _ _ _ _ _ _ _ _ HO (hx.past (by repeat (first | exact Past.refl _ | assumption | refine Past.alloc ?_ _ | refine Past.drew ?_ | refine Past.drewN ?_ _ | refine Past.setCell ?_ (by first | (simp; done) | (simp <;> omega)) _ | refine Past.trans ?_ (past_over _ _) | refine Past.trans ?_ (by assumption)))) (hy.past (by repeat (first | exact Past.refl _ | assumption | refine Past.alloc ?_ _ | refine Past.drew ?_ | refine Past.drewN ?_ _ | refine Past.setCell ?_ (by first | (simp; done) | (simp <;> omega)) _ | refine Past.trans ?_ (past_over _ _) | refine Past.trans ?_ (by assumption)))) hn2 hm2 h0x h0y ux uy).mono ?_); rintro e w1 ⟨rfl, hb1⟩; obtain ⟨hc1, hf1, _⟩ := hb1.cells; have hz1_0 : w.heap.size < w1.heap.size := Past.lt hb1 (by first | omega | (simp <;> omega)); have hz1_1 : w.heap.size + 1 < w1.heap.size := Past.lt hb1 (by first | omega | (simp <;> omega)); have hz1_2 : w.heap.size + 1 + 1 < w1.heap.size := Past.lt hb1 (by first | omega | (simp <;> omega))) | (go_at_call 71; (with_reducible refine (within_b _ _ _ _ HD _).mono ?_); rintro e w9 ⟨rfl, rfl⟩) | (go_at_call 71; (with_reducible refine (within_b _ _ _ _ HF _).mono ?_); rintro e w9 ⟨rfl, rfl⟩) | (go_at_call 109; (with_reducible refine (stepFrom_b P c h s _ _ _ _ _ _ _ _ _ _ _ _ HS (hx.past (by repeat (first | exact Past.refl _ | assumption | refine Past.alloc ?_ _ | refine Past.drew ?_ | refine Past.drewN ?_ _ | refine Past.setCell ?_ (by first | (simp; done) | (simp <;> omega)) _ | refine Past.trans ?_ (past_over _ _) | refine Past.trans ?_ (by assumption)))) (hy.past (by repeat (first | exact Past.refl _ | assumption | refine Past.alloc ?_ _ | refine Past.drew ?_ | refine Past.drewN ?_ _ | refine Past.setCell ?_ (by first | (simp; done) | (simp <;> omega)) _ | refine Past.trans ?_ (past_over _ _) | refine Past.trans ?_ (by assumption)))) HN.out HM.out hP f0 f1 d0 (by omega)).mono ?_); rintro e w2 ⟨rfl, hb2⟩; obtain ⟨hc2, hf2, _⟩ := hb2.cells; have hz2_0 : w.heap.size + 1 + 1 < w2.heap.size := Past.lt hb2 (by first | omega | (simp <;> omega))))
      all_goals
        go_ret
        refine ⟨ret_bool ?_, (by repeat (first | exact Past.refl _ | assumption | refine Past.alloc ?_ _ | refine Past.drew ?_ | refine Past.drewN ?_ _ | refine Past.setCell ?_ (by first | (simp; done) | (simp <;> omega)) _ | refine Past.trans ?_ (past_over _ _) | refine Past.trans ?_ (by assumption)))⟩
        simp only [stp, Stp.same, HT.out, HH.out]
        clear HO HD HF HS HT HH
        simp [*]
  · have HO := Lib.hid ho
    clear ho
    rw [legB_over HO.out]
    go_enter Try.func91, Try.ntmps91
    go_wp2_with (go_at_call 81; (with_reducible refine (over_b _ _ _ _ _ _ _ _ _ _ HO (hx.past (by repeat (first | exact Past.refl _ | assumption | refine Past.alloc ?_ _ | refine Past.drew ?_ | refine Past.drewN ?_ _ | refine Past.setCell ?_ (by first | (simp; done) | (simp <;> omega)) _ | refine Past.trans ?_ (past_over _ _) | refine Past.trans ?_ (by assumption)))) (hy.past (by repeat (first | exact Past.refl _ | assumption | refine Past.alloc ?_ _ | refine Past.drew ?_ | refine Past.drewN ?_ _ | refine Past.setCell ?_ (by first | (simp; done) | (simp <;> omega)) _ | refine Past.trans ?_ (past_over _ _) | refine Past.trans ?_ (by assumption)))) hn2 hm2 h0x h0y ux uy).mono ?_); rintro e w1 ⟨rfl, hb1⟩; obtain ⟨hc1, hf1, _⟩ := hb1.cells; have hz1_0 : w.heap.size < w1.heap.size := Past.lt hb1 (by first | omega | (simp <;> omega)); have hz1_1 : w.heap.size + 1 < w1.heap.size := Past.lt hb1 (by first | omega | (simp <;> omega)); have hz1_2 : w.heap.size + 1 + 1 < w1.heap.size := Past.lt hb1 (by first | omega | (simp <;> omega)))
    go_ret
    exact ⟨rfl, (by repeat (first | exact Past.refl _ | assumption | refine Past.alloc ?_ _ | refine Past.drew ?_ | refine Past.drewN ?_ _ | refine Past.setCell ?_ (by first | (simp; done) | (simp <;> omega)) _ | refine Past.trans ?_ (past_over _ _) | refine Past.trans ?_ (by assumption)))⟩
theorem legB_not {p h s : Int} {xs ys : List Int} {a : Stp} (hw : (!overF xs ys && stOk p h xs ys a.f a.d) = false) : legB p h s xs ys a = false := by
  have e : legB p h s xs ys a = (win a.d 1 s && (win a.f 0 p && ((!overF xs ys && stOk p h xs ys a.f a.d) && Stp.same (stp p ys a.f a.d) a))) := by simp [legB, Bool.and_assoc]
  rw [e, hw]
  simp
theorem legB_is {p h s : Int} {xs ys : List Int} {a : Stp} (h1 : win a.d 1 s = true) (h2 : win a.f 0 p = true) (hw : (!overF xs ys && stOk p h xs ys a.f a.d) = true) : legB p h s xs ys a = Stp.same (stp p ys a.f a.d) a := by
  have e : legB p h s xs ys a = (win a.d 1 s && (win a.f 0 p && ((!overF xs ys && stOk p h xs ys a.f a.d) && Stp.same (stp p ys a.f a.d) a))) := by simp [legB, Bool.and_assoc]
  rw [e, hw, h1, h2]
  simp
set_option maxHeartbeats 4000000 in
theorem sLegalStep_any (P : Nat) (c h s kf kt kd : Int) (kx : Bool) (A D : Option Addr) (n k m l : Nat) (xs ys : List Int) (w : World) (hx : RdI w A n xs) (hy : RdI w D m ys) (hn : n = P + 1) (hm : m = P + 1) (hP : P ≤ 24) (s1 : s ≤ 6)
    (h0x : Hid (∀ x ∈ xs, 0 ≤ x)) (h0y : Hid (∀ x ∈ ys, 0 ≤ x)) (ux : xs.sum ≤ 1000000) (uy : ys.sum ≤ 1000000) :
    Calls Try.prog 94 #[.agg #[.int .i64 (P : Int), .int .i64 c, .int .i64 h, .int .i64 s], .agg #[.slice A n k, .slice D m l], .agg #[.int .i64 kf, .int .i64 kt, .int .i64 kd, .bool kx]] w fun e w' => e = .returned (.bool (legB P h s xs ys ⟨kf, kt, kd, kx⟩)) ∧ Past w w' := by
  have HN := Lib.hid hn
  have HM := Lib.hid hm
  clear hn hm
  cases hwd : win kd 1 s
  · rw [legB_d (a := ⟨kf, kt, kd, kx⟩) hwd]
    have HD := Lib.hid hwd
    clear hwd
    go_enter Try.func94, Try.ntmps94
    go_wp2_with (go_at_call 68; (with_reducible refine (l01In_b _ _ _ _ HD _).mono ?_); rintro e w9 ⟨rfl, rfl⟩)
    go_ret
    exact ⟨rfl, (by repeat (first | exact Past.refl _ | assumption | refine Past.alloc ?_ _ | refine Past.drew ?_ | refine Past.drewN ?_ _ | refine Past.setCell ?_ (by first | (simp; done) | (simp <;> omega)) _ | refine Past.trans ?_ (past_over _ _) | refine Past.trans ?_ (by assumption)))⟩
  cases hwf : win kf 0 P
  · rw [legB_f (a := ⟨kf, kt, kd, kx⟩) hwf]
    have HD := Lib.hid hwd
    have HF := Lib.hid hwf
    clear hwd hwf
    go_enter Try.func94, Try.ntmps94
    go_wp2_with (first | (go_at_call 68; (with_reducible refine (l01In_b _ _ _ _ HD _).mono ?_); rintro e w9 ⟨rfl, rfl⟩) | (go_at_call 68; (with_reducible refine (l01In_b _ _ _ _ HF _).mono ?_); rintro e w9 ⟨rfl, rfl⟩))
    go_ret
    exact ⟨rfl, (by repeat (first | exact Past.refl _ | assumption | refine Past.alloc ?_ _ | refine Past.drew ?_ | refine Past.drewN ?_ _ | refine Past.setCell ?_ (by first | (simp; done) | (simp <;> omega)) _ | refine Past.trans ?_ (past_over _ _) | refine Past.trans ?_ (by assumption)))⟩
  obtain ⟨d0, d1⟩ := win_yes hwd
  obtain ⟨f0, f1⟩ := win_yes hwf
  have HD := Lib.hid hwd
  have HF := Lib.hid hwf
  clear hwd hwf
  cases hs : (!overF xs ys && stOk P h xs ys kf kd)
  · rw [legB_not (a := ⟨kf, kt, kd, kx⟩) hs]
    have HS := Lib.hid hs
    clear hs
    go_enter Try.func94, Try.ntmps94
    go_wp2_with (first | (go_at_call 68; (with_reducible refine (l01In_b _ _ _ _ HD _).mono ?_); rintro e w9 ⟨rfl, rfl⟩) | (go_at_call 68; (with_reducible refine (l01In_b _ _ _ _ HF _).mono ?_); rintro e w9 ⟨rfl, rfl⟩) | (go_at_call 110; (with_reducible refine (sStep_no P c h s _ _ _ _ _ _ _ _ _ _ _ HS (hx.past (by repeat (first | exact Past.refl _ | assumption | refine Past.alloc ?_ _ | refine Past.drew ?_ | refine Past.drewN ?_ _ | refine Past.setCell ?_ (by first | (simp; done) | (simp <;> omega)) _ | refine Past.trans ?_ (past_over _ _) | refine Past.trans ?_ (by assumption)))) (hy.past (by repeat (first | exact Past.refl _ | assumption | refine Past.alloc ?_ _ | refine Past.drew ?_ | refine Past.drewN ?_ _ | refine Past.setCell ?_ (by first | (simp; done) | (simp <;> omega)) _ | refine Past.trans ?_ (past_over _ _) | refine Past.trans ?_ (by assumption)))) HN.out HM.out hP f0 f1 d0 (by omega) h0x h0y ux uy).mono ?_); rintro e w2 ⟨a0, a1, a2, a3, rfl, hb2⟩; obtain ⟨hc2, hf2, _⟩ := hb2.cells; have hz2_0 : w.heap.size + 1 + 1 < w2.heap.size := Past.lt hb2 (by first | omega | (simp <;> omega))))
    go_ret
    exact ⟨rfl, (by repeat (first | exact Past.refl _ | assumption | refine Past.alloc ?_ _ | refine Past.drew ?_ | refine Past.drewN ?_ _ | refine Past.setCell ?_ (by first | (simp; done) | (simp <;> omega)) _ | refine Past.trans ?_ (past_over _ _) | refine Past.trans ?_ (by assumption)))⟩
  · rw [legB_is (a := ⟨kf, kt, kd, kx⟩) HD.out HF.out hs]
    have HS := Lib.hid hs
    clear hs
    have h1 := fun w hx hy => sStep_yes P c h s kf kd A D n k m l xs ys w HS hx hy HN.out HM.out hP f0 f1 d0 (by omega) h0x h0y ux uy
    generalize htt : toOf kf kd = tt at h1
    generalize hhh : stHit P ys kf kd = hh at h1
    have HT := Lib.hid htt
    have HH := Lib.hid hhh
    have H1 := Lib.hid h1
    clear htt hhh h1
    go_enter Try.func94, Try.ntmps94
    go_wp2_with (first | (go_at_call 68; (with_reducible refine (l01In_b _ _ _ _ HD _).mono ?_); rintro e w9 ⟨rfl, rfl⟩) | (go_at_call 68; (with_reducible refine (l01In_b _ _ _ _ HF _).mono ?_); rintro e w9 ⟨rfl, rfl⟩) | (go_at_call 110; (with_reducible refine (H1.out _ (hx.past (by repeat (first | exact Past.refl _ | assumption | refine Past.alloc ?_ _ | refine Past.drew ?_ | refine Past.drewN ?_ _ | refine Past.setCell ?_ (by first | (simp; done) | (simp <;> omega)) _ | refine Past.trans ?_ (past_over _ _) | refine Past.trans ?_ (by assumption)))) (hy.past (by repeat (first | exact Past.refl _ | assumption | refine Past.alloc ?_ _ | refine Past.drew ?_ | refine Past.drewN ?_ _ | refine Past.setCell ?_ (by first | (simp; done) | (simp <;> omega)) _ | refine Past.trans ?_ (past_over _ _) | refine Past.trans ?_ (by assumption))))).mono ?_); rintro e w2 ⟨rfl, hb2⟩; obtain ⟨hc2, hf2, _⟩ := hb2.cells; have hz2_0 : w.heap.size + 1 + 1 < w2.heap.size := Past.lt hb2 (by first | omega | (simp <;> omega))))
    all_goals
      go_ret
      refine ⟨ret_bool ?_, (by repeat (first | exact Past.refl _ | assumption | refine Past.alloc ?_ _ | refine Past.drew ?_ | refine Past.drewN ?_ _ | refine Past.setCell ?_ (by first | (simp; done) | (simp <;> omega)) _ | refine Past.trans ?_ (past_over _ _) | refine Past.trans ?_ (by assumption)))⟩
      simp only [stp, Stp.same, HT.out, HH.out]
      clear HD HF HS HT HH H1
      simp [*]
theorem isLegal (p c h s kf kt kd : Int) (kx : Bool) (A D : Option Addr) (n k m l : Nat) (xs ys : List Int) (w : World) (hx : RdI w A n xs) (hy : RdI w D m ys) (hn : n ≤ 1048576) (hm : m ≤ 1048576) :
    Calls Try.prog 50 #[.agg #[.int .i64 p, .int .i64 c, .int .i64 h, .int .i64 s], .agg #[.slice A n k, .slice D m l], .agg #[.int .i64 kf, .int .i64 kt, .int .i64 kd, .bool kx]] w fun e w' => e = .returned (.bool (isLegF p c h s xs ys ⟨kf, kt, kd, kx⟩)) ∧ Past w w' := by
  cases hb : bOk p c h s xs ys
  · rw [show isLegF p c h s xs ys ⟨kf, kt, kd, kx⟩ = false from by simp [isLegF, hb]]
    go_enter Try.func50, Try.ntmps50
    go_wp2_with (go_at_call 31; (with_reducible refine (isBoard_any _ _ _ _ _ _ _ _ _ _ _ _ _ (hx.past (by repeat (first | exact Past.refl _ | assumption | refine Past.alloc ?_ _ | refine Past.drew ?_ | refine Past.drewN ?_ _ | refine Past.setCell ?_ (by first | (simp; done) | (simp <;> omega)) _ | refine Past.trans ?_ (past_over _ _) | refine Past.trans ?_ (by assumption)))) (hy.past (by repeat (first | exact Past.refl _ | assumption | refine Past.alloc ?_ _ | refine Past.drew ?_ | refine Past.drewN ?_ _ | refine Past.setCell ?_ (by first | (simp; done) | (simp <;> omega)) _ | refine Past.trans ?_ (past_over _ _) | refine Past.trans ?_ (by assumption)))) hn hm).mono ?_); rintro e w1 ⟨rfl, hb1⟩; obtain ⟨hc1, hf1, _⟩ := hb1.cells; have hz1_0 : w.heap.size < w1.heap.size := Past.lt hb1 (by first | omega | (simp <;> omega)); have hz1_1 : w.heap.size + 1 < w1.heap.size := Past.lt hb1 (by first | omega | (simp <;> omega)); have hz1_2 : w.heap.size + 1 + 1 < w1.heap.size := Past.lt hb1 (by first | omega | (simp <;> omega)))
    go_ret
    exact ⟨rfl, (by repeat (first | exact Past.refl _ | assumption | refine Past.alloc ?_ _ | refine Past.drew ?_ | refine Past.drewN ?_ _ | refine Past.setCell ?_ (by first | (simp; done) | (simp <;> omega)) _ | refine Past.trans ?_ (past_over _ _) | refine Past.trans ?_ (by assumption)))⟩
  · have F := Lib.hid (bFacts hb)
    have h0x := Lib.hid F.out.2.2.2.2.1.2.1
    have h0y := Lib.hid F.out.2.2.2.2.2.2.1
    have ux : xs.sum ≤ 1000000 := by have := F.out; omega
    have uy : ys.sum ≤ 1000000 := by have := F.out; omega
    have s1 : s ≤ 6 := by have := F.out; omega
    obtain ⟨P, rfl⟩ := Int.eq_ofNat_of_zero_le (show 0 ≤ p from by have := F.out; omega)
    have hP : P ≤ 24 := by have := F.out; omega
    have ln := Lib.hid (show n = P + 1 from by have := F.out; have := hx.1; omega)
    have lm := Lib.hid (show m = P + 1 from by have := F.out; have := hy.1; omega)
    rw [show isLegF P c h s xs ys ⟨kf, kt, kd, kx⟩ = legB P h s xs ys ⟨kf, kt, kd, kx⟩ from by simp [isLegF, hb]]
    have HB := Lib.hid hb
    clear hb
    have hb' := HB.out
    go_enter Try.func50, Try.ntmps50
    go_wp2_with (first | (go_at_call 31; (with_reducible refine (isBoard_any _ _ _ _ _ _ _ _ _ _ _ _ _ (hx.past (by repeat (first | exact Past.refl _ | assumption | refine Past.alloc ?_ _ | refine Past.drew ?_ | refine Past.drewN ?_ _ | refine Past.setCell ?_ (by first | (simp; done) | (simp <;> omega)) _ | refine Past.trans ?_ (past_over _ _) | refine Past.trans ?_ (by assumption)))) (hy.past (by repeat (first | exact Past.refl _ | assumption | refine Past.alloc ?_ _ | refine Past.drew ?_ | refine Past.drewN ?_ _ | refine Past.setCell ?_ (by first | (simp; done) | (simp <;> omega)) _ | refine Past.trans ?_ (past_over _ _) | refine Past.trans ?_ (by assumption)))) hn hm).mono ?_); rintro e w1 ⟨rfl, hb1⟩; obtain ⟨hc1, hf1, _⟩ := hb1.cells; have hz1_0 : w.heap.size < w1.heap.size := Past.lt hb1 (by first | omega | (simp <;> omega)); have hz1_1 : w.heap.size + 1 < w1.heap.size := Past.lt hb1 (by first | omega | (simp <;> omega)); have hz1_2 : w.heap.size + 1 + 1 < w1.heap.size := Past.lt hb1 (by first | omega | (simp <;> omega))) | (go_at_call 91; (with_reducible refine (legalStep_any _ _ _ _ _ _ _ _ _ _ _ _ _ _ _ _ _ (hx.past (by repeat (first | exact Past.refl _ | assumption | refine Past.alloc ?_ _ | refine Past.drew ?_ | refine Past.drewN ?_ _ | refine Past.setCell ?_ (by first | (simp; done) | (simp <;> omega)) _ | refine Past.trans ?_ (past_over _ _) | refine Past.trans ?_ (by assumption)))) (hy.past (by repeat (first | exact Past.refl _ | assumption | refine Past.alloc ?_ _ | refine Past.drew ?_ | refine Past.drewN ?_ _ | refine Past.setCell ?_ (by first | (simp; done) | (simp <;> omega)) _ | refine Past.trans ?_ (past_over _ _) | refine Past.trans ?_ (by assumption)))) ln.out lm.out hP s1 h0x h0y ux uy).mono ?_); rintro e w2 ⟨rfl, hb2⟩; obtain ⟨hc2, hf2, _⟩ := hb2.cells))
    go_ret
    exact ⟨rfl, (by repeat (first | exact Past.refl _ | assumption | refine Past.alloc ?_ _ | refine Past.drew ?_ | refine Past.drewN ?_ _ | refine Past.setCell ?_ (by first | (simp; done) | (simp <;> omega)) _ | refine Past.trans ?_ (past_over _ _) | refine Past.trans ?_ (by assumption)))⟩
end Go.Proofs.Ytapocfgajkkpdaa
