/-
  Contracts of the reference: the step of a checker with a die.
-/
import Derived.Test.YtapocfgajkkpdaaStep
import Derived.Test.YtapocfgajkkpdaaBox
import Derived.Deep.RegionHeld3
import Derived.IntWalk
import Derived.Outline
namespace Go.Proofs.Ytapocfgajkkpdaa
open Go.ChangeShapes Go.WideShapes Go.ChangeAt Go.RowKit Go.Joins

/-- A step, and whether it is legal: where it is, it is the step a. -/
def SStepRet (w : World) (ok : Bool) (a : Stp) (e : Ending) (w' : World) : Prop :=
  ∃ (f t d : Int) (x : Bool), e = .returned (.tuple #[.agg #[.int .i64 f, .int .i64 t, .int .i64 d, .bool x], .bool ok]) ∧ (ok = true → (⟨f, t, d, x⟩ : Stp) = a) ∧ Past w w'
theorem SStepRet.no {w w' : World} {a : Stp} (h : Past w w') : SStepRet w false a (.returned (.tuple #[.agg #[.int .i64 0, .int .i64 0, .int .i64 0, .bool false], .bool false])) w' := ⟨0, 0, 0, false, rfl, fun h => by simp at h, h⟩
theorem SStepRet.at_ {w w' : World} {ok : Bool} {f t d : Int} {x : Bool} {a : Stp} (ha : (⟨f, t, d, x⟩ : Stp) = a) (h : Past w w') : SStepRet w ok a (.returned (.tuple #[.agg #[.int .i64 f, .int .i64 t, .int .i64 d, .bool x], .bool ok])) w' := ⟨f, t, d, x, rfl, fun _ => ha, h⟩
theorem stp_in {p : Int} {ys : List Int} {f d y : Int} (h : 0 ≤ f - d) (hy : gAt ys (p - 1 - (f - d)) = y) : (⟨f, f - d, d, y == 1⟩ : Stp) = stp p ys f d := by rw [stp, toOf_pos h, stHit_in h, hy]
theorem stp_off {p : Int} {ys : List Int} {f d : Int} (h : ¬ 0 ≤ f - d) : (⟨f, -1, d, false⟩ : Stp) = stp p ys f d := by rw [stp, toOf_neg h, stHit_off h]
theorem sOver_b (A D : Option Addr) (n k m l : Nat) (xs ys : List Int) (b : Bool) (w : World) (hb : Hid (overF xs ys = b)) (hx : RdI w A n xs) (hy : RdI w D m ys) (hn : n ≤ 1048576) (hm : m ≤ 1048576)
    (h0x : Hid (∀ x ∈ xs, 0 ≤ x)) (h0y : Hid (∀ x ∈ ys, 0 ≤ x)) (ux : xs.sum ≤ 1000000) (uy : ys.sum ≤ 1000000) :
    Calls Try.prog 116 #[.agg #[.slice A n k, .slice D m l]] w fun e w' => e = .returned (.bool b) ∧ Past w w' :=
  (sOver_any A D n k m l xs ys w hx hy hn hm h0x h0y ux uy).mono fun _ _ ⟨he, hp⟩ => ⟨he.trans (ret_bool hb.out), hp⟩
set_option maxHeartbeats 4000000 in
theorem sStep_in (P : Nat) (c h s : Int) (F : Nat) (d : Int) (A D : Option Addr) (n k m l : Nat) (xs ys : List Int) (w : World) (hx : RdI w A n xs) (hy : RdI w D m ys) (hn : n = P + 1) (hm : m = P + 1) (hP : P ≤ 24) (f1 : (F : Int) ≤ P) (d0 : 1 ≤ d) (d1 : d ≤ 6)
    (h0x : Hid (∀ x ∈ xs, 0 ≤ x)) (h0y : Hid (∀ x ∈ ys, 0 ≤ x)) (ux : xs.sum ≤ 1000000) (uy : ys.sum ≤ 1000000) (HO : Hid (overF xs ys = false)) (HX : Hid (¬ gAt xs F = 0)) (HB : Hid (¬ 0 < gAt xs P ∨ (F : Int) = P)) (hto : 0 ≤ (F : Int) - d) :
    Calls Try.prog 110 #[.agg #[.int .i64 (P : Int), .int .i64 c, .int .i64 h, .int .i64 s], .agg #[.slice A n k, .slice D m l], .int .i64 F, .int .i64 d] w (SStepRet w (!false && stOk P h xs ys F d) (stp P ys F d)) := by
  have g1 : (P : Int) < (n : Int) := by omega
  have g2 : (P : Int) < (m : Int) := by omega
  have HN := Lib.hid hn
  have HM := Lib.hid hm
  have hn2 : n ≤ 1048576 := by omega
  have hm2 : m ≤ 1048576 := by omega
  clear hn hm
  have bx := lastF_bd xs
  rw [hx.1] at bx
  obtain ⟨bx1, bx2⟩ := bx
  obtain ⟨b, o, x, rfl, hxj, hcx⟩ := hx.at_ (j := F) (by omega)
  obtain ⟨b', o', z, e', hzj, hcz⟩ := hx.at_ (j := P) (by omega)
  simp only [Option.some.injEq, Addr.mk.injEq, and_true] at e'
  obtain ⟨rfl, rfl⟩ := e'
  have ex := gAt_of hxj (rfl : (F : Int) = F)
  have ez := gAt_of hzj (rfl : (P : Int) = P)
  have EX := Lib.hid ex
  have EZ := Lib.hid ez
  have ub := World.block_lt_of_cell? w _ hcx
  simp only at ub
  clear hxj hzj ex ez
  have hb : (x == 0) = false := beq_eq_false_iff_ne.2 (by have h := HX.out; rw [EX.out] at h; exact h)
  have hbz : ¬ 0 < z ∨ (0 < z ∧ ((F : Int) != (P : Int)) = false) := by
    have hB := HB.out
    rw [EZ.out] at hB
    by_cases hz : 0 < z
    · exact .inr ⟨hz, by rw [bne_eq_false_iff_eq]; rcases hB with h | h; exact absurd hz h; exact h⟩
    · exact .inl hz
  obtain ⟨J, hJ⟩ := Int.eq_ofNat_of_zero_le (show 0 ≤ (P : Int) - 1 - ((F : Int) - d) from by omega)
  have hJ2 : (J : Int) < (m : Int) := by omega
  have hJ0 : (0 : Int) ≤ (J : Int) := by omega
  have HJ := Lib.hid hJ
  clear hJ
  obtain ⟨b', o', y, rfl, hyj, hcy⟩ := hy.at_ (j := J) (by omega)
  have ey := gAt_of (i := (P : Int) - 1 - ((F : Int) - d)) hyj HJ.out
  have EY := Lib.hid ey
  have hto2 : d ≤ (F : Int) := by omega
  clear hyj ey
  have E := Lib.hid (stOk_in (ys := ys) (h := h) (d := d) HX.out HB.out hto)
  rw [show (!false && stOk P h xs ys F d) = decide (gAt ys ((P : Int) - 1 - ((F : Int) - d)) ≤ 1) from E.out]
  generalize ho2 : decide (gAt ys ((P : Int) - 1 - ((F : Int) - d)) ≤ 1) = op
  have HO2 := Lib.hid ho2
  clear ho2
  rcases hbz with hz | ⟨hz, hb2⟩
  all_goals
    go_enter Try.func110, Try.ntmps110
    go_wp2_with (go_at_call 116; (with_reducible refine (sOver_b _ _ _ _ _ _ _ _ _ _ HO (hx.past (by repeat (first | exact Past.refl _ | assumption | refine Past.alloc ?_ _ | refine Past.drew ?_ | refine Past.drewN ?_ _ | refine Past.setCell ?_ (by first | (simp; done) | (simp <;> omega)) _ | refine Past.trans ?_ (past_over _ _) | refine Past.trans ?_ (by assumption)))) (hy.past (by repeat (first | exact Past.refl _ | assumption | refine Past.alloc ?_ _ | refine Past.drew ?_ | refine Past.drewN ?_ _ | refine Past.setCell ?_ (by first | (simp; done) | (simp <;> omega)) _ | refine Past.trans ?_ (past_over _ _) | refine Past.trans ?_ (by assumption)))) hn2 hm2 h0x h0y ux uy).mono ?_); rintro e w1 ⟨rfl, hb1⟩; obtain ⟨hc1, hf1, _⟩ := hb1.cells; have hz1_0 : w.heap.size < w1.heap.size := Past.lt hb1 (by first | omega | (simp <;> omega)); have hz1_1 : w.heap.size + 1 < w1.heap.size := Past.lt hb1 (by first | omega | (simp <;> omega)); have hz1_2 : w.heap.size + 2 < w1.heap.size := Past.lt hb1 (by first | omega | (simp <;> omega)); have cx := hb1.keep (far3 hcx _ _ _); have cz := hb1.keep (far3 hcz _ _ _); have fy := hb1.keep (far3 hcy _ _ _))
    have B1 := (Blk.at_ (t := 66) (cs := #[.int .i64 0, .int .i64 0, .int .i64 0, .bool false]) (show w.heap.size + 1 + 1 = ((w.alloc (.cells #[.int .i64 (P : Int), .int .i64 c, .int .i64 h, .int .i64 s] 25)).alloc (.cells #[.slice (some ⟨b, o, none⟩) n k, .slice (some ⟨b', o', none⟩) m l] 43)).heap.size from by simp)).past hb1
    have r0 := B1.cell 0 rfl
    have r1 := B1.cell 1 rfl
    have r2 := B1.cell 2 rfl
    have r3 := B1.cell 3 rfl
    have f0 := B1.free 0
    have f1 := B1.free 1
    have f2 := B1.free 2
    have f3 := B1.free 3
    obtain ⟨w0, hw0⟩ : ∃ w0 : World, w0 = ((w.alloc (.cells #[.int .i64 (P : Int), .int .i64 c, .int .i64 h, .int .i64 s] 25)).alloc (.cells #[.slice (some ⟨b, o, none⟩) n k, .slice (some ⟨b', o', none⟩) m l] 43)) := ⟨_, rfl⟩
    have p0 : Past w w0 := by rw [hw0]; exact (by repeat (first | exact Past.refl _ | assumption | refine Past.alloc ?_ _ | refine Past.drew ?_ | refine Past.drewN ?_ _ | refine Past.setCell ?_ (by first | (simp; done) | (simp <;> omega)) _ | refine Past.trans ?_ (past_over _ _) | refine Past.trans ?_ (by assumption)))
    have s0 : w0.heap.size ≤ w.heap.size + 2 := by rw [hw0]; simp [go_sem]
    have p1 : Past w0 w1 := by rw [hw0]; exact ((Past.refl _).alloc _).trans hb1
    have v0 : w0.cell? ⟨w.heap.size, 0, none⟩ = some (.int .i64 (P : Int)) := by rw [hw0]; simp [go_sem]
    have v1 : w0.cell? ⟨w.heap.size, 1, none⟩ = some (.int .i64 c) := by rw [hw0]; simp [go_sem]
    have v2 : w0.cell? ⟨w.heap.size, 2, none⟩ = some (.int .i64 h) := by rw [hw0]; simp [go_sem]
    have v3 : w0.cell? ⟨w.heap.size, 3, none⟩ = some (.int .i64 s) := by rw [hw0]; simp [go_sem]
    have u0 : w0.cell? ⟨w.heap.size + 1, 0, none⟩ = some (.slice (some ⟨b, o, none⟩) n k) := by rw [hw0]; simp [go_sem]
    have u1 : w0.cell? ⟨w.heap.size + 1, 1, none⟩ = some (.slice (some ⟨b', o', none⟩) m l) := by rw [hw0]; simp [go_sem]
    have y0 := p0.keep hcy
    have HW := Lib.hid hw0
    clear hw0
    have W1 : IntKind.i64.wrap ((P : Int) - 1) = (P : Int) - 1 := IntWalk.i64_in _ (by omega)
    have W2 : IntKind.i64.wrap ((P : Int) - 1 - ((F : Int) - d)) = (J : Int) := (IntWalk.i64_in _ (by have := HJ.out; omega)).trans HJ.out
    go_region_held3 (fun w' => w'.cell? ⟨w.heap.size, 0, none⟩ = some (.int .i64 (P : Int)) ∧ w'.cell? ⟨w.heap.size, 1, none⟩ = some (.int .i64 c) ∧ w'.cell? ⟨w.heap.size, 2, none⟩ = some (.int .i64 h) ∧ w'.cell? ⟨w.heap.size, 3, none⟩ = some (.int .i64 s) ∧ w'.cell? ⟨w.heap.size + 1, 0, none⟩ = some (.slice (some ⟨b, o, none⟩) n k) ∧ w'.cell? ⟨w.heap.size + 1, 1, none⟩ = some (.slice (some ⟨b', o', none⟩) m l) ∧ w'.cell? ⟨b', o' + J, none⟩ = some (.int .i64 y) ∧ Past (w0) w') ((go_split_ands; refine keep_of (a := w0) (S := fun w' => w'.cell? ⟨w.heap.size, 0, none⟩ = some (.int .i64 (P : Int)) ∧ w'.cell? ⟨w.heap.size, 1, none⟩ = some (.int .i64 c) ∧ w'.cell? ⟨w.heap.size, 2, none⟩ = some (.int .i64 h) ∧ w'.cell? ⟨w.heap.size, 3, none⟩ = some (.int .i64 s) ∧ w'.cell? ⟨w.heap.size + 1, 0, none⟩ = some (.slice (some ⟨b, o, none⟩) n k) ∧ w'.cell? ⟨w.heap.size + 1, 1, none⟩ = some (.slice (some ⟨b', o', none⟩) m l) ∧ w'.cell? ⟨b', o' + J, none⟩ = some (.int .i64 y) ∧ Past (w0) w') (by repeat (first | exact Past.refl _ | assumption | refine Past.alloc ?_ _ | refine Past.drew ?_ | refine Past.drewN ?_ _ | refine Past.setCell ?_ (by first | (simp; done) | (simp <;> omega)) _ | refine Past.trans ?_ (past_over _ _) | refine Past.trans ?_ (by assumption))) (fun x hP => ⟨hP.keep (by assumption), hP.keep (by assumption), hP.keep (by assumption), hP.keep (by assumption), hP.keep (by assumption), hP.keep (by assumption), hP.keep (by assumption), hP⟩))) (first | (go_at_call 117; (with_reducible refine (sOpenPt_b _ _ _ _ _ _ _ _ _ _ _ _ _ _ HO2 (hy.past (p0.trans (by repeat (first | exact Past.refl _ | assumption | refine Past.alloc ?_ _ | refine Past.drew ?_ | refine Past.drewN ?_ _ | refine Past.setCell ?_ (by first | (simp; done) | (simp <;> omega)) _ | refine Past.trans ?_ (past_over _ _) | refine Past.trans ?_ (by assumption))))) (by omega) (by omega) HM.out (by omega)).mono ?_); rintro e w2 ⟨rfl, hb2⟩; (try (have nb := NewBox.past (by first | assumption | exact newBox_alloc _ _ | exact (newBox_alloc _ _).drew) hb2; have nb1 := nb; obtain ⟨nc0, nc1, nf0, nf1⟩ := nb1)); have hs := Past.sz hb2; (try simp only [size_drew] at hs); (try simp only [World.size_alloc] at hs); (try (have B2 : Blk w2 _ _ _ := Past.blk hb2 B1; have r0 := B2.cell 0 rfl; have r1 := B2.cell 1 rfl; have r2 := B2.cell 2 rfl; have r3 := B2.cell 3 rfl; have f0 := B2.free 0; have f1 := B2.free 1; have f2 := B2.free 2; have f3 := B2.free 3))))
    go_split_ands
    go_wp2
    exact bodyPost_ret (v := .tuple #[.agg #[.int .i64 F, .int .i64 (F - d), .int .i64 d, .bool (y == 1)], .bool op]) (by simp [r0, r1, r2, r3, results, Try.results110, go_sem]) rfl (SStepRet.at_ (stp_in hto EY.out) (p0.trans (by assumption)))
set_option maxHeartbeats 4000000 in
theorem sStep_any (P : Nat) (c h s f d : Int) (A D : Option Addr) (n k m l : Nat) (xs ys : List Int) (w : World) (hx : RdI w A n xs) (hy : RdI w D m ys) (hn : n = P + 1) (hm : m = P + 1) (hP : P ≤ 24) (f0 : 0 ≤ f) (f1 : f ≤ P) (d0 : 1 ≤ d) (d1 : d ≤ 6)
    (h0x : Hid (∀ x ∈ xs, 0 ≤ x)) (h0y : Hid (∀ x ∈ ys, 0 ≤ x)) (ux : xs.sum ≤ 1000000) (uy : ys.sum ≤ 1000000) :
    Calls Try.prog 110 #[.agg #[.int .i64 (P : Int), .int .i64 c, .int .i64 h, .int .i64 s], .agg #[.slice A n k, .slice D m l], .int .i64 f, .int .i64 d] w (SStepRet w (!overF xs ys && stOk P h xs ys f d) (stp P ys f d)) := by
  obtain ⟨F, rfl⟩ := Int.eq_ofNat_of_zero_le f0
  have g1 : (P : Int) < (n : Int) := by omega
  have g2 : (P : Int) < (m : Int) := by omega
  have HN := Lib.hid hn
  have HM := Lib.hid hm
  have hn2 : n ≤ 1048576 := by omega
  have hm2 : m ≤ 1048576 := by omega
  clear hn hm
  have bx := lastF_bd xs
  rw [hx.1] at bx
  obtain ⟨bx1, bx2⟩ := bx
  obtain ⟨b, o, x, rfl, hxj, hcx⟩ := hx.at_ (j := F) (by omega)
  obtain ⟨b', o', z, e', hzj, hcz⟩ := hx.at_ (j := P) (by omega)
  simp only [Option.some.injEq, Addr.mk.injEq, and_true] at e'
  obtain ⟨rfl, rfl⟩ := e'
  have ex := gAt_of hxj (rfl : (F : Int) = F)
  have ez := gAt_of hzj (rfl : (P : Int) = P)
  have EX := Lib.hid ex
  have EZ := Lib.hid ez
  have ub := World.block_lt_of_cell? w _ hcx
  simp only at ub
  clear hxj hzj ex ez
  cases ho : overF xs ys
  · have HO := Lib.hid ho
    clear ho
    by_cases hx0 : x = 0
    · rw [show (!false && stOk P h xs ys F d) = false from by rw [stOk_x (EX.out.trans hx0)]; rfl]
      have hb : (x == 0) = true := beq_iff_eq.2 hx0
      clear hx0
      go_enter Try.func110, Try.ntmps110
      go_wp2_with (go_at_call 116; (with_reducible refine (sOver_b _ _ _ _ _ _ _ _ _ _ HO (hx.past (by repeat (first | exact Past.refl _ | assumption | refine Past.alloc ?_ _ | refine Past.drew ?_ | refine Past.drewN ?_ _ | refine Past.setCell ?_ (by first | (simp; done) | (simp <;> omega)) _ | refine Past.trans ?_ (past_over _ _) | refine Past.trans ?_ (by assumption)))) (hy.past (by repeat (first | exact Past.refl _ | assumption | refine Past.alloc ?_ _ | refine Past.drew ?_ | refine Past.drewN ?_ _ | refine Past.setCell ?_ (by first | (simp; done) | (simp <;> omega)) _ | refine Past.trans ?_ (past_over _ _) | refine Past.trans ?_ (by assumption)))) hn2 hm2 h0x h0y ux uy).mono ?_); rintro e w1 ⟨rfl, hb1⟩; obtain ⟨hc1, hf1, _⟩ := hb1.cells; have hz1_0 : w.heap.size < w1.heap.size := Past.lt hb1 (by first | omega | (simp <;> omega)); have hz1_1 : w.heap.size + 1 < w1.heap.size := Past.lt hb1 (by first | omega | (simp <;> omega)); have hz1_2 : w.heap.size + 2 < w1.heap.size := Past.lt hb1 (by first | omega | (simp <;> omega)); have cx := hb1.keep (far3 hcx _ _ _))
      exact bodyPost_ret (v := .tuple #[.agg #[.int .i64 0, .int .i64 0, .int .i64 0, .bool false], .bool false]) (by simp [*, results, Try.results110, go_sem]) rfl (SStepRet.no (by repeat (first | exact Past.refl _ | assumption | refine Past.alloc ?_ _ | refine Past.drew ?_ | refine Past.drewN ?_ _ | refine Past.setCell ?_ (by first | (simp; done) | (simp <;> omega)) _ | refine Past.trans ?_ (past_over _ _) | refine Past.trans ?_ (by assumption))))
    have hb : (x == 0) = false := beq_eq_false_iff_ne.2 hx0
    by_cases hbar : 0 < z ∧ ¬ F = P
    · rw [show (!false && stOk P h xs ys F d) = false from by rw [stOk_bar (by rw [EZ.out]; exact hbar.1) (by have := hbar.2; omega)]; rfl]
      have hb2 : ((F : Int) != (P : Int)) = true := by rw [bne_iff_ne]; have := hbar.2; omega
      obtain ⟨hz, _⟩ := hbar
      clear hx0
      go_enter Try.func110, Try.ntmps110
      go_wp2_with (go_at_call 116; (with_reducible refine (sOver_b _ _ _ _ _ _ _ _ _ _ HO (hx.past (by repeat (first | exact Past.refl _ | assumption | refine Past.alloc ?_ _ | refine Past.drew ?_ | refine Past.drewN ?_ _ | refine Past.setCell ?_ (by first | (simp; done) | (simp <;> omega)) _ | refine Past.trans ?_ (past_over _ _) | refine Past.trans ?_ (by assumption)))) (hy.past (by repeat (first | exact Past.refl _ | assumption | refine Past.alloc ?_ _ | refine Past.drew ?_ | refine Past.drewN ?_ _ | refine Past.setCell ?_ (by first | (simp; done) | (simp <;> omega)) _ | refine Past.trans ?_ (past_over _ _) | refine Past.trans ?_ (by assumption)))) hn2 hm2 h0x h0y ux uy).mono ?_); rintro e w1 ⟨rfl, hb1⟩; obtain ⟨hc1, hf1, _⟩ := hb1.cells; have hz1_0 : w.heap.size < w1.heap.size := Past.lt hb1 (by first | omega | (simp <;> omega)); have hz1_1 : w.heap.size + 1 < w1.heap.size := Past.lt hb1 (by first | omega | (simp <;> omega)); have hz1_2 : w.heap.size + 2 < w1.heap.size := Past.lt hb1 (by first | omega | (simp <;> omega)); have cx := hb1.keep (far3 hcx _ _ _); have cz := hb1.keep (far3 hcz _ _ _))
      exact bodyPost_ret (v := .tuple #[.agg #[.int .i64 0, .int .i64 0, .int .i64 0, .bool false], .bool false]) (by simp [*, results, Try.results110, go_sem]) rfl (SStepRet.no (by repeat (first | exact Past.refl _ | assumption | refine Past.alloc ?_ _ | refine Past.drew ?_ | refine Past.drewN ?_ _ | refine Past.setCell ?_ (by first | (simp; done) | (simp <;> omega)) _ | refine Past.trans ?_ (past_over _ _) | refine Past.trans ?_ (by assumption))))
    have hbar2 : ¬ 0 < gAt xs P ∨ (F : Int) = P := by
      rw [EZ.out]
      by_cases hz : 0 < z
      · exact .inr (by have : ¬ ¬ F = P := fun h => hbar ⟨hz, h⟩; omega)
      · exact .inl hz
    have HB := Lib.hid hbar2
    have hx1 : ¬ gAt xs F = 0 := by rw [EX.out]; exact hx0
    have HX := Lib.hid hx1
    have hbz : ¬ 0 < z ∨ (0 < z ∧ ((F : Int) != (P : Int)) = false) := by
      by_cases hz : 0 < z
      · exact .inr ⟨hz, by rw [bne_eq_false_iff_eq]; have : ¬ ¬ F = P := fun h => hbar ⟨hz, h⟩; omega⟩
      · exact .inl hz
    clear hbar2 hx1 hx0 hbar
    by_cases hto : 0 ≤ (F : Int) - d
    · exact sStep_in P c h s F d _ D n k m l xs ys w hx hy HN.out HM.out hP f1 d0 d1 h0x h0y ux uy HO HX HB hto
    · have hto2 : (F : Int) < d := by omega
      by_cases htop : h ≤ lastF xs
      · rw [show (!false && stOk P h xs ys F d) = false from by rw [stOk_off HX.out HB.out hto, decide_eq_false (show ¬ lastF xs < h from by omega)]; rfl]
        rcases hbz with hz | ⟨hz, hb2⟩
        all_goals
          go_enter Try.func110, Try.ntmps110
          go_wp2_with (first | (go_at_call 116; (with_reducible refine (sOver_b _ _ _ _ _ _ _ _ _ _ HO (hx.past (by repeat (first | exact Past.refl _ | assumption | refine Past.alloc ?_ _ | refine Past.drew ?_ | refine Past.drewN ?_ _ | refine Past.setCell ?_ (by first | (simp; done) | (simp <;> omega)) _ | refine Past.trans ?_ (past_over _ _) | refine Past.trans ?_ (by assumption)))) (hy.past (by repeat (first | exact Past.refl _ | assumption | refine Past.alloc ?_ _ | refine Past.drew ?_ | refine Past.drewN ?_ _ | refine Past.setCell ?_ (by first | (simp; done) | (simp <;> omega)) _ | refine Past.trans ?_ (past_over _ _) | refine Past.trans ?_ (by assumption)))) hn2 hm2 h0x h0y ux uy).mono ?_); rintro e w1 ⟨rfl, hb1⟩; obtain ⟨hc1, hf1, _⟩ := hb1.cells; have hz1_0 : w.heap.size < w1.heap.size := Past.lt hb1 (by first | omega | (simp <;> omega)); have hz1_1 : w.heap.size + 1 < w1.heap.size := Past.lt hb1 (by first | omega | (simp <;> omega)); have hz1_2 : w.heap.size + 2 < w1.heap.size := Past.lt hb1 (by first | omega | (simp <;> omega)); have cx := hb1.keep (far3 hcx _ _ _); have cz := hb1.keep (far3 hcz _ _ _)) | (go_at_call 107; (with_reducible refine (sLast_any _ _ _ _ _ (hx.past (by repeat (first | exact Past.refl _ | assumption | refine Past.alloc ?_ _ | refine Past.drew ?_ | refine Past.drewN ?_ _ | refine Past.setCell ?_ (by first | (simp; done) | (simp <;> omega)) _ | refine Past.trans ?_ (past_over _ _) | refine Past.trans ?_ (by assumption)))) hn2).mono ?_); rintro e w9 ⟨rfl, rfl⟩))
          exact bodyPost_ret (v := .tuple #[.agg #[.int .i64 0, .int .i64 0, .int .i64 0, .bool false], .bool false]) (by simp [*, results, Try.results110, go_sem]) rfl (SStepRet.no (by repeat (first | exact Past.refl _ | assumption | refine Past.alloc ?_ _ | refine Past.drew ?_ | refine Past.drewN ?_ _ | refine Past.setCell ?_ (by first | (simp; done) | (simp <;> omega)) _ | refine Past.trans ?_ (past_over _ _) | refine Past.trans ?_ (by assumption))))
      · by_cases hq : (F : Int) = d - 1
        · rw [show (!false && stOk P h xs ys F d) = true from by rw [stOk_off HX.out HB.out hto, decide_eq_true (show lastF xs < h from by omega), decide_eq_true hq]; rfl]
          have hq2 : ¬ (F : Int) - d < -1 := by omega
          clear hq
          rcases hbz with hz | ⟨hz, hb2⟩
          all_goals
            go_enter Try.func110, Try.ntmps110
            go_wp2_with (first | (go_at_call 116; (with_reducible refine (sOver_b _ _ _ _ _ _ _ _ _ _ HO (hx.past (by repeat (first | exact Past.refl _ | assumption | refine Past.alloc ?_ _ | refine Past.drew ?_ | refine Past.drewN ?_ _ | refine Past.setCell ?_ (by first | (simp; done) | (simp <;> omega)) _ | refine Past.trans ?_ (past_over _ _) | refine Past.trans ?_ (by assumption)))) (hy.past (by repeat (first | exact Past.refl _ | assumption | refine Past.alloc ?_ _ | refine Past.drew ?_ | refine Past.drewN ?_ _ | refine Past.setCell ?_ (by first | (simp; done) | (simp <;> omega)) _ | refine Past.trans ?_ (past_over _ _) | refine Past.trans ?_ (by assumption)))) hn2 hm2 h0x h0y ux uy).mono ?_); rintro e w1 ⟨rfl, hb1⟩; obtain ⟨hc1, hf1, _⟩ := hb1.cells; have hz1_0 : w.heap.size < w1.heap.size := Past.lt hb1 (by first | omega | (simp <;> omega)); have hz1_1 : w.heap.size + 1 < w1.heap.size := Past.lt hb1 (by first | omega | (simp <;> omega)); have hz1_2 : w.heap.size + 2 < w1.heap.size := Past.lt hb1 (by first | omega | (simp <;> omega)); have cx := hb1.keep (far3 hcx _ _ _); have cz := hb1.keep (far3 hcz _ _ _)) | (go_at_call 107; (with_reducible refine (sLast_any _ _ _ _ _ (hx.past (by repeat (first | exact Past.refl _ | assumption | refine Past.alloc ?_ _ | refine Past.drew ?_ | refine Past.drewN ?_ _ | refine Past.setCell ?_ (by first | (simp; done) | (simp <;> omega)) _ | refine Past.trans ?_ (past_over _ _) | refine Past.trans ?_ (by assumption)))) hn2).mono ?_); rintro e w9 ⟨rfl, rfl⟩))
            exact bodyPost_ret (v := .tuple #[.agg #[.int .i64 F, .int .i64 (-1), .int .i64 d, .bool false], .bool true]) (by simp [*, results, Try.results110, go_sem]) rfl (SStepRet.at_ (stp_off (by omega)) (by repeat (first | exact Past.refl _ | assumption | refine Past.alloc ?_ _ | refine Past.drew ?_ | refine Past.drewN ?_ _ | refine Past.setCell ?_ (by first | (simp; done) | (simp <;> omega)) _ | refine Past.trans ?_ (past_over _ _) | refine Past.trans ?_ (by assumption))))
        · have hq2 : (F : Int) - d < -1 := by omega
          by_cases hlt : lastF xs ≤ F
          · rw [show (!false && stOk P h xs ys F d) = true from by rw [stOk_off HX.out HB.out hto, decide_eq_true (show lastF xs < h from by omega), decide_eq_true hlt, Bool.or_true]; rfl]
            clear hq
            rcases hbz with hz | ⟨hz, hb2⟩
            all_goals
              go_enter Try.func110, Try.ntmps110
              go_wp2_with (first | (go_at_call 116; (with_reducible refine (sOver_b _ _ _ _ _ _ _ _ _ _ HO (hx.past (by repeat (first | exact Past.refl _ | assumption | refine Past.alloc ?_ _ | refine Past.drew ?_ | refine Past.drewN ?_ _ | refine Past.setCell ?_ (by first | (simp; done) | (simp <;> omega)) _ | refine Past.trans ?_ (past_over _ _) | refine Past.trans ?_ (by assumption)))) (hy.past (by repeat (first | exact Past.refl _ | assumption | refine Past.alloc ?_ _ | refine Past.drew ?_ | refine Past.drewN ?_ _ | refine Past.setCell ?_ (by first | (simp; done) | (simp <;> omega)) _ | refine Past.trans ?_ (past_over _ _) | refine Past.trans ?_ (by assumption)))) hn2 hm2 h0x h0y ux uy).mono ?_); rintro e w1 ⟨rfl, hb1⟩; obtain ⟨hc1, hf1, _⟩ := hb1.cells; have hz1_0 : w.heap.size < w1.heap.size := Past.lt hb1 (by first | omega | (simp <;> omega)); have hz1_1 : w.heap.size + 1 < w1.heap.size := Past.lt hb1 (by first | omega | (simp <;> omega)); have hz1_2 : w.heap.size + 2 < w1.heap.size := Past.lt hb1 (by first | omega | (simp <;> omega)); have cx := hb1.keep (far3 hcx _ _ _); have cz := hb1.keep (far3 hcz _ _ _)) | (go_at_call 107; (with_reducible refine (sLast_any _ _ _ _ _ (hx.past (by repeat (first | exact Past.refl _ | assumption | refine Past.alloc ?_ _ | refine Past.drew ?_ | refine Past.drewN ?_ _ | refine Past.setCell ?_ (by first | (simp; done) | (simp <;> omega)) _ | refine Past.trans ?_ (past_over _ _) | refine Past.trans ?_ (by assumption)))) hn2).mono ?_); rintro e w9 ⟨rfl, rfl⟩))
              exact bodyPost_ret (v := .tuple #[.agg #[.int .i64 F, .int .i64 (-1), .int .i64 d, .bool false], .bool true]) (by simp [*, results, Try.results110, go_sem]) rfl (SStepRet.at_ (stp_off (by omega)) (by repeat (first | exact Past.refl _ | assumption | refine Past.alloc ?_ _ | refine Past.drew ?_ | refine Past.drewN ?_ _ | refine Past.setCell ?_ (by first | (simp; done) | (simp <;> omega)) _ | refine Past.trans ?_ (past_over _ _) | refine Past.trans ?_ (by assumption))))
          · rw [show (!false && stOk P h xs ys F d) = false from by rw [stOk_off HX.out HB.out hto, decide_eq_false hq, decide_eq_false hlt]; simp]
            clear hq
            rcases hbz with hz | ⟨hz, hb2⟩
            all_goals
              go_enter Try.func110, Try.ntmps110
              go_wp2_with (first | (go_at_call 116; (with_reducible refine (sOver_b _ _ _ _ _ _ _ _ _ _ HO (hx.past (by repeat (first | exact Past.refl _ | assumption | refine Past.alloc ?_ _ | refine Past.drew ?_ | refine Past.drewN ?_ _ | refine Past.setCell ?_ (by first | (simp; done) | (simp <;> omega)) _ | refine Past.trans ?_ (past_over _ _) | refine Past.trans ?_ (by assumption)))) (hy.past (by repeat (first | exact Past.refl _ | assumption | refine Past.alloc ?_ _ | refine Past.drew ?_ | refine Past.drewN ?_ _ | refine Past.setCell ?_ (by first | (simp; done) | (simp <;> omega)) _ | refine Past.trans ?_ (past_over _ _) | refine Past.trans ?_ (by assumption)))) hn2 hm2 h0x h0y ux uy).mono ?_); rintro e w1 ⟨rfl, hb1⟩; obtain ⟨hc1, hf1, _⟩ := hb1.cells; have hz1_0 : w.heap.size < w1.heap.size := Past.lt hb1 (by first | omega | (simp <;> omega)); have hz1_1 : w.heap.size + 1 < w1.heap.size := Past.lt hb1 (by first | omega | (simp <;> omega)); have hz1_2 : w.heap.size + 2 < w1.heap.size := Past.lt hb1 (by first | omega | (simp <;> omega)); have cx := hb1.keep (far3 hcx _ _ _); have cz := hb1.keep (far3 hcz _ _ _)) | (go_at_call 107; (with_reducible refine (sLast_any _ _ _ _ _ (hx.past (by repeat (first | exact Past.refl _ | assumption | refine Past.alloc ?_ _ | refine Past.drew ?_ | refine Past.drewN ?_ _ | refine Past.setCell ?_ (by first | (simp; done) | (simp <;> omega)) _ | refine Past.trans ?_ (past_over _ _) | refine Past.trans ?_ (by assumption)))) hn2).mono ?_); rintro e w9 ⟨rfl, rfl⟩))
              exact bodyPost_ret (v := .tuple #[.agg #[.int .i64 0, .int .i64 0, .int .i64 0, .bool false], .bool false]) (by simp [*, results, Try.results110, go_sem]) rfl (SStepRet.no (by repeat (first | exact Past.refl _ | assumption | refine Past.alloc ?_ _ | refine Past.drew ?_ | refine Past.drewN ?_ _ | refine Past.setCell ?_ (by first | (simp; done) | (simp <;> omega)) _ | refine Past.trans ?_ (past_over _ _) | refine Past.trans ?_ (by assumption))))
  · rw [show (!true && stOk P h xs ys F d) = false from rfl]
    have HO := Lib.hid ho
    clear ho
    go_enter Try.func110, Try.ntmps110
    go_wp2_with (go_at_call 116; (with_reducible refine (sOver_b _ _ _ _ _ _ _ _ _ _ HO (hx.past (by repeat (first | exact Past.refl _ | assumption | refine Past.alloc ?_ _ | refine Past.drew ?_ | refine Past.drewN ?_ _ | refine Past.setCell ?_ (by first | (simp; done) | (simp <;> omega)) _ | refine Past.trans ?_ (past_over _ _) | refine Past.trans ?_ (by assumption)))) (hy.past (by repeat (first | exact Past.refl _ | assumption | refine Past.alloc ?_ _ | refine Past.drew ?_ | refine Past.drewN ?_ _ | refine Past.setCell ?_ (by first | (simp; done) | (simp <;> omega)) _ | refine Past.trans ?_ (past_over _ _) | refine Past.trans ?_ (by assumption)))) hn2 hm2 h0x h0y ux uy).mono ?_); rintro e w1 ⟨rfl, hb1⟩; obtain ⟨hc1, hf1, _⟩ := hb1.cells; have hz1_0 : w.heap.size < w1.heap.size := Past.lt hb1 (by first | omega | (simp <;> omega)); have hz1_1 : w.heap.size + 1 < w1.heap.size := Past.lt hb1 (by first | omega | (simp <;> omega)); have hz1_2 : w.heap.size + 2 < w1.heap.size := Past.lt hb1 (by first | omega | (simp <;> omega)))
    exact bodyPost_ret (v := .tuple #[.agg #[.int .i64 0, .int .i64 0, .int .i64 0, .bool false], .bool false]) (by simp [*, results, Try.results110, go_sem]) rfl (SStepRet.no (by repeat (first | exact Past.refl _ | assumption | refine Past.alloc ?_ _ | refine Past.drew ?_ | refine Past.drewN ?_ _ | refine Past.setCell ?_ (by first | (simp; done) | (simp <;> omega)) _ | refine Past.trans ?_ (past_over _ _) | refine Past.trans ?_ (by assumption))))
end Go.Proofs.Ytapocfgajkkpdaa
