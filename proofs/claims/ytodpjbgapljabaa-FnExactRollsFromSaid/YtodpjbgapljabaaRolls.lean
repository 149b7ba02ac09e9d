/-
  Contracts: the roll from a seed; all rolls.
-/
import Derived.Test.YtodpjbgapljabaaRoll
import Derived.Test.YtodpjbgapljabaaBox
import Derived.Deep.RegionHeld3
import Derived.IntWalk
import Derived.Deep.DeepCutAuto
namespace Go.Proofs.Ytodpjbgapljabaa
open Go.ChangeShapes Go.WideShapes Go.ChangeAt Go.RowKit Go.Joins

def mx (a b : Int) : Int := if a < b then b else a
def mn (a b : Int) : Int := if a < b then a else b
theorem nxt_bd (x : Int) : 0 ≤ nxt x ∧ nxt x ≤ 2147483646 := by unfold nxt; omega
theorem rollOf (a b : Int) (w : World) :
    Calls Try.prog 35 #[.int .i64 a, .int .i64 b] w fun e w' => e = .returned (.agg #[.int .i64 (mx a b), .int .i64 (mn a b)]) ∧ Past w w' := by
  by_cases h : a < b
  · rw [show mx a b = b from if_pos h, show mn a b = a from if_pos h]
    have h2 : ¬ b < a := by omega
    go_enter Try.func35, Try.ntmps35
    go_wp2
    refine bodyPost_ret (v := .agg #[.int .i64 b, .int .i64 a]) (by simp [results, Try.results35, go_sem]) rfl ⟨rfl, (by repeat (first | exact Past.refl _ | assumption | refine Past.alloc ?_ _ | refine Past.drew ?_ | refine Past.drewN ?_ _ | refine Past.setCell ?_ (by first | (simp; done) | (simp <;> omega)) _ | refine Past.trans ?_ (past_over _ _) | refine Past.trans ?_ (by assumption)))⟩
  · rw [show mx a b = a from if_neg h, show mn a b = b from if_neg h]
    by_cases h2 : b < a
    · go_enter Try.func35, Try.ntmps35
      go_wp2
      refine bodyPost_ret (v := .agg #[.int .i64 a, .int .i64 b]) (by simp [results, Try.results35, go_sem]) rfl ⟨rfl, (by repeat (first | exact Past.refl _ | assumption | refine Past.alloc ?_ _ | refine Past.drew ?_ | refine Past.drewN ?_ _ | refine Past.setCell ?_ (by first | (simp; done) | (simp <;> omega)) _ | refine Past.trans ?_ (past_over _ _) | refine Past.trans ?_ (by assumption)))⟩
    · obtain rfl : a = b := by omega
      go_enter Try.func35, Try.ntmps35
      go_wp2
      refine bodyPost_ret (v := .agg #[.int .i64 a, .int .i64 a]) (by simp [results, Try.results35, go_sem]) rfl ⟨rfl, (by repeat (first | exact Past.refl _ | assumption | refine Past.alloc ?_ _ | refine Past.drew ?_ | refine Past.drewN ?_ _ | refine Past.setCell ?_ (by first | (simp; done) | (simp <;> omega)) _ | refine Past.trans ?_ (past_over _ _) | refine Past.trans ?_ (by assumption)))⟩
theorem sRollOf (a b : Int) (w : World) :
    Calls Try.prog 32 #[.int .i64 a, .int .i64 b] w fun e w' => e = .returned (.agg #[.int .i64 (mx a b), .int .i64 (mn a b)]) ∧ Past w w' := by
  by_cases h : a < b
  · rw [show mx a b = b from if_pos h, show mn a b = a from if_pos h]
    have h2 : ¬ b < a := by omega
    go_enter Try.func32, Try.ntmps32
    go_wp2
    refine bodyPost_ret (v := .agg #[.int .i64 b, .int .i64 a]) (by simp [results, Try.results32, go_sem]) rfl ⟨rfl, (by repeat (first | exact Past.refl _ | assumption | refine Past.alloc ?_ _ | refine Past.drew ?_ | refine Past.drewN ?_ _ | refine Past.setCell ?_ (by first | (simp; done) | (simp <;> omega)) _ | refine Past.trans ?_ (past_over _ _) | refine Past.trans ?_ (by assumption)))⟩
  · rw [show mx a b = a from if_neg h, show mn a b = b from if_neg h]
    by_cases h2 : b < a
    · go_enter Try.func32, Try.ntmps32
      go_wp2
      refine bodyPost_ret (v := .agg #[.int .i64 a, .int .i64 b]) (by simp [results, Try.results32, go_sem]) rfl ⟨rfl, (by repeat (first | exact Past.refl _ | assumption | refine Past.alloc ?_ _ | refine Past.drew ?_ | refine Past.drewN ?_ _ | refine Past.setCell ?_ (by first | (simp; done) | (simp <;> omega)) _ | refine Past.trans ?_ (past_over _ _) | refine Past.trans ?_ (by assumption)))⟩
    · obtain rfl : a = b := by omega
      go_enter Try.func32, Try.ntmps32
      go_wp2
      refine bodyPost_ret (v := .agg #[.int .i64 a, .int .i64 a]) (by simp [results, Try.results32, go_sem]) rfl ⟨rfl, (by repeat (first | exact Past.refl _ | assumption | refine Past.alloc ?_ _ | refine Past.drew ?_ | refine Past.drewN ?_ _ | refine Past.setCell ?_ (by first | (simp; done) | (simp <;> omega)) _ | refine Past.trans ?_ (past_over _ _) | refine Past.trans ?_ (by assumption)))⟩
set_option maxHeartbeats 1000000 in
theorem rollFrom (p c h s x : Int) (w : World) (s1 : 1 ≤ s) (s2 : s ≤ 6) (x0 : 0 ≤ x) (x1 : x ≤ 2147483647) :
    Calls Try.prog 23 #[.agg #[.int .i64 p, .int .i64 c, .int .i64 h, .int .i64 s], .int .i64 x] w fun e w' => e = .returned (.tuple #[.agg #[.int .i64 (mx (1 + nxt x % s) (1 + nxt (nxt x) % s)), .int .i64 (mn (1 + nxt x % s) (1 + nxt (nxt x) % s))], .int .i64 (nxt (nxt x))]) ∧ Past w w' := by
  have b1 := nxt_bd x
  have b2 := nxt_bd (nxt x)
  have c1 := fun w => nextSeed x x0 x1 w
  have c2 := fun w => nextSeed (nxt x) b1.1 (by omega) w
  obtain ⟨Y, hY⟩ : ∃ Y, nxt x = Y := ⟨_, rfl⟩
  rw [hY] at c1 c2 b1 b2 ⊢
  obtain ⟨Z, hZ⟩ : ∃ Z, nxt Y = Z := ⟨_, rfl⟩
  rw [hZ] at c2 b2 ⊢
  have C1 := Lib.hid c1
  have C2 := Lib.hid c2
  obtain ⟨y0, y1⟩ := b1
  obtain ⟨z0, z1⟩ := b2
  clear c1 c2 hY hZ
  obtain ⟨wv, hwv⟩ : ∃ wv : World, wv = w.alloc (.cells #[.int .i64 p, .int .i64 c, .int .i64 h, .int .i64 s] 27) := ⟨_, rfl⟩
  have hpv : Past w wv := by rw [hwv]; exact (by repeat (first | exact Past.refl _ | assumption | refine Past.alloc ?_ _ | refine Past.drew ?_ | refine Past.drewN ?_ _ | refine Past.setCell ?_ (by first | (simp; done) | (simp <;> omega)) _ | refine Past.trans ?_ (past_over _ _) | refine Past.trans ?_ (by assumption)))
  have v3 : wv.cell? ⟨w.heap.size, 3, none⟩ = some (.int .i64 s) := by rw [hwv]; simp [go_sem]
  have zv : wv.heap.size = w.heap.size + 1 := by rw [hwv]; simp [go_sem]
  have zv2 : wv.heap.size ≤ w.heap.size + 1 := by omega
  have hR0 : Blk (wv.alloc (.cells #[.int .i64 0, .int .i64 0] 40)) (w.heap.size + 1) 40 #[.int .i64 0, .int .i64 0] := Blk.at_ zv.symm
  obtain ⟨w0, hw0⟩ : ∃ w0 : World, w0 = wv.alloc (.cells #[.int .i64 0, .int .i64 0] 40) := ⟨_, rfl⟩
  have hpv0 : Past wv w0 := by rw [hw0]; exact (by repeat (first | exact Past.refl _ | assumption | refine Past.alloc ?_ _ | refine Past.drew ?_ | refine Past.drewN ?_ _ | refine Past.setCell ?_ (by first | (simp; done) | (simp <;> omega)) _ | refine Past.trans ?_ (past_over _ _) | refine Past.trans ?_ (by assumption)))
  have q3 := hpv0.keep v3
  rw [← hw0] at hR0
  have hs0 : (s == 0) = false := beq_eq_false_iff_ne.2 (by omega)
  have hs1 : ¬ s = 0 := by omega
  clear zv
  go_enter Try.func23, Try.ntmps23
  go_upto_region 1 with fail
  rw [← hwv, ← hw0]
  clear hw0 hwv
  go_wp2_with (first | (go_at_call 34; (with_reducible refine (C1.out _).mono ?_); rintro e w9 ⟨rfl, rfl⟩) | (go_at_call 34; (with_reducible refine (C2.out _).mono ?_); rintro e w9 ⟨rfl, rfl⟩))
  have e1 : Y % s < s := Int.emod_lt_of_pos _ (by omega)
  have e2 : Z % s < s := Int.emod_lt_of_pos _ (by omega)
  have e3 : 0 ≤ Y % s := Int.emod_nonneg _ (by omega)
  have e4 : 0 ≤ Z % s := Int.emod_nonneg _ (by omega)
  have W1 : IntKind.i64.wrap (1 + Y % s) = 1 + Y % s := IntWalk.i64_in _ (by omega)
  have W2 : IntKind.i64.wrap (1 + Z % s) = 1 + Z % s := IntWalk.i64_in _ (by omega)
  have T1 : Y.tmod s = Y % s := Int.tmod_eq_emod_of_nonneg y0
  have T2 : Z.tmod s = Z % s := Int.tmod_eq_emod_of_nonneg z0
  have T3 : IntKind.i64.wrap (Y % s) = Y % s := IntWalk.i64_in _ (by omega)
  have T4 : IntKind.i64.wrap (Z % s) = Z % s := IntWalk.i64_in _ (by omega)
  go_region_held3 (fun w' => w'.cell? ⟨w.heap.size, 3, none⟩ = some (.int .i64 s) ∧ Past (wv) w') ((go_split_ands; refine keep_of (a := wv) (S := fun w' => w'.cell? ⟨w.heap.size, 3, none⟩ = some (.int .i64 s) ∧ Past (wv) w') (by repeat (first | exact Past.refl _ | assumption | refine Past.alloc ?_ _ | refine Past.drew ?_ | refine Past.drewN ?_ _ | refine Past.setCell ?_ (by first | (simp; done) | (simp <;> omega)) _ | refine Past.trans ?_ (past_over _ _) | refine Past.trans ?_ (by assumption))) (fun x hP => ⟨hP.keep (by assumption), hP⟩))) (first | (go_at_call 35; (with_reducible refine (rollOf _ _ _).mono ?_); rintro e w1 ⟨rfl, hb1⟩; (try (have nb := NewBox.past (by first | assumption | exact newBox_alloc _ _ | exact (newBox_alloc _ _).drew) hb1; have nb1 := nb; obtain ⟨nc0, nc1, nf0, nf1⟩ := nb1)); have hs := Past.sz hb1; (try simp only [size_drew] at hs); (try simp only [World.size_alloc] at hs); have hR1 := hR0.past (show Past w0 w1 from (by repeat (first | exact Past.refl _ | assumption | refine Past.alloc ?_ _ | refine Past.drew ?_ | refine Past.drewN ?_ _ | refine Past.setCell ?_ (by first | (simp; done) | (simp <;> omega)) _ | refine Past.trans ?_ (past_over _ _) | refine Past.trans ?_ (by assumption)))); have r0 := hR1.cell 0 rfl; have r1 := hR1.cell 1 rfl; have r2 := hR1.free 0; have r3 := hR1.free 1; have hpr := Past.setCell (Past.setCell (show Past w w1 from (by repeat (first | exact Past.refl _ | assumption | refine Past.alloc ?_ _ | refine Past.drew ?_ | refine Past.drewN ?_ _ | refine Past.setCell ?_ (by first | (simp; done) | (simp <;> omega)) _ | refine Past.trans ?_ (past_over _ _) | refine Past.trans ?_ (by assumption)))) (p := ⟨w.heap.size + 1, 0, none⟩) (by simp) (.int .i64 (mx (1 + Y % s) (1 + Z % s)))) (p := ⟨w.heap.size + 1, 1, none⟩) (by simp) (.int .i64 (mn (1 + Y % s) (1 + Z % s)))))
  go_split_ands
  go_wp2
  exact bodyPost_ret (v := .tuple #[.agg #[.int .i64 (mx (1 + Y % s) (1 + Z % s)), .int .i64 (mn (1 + Y % s) (1 + Z % s))], .int .i64 Z]) (by simp [r0, r1, results, Try.results23, go_sem]) rfl ⟨rfl, hpr⟩
set_option maxHeartbeats 1000000 in
theorem sRollFrom (p c h s x : Int) (w : World) (s1 : 1 ≤ s) (s2 : s ≤ 6) (x0 : 0 ≤ x) (x1 : x ≤ 2147483647) :
    Calls Try.prog 21 #[.agg #[.int .i64 p, .int .i64 c, .int .i64 h, .int .i64 s], .int .i64 x] w fun e w' => e = .returned (.tuple #[.agg #[.int .i64 (mx (1 + nxt x % s) (1 + nxt (nxt x) % s)), .int .i64 (mn (1 + nxt x % s) (1 + nxt (nxt x) % s))], .int .i64 (nxt (nxt x))]) ∧ Past w w' := by
  have b1 := nxt_bd x
  have b2 := nxt_bd (nxt x)
  have c1 := fun w => sNextSeed x x0 x1 w
  have c2 := fun w => sNextSeed (nxt x) b1.1 (by omega) w
  obtain ⟨Y, hY⟩ : ∃ Y, nxt x = Y := ⟨_, rfl⟩
  rw [hY] at c1 c2 b1 b2 ⊢
  obtain ⟨Z, hZ⟩ : ∃ Z, nxt Y = Z := ⟨_, rfl⟩
  rw [hZ] at c2 b2 ⊢
  have C1 := Lib.hid c1
  have C2 := Lib.hid c2
  obtain ⟨y0, y1⟩ := b1
  obtain ⟨z0, z1⟩ := b2
  clear c1 c2 hY hZ
  obtain ⟨wv, hwv⟩ : ∃ wv : World, wv = w.alloc (.cells #[.int .i64 p, .int .i64 c, .int .i64 h, .int .i64 s] 27) := ⟨_, rfl⟩
  have hpv : Past w wv := by rw [hwv]; exact (by repeat (first | exact Past.refl _ | assumption | refine Past.alloc ?_ _ | refine Past.drew ?_ | refine Past.drewN ?_ _ | refine Past.setCell ?_ (by first | (simp; done) | (simp <;> omega)) _ | refine Past.trans ?_ (past_over _ _) | refine Past.trans ?_ (by assumption)))
  have v3 : wv.cell? ⟨w.heap.size, 3, none⟩ = some (.int .i64 s) := by rw [hwv]; simp [go_sem]
  have zv : wv.heap.size = w.heap.size + 1 := by rw [hwv]; simp [go_sem]
  have zv2 : wv.heap.size ≤ w.heap.size + 1 := by omega
  have hR0 : Blk (wv.alloc (.cells #[.int .i64 0, .int .i64 0] 40)) (w.heap.size + 1) 40 #[.int .i64 0, .int .i64 0] := Blk.at_ zv.symm
  obtain ⟨w0, hw0⟩ : ∃ w0 : World, w0 = wv.alloc (.cells #[.int .i64 0, .int .i64 0] 40) := ⟨_, rfl⟩
  have hpv0 : Past wv w0 := by rw [hw0]; exact (by repeat (first | exact Past.refl _ | assumption | refine Past.alloc ?_ _ | refine Past.drew ?_ | refine Past.drewN ?_ _ | refine Past.setCell ?_ (by first | (simp; done) | (simp <;> omega)) _ | refine Past.trans ?_ (past_over _ _) | refine Past.trans ?_ (by assumption)))
  have q3 := hpv0.keep v3
  rw [← hw0] at hR0
  have hs0 : (s == 0) = false := beq_eq_false_iff_ne.2 (by omega)
  have hs1 : ¬ s = 0 := by omega
  clear zv
  go_enter Try.func21, Try.ntmps21
  go_upto_region 1 with fail
  rw [← hwv, ← hw0]
  clear hw0 hwv
  go_wp2_with (first | (go_at_call 31; (with_reducible refine (C1.out _).mono ?_); rintro e w9 ⟨rfl, rfl⟩) | (go_at_call 31; (with_reducible refine (C2.out _).mono ?_); rintro e w9 ⟨rfl, rfl⟩))
  have e1 : Y % s < s := Int.emod_lt_of_pos _ (by omega)
  have e2 : Z % s < s := Int.emod_lt_of_pos _ (by omega)
  have e3 : 0 ≤ Y % s := Int.emod_nonneg _ (by omega)
  have e4 : 0 ≤ Z % s := Int.emod_nonneg _ (by omega)
  have W1 : IntKind.i64.wrap (1 + Y % s) = 1 + Y % s := IntWalk.i64_in _ (by omega)
  have W2 : IntKind.i64.wrap (1 + Z % s) = 1 + Z % s := IntWalk.i64_in _ (by omega)
  have T1 : Y.tmod s = Y % s := Int.tmod_eq_emod_of_nonneg y0
  have T2 : Z.tmod s = Z % s := Int.tmod_eq_emod_of_nonneg z0
  have T3 : IntKind.i64.wrap (Y % s) = Y % s := IntWalk.i64_in _ (by omega)
  have T4 : IntKind.i64.wrap (Z % s) = Z % s := IntWalk.i64_in _ (by omega)
  go_region_held3 (fun w' => w'.cell? ⟨w.heap.size, 3, none⟩ = some (.int .i64 s) ∧ Past (wv) w') ((go_split_ands; refine keep_of (a := wv) (S := fun w' => w'.cell? ⟨w.heap.size, 3, none⟩ = some (.int .i64 s) ∧ Past (wv) w') (by repeat (first | exact Past.refl _ | assumption | refine Past.alloc ?_ _ | refine Past.drew ?_ | refine Past.drewN ?_ _ | refine Past.setCell ?_ (by first | (simp; done) | (simp <;> omega)) _ | refine Past.trans ?_ (past_over _ _) | refine Past.trans ?_ (by assumption))) (fun x hP => ⟨hP.keep (by assumption), hP⟩))) (first | (go_at_call 32; (with_reducible refine (sRollOf _ _ _).mono ?_); rintro e w1 ⟨rfl, hb1⟩; (try (have nb := NewBox.past (by first | assumption | exact newBox_alloc _ _ | exact (newBox_alloc _ _).drew) hb1; have nb1 := nb; obtain ⟨nc0, nc1, nf0, nf1⟩ := nb1)); have hs := Past.sz hb1; (try simp only [size_drew] at hs); (try simp only [World.size_alloc] at hs); have hR1 := hR0.past (show Past w0 w1 from (by repeat (first | exact Past.refl _ | assumption | refine Past.alloc ?_ _ | refine Past.drew ?_ | refine Past.drewN ?_ _ | refine Past.setCell ?_ (by first | (simp; done) | (simp <;> omega)) _ | refine Past.trans ?_ (past_over _ _) | refine Past.trans ?_ (by assumption)))); have r0 := hR1.cell 0 rfl; have r1 := hR1.cell 1 rfl; have r2 := hR1.free 0; have r3 := hR1.free 1; have hpr := Past.setCell (Past.setCell (show Past w w1 from (by repeat (first | exact Past.refl _ | assumption | refine Past.alloc ?_ _ | refine Past.drew ?_ | refine Past.drewN ?_ _ | refine Past.setCell ?_ (by first | (simp; done) | (simp <;> omega)) _ | refine Past.trans ?_ (past_over _ _) | refine Past.trans ?_ (by assumption)))) (p := ⟨w.heap.size + 1, 0, none⟩) (by simp) (.int .i64 (mx (1 + Y % s) (1 + Z % s)))) (p := ⟨w.heap.size + 1, 1, none⟩) (by simp) (.int .i64 (mn (1 + Y % s) (1 + Z % s)))))
  go_split_ands
  go_wp2
  exact bodyPost_ret (v := .tuple #[.agg #[.int .i64 (mx (1 + Y % s) (1 + Z % s)), .int .i64 (mn (1 + Y % s) (1 + Z % s))], .int .i64 Z]) (by simp [r0, r1, results, Try.results21, go_sem]) rfl ⟨rfl, hpr⟩
/-- What the roll from a seed answers. -/
def rfV (p c h s x : Int) : Value := if (vOk p c h s && seedOk x) = true then .tuple #[.agg #[.int .i64 (mx (1 + nxt x % s) (1 + nxt (nxt x) % s)), .int .i64 (mn (1 + nxt x % s) (1 + nxt (nxt x) % s))], .int .i64 (nxt (nxt x)), .bool true] else .tuple #[.agg #[.int .i64 0, .int .i64 0], .int .i64 0, .bool false]
theorem rfV_is (p c h s x : Int) : ∃ a b z ok, rfV p c h s x = .tuple #[.agg #[.int .i64 a, .int .i64 b], .int .i64 z, .bool ok] := by
  unfold rfV
  split
  · exact ⟨_, _, _, _, rfl⟩
  · exact ⟨_, _, _, _, rfl⟩
end Go.Proofs.Ytodpjbgapljabaa
