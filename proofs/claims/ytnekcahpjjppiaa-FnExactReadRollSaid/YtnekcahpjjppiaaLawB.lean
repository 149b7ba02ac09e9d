/-
  Walks of the laws on seeds and rolls: each answers true, and leaves all old memory as it was.
-/
import Derived.Test.YtnekcahpjjppiaaRoll
import Derived.Test.YtnekcahpjjppiaaReadRoll
import Derived.Deep.RegionHeld3
import Derived.Deep.DeepCutAuto
namespace Go.Proofs.Ytnekcahpjjppiaa
open Go.ChangeShapes Go.WideShapes Go.ChangeAt Go.RowKit Go.Joins

theorem FnExactNextSeed.walk (x : Int) (_ : I64 x) (w : World) :
    Calls Try.prog 7 #[.int .i64 x] w fun e w' => e = .returned (.bool true) ∧ Past w w' := by
  go_enter Try.func7, Try.ntmps7
  go_wp2_with (first | (go_at_call 23; refine (sExNext _ _).mono ?_; rintro e w9 ⟨rfl, rfl⟩) | (go_at_call 24; refine (exNext _ _).mono ?_; rintro e w9 ⟨rfl, rfl⟩))
  go_ret
  exact ⟨rfl, (by repeat (first | exact Past.refl _ | refine Past.alloc ?_ _ | refine Past.drew ?_ | refine Past.setCell ?_ (by first | (simp; done) | (simp <;> omega)) _ | refine Past.trans ?_ (by assumption)))⟩
theorem FnExactIsRoll.walk (p c h s : Int) (_ : I64 p) (_ : I64 c) (_ : I64 h) (_ : I64 s) (a b : Int) (_ : I64 a) (_ : I64 b) (w : World) :
    Calls Try.prog 11 #[.agg #[.int .i64 p, .int .i64 c, .int .i64 h, .int .i64 s], .agg #[.int .i64 a, .int .i64 b]] w fun e w' => e = .returned (.bool true) ∧ Past w w' := by
  go_enter Try.func11, Try.ntmps11
  go_wp2_with fail
  go_region_held3 (fun w' => w'.cell? ⟨w.heap.size, 0, none⟩ = some (.int .i64 p) ∧ w'.cell? ⟨w.heap.size, 1, none⟩ = some (.int .i64 c) ∧ w'.cell? ⟨w.heap.size, 2, none⟩ = some (.int .i64 h) ∧ w'.cell? ⟨w.heap.size, 3, none⟩ = some (.int .i64 s) ∧ w'.cell? ⟨w.heap.size + 1, 0, none⟩ = some (.int .i64 a) ∧ w'.cell? ⟨w.heap.size + 1, 1, none⟩ = some (.int .i64 b) ∧ Past ((w.alloc (.cells #[.int .i64 p, .int .i64 c, .int .i64 h, .int .i64 s] 24)).alloc (.cells #[.int .i64 a, .int .i64 b] 35)) w') (first | (go_split_ands; refine ⟨?_, ?_, ?_, ?_, ?_, ?_, ?_⟩ <;> first | assumption | (refine Past.keep hb1 ?_; assumption) | (refine Past.trans ?_ hb1; assumption) | (refine Past.drew ?_; assumption)) | (refine ⟨?_, ?_, ?_, ?_, ?_, ?_, Past.drew (Past.refl _)⟩ <;> simp)) (first | (go_at_call 16; refine (toVar_any _ _ _ _ _).mono ?_; rintro e w1 ⟨rfl, hb1⟩) | (go_at_call 32; refine (toRoll_any _ _ _).mono ?_; rintro e w1 ⟨rfl, hb1⟩) | (go_at_call 31; refine (sIsRoll _ _ _ _ _ _ _).mono ?_; rintro e w1 ⟨rfl, hb1⟩))
  go_wp2_with fail
  go_region_held3 (fun w' => w'.cell? ⟨w.heap.size, 0, none⟩ = some (.int .i64 p) ∧ w'.cell? ⟨w.heap.size, 1, none⟩ = some (.int .i64 c) ∧ w'.cell? ⟨w.heap.size, 2, none⟩ = some (.int .i64 h) ∧ w'.cell? ⟨w.heap.size, 3, none⟩ = some (.int .i64 s) ∧ w'.cell? ⟨w.heap.size + 1, 0, none⟩ = some (.int .i64 a) ∧ w'.cell? ⟨w.heap.size + 1, 1, none⟩ = some (.int .i64 b) ∧ Past ((w.alloc (.cells #[.int .i64 p, .int .i64 c, .int .i64 h, .int .i64 s] 24)).alloc (.cells #[.int .i64 a, .int .i64 b] 35)) w') (first | (go_split_ands; refine ⟨?_, ?_, ?_, ?_, ?_, ?_, ?_⟩ <;> first | assumption | (refine Past.keep hb1 ?_; assumption) | (refine Past.trans ?_ hb1; assumption) | (refine Past.drew ?_; assumption)) | (refine ⟨?_, ?_, ?_, ?_, ?_, ?_, Past.drew (Past.refl _)⟩ <;> simp)) (first | (go_at_call 16; refine (toVar_any _ _ _ _ _).mono ?_; rintro e w1 ⟨rfl, hb1⟩) | (go_at_call 32; refine (toRoll_any _ _ _).mono ?_; rintro e w1 ⟨rfl, hb1⟩) | (go_at_call 33; refine (isRoll _ _ _ _ _ _ _).mono ?_; rintro e w1 ⟨rfl, hb1⟩))
  go_wp2
  go_split_ands
  go_ret
  exact ⟨rfl, (by repeat (first | exact Past.refl _ | refine Past.alloc ?_ _ | refine Past.drew ?_ | refine Past.setCell ?_ (by first | (simp; done) | (simp <;> omega)) _ | refine Past.trans ?_ (by assumption)))⟩
theorem FnExactRollNumber.walk (p c h s : Int) (_ : I64 p) (_ : I64 c) (_ : I64 h) (_ : I64 s) (a b : Int) (_ : I64 a) (_ : I64 b) (w : World) :
    Calls Try.prog 12 #[.agg #[.int .i64 p, .int .i64 c, .int .i64 h, .int .i64 s], .agg #[.int .i64 a, .int .i64 b]] w fun e w' => e = .returned (.bool true) ∧ Past w w' := by
  go_enter Try.func12, Try.ntmps12
  go_wp2_with fail
  go_region_held3 (fun w' => w'.cell? ⟨w.heap.size, 0, none⟩ = some (.int .i64 p) ∧ w'.cell? ⟨w.heap.size, 1, none⟩ = some (.int .i64 c) ∧ w'.cell? ⟨w.heap.size, 2, none⟩ = some (.int .i64 h) ∧ w'.cell? ⟨w.heap.size, 3, none⟩ = some (.int .i64 s) ∧ w'.cell? ⟨w.heap.size + 1, 0, none⟩ = some (.int .i64 a) ∧ w'.cell? ⟨w.heap.size + 1, 1, none⟩ = some (.int .i64 b) ∧ Past ((w.alloc (.cells #[.int .i64 p, .int .i64 c, .int .i64 h, .int .i64 s] 24)).alloc (.cells #[.int .i64 a, .int .i64 b] 35)) w') (first | (go_split_ands; refine ⟨?_, ?_, ?_, ?_, ?_, ?_, ?_⟩ <;> first | assumption | (refine Past.keep hb1 ?_; assumption) | (refine Past.trans ?_ hb1; assumption) | (refine Past.drew ?_; assumption)) | (refine ⟨?_, ?_, ?_, ?_, ?_, ?_, Past.drew (Past.refl _)⟩ <;> simp)) (first | (go_at_call 16; refine (toVar_any _ _ _ _ _).mono ?_; rintro e w1 ⟨rfl, hb1⟩) | (go_at_call 32; refine (toRoll_any _ _ _).mono ?_; rintro e w1 ⟨rfl, hb1⟩) | (go_at_call 34; refine (sRollNum _ _ _ _ _ _ _).mono ?_; rintro e w1 ⟨rfl, hb1⟩))
  go_wp2_with fail
  go_region_held3 (fun w' => w'.cell? ⟨w.heap.size, 0, none⟩ = some (.int .i64 p) ∧ w'.cell? ⟨w.heap.size, 1, none⟩ = some (.int .i64 c) ∧ w'.cell? ⟨w.heap.size, 2, none⟩ = some (.int .i64 h) ∧ w'.cell? ⟨w.heap.size, 3, none⟩ = some (.int .i64 s) ∧ w'.cell? ⟨w.heap.size + 1, 0, none⟩ = some (.int .i64 a) ∧ w'.cell? ⟨w.heap.size + 1, 1, none⟩ = some (.int .i64 b) ∧ Past ((w.alloc (.cells #[.int .i64 p, .int .i64 c, .int .i64 h, .int .i64 s] 24)).alloc (.cells #[.int .i64 a, .int .i64 b] 35)) w') (first | (go_split_ands; refine ⟨?_, ?_, ?_, ?_, ?_, ?_, ?_⟩ <;> first | assumption | (refine Past.keep hb1 ?_; assumption) | (refine Past.trans ?_ hb1; assumption) | (refine Past.drew ?_; assumption)) | (refine ⟨?_, ?_, ?_, ?_, ?_, ?_, Past.drew (Past.refl _)⟩ <;> simp)) (first | (go_at_call 16; refine (toVar_any _ _ _ _ _).mono ?_; rintro e w1 ⟨rfl, hb1⟩) | (go_at_call 32; refine (toRoll_any _ _ _).mono ?_; rintro e w1 ⟨rfl, hb1⟩) | (go_at_call 35; refine (rollNum _ _ _ _ _ _ _).mono ?_; rintro e w1 ⟨rfl, hb1⟩))
  go_wp2
  go_split_ands
  go_ret
  exact ⟨rfl, (by repeat (first | exact Past.refl _ | refine Past.alloc ?_ _ | refine Past.drew ?_ | refine Past.setCell ?_ (by first | (simp; done) | (simp <;> omega)) _ | refine Past.trans ?_ (by assumption)))⟩
theorem FnExactRollWeight.walk (p c h s : Int) (_ : I64 p) (_ : I64 c) (_ : I64 h) (_ : I64 s) (a b : Int) (_ : I64 a) (_ : I64 b) (w : World) :
    Calls Try.prog 13 #[.agg #[.int .i64 p, .int .i64 c, .int .i64 h, .int .i64 s], .agg #[.int .i64 a, .int .i64 b]] w fun e w' => e = .returned (.bool true) ∧ Past w w' := by
  go_enter Try.func13, Try.ntmps13
  go_wp2_with fail
  go_region_held3 (fun w' => w'.cell? ⟨w.heap.size, 0, none⟩ = some (.int .i64 p) ∧ w'.cell? ⟨w.heap.size, 1, none⟩ = some (.int .i64 c) ∧ w'.cell? ⟨w.heap.size, 2, none⟩ = some (.int .i64 h) ∧ w'.cell? ⟨w.heap.size, 3, none⟩ = some (.int .i64 s) ∧ w'.cell? ⟨w.heap.size + 1, 0, none⟩ = some (.int .i64 a) ∧ w'.cell? ⟨w.heap.size + 1, 1, none⟩ = some (.int .i64 b) ∧ Past ((w.alloc (.cells #[.int .i64 p, .int .i64 c, .int .i64 h, .int .i64 s] 24)).alloc (.cells #[.int .i64 a, .int .i64 b] 35)) w') (first | (go_split_ands; refine ⟨?_, ?_, ?_, ?_, ?_, ?_, ?_⟩ <;> first | assumption | (refine Past.keep hb1 ?_; assumption) | (refine Past.trans ?_ hb1; assumption) | (refine Past.drew ?_; assumption)) | (refine ⟨?_, ?_, ?_, ?_, ?_, ?_, Past.drew (Past.refl _)⟩ <;> simp)) (first | (go_at_call 16; refine (toVar_any _ _ _ _ _).mono ?_; rintro e w1 ⟨rfl, hb1⟩) | (go_at_call 32; refine (toRoll_any _ _ _).mono ?_; rintro e w1 ⟨rfl, hb1⟩) | (go_at_call 36; refine (sWeight _ _ _ _ _ _ _).mono ?_; rintro e w1 ⟨rfl, hb1⟩))
  go_wp2_with fail
  go_region_held3 (fun w' => w'.cell? ⟨w.heap.size, 0, none⟩ = some (.int .i64 p) ∧ w'.cell? ⟨w.heap.size, 1, none⟩ = some (.int .i64 c) ∧ w'.cell? ⟨w.heap.size, 2, none⟩ = some (.int .i64 h) ∧ w'.cell? ⟨w.heap.size, 3, none⟩ = some (.int .i64 s) ∧ w'.cell? ⟨w.heap.size + 1, 0, none⟩ = some (.int .i64 a) ∧ w'.cell? ⟨w.heap.size + 1, 1, none⟩ = some (.int .i64 b) ∧ Past ((w.alloc (.cells #[.int .i64 p, .int .i64 c, .int .i64 h, .int .i64 s] 24)).alloc (.cells #[.int .i64 a, .int .i64 b] 35)) w') (first | (go_split_ands; refine ⟨?_, ?_, ?_, ?_, ?_, ?_, ?_⟩ <;> first | assumption | (refine Past.keep hb1 ?_; assumption) | (refine Past.trans ?_ hb1; assumption) | (refine Past.drew ?_; assumption)) | (refine ⟨?_, ?_, ?_, ?_, ?_, ?_, Past.drew (Past.refl _)⟩ <;> simp)) (first | (go_at_call 16; refine (toVar_any _ _ _ _ _).mono ?_; rintro e w1 ⟨rfl, hb1⟩) | (go_at_call 32; refine (toRoll_any _ _ _).mono ?_; rintro e w1 ⟨rfl, hb1⟩) | (go_at_call 37; refine (weight _ _ _ _ _ _ _).mono ?_; rintro e w1 ⟨rfl, hb1⟩))
  go_wp2
  go_split_ands
  go_ret
  exact ⟨rfl, (by repeat (first | exact Past.refl _ | refine Past.alloc ?_ _ | refine Past.drew ?_ | refine Past.setCell ?_ (by first | (simp; done) | (simp <;> omega)) _ | refine Past.trans ?_ (by assumption)))⟩
theorem FnExactReadRoll.walk (p c h s : Int) (_ : I64 p) (_ : I64 c) (_ : I64 h) (_ : I64 s) (t : ByteArray) (ht : t.size ≤ maxLen) (w : World) :
    Calls Try.prog 14 #[.agg #[.int .i64 p, .int .i64 c, .int .i64 h, .int .i64 s], .string t] w fun e w' => e = .returned (.bool true) ∧ Past w w' := by
  unfold maxLen at ht
  by_cases hbig : 1048576 < t.size
  · have hb : (1048576 : Int) < (t.size : Int) := by omega
    clear hbig
    go_enter Try.func14, Try.ntmps14
    go_wp2
    go_ret
    exact ⟨rfl, (by repeat (first | exact Past.refl _ | refine Past.alloc ?_ _ | refine Past.drew ?_ | refine Past.setCell ?_ (by first | (simp; done) | (simp <;> omega)) _ | refine Past.trans ?_ (by assumption)))⟩
  · have hb : (t.size : Int) ≤ (1048576 : Int) := by omega
    clear hbig
    by_cases h2 : t.size = 2
    · obtain ⟨x, hx⟩ : ∃ x, t[0] = x := ⟨_, rfl⟩
      obtain ⟨y, hy⟩ : ∃ y, t[1] = y := ⟨_, rfl⟩
      have HX := Lib.hid hx
      have HY := Lib.hid hy
      clear hx hy
      cases hr : isRollF p c h s ((x.toNat : Int) - 48) ((y.toNat : Int) - 48)
      · have HR := Lib.hid hr
        clear hr
        go_enter Try.func14, Try.ntmps14
        go_wp2_with (first | (go_at_call 16; refine (toVar_any _ _ _ _ _).mono ?_; rintro e w2 ⟨rfl, hb2⟩; obtain ⟨hc2, hf2, _⟩ := hb2.cells; have hz2_0 : w.heap.size < w2.heap.size := Past.lt hb2 (by first | omega | (simp <;> omega)); have hz2_1 : w3.heap.size < w2.heap.size := Past.lt hb2 (by first | omega | (simp <;> omega))) | (go_at_call 16; refine (toVar_any _ _ _ _ _).mono ?_; rintro e w1 ⟨rfl, hb1⟩; obtain ⟨hc1, hf1, _⟩ := hb1.cells; have hz1_0 : w.heap.size < w1.heap.size := Past.lt hb1 (by first | omega | (simp <;> omega))) | (go_at_call 38; refine (sReadRoll_no _ _ _ _ _ h2 _ _ HX.out HY.out HR.out _).mono ?_; rintro e w3 ⟨rfl, hb3⟩; obtain ⟨hc3, hf3, _⟩ := hb3.cells; have hz3_0 : w.heap.size < w3.heap.size := Past.lt hb3 (by first | omega | (simp <;> omega))) | (go_at_call 39; refine (readRoll_no _ _ _ _ _ h2 _ _ HX.out HY.out HR.out _).mono ?_; rintro e w4 ⟨rfl, hb4⟩; obtain ⟨hc4, hf4, _⟩ := hb4.cells; have hz4_0 : w3.heap.size < w4.heap.size := Past.lt hb4 (by first | omega | (simp <;> omega))) | (go_at_call 40; refine (eqRoll_same _ _ _).mono ?_; rintro e w5 ⟨rfl, hb5⟩; obtain ⟨hc5, hf5, _⟩ := hb5.cells))
        go_ret
        exact ⟨rfl, (by repeat (first | exact Past.refl _ | refine Past.alloc ?_ _ | refine Past.drew ?_ | refine Past.setCell ?_ (by first | (simp; done) | (simp <;> omega)) _ | refine Past.trans ?_ (by assumption)))⟩
      · have HR := Lib.hid hr
        clear hr
        go_enter Try.func14, Try.ntmps14
        go_wp2_with (first | (go_at_call 16; refine (toVar_any _ _ _ _ _).mono ?_; rintro e w2 ⟨rfl, hb2⟩; obtain ⟨hc2, hf2, _⟩ := hb2.cells; have hz2_0 : w.heap.size < w2.heap.size := Past.lt hb2 (by first | omega | (simp <;> omega)); have hz2_1 : w3.heap.size < w2.heap.size := Past.lt hb2 (by first | omega | (simp <;> omega))) | (go_at_call 16; refine (toVar_any _ _ _ _ _).mono ?_; rintro e w1 ⟨rfl, hb1⟩; obtain ⟨hc1, hf1, _⟩ := hb1.cells; have hz1_0 : w.heap.size < w1.heap.size := Past.lt hb1 (by first | omega | (simp <;> omega))) | (go_at_call 38; refine (sReadRoll_yes _ _ _ _ _ h2 _ _ HX.out HY.out HR.out _).mono ?_; rintro e w3 ⟨rfl, hb3⟩; obtain ⟨hc3, hf3, _⟩ := hb3.cells; have hz3_0 : w.heap.size < w3.heap.size := Past.lt hb3 (by first | omega | (simp <;> omega))) | (go_at_call 39; refine (readRoll_yes _ _ _ _ _ h2 _ _ HX.out HY.out HR.out _).mono ?_; rintro e w4 ⟨rfl, hb4⟩; obtain ⟨hc4, hf4, _⟩ := hb4.cells; have hz4_0 : w3.heap.size < w4.heap.size := Past.lt hb4 (by first | omega | (simp <;> omega))) | (go_at_call 40; refine (eqRoll_same _ _ _).mono ?_; rintro e w5 ⟨rfl, hb5⟩; obtain ⟨hc5, hf5, _⟩ := hb5.cells))
        go_ret
        exact ⟨rfl, (by repeat (first | exact Past.refl _ | refine Past.alloc ?_ _ | refine Past.drew ?_ | refine Past.setCell ?_ (by first | (simp; done) | (simp <;> omega)) _ | refine Past.trans ?_ (by assumption)))⟩
    · have H2 := Lib.hid h2
      clear h2
      go_enter Try.func14, Try.ntmps14
      go_wp2_with (first | (go_at_call 16; refine (toVar_any _ _ _ _ _).mono ?_; rintro e w2 ⟨rfl, hb2⟩; obtain ⟨hc2, hf2, _⟩ := hb2.cells; have hz2_0 : w.heap.size < w2.heap.size := Past.lt hb2 (by first | omega | (simp <;> omega)); have hz2_1 : w3.heap.size < w2.heap.size := Past.lt hb2 (by first | omega | (simp <;> omega))) | (go_at_call 16; refine (toVar_any _ _ _ _ _).mono ?_; rintro e w1 ⟨rfl, hb1⟩; obtain ⟨hc1, hf1, _⟩ := hb1.cells; have hz1_0 : w.heap.size < w1.heap.size := Past.lt hb1 (by first | omega | (simp <;> omega))) | (go_at_call 38; refine (sReadRoll_short _ _ _ _ _ H2.out _).mono ?_; rintro e w3 ⟨rfl, hb3⟩; obtain ⟨hc3, hf3, _⟩ := hb3.cells; have hz3_0 : w.heap.size < w3.heap.size := Past.lt hb3 (by first | omega | (simp <;> omega))) | (go_at_call 39; refine (readRoll_short _ _ _ _ _ H2.out _).mono ?_; rintro e w4 ⟨rfl, hb4⟩; obtain ⟨hc4, hf4, _⟩ := hb4.cells; have hz4_0 : w3.heap.size < w4.heap.size := Past.lt hb4 (by first | omega | (simp <;> omega))) | (go_at_call 40; refine (eqRoll_same _ _ _).mono ?_; rintro e w5 ⟨rfl, hb5⟩; obtain ⟨hc5, hf5, _⟩ := hb5.cells))
      go_ret
      exact ⟨rfl, (by repeat (first | exact Past.refl _ | refine Past.alloc ?_ _ | refine Past.drew ?_ | refine Past.setCell ?_ (by first | (simp; done) | (simp <;> omega)) _ | refine Past.trans ?_ (by assumption)))⟩
end Go.Proofs.Ytnekcahpjjppiaa
