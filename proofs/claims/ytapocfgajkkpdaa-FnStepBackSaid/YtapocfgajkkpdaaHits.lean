/-
  Contracts: the legal steps with a die, and those that hit; each with a code.
-/
import Derived.Test.YtapocfgajkkpdaaLegal
import Derived.Test.YtapocfgajkkpdaaPut
namespace Go.Proofs.Ytapocfgajkkpdaa
open Go.ChangeShapes Go.WideShapes Go.ChangeAt Go.RowKit Go.Joins

/-- The element at j of a row of steps of the call's own, and its cells. -/
theorem OwS.at_ {base : Nat} {w : World} {A : Option Addr} {n k : Nat} {L : List Stp} (h : OwS base w A n k L) {j : Nat} (hj : j < n) :
    ∃ g a, A = some ⟨g, 0, none⟩ ∧ L[j]? = some a ∧ w.cell? ⟨g, j * 4, none⟩ = some (.int .i64 a.f) ∧ w.cell? ⟨g, j * 4 + 1, none⟩ = some (.int .i64 a.t) ∧ w.cell? ⟨g, j * 4 + 2, none⟩ = some (.int .i64 a.d) ∧ w.cell? ⟨g, j * 4 + 3, none⟩ = some (.bool a.x) := by
  obtain ⟨g, rfl⟩ := OwE.addr h (by omega)
  obtain ⟨b, o, a, hA, hj', c0, c1, c2, c3⟩ := RdS.at_ (OwS.rd h) hj
  have e1 : b = g := by simp only [Option.some.injEq, Addr.mk.injEq] at hA; exact hA.1.symm
  have e2 : o = 0 := by simp only [Option.some.injEq, Addr.mk.injEq] at hA; exact hA.2.1.symm
  subst e1 e2
  rw [Nat.zero_add] at c0 c1 c2 c3
  exact ⟨b, a, rfl, hj', c0, c1, c2, c3⟩
theorem OwS.past {base : Nat} {w w' : World} {A : Option Addr} {n k : Nat} {L : List Stp} (h : OwS base w A n k L) (p : Past w w') : OwS base w' A n k L := OwE.past h p
def lsL (p c h s : Int) (xs ys : List Int) (d : Int) : List Stp := if (bOk p c h s xs ys && win d 1 s) = true then legL p h xs ys d else []
def lsC (p c h s : Int) (xs ys : List Int) (d : Int) : Int := if bOk p c h s xs ys = true then (if win d 1 s = true then 0 else 2) else 1
/-- The steps that hit, among the first j. -/
def hitTo (L : List Stp) (j : Nat) : List Stp := (L.take j).filter (·.x)
def hitL (L : List Stp) : List Stp := L.filter (·.x)
theorem hitTo_end (L : List Stp) : hitTo L L.length = hitL L := by rw [hitTo, List.take_length, hitL]
theorem hitTo_yes {L : List Stp} {j : Nat} {a : Stp} (h : L[j]? = some a) (hx : a.x = true) : hitTo L (j + 1) = hitTo L j ++ [a] := by
  obtain ⟨hj, rfl⟩ := List.getElem?_eq_some_iff.1 h
  rw [hitTo, List.take_succ_eq_append_getElem hj, List.filter_append]
  simp [hx, hitTo]
theorem hitTo_no {L : List Stp} {j : Nat} {a : Stp} (h : L[j]? = some a) (hx : a.x = false) : hitTo L (j + 1) = hitTo L j := by
  obtain ⟨hj, rfl⟩ := List.getElem?_eq_some_iff.1 h
  rw [hitTo, List.take_succ_eq_append_getElem hj, List.filter_append]
  simp [hx, hitTo]
theorem hitTo_le (L : List Stp) (j : Nat) : (hitTo L j).length ≤ L.length := Nat.le_trans (List.length_filter_le _ _) (by rw [List.length_take]; omega)
theorem lsL_le (p c h s : Int) (xs ys : List Int) (d : Int) : (lsL p c h s xs ys d).length ≤ 1000 := by
  unfold lsL
  split
  · rename_i hb
    simp only [Bool.and_eq_true] at hb
    have F := bFacts hb.1
    have := legTo_le p h xs ys d (p.toNat + 1)
    unfold legL
    omega
  · simp
theorem hitL_le (p c h s : Int) (xs ys : List Int) (d : Int) : (hitL (lsL p c h s xs ys d)).length ≤ 1000 := Nat.le_trans (List.length_filter_le _ _) (lsL_le p c h s xs ys d)
theorem StepsIn.put {w1 w : World} {A : Option Addr} {k : Nat} {L : List Stp} (ho : OwS w1.heap.size w A L.length k L) (hp : Past w1 w) : StepsIn w1 w (.slice A L.length k) L := ⟨A, k, rfl, ho, hp⟩
theorem StepsCode.nil {w w' : World} {code : Int} (hp : Past w w') : StepsCode w [] code (.returned (.tuple #[.slice none 0 0, .int .i64 code])) w' := ⟨none, 0, rfl, OwE.nil _ _ _ _ _, hp⟩
theorem StepsCode.lit {w w1 : World} {code : Int} (hp : Past w w1) : StepsCode w [] code (.returned (.tuple #[.slice (some ⟨w1.heap.size, 0, none⟩) 0 0, .int .i64 code])) (w1.alloc (.cells #[] 66)) :=
  ⟨some ⟨w1.heap.size, 0, none⟩, 0, rfl, ⟨rfl, World.ownsRow_lit w1 #[] 0 hp.sz (Nat.zero_le _) rfl⟩, hp.alloc _⟩
set_option maxHeartbeats 4000000 in
theorem legalStepsC (p c h s i : Int) (A D : Option Addr) (n k m l : Nat) (xs ys : List Int) (w : World) (hx : RdI w A n xs) (hy : RdI w D m ys) (hn : n ≤ 1048576) (hm : m ≤ 1048576) :
    Calls Try.prog 47 #[.agg #[.int .i64 p, .int .i64 c, .int .i64 h, .int .i64 s], .agg #[.slice A n k, .slice D m l], .int .i64 i] w (StepsCode w (lsL p c h s xs ys i) (lsC p c h s xs ys i)) := by
  cases hb : bOk p c h s xs ys
  · rw [show lsL p c h s xs ys i = [] from by simp [lsL, hb], show lsC p c h s xs ys i = 1 from by simp [lsC, hb]]
    have HB := Lib.hid hb
    clear hb
    go_enter Try.func47, Try.ntmps47
    go_wp2_with (go_at_call 31; (with_reducible refine (isBoard_b _ _ _ _ _ _ _ _ _ _ _ _ _ _ HB (hx.past (by repeat (first | exact Past.refl _ | assumption | refine Past.alloc ?_ _ | refine Past.drew ?_ | refine Past.drewN ?_ _ | refine Past.setCell ?_ (by first | (simp; done) | (simp <;> omega)) _ | refine Past.trans ?_ (past_over _ _) | refine Past.trans ?_ (by assumption)))) (hy.past (by repeat (first | exact Past.refl _ | assumption | refine Past.alloc ?_ _ | refine Past.drew ?_ | refine Past.drewN ?_ _ | refine Past.setCell ?_ (by first | (simp; done) | (simp <;> omega)) _ | refine Past.trans ?_ (past_over _ _) | refine Past.trans ?_ (by assumption)))) hn hm).mono ?_); rintro e w1 ⟨rfl, hb1⟩; obtain ⟨hc1, hf1, _⟩ := hb1.cells; have hz1_0 : w.heap.size < w1.heap.size := Past.lt hb1 (by first | omega | (simp <;> omega)); have hz1_1 : w.heap.size + 1 < w1.heap.size := Past.lt hb1 (by first | omega | (simp <;> omega)))
    go_ret2
    first
    | exact StepsCode.nil (by repeat (first | exact Past.refl _ | assumption | refine Past.alloc ?_ _ | refine Past.drew ?_ | refine Past.drewN ?_ _ | refine Past.setCell ?_ (by first | (simp; done) | (simp <;> omega)) _ | refine Past.trans ?_ (past_over _ _) | refine Past.trans ?_ (by assumption)))
    | exact StepsCode.lit (by repeat (first | exact Past.refl _ | assumption | refine Past.alloc ?_ _ | refine Past.drew ?_ | refine Past.drewN ?_ _ | refine Past.setCell ?_ (by first | (simp; done) | (simp <;> omega)) _ | refine Past.trans ?_ (past_over _ _) | refine Past.trans ?_ (by assumption)))
  · have HB := Lib.hid hb
    cases hw : win i 1 s
    · rw [show lsL p c h s xs ys i = [] from by simp [lsL, hw], show lsC p c h s xs ys i = 2 from by simp [lsC, hb, hw]]
      have HW := Lib.hid hw
      clear hb hw
      go_enter Try.func47, Try.ntmps47
      go_wp2_with (first | (go_at_call 31; (with_reducible refine (isBoard_b _ _ _ _ _ _ _ _ _ _ _ _ _ _ HB (hx.past (by repeat (first | exact Past.refl _ | assumption | refine Past.alloc ?_ _ | refine Past.drew ?_ | refine Past.drewN ?_ _ | refine Past.setCell ?_ (by first | (simp; done) | (simp <;> omega)) _ | refine Past.trans ?_ (past_over _ _) | refine Past.trans ?_ (by assumption)))) (hy.past (by repeat (first | exact Past.refl _ | assumption | refine Past.alloc ?_ _ | refine Past.drew ?_ | refine Past.drewN ?_ _ | refine Past.setCell ?_ (by first | (simp; done) | (simp <;> omega)) _ | refine Past.trans ?_ (past_over _ _) | refine Past.trans ?_ (by assumption)))) hn hm).mono ?_); rintro e w1 ⟨rfl, hb1⟩; obtain ⟨hc1, hf1, _⟩ := hb1.cells; have hz1_0 : w.heap.size < w1.heap.size := Past.lt hb1 (by first | omega | (simp <;> omega)); have hz1_1 : w.heap.size + 1 < w1.heap.size := Past.lt hb1 (by first | omega | (simp <;> omega))) | (go_at_call 71; (with_reducible refine (within_b _ _ _ _ HW _).mono ?_); rintro e w9 ⟨rfl, rfl⟩))
      go_ret2
      first
      | exact StepsCode.nil (by repeat (first | exact Past.refl _ | assumption | refine Past.alloc ?_ _ | refine Past.drew ?_ | refine Past.drewN ?_ _ | refine Past.setCell ?_ (by first | (simp; done) | (simp <;> omega)) _ | refine Past.trans ?_ (past_over _ _) | refine Past.trans ?_ (by assumption)))
      | exact StepsCode.lit (by repeat (first | exact Past.refl _ | assumption | refine Past.alloc ?_ _ | refine Past.drew ?_ | refine Past.drewN ?_ _ | refine Past.setCell ?_ (by first | (simp; done) | (simp <;> omega)) _ | refine Past.trans ?_ (past_over _ _) | refine Past.trans ?_ (by assumption)))
    · rw [show lsL p c h s xs ys i = legL p h xs ys i from by simp [lsL, hb, hw], show lsC p c h s xs ys i = 0 from by simp [lsC, hb, hw]]
      have HW := Lib.hid hw
      have F := Lib.hid (bFacts hb)
      have h0x := Lib.hid F.out.2.2.2.2.1.2.1
      have h0y := Lib.hid F.out.2.2.2.2.2.2.1
      have ux : xs.sum ≤ 1000000 := by have := F.out; omega
      have uy : ys.sum ≤ 1000000 := by have := F.out; omega
      obtain ⟨d0, d1⟩ := win_yes hw
      have d2 : i ≤ 6 := by have := F.out; omega
      clear hb hw
      obtain ⟨P, rfl⟩ := Int.eq_ofNat_of_zero_le (show 0 ≤ p from by have := F.out; omega)
      have hP : P ≤ 24 := by have := F.out; omega
      have ln := Lib.hid (show n = P + 1 from by have := F.out; have := hx.1; omega)
      have lm := Lib.hid (show m = P + 1 from by have := F.out; have := hy.1; omega)
      go_enter Try.func47, Try.ntmps47
      go_wp2_with (first | (go_at_call 31; (with_reducible refine (isBoard_b _ _ _ _ _ _ _ _ _ _ _ _ _ _ HB (hx.past (by repeat (first | exact Past.refl _ | assumption | refine Past.alloc ?_ _ | refine Past.drew ?_ | refine Past.drewN ?_ _ | refine Past.setCell ?_ (by first | (simp; done) | (simp <;> omega)) _ | refine Past.trans ?_ (past_over _ _) | refine Past.trans ?_ (by assumption)))) (hy.past (by repeat (first | exact Past.refl _ | assumption | refine Past.alloc ?_ _ | refine Past.drew ?_ | refine Past.drewN ?_ _ | refine Past.setCell ?_ (by first | (simp; done) | (simp <;> omega)) _ | refine Past.trans ?_ (past_over _ _) | refine Past.trans ?_ (by assumption)))) hn hm).mono ?_); rintro e w1 ⟨rfl, hb1⟩; obtain ⟨hc1, hf1, _⟩ := hb1.cells; have hz1_0 : w.heap.size < w1.heap.size := Past.lt hb1 (by first | omega | (simp <;> omega)); have hz1_1 : w.heap.size + 1 < w1.heap.size := Past.lt hb1 (by first | omega | (simp <;> omega))) | (go_at_call 71; (with_reducible refine (within_b _ _ _ _ HW _).mono ?_); rintro e w9 ⟨rfl, rfl⟩) | (go_at_call 89; (with_reducible refine (legalSteps_any P c h s i _ _ _ _ _ _ _ _ _ (hx.past (by repeat (first | exact Past.refl _ | assumption | refine Past.alloc ?_ _ | refine Past.drew ?_ | refine Past.drewN ?_ _ | refine Past.setCell ?_ (by first | (simp; done) | (simp <;> omega)) _ | refine Past.trans ?_ (past_over _ _) | refine Past.trans ?_ (by assumption)))) (hy.past (by repeat (first | exact Past.refl _ | assumption | refine Past.alloc ?_ _ | refine Past.drew ?_ | refine Past.drewN ?_ _ | refine Past.setCell ?_ (by first | (simp; done) | (simp <;> omega)) _ | refine Past.trans ?_ (past_over _ _) | refine Past.trans ?_ (by assumption)))) ln.out lm.out hP d0 d2 h0x h0y ux uy).mono ?_); rintro e w2 ⟨A', k', rfl, hown, hb2⟩; obtain ⟨hc2, hf2, _⟩ := hb2.cells))
      go_ret2
      exact ⟨A', k', rfl, OwE.less hown (by first | omega | (simp <;> omega)), (by repeat (first | exact Past.refl _ | assumption | refine Past.alloc ?_ _ | refine Past.drew ?_ | refine Past.drewN ?_ _ | refine Past.setCell ?_ (by first | (simp; done) | (simp <;> omega)) _ | refine Past.trans ?_ (past_over _ _) | refine Past.trans ?_ (by assumption)))⟩
set_option maxHeartbeats 4000000 in
theorem sLegalStepsC (p c h s i : Int) (A D : Option Addr) (n k m l : Nat) (xs ys : List Int) (w : World) (hx : RdI w A n xs) (hy : RdI w D m ys) (hn : n ≤ 1048576) (hm : m ≤ 1048576) :
    Calls Try.prog 48 #[.agg #[.int .i64 p, .int .i64 c, .int .i64 h, .int .i64 s], .agg #[.slice A n k, .slice D m l], .int .i64 i] w (StepsCode w (lsL p c h s xs ys i) (lsC p c h s xs ys i)) := by
  cases hb : bOk p c h s xs ys
  · rw [show lsL p c h s xs ys i = [] from by simp [lsL, hb], show lsC p c h s xs ys i = 1 from by simp [lsC, hb]]
    have HB := Lib.hid hb
    clear hb
    go_enter Try.func48, Try.ntmps48
    go_wp2_with (go_at_call 26; (with_reducible refine (sIsBoard_b _ _ _ _ _ _ _ _ _ _ _ _ _ _ HB (hx.past (by repeat (first | exact Past.refl _ | assumption | refine Past.alloc ?_ _ | refine Past.drew ?_ | refine Past.drewN ?_ _ | refine Past.setCell ?_ (by first | (simp; done) | (simp <;> omega)) _ | refine Past.trans ?_ (past_over _ _) | refine Past.trans ?_ (by assumption)))) (hy.past (by repeat (first | exact Past.refl _ | assumption | refine Past.alloc ?_ _ | refine Past.drew ?_ | refine Past.drewN ?_ _ | refine Past.setCell ?_ (by first | (simp; done) | (simp <;> omega)) _ | refine Past.trans ?_ (past_over _ _) | refine Past.trans ?_ (by assumption)))) hn hm).mono ?_); rintro e w1 ⟨rfl, hb1⟩; obtain ⟨hc1, hf1, _⟩ := hb1.cells; have hz1_0 : w.heap.size < w1.heap.size := Past.lt hb1 (by first | omega | (simp <;> omega)); have hz1_1 : w.heap.size + 1 < w1.heap.size := Past.lt hb1 (by first | omega | (simp <;> omega)))
    go_ret2
    first
    | exact StepsCode.nil (by repeat (first | exact Past.refl _ | assumption | refine Past.alloc ?_ _ | refine Past.drew ?_ | refine Past.drewN ?_ _ | refine Past.setCell ?_ (by first | (simp; done) | (simp <;> omega)) _ | refine Past.trans ?_ (past_over _ _) | refine Past.trans ?_ (by assumption)))
    | exact StepsCode.lit (by repeat (first | exact Past.refl _ | assumption | refine Past.alloc ?_ _ | refine Past.drew ?_ | refine Past.drewN ?_ _ | refine Past.setCell ?_ (by first | (simp; done) | (simp <;> omega)) _ | refine Past.trans ?_ (past_over _ _) | refine Past.trans ?_ (by assumption)))
  · have HB := Lib.hid hb
    cases hw : win i 1 s
    · rw [show lsL p c h s xs ys i = [] from by simp [lsL, hw], show lsC p c h s xs ys i = 2 from by simp [lsC, hb, hw]]
      have HW := Lib.hid hw
      clear hb hw
      go_enter Try.func48, Try.ntmps48
      go_wp2_with (first | (go_at_call 26; (with_reducible refine (sIsBoard_b _ _ _ _ _ _ _ _ _ _ _ _ _ _ HB (hx.past (by repeat (first | exact Past.refl _ | assumption | refine Past.alloc ?_ _ | refine Past.drew ?_ | refine Past.drewN ?_ _ | refine Past.setCell ?_ (by first | (simp; done) | (simp <;> omega)) _ | refine Past.trans ?_ (past_over _ _) | refine Past.trans ?_ (by assumption)))) (hy.past (by repeat (first | exact Past.refl _ | assumption | refine Past.alloc ?_ _ | refine Past.drew ?_ | refine Past.drewN ?_ _ | refine Past.setCell ?_ (by first | (simp; done) | (simp <;> omega)) _ | refine Past.trans ?_ (past_over _ _) | refine Past.trans ?_ (by assumption)))) hn hm).mono ?_); rintro e w1 ⟨rfl, hb1⟩; obtain ⟨hc1, hf1, _⟩ := hb1.cells; have hz1_0 : w.heap.size < w1.heap.size := Past.lt hb1 (by first | omega | (simp <;> omega)); have hz1_1 : w.heap.size + 1 < w1.heap.size := Past.lt hb1 (by first | omega | (simp <;> omega))) | (go_at_call 68; (with_reducible refine (l01In_b _ _ _ _ HW _).mono ?_); rintro e w9 ⟨rfl, rfl⟩))
      go_ret2
      first
      | exact StepsCode.nil (by repeat (first | exact Past.refl _ | assumption | refine Past.alloc ?_ _ | refine Past.drew ?_ | refine Past.drewN ?_ _ | refine Past.setCell ?_ (by first | (simp; done) | (simp <;> omega)) _ | refine Past.trans ?_ (past_over _ _) | refine Past.trans ?_ (by assumption)))
      | exact StepsCode.lit (by repeat (first | exact Past.refl _ | assumption | refine Past.alloc ?_ _ | refine Past.drew ?_ | refine Past.drewN ?_ _ | refine Past.setCell ?_ (by first | (simp; done) | (simp <;> omega)) _ | refine Past.trans ?_ (past_over _ _) | refine Past.trans ?_ (by assumption)))
    · rw [show lsL p c h s xs ys i = legL p h xs ys i from by simp [lsL, hb, hw], show lsC p c h s xs ys i = 0 from by simp [lsC, hb, hw]]
      have HW := Lib.hid hw
      have F := Lib.hid (bFacts hb)
      have h0x := Lib.hid F.out.2.2.2.2.1.2.1
      have h0y := Lib.hid F.out.2.2.2.2.2.2.1
      have ux : xs.sum ≤ 1000000 := by have := F.out; omega
      have uy : ys.sum ≤ 1000000 := by have := F.out; omega
      obtain ⟨d0, d1⟩ := win_yes hw
      have d2 : i ≤ 6 := by have := F.out; omega
      clear hb hw
      obtain ⟨P, rfl⟩ := Int.eq_ofNat_of_zero_le (show 0 ≤ p from by have := F.out; omega)
      have hP : P ≤ 24 := by have := F.out; omega
      have ln := Lib.hid (show n = P + 1 from by have := F.out; have := hx.1; omega)
      have lm := Lib.hid (show m = P + 1 from by have := F.out; have := hy.1; omega)
      go_enter Try.func48, Try.ntmps48
      go_wp2_with (first | (go_at_call 26; (with_reducible refine (sIsBoard_b _ _ _ _ _ _ _ _ _ _ _ _ _ _ HB (hx.past (by repeat (first | exact Past.refl _ | assumption | refine Past.alloc ?_ _ | refine Past.drew ?_ | refine Past.drewN ?_ _ | refine Past.setCell ?_ (by first | (simp; done) | (simp <;> omega)) _ | refine Past.trans ?_ (past_over _ _) | refine Past.trans ?_ (by assumption)))) (hy.past (by repeat (first | exact Past.refl _ | assumption | refine Past.alloc ?_ _ | refine Past.drew ?_ | refine Past.drewN ?_ _ | refine Past.setCell ?_ (by first | (simp; done) | (simp <;> omega)) _ | refine Past.trans ?_ (past_over _ _) | refine Past.trans ?_ (by assumption)))) hn hm).mono ?_); rintro e w1 ⟨rfl, hb1⟩; obtain ⟨hc1, hf1, _⟩ := hb1.cells; have hz1_0 : w.heap.size < w1.heap.size := Past.lt hb1 (by first | omega | (simp <;> omega)); have hz1_1 : w.heap.size + 1 < w1.heap.size := Past.lt hb1 (by first | omega | (simp <;> omega))) | (go_at_call 68; (with_reducible refine (l01In_b _ _ _ _ HW _).mono ?_); rintro e w9 ⟨rfl, rfl⟩) | (go_at_call 90; (with_reducible refine (sLegal_any P c h s i _ _ _ _ _ _ _ _ _ (hx.past (by repeat (first | exact Past.refl _ | assumption | refine Past.alloc ?_ _ | refine Past.drew ?_ | refine Past.drewN ?_ _ | refine Past.setCell ?_ (by first | (simp; done) | (simp <;> omega)) _ | refine Past.trans ?_ (past_over _ _) | refine Past.trans ?_ (by assumption)))) (hy.past (by repeat (first | exact Past.refl _ | assumption | refine Past.alloc ?_ _ | refine Past.drew ?_ | refine Past.drewN ?_ _ | refine Past.setCell ?_ (by first | (simp; done) | (simp <;> omega)) _ | refine Past.trans ?_ (past_over _ _) | refine Past.trans ?_ (by assumption)))) ln.out lm.out hP d0 d2 h0x h0y ux uy).mono ?_); rintro e w2 ⟨A', k', rfl, hown, hb2⟩; obtain ⟨hc2, hf2, _⟩ := hb2.cells))
      go_ret2
      exact ⟨A', k', rfl, OwE.less hown (by first | omega | (simp <;> omega)), (by repeat (first | exact Past.refl _ | assumption | refine Past.alloc ?_ _ | refine Past.drew ?_ | refine Past.drewN ?_ _ | refine Past.setCell ?_ (by first | (simp; done) | (simp <;> omega)) _ | refine Past.trans ?_ (past_over _ _) | refine Past.trans ?_ (by assumption)))⟩
theorem hitSteps_not (p c h s i : Int) (A D : Option Addr) (n k m l : Nat) (xs ys : List Int) (w : World) (hx : RdI w A n xs) (hy : RdI w D m ys) (hn : n ≤ 1048576) (hm : m ≤ 1048576) (hc : Hid (lsC p c h s xs ys i ≠ 0)) :
    Calls Try.prog 51 #[.agg #[.int .i64 p, .int .i64 c, .int .i64 h, .int .i64 s], .agg #[.slice A n k, .slice D m l], .int .i64 i] w (StepsCode w [] (lsC p c h s xs ys i)) := by
  have h1 := fun w hx hy => legalStepsC p c h s i A D n k m l xs ys w hx hy hn hm
  have hb : (lsC p c h s xs ys i != 0) = true := by rw [bne_iff_ne]; exact hc.out
  generalize lsC p c h s xs ys i = code at h1 hb
  have H1 := Lib.hid h1
  clear h1
  go_enter Try.func51, Try.ntmps51
  go_wp2_with (go_at_call 47; (with_reducible refine (H1.out _ (hx.past (by repeat (first | exact Past.refl _ | assumption | refine Past.alloc ?_ _ | refine Past.drew ?_ | refine Past.drewN ?_ _ | refine Past.setCell ?_ (by first | (simp; done) | (simp <;> omega)) _ | refine Past.trans ?_ (past_over _ _) | refine Past.trans ?_ (by assumption)))) (hy.past (by repeat (first | exact Past.refl _ | assumption | refine Past.alloc ?_ _ | refine Past.drew ?_ | refine Past.drewN ?_ _ | refine Past.setCell ?_ (by first | (simp; done) | (simp <;> omega)) _ | refine Past.trans ?_ (past_over _ _) | refine Past.trans ?_ (by assumption))))).mono ?_); rintro e w1 ⟨A', k', rfl, hown, hb1⟩; obtain ⟨hc1, hf1, _⟩ := hb1.cells)
  go_ret2
  exact StepsCode.nil (by repeat (first | exact Past.refl _ | assumption | refine Past.alloc ?_ _ | refine Past.drew ?_ | refine Past.drewN ?_ _ | refine Past.setCell ?_ (by first | (simp; done) | (simp <;> omega)) _ | refine Past.trans ?_ (past_over _ _) | refine Past.trans ?_ (by assumption)))
set_option maxHeartbeats 4000000 in
set_option maxRecDepth 100000 in
theorem hitSteps_yes (p c h s i : Int) (A D : Option Addr) (n k m l : Nat) (xs ys : List Int) (w : World) (hx : RdI w A n xs) (hy : RdI w D m ys) (hn : n ≤ 1048576) (hm : m ≤ 1048576) (hc : Hid (lsC p c h s xs ys i = 0)) :
    Calls Try.prog 51 #[.agg #[.int .i64 p, .int .i64 c, .int .i64 h, .int .i64 s], .agg #[.slice A n k, .slice D m l], .int .i64 i] w (StepsCode w (hitL (lsL p c h s xs ys i)) 0) := by
  have h1 := fun w hx hy => legalStepsC p c h s i A D n k m l xs ys w hx hy hn hm
  have hl := lsL_le p c h s xs ys i
  rw [hc.out] at h1
  generalize lsL p c h s xs ys i = L at h1 hl
  have H1 := Lib.hid h1
  obtain ⟨i0, hi, hz0, hz1, hz2⟩ := info_parts infoS
  clear h1
  go_enter Try.func51, Try.ntmps51
  go_wp2_with (go_at_call 47; (with_reducible refine (H1.out _ (hx.past (by repeat (first | exact Past.refl _ | assumption | refine Past.alloc ?_ _ | refine Past.drew ?_ | refine Past.drewN ?_ _ | refine Past.setCell ?_ (by first | (simp; done) | (simp <;> omega)) _ | refine Past.trans ?_ (past_over _ _) | refine Past.trans ?_ (by assumption)))) (hy.past (by repeat (first | exact Past.refl _ | assumption | refine Past.alloc ?_ _ | refine Past.drew ?_ | refine Past.drewN ?_ _ | refine Past.setCell ?_ (by first | (simp; done) | (simp <;> omega)) _ | refine Past.trans ?_ (past_over _ _) | refine Past.trans ?_ (by assumption))))).mono ?_); rintro e w1 ⟨AL, kL, rfl, hL, hb1⟩; obtain ⟨hc1, hf1, _⟩ := hb1.cells; have hz1_0 : w.heap.size < w1.heap.size := Past.lt hb1 (by first | omega | (simp <;> omega)))
  have hp1 : Past w w1 := (by repeat (first | exact Past.refl _ | assumption | refine Past.alloc ?_ _ | refine Past.drew ?_ | refine Past.drewN ?_ _ | refine Past.setCell ?_ (by first | (simp; done) | (simp <;> omega)) _ | refine Past.trans ?_ (past_over _ _) | refine Past.trans ?_ (by assumption)))
  clear hc1 hf1
  go_loopw [10, 25] (fun v i wr => ∃ j : Nat, j ≤ L.length ∧ i = .int .i64 j ∧ StepsIn w1 wr v (hitTo L j)) (fun _ i _ => L.length - (intOf i).toNat)
  case atStart => exact ⟨0, Nat.zero_le _, rfl, StepsIn.nil w1⟩
  case round =>
    obtain ⟨j, hj, rfl, A', k', rfl, hown, hpast⟩ := hrel
    have hle := hitTo_le L j
    by_cases hlt : j < L.length
    · obtain ⟨g, a, rfl, haj, c0, c1, c2, c3⟩ := (OwS.past hL hpast).at_ hlt
      have HA := Lib.hid haj
      clear haj
      cases hax : a.x
      · have E := Lib.hid (hitTo_no HA.out hax)
        rw [hax] at c3
        clear hax
        go_wp2
        go_roundw
        case rel => exact ⟨j + 1, by omega, by go_num, by rw [E.out]; exact StepsIn.put (OwE.past hown (by repeat (first | exact Past.refl _ | assumption | refine Past.alloc ?_ _ | refine Past.drew ?_ | refine Past.drewN ?_ _ | refine Past.setCell ?_ (by first | (simp; done) | (simp <;> omega)) _ | refine Past.trans ?_ (past_over _ _) | refine Past.trans ?_ (by assumption)))) (by repeat (first | exact Past.refl _ | assumption | refine Past.alloc ?_ _ | refine Past.drew ?_ | refine Past.drewN ?_ _ | refine Past.setCell ?_ (by first | (simp; done) | (simp <;> omega)) _ | refine Past.trans ?_ (past_over _ _) | refine Past.trans ?_ (by assumption)))⟩
        case measure => simp [intOf]; omega
      · have E := Lib.hid (hitTo_yes HA.out hax)
        have hcells : a.cells = [.int .i64 a.f, .int .i64 a.t, .int .i64 a.d, .bool true] := by rw [Stp.cells, hax]
        have HC := Lib.hid hcells
        rw [hax] at c3
        clear hax hcells
        go_wp2_with (at_builtin; refine wpList_append_own _ rfl _ _ 61 rfl w1.heap.size 66 i0 (.agg #[.int .i64 0, .int .i64 0, .int .i64 0, .bool false]) 4 32 Try.underlying61 hi hz0 hz1 hz2 rfl (by decide) _ (hitTo L j).length (flat Stp.cells (hitTo L j)) rfl (OwE.alloc (OwE.alloc hown _) _).2 ⟨wr.heap.size + 1, 0, none⟩ 1 1 [.int .i64 a.f, .int .i64 a.t, .int .i64 a.d, .bool true] rfl rfl (World.news_of_block (Blk.at_ (by simp))) (by intro u hu; simp at hu; rcases hu with rfl | rfl | rfl | rfl <;> rfl) (by unfold maxLen; omega) (by omega) (by have := hpast.sz; simp; omega) ?_; intro v2 w3 hown3 hg3 hiff)
        rw [← HC.out] at hown3
        go_roundw
        case rel => exact ⟨j + 1, by omega, by go_num, by rw [E.out]; exact StepsIn.push (OwE.alloc (OwE.alloc hown _) _) (by repeat (first | exact Past.refl _ | assumption | refine Past.alloc ?_ _ | refine Past.drew ?_ | refine Past.drewN ?_ _ | refine Past.setCell ?_ (by first | (simp; done) | (simp <;> omega)) _ | refine Past.trans ?_ (past_over _ _) | refine Past.trans ?_ (by assumption))) hown3 hg3 (fun h => absurd (hiff.1 h).2 (by decide))⟩
        case measure => simp [intOf]; omega
    · obtain rfl : j = L.length := by omega
      go_wp2
      go_ret2
      rw [hitTo_end] at hown ⊢
      exact ⟨A', k', rfl, OwE.less hown hp1.sz, hp1.trans hpast⟩
theorem mod_grown {w w' : World} {A : Option Addr} {n k : Nat} (hg : w.grownBy w' (Value.slice A n k).ownBlock) : Mod (blk A) w w' :=
  ⟨hg.os, hg.tape, hg.output, hg.size, fun i hi hs => hg.block i hi (fun e => hs (by
    cases A with
    | none => simp [Value.ownBlock] at e
    | some a => exact ⟨a, rfl, by simp [Value.ownBlock] at e; exact e.symm⟩))⟩
theorem sep_push {A AL A' : Option Addr} {n k n' k' H : Nat} (hsep : ∀ b, blk A b → ¬ blk AL b) (hlt : ∀ b, blk AL b → b < H)
    (h : (Value.slice A' n' k').ownBlock = (Value.slice A n k).ownBlock ∨ (Value.slice A' n' k').ownBlock = some H) : ∀ b, blk A' b → ¬ blk AL b := by
  rintro b ⟨a, rfl, rfl⟩ hb
  rcases h with h | h
  · cases A with
    | none => simp [Value.ownBlock] at h
    | some a' =>
      simp only [Value.ownBlock, Option.some.injEq] at h
      exact hsep _ ⟨a', rfl, h.symm⟩ hb
  · simp only [Value.ownBlock, Option.some.injEq] at h
    have := hlt _ hb
    omega
/-- Steps collected in a row apart from another. -/
def StepsBy (AL : Option Addr) (w1 wr : World) (v : Value) (L : List Stp) : Prop := ∃ A k, v = .slice A L.length k ∧ OwS w1.heap.size wr A L.length k L ∧ Past w1 wr ∧ ∀ b, blk A b → ¬ blk AL b
theorem StepsBy.push {AL : Option Addr} {w1 w w' : World} {A : Option Addr} {k : Nat} {L : List Stp} {a : Stp} {v' : Value} (ho : OwS w1.heap.size w A L.length k L) (hp : Past w1 w) (hs : ∀ b, blk A b → ¬ blk AL b) (hlt : ∀ b, blk AL b → b < w.heap.size)
    (h : w'.ownsRow w1.heap.size 66 4 v' (L.length + 1) (flat Stp.cells L ++ a.cells)) (hg : w.grownBy w' (Value.slice A L.length k).ownBlock) (hnil : v' ≠ .slice none 0 0) (hat : v'.ownBlock = (Value.slice A L.length k).ownBlock ∨ v'.ownBlock = some w.heap.size) : StepsBy AL w1 w' v' (L ++ [a]) := by
  obtain ⟨A', k', rfl, ho'⟩ := OwE.push rfl h hnil
  exact ⟨A', k', rfl, ho', past_grown hp ho.2 (Nat.le_refl _) hg, sep_push hs hlt hat⟩
set_option maxHeartbeats 4000000 in
set_option maxRecDepth 100000 in
theorem sHits_any (P : Nat) (c h s d : Int) (A D : Option Addr) (n k m l : Nat) (xs ys : List Int) (w : World) (hx : RdI w A n xs) (hy : RdI w D m ys) (hn : n = P + 1) (hm : m = P + 1) (hP : P ≤ 24) (d0 : 1 ≤ d) (d1 : d ≤ 6)
    (h0x : Hid (∀ x ∈ xs, 0 ≤ x)) (h0y : Hid (∀ x ∈ ys, 0 ≤ x)) (ux : xs.sum ≤ 1000000) (uy : ys.sum ≤ 1000000) :
    Calls Try.prog 99 #[.agg #[.int .i64 (P : Int), .int .i64 c, .int .i64 h, .int .i64 s], .agg #[.slice A n k, .slice D m l], .int .i64 d] w (StepsRet w (hitL (legL P h xs ys d))) := by
  have h1 := fun w hx hy => sLegal_any P c h s d A D n k m l xs ys w hx hy hn hm hP d0 d1 h0x h0y ux uy
  have hl : (legL P h xs ys d).length ≤ 1000 := by have := legTo_le P h xs ys d (P + 1); rw [legL_eq]; omega
  generalize legL P h xs ys d = L at h1 hl
  have H1 := Lib.hid h1
  obtain ⟨i0, hi, hz0, hz1, hz2⟩ := info_parts infoS
  clear h1 hn hm
  obtain ⟨w1, hw1⟩ : ∃ w1 : World, w1 = ((w.alloc (.cells #[.int .i64 (P : Int), .int .i64 c, .int .i64 h, .int .i64 s] 25)).alloc (.cells #[.slice A n k, .slice D m l] 43)) := ⟨_, rfl⟩
  have hp1 : Past w w1 := by rw [hw1]; exact (by repeat (first | exact Past.refl _ | assumption | refine Past.alloc ?_ _ | refine Past.drew ?_ | refine Past.drewN ?_ _ | refine Past.setCell ?_ (by first | (simp; done) | (simp <;> omega)) _ | refine Past.trans ?_ (past_over _ _) | refine Past.trans ?_ (by assumption)))
  have c0 : w1.cell? ⟨w.heap.size, 0, none⟩ = some (.int .i64 (P : Int)) := by rw [hw1]; simp [go_sem]
  have c1 : w1.cell? ⟨w.heap.size, 1, none⟩ = some (.int .i64 c) := by rw [hw1]; simp [go_sem]
  have c2 : w1.cell? ⟨w.heap.size, 2, none⟩ = some (.int .i64 h) := by rw [hw1]; simp [go_sem]
  have c3 : w1.cell? ⟨w.heap.size, 3, none⟩ = some (.int .i64 s) := by rw [hw1]; simp [go_sem]
  have c4 : w1.cell? ⟨w.heap.size + 1, 0, none⟩ = some (.slice A n k) := by rw [hw1]; simp [go_sem]
  have c5 : w1.cell? ⟨w.heap.size + 1, 1, none⟩ = some (.slice D m l) := by rw [hw1]; simp [go_sem]
  have s1 : w.heap.size < w1.heap.size := by rw [hw1]; simp; omega
  have s2 : w.heap.size + 1 < w1.heap.size := by rw [hw1]; simp
  go_enter Try.func99, Try.ntmps99
  go_upto_region 1 with fail
  rw [← hw1]
  clear hw1
  go_wp2_with fail
  (with_reducible refine (H1.out _ (hx.past (by repeat (first | exact Past.refl _ | assumption | refine Past.alloc ?_ _ | refine Past.drew ?_ | refine Past.drewN ?_ _ | refine Past.setCell ?_ (by first | (simp; done) | (simp <;> omega)) _ | refine Past.trans ?_ (past_over _ _) | refine Past.trans ?_ (by assumption)))) (hy.past (by repeat (first | exact Past.refl _ | assumption | refine Past.alloc ?_ _ | refine Past.drew ?_ | refine Past.drewN ?_ _ | refine Past.setCell ?_ (by first | (simp; done) | (simp <;> omega)) _ | refine Past.trans ?_ (past_over _ _) | refine Past.trans ?_ (by assumption))))).mono ?_)
  rintro e w2 ⟨AL, kL, rfl, hL, hb2⟩
  have hL0 := fun b hb => OwE.blk_lt (b := b) hL hb
  have hS : StepsBy AL w1 w2 (.slice (some ⟨w1.heap.size, 0, none⟩) 0 0) [] := by
    obtain ⟨A', k', hv, ho, hp⟩ := (StepsIn.empty w1 66 rfl).past hb2
    simp only [List.length_nil, Value.slice.injEq, true_and] at hv
    obtain ⟨rfl, rfl⟩ := hv
    refine ⟨_, _, rfl, ho, hp, fun b hb hb' => ?_⟩
    rw [blk_some] at hb
    have h := hL0 b hb'
    simp only [World.size_alloc] at h
    omega
  have hp12 : Past w1 w2 := (by repeat (first | exact Past.refl _ | assumption | refine Past.alloc ?_ _ | refine Past.drew ?_ | refine Past.drewN ?_ _ | refine Past.setCell ?_ (by first | (simp; done) | (simp <;> omega)) _ | refine Past.trans ?_ (past_over _ _) | refine Past.trans ?_ (by assumption)))
  clear hb2 hL0
  go_wp2_with fail
  go_loopw [7, 9] (fun v i wr => ∃ j : Nat, j ≤ L.length ∧ i = .int .i64 j ∧ StepsBy AL w1 wr v (hitTo L j) ∧ OwS (w1.heap.size + 1) wr AL L.length kL L) (fun _ i _ => L.length - (intOf i).toNat)
  case atStart => exact ⟨0, Nat.zero_le _, rfl, hS, OwE.less hL (by simp)⟩
  case round =>
    obtain ⟨j, hj, rfl, ⟨A', k', rfl, hown, hpast, hsep⟩, hq⟩ := hrel
    clear hS
    have hle := hitTo_le L j
    by_cases hlt : j < L.length
    · obtain ⟨g, a, rfl, haj, d0, d1, d2, d3⟩ := hq.at_ hlt
      have HA := Lib.hid haj
      have HSEP := Lib.hid hsep
      clear haj hsep
      cases hax : a.x
      · have E := Lib.hid (hitTo_no HA.out hax)
        rw [hax] at d3
        clear hax
        go_wp2
        go_roundw
        case rel => exact ⟨j + 1, by omega, by go_num, by rw [E.out]; exact ⟨A', k', rfl, hown, hpast, HSEP.out⟩, hq⟩
        case measure => simp [intOf]; omega
      · have E := Lib.hid (hitTo_yes HA.out hax)
        have hcells : a.cells = [.int .i64 a.f, .int .i64 a.t, .int .i64 a.d, .bool true] := by rw [Stp.cells, hax]
        have HC := Lib.hid hcells
        rw [hax] at d3
        clear hax hcells
        go_wp2_with (at_builtin; refine wpList_append_own_at _ rfl _ _ 61 rfl w1.heap.size 66 i0 (.agg #[.int .i64 0, .int .i64 0, .int .i64 0, .bool false]) 4 32 Try.underlying61 hi hz0 hz1 hz2 rfl (by decide) _ (hitTo L j).length (flat Stp.cells (hitTo L j)) rfl (OwE.alloc hown _).2 ⟨wr.heap.size, 0, none⟩ 1 1 [.int .i64 a.f, .int .i64 a.t, .int .i64 a.d, .bool true] rfl rfl (World.news_of_block (Blk.at_ (by simp))) (by intro u hu; simp at hu; rcases hu with rfl | rfl | rfl | rfl <;> rfl) (by unfold maxLen; omega) (by omega) (by have := hpast.sz; simp; omega) ?_; intro v2 w3 hown3 hg3 hiff hat3)
        have hq3 : OwS (w1.heap.size + 1) w3 (some ⟨g, 0, none⟩) L.length kL L := OwE.mod (OwE.alloc hq _) (mod_grown hg3) (fun b hb hA => HSEP.out b hA ⟨_, hb, rfl⟩)
        rw [← HC.out] at hown3
        have HAT := Lib.hid hat3
        clear hat3
        go_roundw
        case rel => exact ⟨j + 1, by omega, by go_num, by rw [E.out]; exact StepsBy.push (OwE.alloc hown _) (by repeat (first | exact Past.refl _ | assumption | refine Past.alloc ?_ _ | refine Past.drew ?_ | refine Past.drewN ?_ _ | refine Past.setCell ?_ (by first | (simp; done) | (simp <;> omega)) _ | refine Past.trans ?_ (past_over _ _) | refine Past.trans ?_ (by assumption))) HSEP.out (fun b hb => (OwE.blk_lt (OwE.alloc hq _) hb).2) hown3 hg3 (fun h => absurd (hiff.1 h).2 (by decide)) HAT.out, hq3⟩
        case measure => simp [intOf]; omega
    · obtain rfl : j = L.length := by omega
      go_wp2
      go_ret
      rw [hitTo_end] at hown ⊢
      exact ⟨A', k', rfl, OwE.less hown hp1.sz, hp1.trans hpast⟩
theorem lsC_cases (p c h s : Int) (xs ys : List Int) (d : Int) (hc : lsC p c h s xs ys d ≠ 0) : lsL p c h s xs ys d = [] := by
  unfold lsC at hc
  unfold lsL
  split at hc
  · rename_i hb
    split at hc
    · exact absurd rfl hc
    · rename_i hw
      simp [hw]
  · rename_i hb
    simp [hb]
theorem hitSteps (p c h s i : Int) (A D : Option Addr) (n k m l : Nat) (xs ys : List Int) (w : World) (hx : RdI w A n xs) (hy : RdI w D m ys) (hn : n ≤ 1048576) (hm : m ≤ 1048576) :
    Calls Try.prog 51 #[.agg #[.int .i64 p, .int .i64 c, .int .i64 h, .int .i64 s], .agg #[.slice A n k, .slice D m l], .int .i64 i] w (StepsCode w (hitL (lsL p c h s xs ys i)) (lsC p c h s xs ys i)) := by
  by_cases hc : lsC p c h s xs ys i = 0
  · have h1 := hitSteps_yes p c h s i A D n k m l xs ys w hx hy hn hm (Lib.hid hc)
    rw [hc]
    exact h1
  · rw [lsC_cases p c h s xs ys i hc]
    exact hitSteps_not p c h s i A D n k m l xs ys w hx hy hn hm (Lib.hid hc)
end Go.Proofs.Ytapocfgajkkpdaa
