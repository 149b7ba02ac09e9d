/-
  Contracts: the step read of a text, by both sides; the walk of the law.
-/
import Derived.Test.YtdcdjocjlicplaaDoorReadG
namespace Go.Proofs.YtdcdjocjlicplaaDoor
open Go.ChangeShapes Go.WideShapes Go.ChangeAt Go.RowKit Go.Joins

theorem guess_any (p c h s : Int) (st : ByteArray) (w : World) (hp0 : 0 ≤ p) (hp : p ≤ 24) (hz : st.size ≤ 1048576) :
    Calls Tryd.prog 66 #[.agg #[.int .i64 p, .int .i64 c, .int .i64 h, .int .i64 s], .string st] w (GuessRet w (rawR p st.data.toList)) := by
  by_cases h2 : (cutB 47 st).length = 2
  · obtain ⟨A, B, e⟩ := two_words h2
    rw [rawR_at e]
    exact guess_two p c h s st w hp0 hp hz A B e
  · rw [rawR_len h2]
    exact guess_len p c h s st w hz h2
set_option maxHeartbeats 4000000 in
set_option maxRecDepth 100000 in
theorem l06Read_any (p c h s : Int) (st : ByteArray) (w : World) (hp0 : 0 ≤ p) (hp : p ≤ 24) (hs : s ≤ 6) (hz : st.size ≤ 1048576) :
    Calls Tryd.prog 50 #[.agg #[.int .i64 p, .int .i64 c, .int .i64 h, .int .i64 s], .string st] w (StepVal w (refSt p s st.data.toList)) := by
  have hR : refSt p s st.data.toList = if tripOk p s st.data.toList (rawR p st.data.toList) = true then some (rawR p st.data.toList) else none := rfl
  generalize refSt p s st.data.toList = R at hR ⊢
  have hG := fun w => guess_any p c h s st w hp0 hp hz
  generalize rawR p st.data.toList = a at hR hG
  obtain ⟨f, t, d, x⟩ := a
  have HR := Lib.hid hR
  have HG := Lib.hid hG
  clear hR hG
  obtain ⟨w0, hw0⟩ : ∃ w0 : World, w0 = (w.alloc (.cells #[.int .i64 p, .int .i64 c, .int .i64 h, .int .i64 s] 25)).alloc (.cells #[.int .i64 0, .int .i64 0, .int .i64 0, .bool false] 31) := ⟨_, rfl⟩
  have hp0 : Past w w0 := by rw [hw0]; exact (by repeat (first | exact Past.refl _ | assumption | refine Past.alloc ?_ _ | refine Past.drew ?_ | refine Past.drewN ?_ _ | refine Past.setCell ?_ (by first | (simp; done) | (simp <;> omega)) _ | refine Past.trans ?_ (past_over _ _) | refine Past.trans ?_ (by assumption)))
  have hV : Blk w0 w.heap.size 25 #[.int .i64 p, .int .i64 c, .int .i64 h, .int .i64 s] := by rw [hw0]; exact (Blk.new w _ _).past ((Past.refl _).alloc _)
  have hS : Blk w0 (w.heap.size + 1) 31 #[.int .i64 0, .int .i64 0, .int .i64 0, .bool false] := by rw [hw0]; exact Blk.at_ (by simp)
  have c0 : w0.cell? ⟨w.heap.size, 0, none⟩ = some (.int .i64 p) := hV.cell 0 rfl
  have c1 : w0.cell? ⟨w.heap.size, 1, none⟩ = some (.int .i64 c) := hV.cell 1 rfl
  have c2 : w0.cell? ⟨w.heap.size, 2, none⟩ = some (.int .i64 h) := hV.cell 2 rfl
  have c3 : w0.cell? ⟨w.heap.size, 3, none⟩ = some (.int .i64 s) := hV.cell 3 rfl
  go_enter Tryd.func50, Tryd.ntmps50
  go_upto_region 1 with fail
  rw [← hw0]
  clear hw0
  go_wp2_with fail
  (with_reducible refine (HG.out _).mono ?_)
  rintro e w1 ⟨rfl, hb1⟩
  replace hV := hV.past hb1
  replace hS := hS.past hb1
  have hp1 := hp0.trans hb1
  have hz1 := hS.lt
  clear hp0 hb1 HG c0 c1 c2 c3
  go_upto_region 2 with fail
  obtain ⟨wA, hwA⟩ : ∃ y, y = w1.alloc (.cells #[.int .i64 f, .int .i64 t, .int .i64 d, .bool x] 31) := ⟨_, rfl⟩
  have hpA : Past w1 wA := by rw [hwA]; exact (Past.refl w1).alloc _
  have H2 : StIn w wA w1.heap.size p c h s f t d x := ⟨hV.past hpA, hS.past hpA, by rw [hwA]; exact Blk.new _ _ _, hz1, hp1.trans hpA⟩
  rw [← hwA]
  obtain ⟨g, hg1⟩ : ∃ g, g = w1.heap.size := ⟨_, rfl⟩
  rw [← hg1] at H2 ⊢
  clear hwA hpA hg1 hV hS hp1 hz1
  cases hpl : plS p s f t d x
  · obtain rfl : R = none := by rw [HR.out, if_neg (by simp [tripOk, hpl])]
    have HP := Lib.hid (fun w => l06Plain_any p c h s f t d x w hp hs)
    rw [hpl] at HP
    clear hpl HR
    obtain ⟨⟨v0, v1, v2, v3⟩, ⟨r0, r1, r2, r3⟩, ⟨e0, e1, e2, e3⟩, ⟨a0, a1, a2, a3⟩, b0, b1, b2, b3⟩ := H2.cells
    go_wp2_with fail
    (with_reducible refine (HP.out _).mono ?_)
    rintro e w3 ⟨rfl, hb⟩
    clear v0 v1 v2 v3 r0 r1 r2 r3 e0 e1 e2 e3 a0 a1 a2 a3 b0 b1 b2 b3
    have H3 := H2.past hb
    clear hb H2
    obtain ⟨⟨v0, v1, v2, v3⟩, ⟨r0, r1, r2, r3⟩, ⟨e0, e1, e2, e3⟩, ⟨a0, a1, a2, a3⟩, b0, b1, b2, b3⟩ := H3.cells
    have hpz := H3.q
    have hlz := H3.l
    clear H3
    go_wp2_with fail
    exact bodyPost_ret (v := .tuple #[.agg #[.int .i64 0, .int .i64 0, .int .i64 0, .bool false], .bool false]) (by simp [r0, r1, r2, r3, results, Tryd.results50, go_sem]) rfl ⟨rfl, (by repeat (first | exact Past.refl _ | assumption | refine Past.alloc ?_ _ | refine Past.drew ?_ | refine Past.drewN ?_ _ | refine Past.setCell ?_ (by first | (simp; done) | (simp <;> omega)) _ | refine Past.trans ?_ (past_over _ _) | refine Past.trans ?_ (by assumption)))⟩
  · have HP := Lib.hid (fun w => l06Plain_any p c h s f t d x w hp hs)
    rw [hpl] at HP
    have HX := Lib.hid (fun w => l06Step_any p c h s f t d x w hp hs hpl)
    have hT : stB p f t d x = bOf (stTxt p f t d x) := rfl
    generalize stB p f t d x = T at hT HX
    have HRT : R = if T = st then some ⟨f, t, d, x⟩ else none := by
      rw [HR.out]
      by_cases e : T = st
      · rw [if_pos e, if_pos (by simp only [tripOk, hpl, Bool.true_and, decide_eq_true_eq]; rw [← e, hT]; rfl)]
      · rw [if_neg e, if_neg]
        simp only [tripOk, hpl, Bool.true_and, decide_eq_true_eq]
        intro e2
        exact e (by rw [hT, e2]; rfl)
    clear hpl HR hT
    obtain ⟨⟨v0, v1, v2, v3⟩, ⟨r0, r1, r2, r3⟩, ⟨e0, e1, e2, e3⟩, ⟨a0, a1, a2, a3⟩, b0, b1, b2, b3⟩ := H2.cells
    by_cases he : T = st
    · obtain rfl : R = some ⟨f, t, d, x⟩ := by rw [HRT, if_pos he]
      have hq : (T.toList == st.toList) = true := by rw [he]; exact beq_self_eq_true _
      clear he HRT
      go_wp2_with fail
      (with_reducible refine (HP.out _).mono ?_)
      rintro e w3 ⟨rfl, hb⟩
      clear v0 v1 v2 v3 r0 r1 r2 r3 e0 e1 e2 e3 a0 a1 a2 a3 b0 b1 b2 b3
      have H3 := H2.past hb
      clear hb H2
      obtain ⟨⟨v0, v1, v2, v3⟩, ⟨r0, r1, r2, r3⟩, ⟨e0, e1, e2, e3⟩, ⟨a0, a1, a2, a3⟩, b0, b1, b2, b3⟩ := H3.cells
      go_wp2_with fail
      (with_reducible refine (HX.out _).mono ?_)
      rintro e w4 ⟨rfl, hb⟩
      clear v0 v1 v2 v3 r0 r1 r2 r3 e0 e1 e2 e3 a0 a1 a2 a3 b0 b1 b2 b3
      have H4 := H3.past hb
      clear hb H3
      obtain ⟨⟨v0, v1, v2, v3⟩, ⟨r0, r1, r2, r3⟩, ⟨e0, e1, e2, e3⟩, ⟨a0, a1, a2, a3⟩, b0, b1, b2, b3⟩ := H4.cells
      have hpz := H4.q
      have hlz := H4.l
      clear H4
      go_wp2_with fail
      exact bodyPost_ret (v := .tuple #[.agg #[.int .i64 f, .int .i64 t, .int .i64 d, .bool x], .bool true]) (by simp [r0, r1, r2, r3, results, Tryd.results50, go_sem]) rfl ⟨rfl, (by repeat (first | exact Past.refl _ | assumption | refine Past.alloc ?_ _ | refine Past.drew ?_ | refine Past.drewN ?_ _ | refine Past.setCell ?_ (by first | (simp; done) | (simp <;> omega)) _ | refine Past.trans ?_ (past_over _ _) | refine Past.trans ?_ (by assumption)))⟩
    · obtain rfl : R = none := by rw [HRT, if_neg he]
      have hq : (T.toList == st.toList) = false := strNe he
      clear he HRT
      go_wp2_with fail
      (with_reducible refine (HP.out _).mono ?_)
      rintro e w3 ⟨rfl, hb⟩
      clear v0 v1 v2 v3 r0 r1 r2 r3 e0 e1 e2 e3 a0 a1 a2 a3 b0 b1 b2 b3
      have H3 := H2.past hb
      clear hb H2
      obtain ⟨⟨v0, v1, v2, v3⟩, ⟨r0, r1, r2, r3⟩, ⟨e0, e1, e2, e3⟩, ⟨a0, a1, a2, a3⟩, b0, b1, b2, b3⟩ := H3.cells
      go_wp2_with fail
      (with_reducible refine (HX.out _).mono ?_)
      rintro e w4 ⟨rfl, hb⟩
      clear v0 v1 v2 v3 r0 r1 r2 r3 e0 e1 e2 e3 a0 a1 a2 a3 b0 b1 b2 b3
      have H4 := H3.past hb
      clear hb H3
      obtain ⟨⟨v0, v1, v2, v3⟩, ⟨r0, r1, r2, r3⟩, ⟨e0, e1, e2, e3⟩, ⟨a0, a1, a2, a3⟩, b0, b1, b2, b3⟩ := H4.cells
      have hpz := H4.q
      have hlz := H4.l
      clear H4
      go_wp2_with fail
      exact bodyPost_ret (v := .tuple #[.agg #[.int .i64 0, .int .i64 0, .int .i64 0, .bool false], .bool false]) (by simp [r0, r1, r2, r3, results, Tryd.results50, go_sem]) rfl ⟨rfl, (by repeat (first | exact Past.refl _ | assumption | refine Past.alloc ?_ _ | refine Past.drew ?_ | refine Past.drewN ?_ _ | refine Past.setCell ?_ (by first | (simp; done) | (simp <;> omega)) _ | refine Past.trans ?_ (past_over _ _) | refine Past.trans ?_ (by assumption)))⟩
/-- What both functions answer. -/
def rdStep (p c h s : Int) (l : List UInt8) : Option Stp := if vOk p c h s = true then rdSt p s l else none
theorem readSt_v (p c h s : Int) (st : ByteArray) (w : World) (hv : vOk p c h s = true) (hg : Glob w) (hz : st.size ≤ 1048576) :
    Calls Tryd.prog 51 #[.agg #[.int .i64 p, .int .i64 c, .int .i64 h, .int .i64 s], .string st] w (StepVal w (rdSt p s st.data.toList)) := by
  have h1 := vOk_yes hv
  exact readStep_any p c h s st w (by omega) (by omega) hg hz
theorem sReadSt_v (p c h s : Int) (st : ByteArray) (w : World) (hv : vOk p c h s = true) (_ : Glob w) (hz : st.size ≤ 1048576) :
    Calls Tryd.prog 50 #[.agg #[.int .i64 p, .int .i64 c, .int .i64 h, .int .i64 s], .string st] w (StepVal w (rdSt p s st.data.toList)) := by
  have h1 := vOk_yes hv
  rw [← refSt_eq (by omega) (by omega)]
  exact l06Read_any p c h s st w (by omega) (by omega) (by omega) hz
set_option maxHeartbeats 1000000 in
set_option maxRecDepth 100000 in
theorem readStepAll (p c h s : Int) (st : ByteArray) (w : World) (hg : Glob w) (hz : st.size ≤ 1048576) :
    Calls Tryd.prog 26 #[.agg #[.int .i64 p, .int .i64 c, .int .i64 h, .int .i64 s], .string st] w (StepVal w (rdStep p c h s st.data.toList)) := by
  cases hv : vOk p c h s
  · rw [show rdStep p c h s st.data.toList = none from by simp [rdStep, hv]]
    go_enter Tryd.func26, Tryd.ntmps26
    go_wp2_with (go_at_call 34; (with_reducible refine (isVar_any _ _ _ _ _).mono ?_); rintro e w1 ⟨rfl, hb1⟩; obtain ⟨hc1, hf1, _⟩ := hb1.cells; have hz1_0 : w.heap.size < w1.heap.size := Past.lt hb1 (by first | omega | (simp <;> omega)); have hz1_1 : w.heap.size + 1 < w1.heap.size := Past.lt hb1 (by first | omega | (simp <;> omega)))
    exact bodyPost_ret (v := .tuple #[.agg #[.int .i64 0, .int .i64 0, .int .i64 0, .bool false], .bool false]) (by simp [*, results, Tryd.results26, go_sem]) rfl ⟨rfl, (by repeat (first | exact Past.refl _ | assumption | refine Past.alloc ?_ _ | refine Past.drew ?_ | refine Past.drewN ?_ _ | refine Past.setCell ?_ (by first | (simp; done) | (simp <;> omega)) _ | refine Past.trans ?_ (past_over _ _) | refine Past.trans ?_ (by assumption)))⟩
  · rw [show rdStep p c h s st.data.toList = rdSt p s st.data.toList from by simp [rdStep, hv]]
    have hr := fun w hh => readSt_v p c h s st w hv hh hz
    unfold StepVal stV at hr ⊢
    generalize ((rdSt p s st.data.toList).getD ⟨0, 0, 0, false⟩).f = f at hr ⊢
    generalize ((rdSt p s st.data.toList).getD ⟨0, 0, 0, false⟩).t = t at hr ⊢
    generalize ((rdSt p s st.data.toList).getD ⟨0, 0, 0, false⟩).d = d at hr ⊢
    generalize ((rdSt p s st.data.toList).getD ⟨0, 0, 0, false⟩).x = x at hr ⊢
    generalize (rdSt p s st.data.toList).isSome = b at hr ⊢
    have HR := Lib.hid hr
    clear hr
    go_enter Tryd.func26, Tryd.ntmps26
    go_wp2_with (first | (go_at_call 34; (with_reducible refine (isVar_any _ _ _ _ _).mono ?_); rintro e w1 ⟨rfl, hb1⟩; obtain ⟨hc1, hf1, _⟩ := hb1.cells; have hz1_0 : w.heap.size < w1.heap.size := Past.lt hb1 (by first | omega | (simp <;> omega)); have hz1_1 : w.heap.size + 1 < w1.heap.size := Past.lt hb1 (by first | omega | (simp <;> omega))) | (go_at_call 51; (with_reducible refine (HR.out _ (hg.past (by repeat (first | exact Past.refl _ | assumption | refine Past.alloc ?_ _ | refine Past.drew ?_ | refine Past.drewN ?_ _ | refine Past.setCell ?_ (by first | (simp; done) | (simp <;> omega)) _ | refine Past.trans ?_ (past_over _ _) | refine Past.trans ?_ (by assumption))))).mono ?_); rintro e w2 ⟨rfl, hb2⟩; obtain ⟨hc2, hf2, _⟩ := hb2.cells; have hz2_0 : w.heap.size < w2.heap.size := Past.lt hb2 (by first | omega | (simp <;> omega)); have hz2_1 : w.heap.size + 1 < w2.heap.size := Past.lt hb2 (by first | omega | (simp <;> omega))))
    exact bodyPost_ret (v := .tuple #[.agg #[.int .i64 f, .int .i64 t, .int .i64 d, .bool x], .bool b]) (by simp [*, results, Tryd.results26, go_sem]) rfl ⟨rfl, (by repeat (first | exact Past.refl _ | assumption | refine Past.alloc ?_ _ | refine Past.drew ?_ | refine Past.drewN ?_ _ | refine Past.setCell ?_ (by first | (simp; done) | (simp <;> omega)) _ | refine Past.trans ?_ (past_over _ _) | refine Past.trans ?_ (by assumption)))⟩
set_option maxHeartbeats 1000000 in
set_option maxRecDepth 100000 in
theorem sReadStepAll (p c h s : Int) (st : ByteArray) (w : World) (hg : Glob w) (hz : st.size ≤ 1048576) :
    Calls Tryd.prog 25 #[.agg #[.int .i64 p, .int .i64 c, .int .i64 h, .int .i64 s], .string st] w (StepVal w (rdStep p c h s st.data.toList)) := by
  cases hv : vOk p c h s
  · rw [show rdStep p c h s st.data.toList = none from by simp [rdStep, hv]]
    go_enter Tryd.func25, Tryd.ntmps25
    go_wp2_with (go_at_call 39; (with_reducible refine (sIsVar_any _ _ _ _ _).mono ?_); rintro e w1 ⟨rfl, hb1⟩; obtain ⟨hc1, hf1, _⟩ := hb1.cells; have hz1_0 : w.heap.size < w1.heap.size := Past.lt hb1 (by first | omega | (simp <;> omega)); have hz1_1 : w.heap.size + 1 < w1.heap.size := Past.lt hb1 (by first | omega | (simp <;> omega)))
    exact bodyPost_ret (v := .tuple #[.agg #[.int .i64 0, .int .i64 0, .int .i64 0, .bool false], .bool false]) (by simp [*, results, Tryd.results25, go_sem]) rfl ⟨rfl, (by repeat (first | exact Past.refl _ | assumption | refine Past.alloc ?_ _ | refine Past.drew ?_ | refine Past.drewN ?_ _ | refine Past.setCell ?_ (by first | (simp; done) | (simp <;> omega)) _ | refine Past.trans ?_ (past_over _ _) | refine Past.trans ?_ (by assumption)))⟩
  · rw [show rdStep p c h s st.data.toList = rdSt p s st.data.toList from by simp [rdStep, hv]]
    have hr := fun w hh => sReadSt_v p c h s st w hv hh hz
    unfold StepVal stV at hr ⊢
    generalize ((rdSt p s st.data.toList).getD ⟨0, 0, 0, false⟩).f = f at hr ⊢
    generalize ((rdSt p s st.data.toList).getD ⟨0, 0, 0, false⟩).t = t at hr ⊢
    generalize ((rdSt p s st.data.toList).getD ⟨0, 0, 0, false⟩).d = d at hr ⊢
    generalize ((rdSt p s st.data.toList).getD ⟨0, 0, 0, false⟩).x = x at hr ⊢
    generalize (rdSt p s st.data.toList).isSome = b at hr ⊢
    have HR := Lib.hid hr
    clear hr
    go_enter Tryd.func25, Tryd.ntmps25
    go_wp2_with (first | (go_at_call 39; (with_reducible refine (sIsVar_any _ _ _ _ _).mono ?_); rintro e w1 ⟨rfl, hb1⟩; obtain ⟨hc1, hf1, _⟩ := hb1.cells; have hz1_0 : w.heap.size < w1.heap.size := Past.lt hb1 (by first | omega | (simp <;> omega)); have hz1_1 : w.heap.size + 1 < w1.heap.size := Past.lt hb1 (by first | omega | (simp <;> omega))) | (go_at_call 50; (with_reducible refine (HR.out _ (hg.past (by repeat (first | exact Past.refl _ | assumption | refine Past.alloc ?_ _ | refine Past.drew ?_ | refine Past.drewN ?_ _ | refine Past.setCell ?_ (by first | (simp; done) | (simp <;> omega)) _ | refine Past.trans ?_ (past_over _ _) | refine Past.trans ?_ (by assumption))))).mono ?_); rintro e w2 ⟨rfl, hb2⟩; obtain ⟨hc2, hf2, _⟩ := hb2.cells; have hz2_0 : w.heap.size < w2.heap.size := Past.lt hb2 (by first | omega | (simp <;> omega)); have hz2_1 : w.heap.size + 1 < w2.heap.size := Past.lt hb2 (by first | omega | (simp <;> omega))))
    exact bodyPost_ret (v := .tuple #[.agg #[.int .i64 f, .int .i64 t, .int .i64 d, .bool x], .bool b]) (by simp [*, results, Tryd.results25, go_sem]) rfl ⟨rfl, (by repeat (first | exact Past.refl _ | assumption | refine Past.alloc ?_ _ | refine Past.drew ?_ | refine Past.drewN ?_ _ | refine Past.setCell ?_ (by first | (simp; done) | (simp <;> omega)) _ | refine Past.trans ?_ (past_over _ _) | refine Past.trans ?_ (by assumption)))⟩
theorem eqStp_same (a b c : Int) (x : Bool) (w : World) :
    Calls Tryd.prog 27 #[.agg #[.int .i64 a, .int .i64 b, .int .i64 c, .bool x], .agg #[.int .i64 a, .int .i64 b, .int .i64 c, .bool x]] w fun e w' => e = .returned (.bool true) ∧ Past w w' := by
  go_enter Tryd.func27, Tryd.ntmps27
  go_wp2
  go_ret
  exact ⟨rfl, (by repeat (first | exact Past.refl _ | assumption | refine Past.alloc ?_ _ | refine Past.drew ?_ | refine Past.drewN ?_ _ | refine Past.setCell ?_ (by first | (simp; done) | (simp <;> omega)) _ | refine Past.trans ?_ (past_over _ _) | refine Past.trans ?_ (by assumption)))⟩
set_option maxHeartbeats 2000000 in
set_option maxRecDepth 100000 in
theorem FnExactReadStep.walk (p c h s : Int) (_ : I64 p) (_ : I64 c) (_ : I64 h) (_ : I64 s) (st : ByteArray) (ht : st.size ≤ maxLen) (w : World) (hg : Glob w) :
    Calls Tryd.prog 7 #[.agg #[.int .i64 p, .int .i64 c, .int .i64 h, .int .i64 s], .string st] w fun e w' => e = .returned (.bool true) ∧ Past w w' := by
  unfold maxLen at ht
  by_cases hbig : 1048576 < st.size
  · have hb : (1048576 : Int) < (st.size : Int) := by omega
    clear hbig
    go_enter Tryd.func7, Tryd.ntmps7
    go_wp2
    go_ret
    exact ⟨rfl, (by repeat (first | exact Past.refl _ | assumption | refine Past.alloc ?_ _ | refine Past.drew ?_ | refine Past.drewN ?_ _ | refine Past.setCell ?_ (by first | (simp; done) | (simp <;> omega)) _ | refine Past.trans ?_ (past_over _ _) | refine Past.trans ?_ (by assumption)))⟩
  · have hb : ¬ (1048576 : Int) < (st.size : Int) := by omega
    have ht2 : st.size ≤ 1048576 := by omega
    clear hbig
    have h1 := fun w hh => sReadStepAll p c h s st w hh ht2
    have h2 := fun w hh => readStepAll p c h s st w hh ht2
    unfold StepVal stV at h1 h2
    generalize ((rdStep p c h s st.data.toList).getD ⟨0, 0, 0, false⟩).f = f at h1 h2
    generalize ((rdStep p c h s st.data.toList).getD ⟨0, 0, 0, false⟩).t = t at h1 h2
    generalize ((rdStep p c h s st.data.toList).getD ⟨0, 0, 0, false⟩).d = d at h1 h2
    generalize ((rdStep p c h s st.data.toList).getD ⟨0, 0, 0, false⟩).x = x at h1 h2
    generalize (rdStep p c h s st.data.toList).isSome = b at h1 h2
    have H1 := Lib.hid h1
    have H2 := Lib.hid h2
    clear h1 h2
    go_enter Tryd.func7, Tryd.ntmps7
    go_wp2_with (first | (go_at_call 12; (with_reducible refine (toVar_any _ _ _ _ _).mono ?_); rintro e w2 ⟨rfl, hb2⟩; obtain ⟨hc2, hf2, _⟩ := hb2.cells; have hz2_0 : w.heap.size < w2.heap.size := Past.lt hb2 (by first | omega | (simp <;> omega)); have hz2_1 : w3.heap.size < w2.heap.size := Past.lt hb2 (by first | omega | (simp <;> omega))) | (go_at_call 12; (with_reducible refine (toVar_any _ _ _ _ _).mono ?_); rintro e w1 ⟨rfl, hb1⟩; obtain ⟨hc1, hf1, _⟩ := hb1.cells; have hz1_0 : w.heap.size < w1.heap.size := Past.lt hb1 (by first | omega | (simp <;> omega))) | (go_at_call 25; (with_reducible refine (H1.out _ (hg.past (by repeat (first | exact Past.refl _ | assumption | refine Past.alloc ?_ _ | refine Past.drew ?_ | refine Past.drewN ?_ _ | refine Past.setCell ?_ (by first | (simp; done) | (simp <;> omega)) _ | refine Past.trans ?_ (past_over _ _) | refine Past.trans ?_ (by assumption))))).mono ?_); rintro e w3 ⟨rfl, hb3⟩; obtain ⟨hc3, hf3, _⟩ := hb3.cells; have hz3_0 : w.heap.size < w3.heap.size := Past.lt hb3 (by first | omega | (simp <;> omega))) | (go_at_call 26; (with_reducible refine (H2.out _ (hg.past (by repeat (first | exact Past.refl _ | assumption | refine Past.alloc ?_ _ | refine Past.drew ?_ | refine Past.drewN ?_ _ | refine Past.setCell ?_ (by first | (simp; done) | (simp <;> omega)) _ | refine Past.trans ?_ (past_over _ _) | refine Past.trans ?_ (by assumption))))).mono ?_); rintro e w4 ⟨rfl, hb4⟩; obtain ⟨hc4, hf4, _⟩ := hb4.cells; have hz4_0 : w.heap.size < w4.heap.size := Past.lt hb4 (by first | omega | (simp <;> omega)); have hz4_1 : w3.heap.size < w4.heap.size := Past.lt hb4 (by first | omega | (simp <;> omega))) | (go_at_call 27; (with_reducible refine (eqStp_same _ _ _ _ _).mono ?_); rintro e w5 ⟨rfl, hb5⟩; obtain ⟨hc5, hf5, _⟩ := hb5.cells))
    go_ret
    exact ⟨rfl, (by repeat (first | exact Past.refl _ | assumption | refine Past.alloc ?_ _ | refine Past.drew ?_ | refine Past.drewN ?_ _ | refine Past.setCell ?_ (by first | (simp; done) | (simp <;> omega)) _ | refine Past.trans ?_ (past_over _ _) | refine Past.trans ?_ (by assumption)))⟩
end Go.Proofs.YtdcdjocjlicplaaDoor
