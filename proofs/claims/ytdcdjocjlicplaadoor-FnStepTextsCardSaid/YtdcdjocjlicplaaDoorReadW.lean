/-
  Contracts: the variant read of a text, by the program.
-/
import Derived.Test.YtdcdjocjlicplaaDoorReadV
import Derived.Deep.RegionHeld3
import Derived.Deep.DeepCutAuto
namespace Go.Proofs.YtdcdjocjlicplaaDoor
open Go.ChangeShapes Go.WideShapes Go.ChangeAt Go.RowKit Go.Joins

/-! ### The variant -/
def v4 (r : Option I4) : Value := .agg #[.int .i64 (r.getD (0, 0, 0, 0)).1, .int .i64 (r.getD (0, 0, 0, 0)).2.1, .int .i64 (r.getD (0, 0, 0, 0)).2.2.1, .int .i64 (r.getD (0, 0, 0, 0)).2.2.2]
def ValRet (w : World) (a : Value) (b : Bool) (e : Ending) (w' : World) : Prop := e = .returned (.tuple #[a, .bool b]) ∧ Past w w'
theorem asV_len {K : List Int} (h : K.length ≠ 4) : asV (some K) = none := by
  unfold asV
  split
  · rename_i he
    cases he
    simp at h
  · rfl
theorem len_four {K : List Int} (h : K.length = 4) : ∃ p c q s, K = [p, c, q, s] := by
  match K, h with
  | [p, c, q, s], _ => exact ⟨p, c, q, s, rfl⟩
theorem readV_none (s : ByteArray) (w : World) (hg : Glob w) (hs : s.size ≤ 1048576) (h : allD (cutAt 47 s.data.toList) = none) :
    Calls Tryd.prog 23 #[.string s] w (ValRet w (v4 none) false) := by
  have hsp := fun w h => splitNumbers_any s 47 w h hs
  rw [h] at hsp
  have HS := Lib.hid hsp
  clear hsp h
  go_enter Tryd.func23, Tryd.ntmps23
  go_wp2_with (go_at_call 49; (with_reducible refine (HS.out _ (hg.past (by repeat (first | exact Past.refl _ | assumption | refine Past.alloc ?_ _ | refine Past.drew ?_ | refine Past.drewN ?_ _ | refine Past.setCell ?_ (by first | (simp; done) | (simp <;> omega)) _ | refine Past.trans ?_ (past_over _ _) | refine Past.trans ?_ (by assumption))))).mono ?_); rintro e w1 ⟨A, k, rfl, hown, hb1⟩; obtain ⟨hc1, hf1, _⟩ := hb1.cells; have hz1_0 : w.heap.size < w1.heap.size := Past.lt hb1 (by first | omega | (simp <;> omega)))
  refine bodyPost_ret (v := .tuple #[.agg #[.int .i64 0, .int .i64 0, .int .i64 0, .int .i64 0], .bool false]) (by simp [*, results, Tryd.results23, go_sem]) rfl ⟨rfl, (by repeat (first | exact Past.refl _ | assumption | refine Past.alloc ?_ _ | refine Past.drew ?_ | refine Past.drewN ?_ _ | refine Past.setCell ?_ (by first | (simp; done) | (simp <;> omega)) _ | refine Past.trans ?_ (past_over _ _) | refine Past.trans ?_ (by assumption)))⟩
theorem readV_short (s : ByteArray) (w : World) (hg : Glob w) (hs : s.size ≤ 1048576) (K : List Int) (h : allD (cutAt 47 s.data.toList) = some K) (hK : K.length ≠ 4) :
    Calls Tryd.prog 23 #[.string s] w (ValRet w (v4 none) false) := by
  have hsp := fun w h => splitNumbers_any s 47 w h hs
  rw [h] at hsp
  have HS := Lib.hid hsp
  have hK2 : ¬ ((K.length : Int) = 4) := by omega
  have hK3 : ((K.length : Int) == 4) = false := beq_eq_false_iff_ne.2 hK2
  clear hsp h hK
  go_enter Tryd.func23, Tryd.ntmps23
  go_wp2_with (go_at_call 49; (with_reducible refine (HS.out _ (hg.past (by repeat (first | exact Past.refl _ | assumption | refine Past.alloc ?_ _ | refine Past.drew ?_ | refine Past.drewN ?_ _ | refine Past.setCell ?_ (by first | (simp; done) | (simp <;> omega)) _ | refine Past.trans ?_ (past_over _ _) | refine Past.trans ?_ (by assumption))))).mono ?_); rintro e w1 ⟨A, k, rfl, hown, hb1⟩; obtain ⟨hc1, hf1, _⟩ := hb1.cells; have hz1_0 : w.heap.size < w1.heap.size := Past.lt hb1 (by first | omega | (simp <;> omega)))
  refine bodyPost_ret (v := .tuple #[.agg #[.int .i64 0, .int .i64 0, .int .i64 0, .int .i64 0], .bool false]) (by simp [*, results, Tryd.results23, go_sem]) rfl ⟨rfl, (by repeat (first | exact Past.refl _ | assumption | refine Past.alloc ?_ _ | refine Past.drew ?_ | refine Past.drewN ?_ _ | refine Past.setCell ?_ (by first | (simp; done) | (simp <;> omega)) _ | refine Past.trans ?_ (past_over _ _) | refine Past.trans ?_ (by assumption)))⟩
set_option maxHeartbeats 2000000 in
set_option maxRecDepth 100000 in
theorem readV_four (st : ByteArray) (w : World) (hg : Glob w) (hs : st.size ≤ 1048576) (p c q s : Int) (h : allD (cutAt 47 st.data.toList) = some [p, c, q, s]) :
    Calls Tryd.prog 23 #[.string st] w (ValRet w (v4 (asV (some [p, c, q, s]))) (asV (some [p, c, q, s])).isSome) := by
  have hsp := fun w h => splitNumbers_any st 47 w h hs
  rw [h] at hsp
  have HS := Lib.hid hsp
  clear hsp h
  generalize hR : asV (some [p, c, q, s]) = R
  go_enter Tryd.func23, Tryd.ntmps23
  go_upto_region 4 with (go_at_call 49; (with_reducible refine (HS.out _ (hg.past (by repeat (first | exact Past.refl _ | assumption | refine Past.alloc ?_ _ | refine Past.drew ?_ | refine Past.drewN ?_ _ | refine Past.setCell ?_ (by first | (simp; done) | (simp <;> omega)) _ | refine Past.trans ?_ (past_over _ _) | refine Past.trans ?_ (by assumption))))).mono ?_); rintro e w1 ⟨A, k, rfl, hown, hb1⟩; obtain ⟨hc1, hf1, _⟩ := hb1.cells; have hz1_0 : w.heap.size < w1.heap.size := Past.lt hb1 (by first | omega | (simp <;> omega)))
  obtain ⟨ga, rfl⟩ : ∃ ga, A = some ⟨ga, 0, none⟩ := by
    obtain ⟨b, o, hA, _⟩ := hown.rd.2 (by simp)
    rcases hown.2 with ⟨h0, _⟩ | ⟨g, cap, cur, hv, _⟩
    · simp at h0
    · simp only [Value.slice.injEq] at hv
      exact ⟨g, hv.1⟩
  have c0 : w1.cell? ⟨ga, 0, none⟩ = some (.int .i64 p) := by simpa [gAt] using hown.cell_i 0 (J := 0) rfl (by simp)
  have c1 : w1.cell? ⟨ga, 1, none⟩ = some (.int .i64 c) := by simpa [gAt] using hown.cell_i 1 (J := 1) rfl (by simp)
  have c2 : w1.cell? ⟨ga, 2, none⟩ = some (.int .i64 q) := by simpa [gAt] using hown.cell_i 2 (J := 2) rfl (by simp)
  have c3 : w1.cell? ⟨ga, 3, none⟩ = some (.int .i64 s) := by simpa [gAt] using hown.cell_i 3 (J := 3) rfl (by simp)
  have hlt := World.block_lt_of_cell? w1 _ c0
  simp only at hlt
  go_cut [6] (fun s6 wx => ∃ g, s6 = .pointer (some ⟨g, 0, none⟩) ∧ wx.cell? ⟨g, 0, none⟩ = some (.int .i64 p) ∧ wx.cell? ⟨g, 1, none⟩ = some (.int .i64 c) ∧ wx.cell? ⟨g, 2, none⟩ = some (.int .i64 q) ∧ wx.cell? ⟨g, 3, none⟩ = some (.int .i64 s) ∧ Past w1 wx)
  case first =>
    go_region_held3 (fun w' => w'.cell? ⟨ga, 0, none⟩ = some (.int .i64 p) ∧ w'.cell? ⟨ga, 1, none⟩ = some (.int .i64 c) ∧ w'.cell? ⟨ga, 2, none⟩ = some (.int .i64 q) ∧ w'.cell? ⟨ga, 3, none⟩ = some (.int .i64 s) ∧ Past (w1) w') ((go_split_ands; refine keep_of (a := w1) (S := fun w' => w'.cell? ⟨ga, 0, none⟩ = some (.int .i64 p) ∧ w'.cell? ⟨ga, 1, none⟩ = some (.int .i64 c) ∧ w'.cell? ⟨ga, 2, none⟩ = some (.int .i64 q) ∧ w'.cell? ⟨ga, 3, none⟩ = some (.int .i64 s) ∧ Past (w1) w') (by repeat (first | exact Past.refl _ | assumption | refine Past.alloc ?_ _ | refine Past.drew ?_ | refine Past.drewN ?_ _ | refine Past.setCell ?_ (by first | (simp; done) | (simp <;> omega)) _ | refine Past.trans ?_ (past_over _ _) | refine Past.trans ?_ (by assumption))) (fun x hP => ⟨hP.keep (by assumption), hP.keep (by assumption), hP.keep (by assumption), hP.keep (by assumption), hP⟩))) (fail)
    all_goals (go_split_ands; go_wp2_with fail; go_meet; exact ⟨_, rfl, by simp, by simp, by simp, by simp, (by repeat (first | exact Past.refl _ | assumption | refine Past.alloc ?_ _ | refine Past.drew ?_ | refine Past.drewN ?_ _ | refine Past.setCell ?_ (by first | (simp; done) | (simp <;> omega)) _ | refine Past.trans ?_ (past_over _ _) | refine Past.trans ?_ (by assumption)))⟩)
  case rest =>
    obtain ⟨g, rfl, d0, d1, d2, d3, hp2⟩ := hcut
    have hz1 : w.heap.size < w1.heap.size := Past.lt hb1 (by first | omega | (simp <;> omega))
    have hz2 : w.heap.size < wc.heap.size := Past.lt hp2 hz1
    obtain ⟨hc2, hf2, _⟩ := hp2.cells
    have hgl := World.block_lt_of_cell? wc _ d0
    simp only at hgl
    have e0 : wc.cell? ⟨w.heap.size, 0, none⟩ = some (.int .i64 0) := hp2.keep (hb1.keep (by simp))
    have e1 : wc.cell? ⟨w.heap.size, 1, none⟩ = some (.int .i64 0) := hp2.keep (hb1.keep (by simp))
    have e2 : wc.cell? ⟨w.heap.size, 2, none⟩ = some (.int .i64 0) := hp2.keep (hb1.keep (by simp))
    have e3 : wc.cell? ⟨w.heap.size, 3, none⟩ = some (.int .i64 0) := hp2.keep (hb1.keep (by simp))
    clear c0 c1 c2 c3
    cases hv : vOk p c q s
    · obtain rfl : R = none := by rw [← hR]; simp [asV, hv]
      clear hR
      go_wp2_with (go_at_call 34; (with_reducible refine (isVar_any _ _ _ _ _).mono ?_); rintro e w3 ⟨rfl, hb3⟩; obtain ⟨hc3, hf3, _⟩ := hb3.cells; have hz3_0 : w.heap.size < w3.heap.size := Past.lt hb3 (by first | omega | (simp <;> omega)))
      refine bodyPost_ret (v := .tuple #[.agg #[.int .i64 0, .int .i64 0, .int .i64 0, .int .i64 0], .bool false]) (by simp [*, results, Tryd.results23, go_sem]) rfl ⟨rfl, (by repeat (first | exact Past.refl _ | assumption | refine Past.alloc ?_ _ | refine Past.drew ?_ | refine Past.drewN ?_ _ | refine Past.setCell ?_ (by first | (simp; done) | (simp <;> omega)) _ | refine Past.trans ?_ (past_over _ _) | refine Past.trans ?_ (by assumption)))⟩
    · obtain rfl : R = some (p, c, q, s) := by rw [← hR]; simp [asV, hv]
      clear hR
      go_wp2_with (go_at_call 34; (with_reducible refine (isVar_any _ _ _ _ _).mono ?_); rintro e w3 ⟨rfl, hb3⟩; obtain ⟨hc3, hf3, _⟩ := hb3.cells; have hz3_0 : w.heap.size < w3.heap.size := Past.lt hb3 (by first | omega | (simp <;> omega)))
      refine bodyPost_ret (v := .tuple #[.agg #[.int .i64 p, .int .i64 c, .int .i64 q, .int .i64 s], .bool true]) (by simp [*, results, Tryd.results23, go_sem]) rfl ⟨rfl, (by repeat (first | exact Past.refl _ | assumption | refine Past.alloc ?_ _ | refine Past.drew ?_ | refine Past.drewN ?_ _ | refine Past.setCell ?_ (by first | (simp; done) | (simp <;> omega)) _ | refine Past.trans ?_ (past_over _ _) | refine Past.trans ?_ (by assumption)))⟩
theorem readVariant_any (st : ByteArray) (w : World) (hg : Glob w) (hs : st.size ≤ 1048576) :
    Calls Tryd.prog 23 #[.string st] w (ValRet w (v4 (rdV st.data.toList)) (rdV st.data.toList).isSome) := by
  unfold rdV
  cases h : allD (cutAt 47 st.data.toList) with
  | none => exact readV_none st w hg hs h
  | some K =>
    by_cases hK : K.length = 4
    · obtain ⟨p, c, q, s, rfl⟩ := len_four hK
      exact readV_four st w hg hs p c q s h
    · rw [asV_len hK]
      exact readV_short st w hg hs K h hK
end Go.Proofs.YtdcdjocjlicplaaDoor
