/-
  A plain step is recovered from its text, and an accepted text is the text of its step: the walk.
-/
import Derived.Test.YtdcdjocjlicplaaDoorDrawZ
import Derived.Test.YtdcdjocjlicplaaDoorReadT
import Derived.Test.YtdcdjocjlicplaaDoorOpenD
namespace Go.Proofs.YtdcdjocjlicplaaDoor
open Go.ChangeShapes Go.WideShapes Go.ChangeAt Go.RowKit Go.Joins

theorem rdStep_yes {p c h s f t d : Int} {x : Bool} {tb : ByteArray} (hr : rdStep p c h s tb.data.toList = some ⟨f, t, d, x⟩) : stepB p c h s f t d x = tb := by
  unfold rdStep at hr
  split at hr
  · rename_i hv
    obtain ⟨h1, h2⟩ := rdSt_yes hr
    simp only at h1 h2
    rw [stepB, if_pos hv, if_pos h1]
    apply ByteArray.ext
    apply Array.toList_inj.1
    rw [← h2]
    rfl
  · cases hr
theorem stepB_back {p c h s f t d : Int} {x : Bool} (hne : (stepB p c h s f t d x).toList.isEmpty = false) : rdStep p c h s (stepB p c h s f t d x).data.toList = some ⟨f, t, d, x⟩ := by
  unfold stepB at hne ⊢
  by_cases hv : vOk p c h s = true
  · rw [if_pos hv] at hne ⊢
    by_cases hp : plS p s f t d x = true
    · rw [if_pos hp]
      have h1 := vOk_yes hv
      rw [rdStep, if_pos hv]
      exact rdSt_txt hp (by omega) (by omega)
    · rw [if_neg hp] at hne
      exact absurd hne (by rw [ByteArray.toList_eq]; decide)
  · rw [if_neg hv] at hne
    exact absurd hne (by rw [ByteArray.toList_eq]; decide)
set_option maxHeartbeats 4000000 in
set_option maxRecDepth 100000 in
theorem FnStepTexts.walk (w : World) (A : Option Addr) (n k : Nat) (hx : RdC w w.heap.size A n) (hyk : A = none → n = 0 ∧ k = 0) (hg : Glob w) :
    Calls Tryd.prog 10 #[.slice A n k] w fun e w' => e = .returned (.bool true) ∧ Past w w' := by
  have hbig := fun w => big_any A n k w
  cases hd0 : decide (4096 < n)
  · rw [hd0] at hbig
    have hn4 : n ≤ 4096 := by have := of_decide_eq_false hd0; omega
    have hn : n ≤ 5000 := by have := of_decide_eq_false hd0; omega
    clear hd0
    go_enter Tryd.func10, Tryd.ntmps10
    go_wp2_with (go_at_call 32; (with_reducible refine (hbig _).mono ?_); rintro e w9 ⟨rfl, rfl⟩)
    (with_reducible refine (drawVStep_any _ _ _ _ hx hn).mono ?_)
    rintro e w1 ⟨p, c, h, s, f, t, d, x, rfl, hbd, hp1⟩
    go_upto_region 4 with fail
    obtain ⟨wv, hwv⟩ : ∃ y, y = w1.alloc (.cells #[.int .i64 p, .int .i64 c, .int .i64 h, .int .i64 s] 25) := ⟨_, rfl⟩
    have hVv : Blk wv w1.heap.size 25 #[.int .i64 p, .int .i64 c, .int .i64 h, .int .i64 s] := by rw [hwv]; exact Blk.new _ _ _
    have zv : wv.heap.size = w1.heap.size + 1 := by rw [hwv]; simp
    have hpv : Past w1 wv := by rw [hwv]; exact (Past.refl w1).alloc _
    obtain ⟨w2, hw2⟩ : ∃ y, y = wv.alloc (.cells #[.int .i64 f, .int .i64 t, .int .i64 d, .bool x] 31) := ⟨_, rfl⟩
    rw [← hwv, ← hw2]
    have hB : Blk w2 (w1.heap.size + 1) 31 #[.int .i64 f, .int .i64 t, .int .i64 d, .bool x] := by rw [hw2]; exact Blk.at_ zv.symm
    have hpw : Past wv w2 := by rw [hw2]; exact (Past.refl wv).alloc _
    have hV := hVv.past hpw
    have hp2 : Past w w2 := hp1.trans (hpv.trans hpw)
    obtain ⟨b, hb⟩ : ∃ b, b = w1.heap.size := ⟨_, rfl⟩
    rw [← hb] at hV hB ⊢
    clear hw2 hwv hbig hb hp1 hVv hpv hpw zv
    have c0 : w2.cell? ⟨b, 0, none⟩ = some (.int .i64 p) := hV.cell 0 rfl
    have c1 : w2.cell? ⟨b, 1, none⟩ = some (.int .i64 c) := hV.cell 1 rfl
    have c2 : w2.cell? ⟨b, 2, none⟩ = some (.int .i64 h) := hV.cell 2 rfl
    have c3 : w2.cell? ⟨b, 3, none⟩ = some (.int .i64 s) := hV.cell 3 rfl
    have c4 : w2.cell? ⟨b + 1, 0, none⟩ = some (.int .i64 f) := hB.cell 0 rfl
    have c5 : w2.cell? ⟨b + 1, 1, none⟩ = some (.int .i64 t) := hB.cell 1 rfl
    have c6 : w2.cell? ⟨b + 1, 2, none⟩ = some (.int .i64 d) := hB.cell 2 rfl
    have c7 : w2.cell? ⟨b + 1, 3, none⟩ = some (.bool x) := hB.cell 3 rfl
    have hvt := fun w => stepTextAll p c h s f t d x w
    have hst := fun w => sStepTextAll p c h s f t d x w
    have hbk := stepB_back (p := p) (c := c) (h := h) (s := s) (f := f) (t := t) (d := d) (x := x)
    have hbz := stepB_size p c h s f t d x
    clear hV hB
    generalize stepB p c h s f t d x = T at hvt hst hbk hbz
    have HVT := Lib.hid hvt
    have HST := Lib.hid hst
    clear hvt hst
    cases hne : T.toList.isEmpty
    · have hrv : ∀ w, Glob w → Calls Tryd.prog 26 #[.agg #[.int .i64 p, .int .i64 c, .int .i64 h, .int .i64 s], .string T] w fun e w' => e = .returned (.tuple #[.agg #[.int .i64 f, .int .i64 t, .int .i64 d, .bool x], .bool true]) ∧ Past w w' := fun w hg => by
        have h1 := readStepAll p c h s T w hg (by omega)
        rw [hbk hne] at h1
        exact h1
      have HRB := Lib.hid hrv
      clear hrv hbk
      go_wp2_with fail
      (with_reducible refine (HVT.out _).mono ?_)
      rintro e w3 ⟨rfl, hp3⟩
      replace c0 := hp3.keep c0
      replace c1 := hp3.keep c1
      replace c2 := hp3.keep c2
      replace c3 := hp3.keep c3
      replace c4 := hp3.keep c4
      replace c5 := hp3.keep c5
      replace c6 := hp3.keep c6
      replace c7 := hp3.keep c7
      go_wp2_with fail
      (with_reducible refine (HST.out _).mono ?_)
      rintro e w4 ⟨rfl, hp4⟩
      replace c0 := hp4.keep c0
      replace c1 := hp4.keep c1
      replace c2 := hp4.keep c2
      replace c3 := hp4.keep c3
      replace c4 := hp4.keep c4
      replace c5 := hp4.keep c5
      replace c6 := hp4.keep c6
      replace c7 := hp4.keep c7
      have hpE := hp2.trans (hp3.trans hp4)
      clear hp3 hp4
      go_wp2_with fail
      (with_reducible refine (HRB.out _ (hg.past hpE)).mono ?_)
      rintro e w6 ⟨rfl, hp6⟩
      replace c0 := hp6.keep c0
      replace c1 := hp6.keep c1
      replace c2 := hp6.keep c2
      replace c3 := hp6.keep c3
      replace c4 := hp6.keep c4
      replace c5 := hp6.keep c5
      replace c6 := hp6.keep c6
      replace c7 := hp6.keep c7
      have hbl := World.block_lt_of_cell? w6 _ c4
      simp only at hbl
      have hpF := (hpE.trans hp6).alloc (.cells #[.int .i64 f, .int .i64 t, .int .i64 d, .bool x] 31)
      clear hpE hp6
      go_wp2_with fail
      (with_reducible refine (other7_any _ _ _ _ (hx.past hpF (hpF).sz) hyk hn4).mono ?_)
      rintro e wa ⟨ga, ka, rfl, hra, hpa⟩
      go_wp2_with fail
      (with_reducible refine (drawVTxt_any _ _ _ _ hra (by omega)).mono ?_)
      rintro e wb ⟨p', c', h', s', tb, rfl, hbd', hsz, hpb⟩
      have hpW0 : Past w wb := (hpF).trans (hpa.trans hpb)
      go_upto_region 12 with fail
      obtain ⟨wc, hwc⟩ : ∃ y, y = wb.alloc (.cells #[.int .i64 p', .int .i64 c', .int .i64 h', .int .i64 s'] 25) := ⟨_, rfl⟩
      rw [← hwc]
      have hVc : Blk wc wb.heap.size 25 #[.int .i64 p', .int .i64 c', .int .i64 h', .int .i64 s'] := by rw [hwc]; exact Blk.new _ _ _
      have hpW : Past w wc := by rw [hwc]; exact hpW0.alloc _
      obtain ⟨bW, hbW⟩ : ∃ y, y = wb.heap.size := ⟨_, rfl⟩
      rw [← hbW] at hVc ⊢
      have hgb := hg.past hpW
      clear hra hpa hpb hwc hbW hpW0
      have e0 : wc.cell? ⟨bW, 0, none⟩ = some (.int .i64 p') := hVc.cell 0 rfl
      have e1 : wc.cell? ⟨bW, 1, none⟩ = some (.int .i64 c') := hVc.cell 1 rfl
      have e2 : wc.cell? ⟨bW, 2, none⟩ = some (.int .i64 h') := hVc.cell 2 rfl
      have e3 : wc.cell? ⟨bW, 3, none⟩ = some (.int .i64 s') := hVc.cell 3 rfl
      cases hr : rdStep p' c' h' s' tb.data.toList with
      | none =>
        have hrv : ∀ w, Glob w → Calls Tryd.prog 26 #[.agg #[.int .i64 p', .int .i64 c', .int .i64 h', .int .i64 s'], .string tb] w fun e w' => e = .returned (.tuple #[.agg #[.int .i64 0, .int .i64 0, .int .i64 0, .bool false], .bool false]) ∧ Past w w' := fun w hg => by
          have := readStepAll p' c' h' s' tb w hg (by omega)
          rw [hr] at this
          exact this
        have HRV := Lib.hid hrv
        clear hrv hr
        go_wp2_with fail
        (with_reducible refine (HRV.out _ hgb).mono ?_)
        rintro e wd ⟨rfl, hpd⟩
        go_wp2_with fail
        go_ret
        exact ⟨rfl, (hpW.trans hpd).alloc _⟩
      | some a =>
        obtain ⟨f', t', d', x'⟩ := a
        have hst' := rdStep_yes hr
        have hrv : ∀ w, Glob w → Calls Tryd.prog 26 #[.agg #[.int .i64 p', .int .i64 c', .int .i64 h', .int .i64 s'], .string tb] w fun e w' => e = .returned (.tuple #[.agg #[.int .i64 f', .int .i64 t', .int .i64 d', .bool x'], .bool true]) ∧ Past w w' := fun w hg => by
          have := readStepAll p' c' h' s' tb w hg (by omega)
          rw [hr] at this
          exact this
        have hvx := fun w => stepTextAll p' c' h' s' f' t' d' x' w
        rw [hst'] at hvx
        have HRV := Lib.hid hrv
        have HVX := Lib.hid hvx
        clear hrv hr hvx hst'
        go_wp2_with fail
        (with_reducible refine (HRV.out _ hgb).mono ?_)
        rintro e wd ⟨rfl, hpd⟩
        replace e0 := hpd.keep e0
        replace e1 := hpd.keep e1
        replace e2 := hpd.keep e2
        replace e3 := hpd.keep e3
        have hbl2 := World.block_lt_of_cell? wd _ e0
        simp only at hbl2
        go_wp2_with fail
        (with_reducible refine (HVX.out _).mono ?_)
        rintro e we ⟨rfl, hpe⟩
        go_wp2_with fail
        go_ret
        exact ⟨rfl, ((hpW.trans hpd).alloc _).trans hpe⟩
    · clear hbk
      go_wp2_with fail
      (with_reducible refine (HVT.out _).mono ?_)
      rintro e w3 ⟨rfl, hp3⟩
      replace c0 := hp3.keep c0
      replace c1 := hp3.keep c1
      replace c2 := hp3.keep c2
      replace c3 := hp3.keep c3
      replace c4 := hp3.keep c4
      replace c5 := hp3.keep c5
      replace c6 := hp3.keep c6
      replace c7 := hp3.keep c7
      go_wp2_with fail
      (with_reducible refine (HST.out _).mono ?_)
      rintro e w4 ⟨rfl, hp4⟩
      replace c0 := hp4.keep c0
      replace c1 := hp4.keep c1
      replace c2 := hp4.keep c2
      replace c3 := hp4.keep c3
      replace c4 := hp4.keep c4
      replace c5 := hp4.keep c5
      replace c6 := hp4.keep c6
      replace c7 := hp4.keep c7
      have hpE := hp2.trans (hp3.trans hp4)
      clear hp3 hp4
      go_wp2_with fail
      (with_reducible refine (other7_any _ _ _ _ (hx.past hpE (hpE).sz) hyk hn4).mono ?_)
      rintro e wa ⟨ga, ka, rfl, hra, hpa⟩
      go_wp2_with fail
      (with_reducible refine (drawVTxt_any _ _ _ _ hra (by omega)).mono ?_)
      rintro e wb ⟨p', c', h', s', tb, rfl, hbd', hsz, hpb⟩
      have hpW0 : Past w wb := (hpE).trans (hpa.trans hpb)
      go_upto_region 12 with fail
      obtain ⟨wc, hwc⟩ : ∃ y, y = wb.alloc (.cells #[.int .i64 p', .int .i64 c', .int .i64 h', .int .i64 s'] 25) := ⟨_, rfl⟩
      rw [← hwc]
      have hVc : Blk wc wb.heap.size 25 #[.int .i64 p', .int .i64 c', .int .i64 h', .int .i64 s'] := by rw [hwc]; exact Blk.new _ _ _
      have hpW : Past w wc := by rw [hwc]; exact hpW0.alloc _
      obtain ⟨bW, hbW⟩ : ∃ y, y = wb.heap.size := ⟨_, rfl⟩
      rw [← hbW] at hVc ⊢
      have hgb := hg.past hpW
      clear hra hpa hpb hwc hbW hpW0
      have e0 : wc.cell? ⟨bW, 0, none⟩ = some (.int .i64 p') := hVc.cell 0 rfl
      have e1 : wc.cell? ⟨bW, 1, none⟩ = some (.int .i64 c') := hVc.cell 1 rfl
      have e2 : wc.cell? ⟨bW, 2, none⟩ = some (.int .i64 h') := hVc.cell 2 rfl
      have e3 : wc.cell? ⟨bW, 3, none⟩ = some (.int .i64 s') := hVc.cell 3 rfl
      cases hr : rdStep p' c' h' s' tb.data.toList with
      | none =>
        have hrv : ∀ w, Glob w → Calls Tryd.prog 26 #[.agg #[.int .i64 p', .int .i64 c', .int .i64 h', .int .i64 s'], .string tb] w fun e w' => e = .returned (.tuple #[.agg #[.int .i64 0, .int .i64 0, .int .i64 0, .bool false], .bool false]) ∧ Past w w' := fun w hg => by
          have := readStepAll p' c' h' s' tb w hg (by omega)
          rw [hr] at this
          exact this
        have HRV := Lib.hid hrv
        clear hrv hr
        go_wp2_with fail
        (with_reducible refine (HRV.out _ hgb).mono ?_)
        rintro e wd ⟨rfl, hpd⟩
        go_wp2_with fail
        go_ret
        exact ⟨rfl, (hpW.trans hpd).alloc _⟩
      | some a =>
        obtain ⟨f', t', d', x'⟩ := a
        have hst' := rdStep_yes hr
        have hrv : ∀ w, Glob w → Calls Tryd.prog 26 #[.agg #[.int .i64 p', .int .i64 c', .int .i64 h', .int .i64 s'], .string tb] w fun e w' => e = .returned (.tuple #[.agg #[.int .i64 f', .int .i64 t', .int .i64 d', .bool x'], .bool true]) ∧ Past w w' := fun w hg => by
          have := readStepAll p' c' h' s' tb w hg (by omega)
          rw [hr] at this
          exact this
        have hvx := fun w => stepTextAll p' c' h' s' f' t' d' x' w
        rw [hst'] at hvx
        have HRV := Lib.hid hrv
        have HVX := Lib.hid hvx
        clear hrv hr hvx hst'
        go_wp2_with fail
        (with_reducible refine (HRV.out _ hgb).mono ?_)
        rintro e wd ⟨rfl, hpd⟩
        replace e0 := hpd.keep e0
        replace e1 := hpd.keep e1
        replace e2 := hpd.keep e2
        replace e3 := hpd.keep e3
        have hbl2 := World.block_lt_of_cell? wd _ e0
        simp only at hbl2
        go_wp2_with fail
        (with_reducible refine (HVX.out _).mono ?_)
        rintro e we ⟨rfl, hpe⟩
        go_wp2_with fail
        go_ret
        exact ⟨rfl, ((hpW.trans hpd).alloc _).trans hpe⟩
  · rw [hd0] at hbig
    go_enter Tryd.func10, Tryd.ntmps10
    go_wp2_with (go_at_call 32; (with_reducible refine (hbig _).mono ?_); rintro e w9 ⟨rfl, rfl⟩)
    go_ret
    exact ⟨rfl, Past.refl _⟩
end Go.Proofs.YtdcdjocjlicplaaDoor
