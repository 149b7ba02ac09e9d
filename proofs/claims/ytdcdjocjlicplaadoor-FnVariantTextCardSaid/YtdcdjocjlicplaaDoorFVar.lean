/-
  A variant is recovered from its text, and an accepted text is the text of its variant: the walk.
-/
import Derived.Test.YtdcdjocjlicplaaDoorDrawR
import Derived.Test.YtdcdjocjlicplaaDoorReadX
import Derived.Test.YtdcdjocjlicplaaDoorOpenD
namespace Go.Proofs.YtdcdjocjlicplaaDoor
open Go.ChangeShapes Go.WideShapes Go.ChangeAt Go.RowKit Go.Joins

set_option maxHeartbeats 4000000 in
set_option maxRecDepth 100000 in
theorem FnVariantText.walk (w : World) (A : Option Addr) (n k : Nat) (hx : RdC w w.heap.size A n) (hyk : A = none → n = 0 ∧ k = 0) (hg : Glob w) :
    Calls Tryd.prog 9 #[.slice A n k] w fun e w' => e = .returned (.bool true) ∧ Past w w' := by
  have hbig := fun w => big_any A n k w
  cases hd : decide (4096 < n)
  · rw [hd] at hbig
    have hn4 : n ≤ 4096 := by have := of_decide_eq_false hd; omega
    have hn : n ≤ 5000 := by have := of_decide_eq_false hd; omega
    clear hd
    go_enter Tryd.func9, Tryd.ntmps9
    go_wp2_with (go_at_call 32; (with_reducible refine (hbig _).mono ?_); rintro e w9 ⟨rfl, rfl⟩)
    (with_reducible refine (drawVText_any _ _ _ _ hx hn).mono ?_)
    rintro e w1 ⟨p, c, h, s, rfl, hbd, hp1⟩
    go_upto_region 4 with fail
    obtain ⟨w2, hw2⟩ : ∃ w2, w2 = w1.alloc (.cells #[.int .i64 p, .int .i64 c, .int .i64 h, .int .i64 s] 25) := ⟨_, rfl⟩
    have hV : Blk w2 w1.heap.size 25 #[.int .i64 p, .int .i64 c, .int .i64 h, .int .i64 s] := by rw [hw2]; exact Blk.new _ _ _
    have hp2 : Past w w2 := by rw [hw2]; exact hp1.alloc _
    rw [← hw2]
    obtain ⟨b, hb⟩ : ∃ b, b = w1.heap.size := ⟨_, rfl⟩
    rw [← hb] at hV ⊢
    clear hw2 hb hp1 hbig
    have c0 : w2.cell? ⟨b, 0, none⟩ = some (.int .i64 p) := hV.cell 0 rfl
    have c1 : w2.cell? ⟨b, 1, none⟩ = some (.int .i64 c) := hV.cell 1 rfl
    have c2 : w2.cell? ⟨b, 2, none⟩ = some (.int .i64 h) := hV.cell 2 rfl
    have c3 : w2.cell? ⟨b, 3, none⟩ = some (.int .i64 s) := hV.cell 3 rfl
    have hvt := fun w => variantText_any p c h s w
    have hst := fun w => sVariantText_any p c h s w
    clear hV
    cases hv : vOk p c h s
    · have e : vtB p c h s = ⟨#[]⟩ := by rw [vtB, vText, hv]; rfl
      rw [e] at hvt hst
      have HVT := Lib.hid hvt
      have HST := Lib.hid hst
      clear hvt hst e
      go_wp2_with fail
      (with_reducible refine (HVT.out _).mono ?_)
      rintro e w3 ⟨rfl, hp3⟩
      replace c0 := hp3.keep c0
      replace c1 := hp3.keep c1
      replace c2 := hp3.keep c2
      replace c3 := hp3.keep c3
      go_wp2_with fail
      (with_reducible refine (HST.out _).mono ?_)
      rintro e w4 ⟨rfl, hp4⟩
      replace c0 := hp4.keep c0
      replace c1 := hp4.keep c1
      replace c2 := hp4.keep c2
      replace c3 := hp4.keep c3
      go_wp2_with fail
      (with_reducible refine (isVar_any _ _ _ _ _).mono ?_)
      rintro e w5 ⟨rfl, hp5⟩
      rw [hv]
      replace c0 := hp5.keep c0
      replace c1 := hp5.keep c1
      replace c2 := hp5.keep c2
      replace c3 := hp5.keep c3
      have hpE := hp2.trans (hp3.trans (hp4.trans hp5))
      clear hp3 hp4 hp5
      go_wp2_with fail
      (with_reducible refine (other1_any _ _ _ _ (hx.past hpE (hpE).sz) hyk hn4).mono ?_)
      rintro e wa ⟨ga, ka, rfl, hra, hpa⟩
      go_wp2_with fail
      (with_reducible refine (drawRText_any _ _ _ _ hra (by omega)).mono ?_)
      rintro e wb ⟨tb, rfl, hsz, hpb⟩
      have hpW : Past w wb := (hpE).trans (hpa.trans hpb)
      have hgb := hg.past hpW
      clear hra hpa hpb
      cases hr : rdV tb.data.toList with
      | none =>
        have hrv : ∀ w, Glob w → Calls Tryd.prog 23 #[.string tb] w fun e w' => e = .returned (.tuple #[.agg #[.int .i64 0, .int .i64 0, .int .i64 0, .int .i64 0], .bool false]) ∧ Past w w' := fun w hg => by
          have := readVariant_any tb w hg (by omega)
          rw [hr] at this
          exact this
        have HRV := Lib.hid hrv
        clear hrv hr
        go_wp2_with fail
        (with_reducible refine (HRV.out _ hgb).mono ?_)
        rintro e wc ⟨rfl, hpc⟩
        go_wp2_with fail
        go_ret
        exact ⟨rfl, (hpW.trans hpc).alloc _⟩
      | some x =>
        obtain ⟨p', c', h', s'⟩ := x
        obtain ⟨hv', ht'⟩ := rdV_yes hr
        have hrv : ∀ w, Glob w → Calls Tryd.prog 23 #[.string tb] w fun e w' => e = .returned (.tuple #[.agg #[.int .i64 p', .int .i64 c', .int .i64 h', .int .i64 s'], .bool true]) ∧ Past w w' := fun w hg => by
          have := readVariant_any tb w hg (by omega)
          rw [hr] at this
          exact this
        have hvx := fun w => variantText_any p' c' h' s' w
        rw [show vtB p' c' h' s' = tb from vtB_eq.2 (by rw [ht', vText, if_pos hv'])] at hvx
        have HRV := Lib.hid hrv
        have HVX := Lib.hid hvx
        clear hrv hr hvx ht' hv'
        go_wp2_with fail
        (with_reducible refine (HRV.out _ hgb).mono ?_)
        rintro e wc ⟨rfl, hpc⟩
        go_wp2_with fail
        (with_reducible refine (HVX.out _).mono ?_)
        rintro e wd ⟨rfl, hpd⟩
        go_wp2_with fail
        go_ret
        exact ⟨rfl, ((hpW.trans hpc).alloc _).trans hpd⟩
    · have hne : (vtB p c h s).toList.isEmpty = false := by
        rw [List.isEmpty_eq_false_iff, ByteArray.toList_eq]
        exact vText_ne.2 hv
      have hrv : ∀ w, Glob w → Calls Tryd.prog 23 #[.string (vtB p c h s)] w fun e w' => e = .returned (.tuple #[.agg #[.int .i64 p, .int .i64 c, .int .i64 h, .int .i64 s], .bool true]) ∧ Past w w' := fun w hg => by
        have h1 := readVariant_any (vtB p c h s) w hg (by have := vtB_size p c h s; omega)
        have h2 : (vtB p c h s).data.toList = vTxt p c h s := by rw [vtB, vText, if_pos hv]
        rw [h2, rdV_text hv] at h1
        exact h1
      generalize vtB p c h s = T at hvt hst hne hrv
      have HVT := Lib.hid hvt
      have HST := Lib.hid hst
      have HRB := Lib.hid hrv
      clear hvt hst hrv
      go_wp2_with fail
      (with_reducible refine (HVT.out _).mono ?_)
      rintro e w3 ⟨rfl, hp3⟩
      replace c0 := hp3.keep c0
      replace c1 := hp3.keep c1
      replace c2 := hp3.keep c2
      replace c3 := hp3.keep c3
      go_wp2_with fail
      (with_reducible refine (HST.out _).mono ?_)
      rintro e w4 ⟨rfl, hp4⟩
      replace c0 := hp4.keep c0
      replace c1 := hp4.keep c1
      replace c2 := hp4.keep c2
      replace c3 := hp4.keep c3
      go_wp2_with fail
      (with_reducible refine (isVar_any _ _ _ _ _).mono ?_)
      rintro e w5 ⟨rfl, hp5⟩
      rw [hv]
      replace c0 := hp5.keep c0
      replace c1 := hp5.keep c1
      replace c2 := hp5.keep c2
      replace c3 := hp5.keep c3
      have hpE := hp2.trans (hp3.trans (hp4.trans hp5))
      clear hp3 hp4 hp5
      go_wp2_with fail
      (with_reducible refine (HRB.out _ (hg.past hpE)).mono ?_)
      rintro e w6 ⟨rfl, hp6⟩
      replace c0 := hp6.keep c0
      replace c1 := hp6.keep c1
      replace c2 := hp6.keep c2
      replace c3 := hp6.keep c3
      have hbl := World.block_lt_of_cell? w6 _ c0
      simp only at hbl
      have hpF := (hpE.trans hp6).alloc (.cells #[.int .i64 p, .int .i64 c, .int .i64 h, .int .i64 s] 25)
      clear hpE hp6
      go_wp2_with fail
      (with_reducible refine (other1_any _ _ _ _ (hx.past hpF (hpF).sz) hyk hn4).mono ?_)
      rintro e wa ⟨ga, ka, rfl, hra, hpa⟩
      go_wp2_with fail
      (with_reducible refine (drawRText_any _ _ _ _ hra (by omega)).mono ?_)
      rintro e wb ⟨tb, rfl, hsz, hpb⟩
      have hpW : Past w wb := (hpF).trans (hpa.trans hpb)
      have hgb := hg.past hpW
      clear hra hpa hpb
      cases hr : rdV tb.data.toList with
      | none =>
        have hrv : ∀ w, Glob w → Calls Tryd.prog 23 #[.string tb] w fun e w' => e = .returned (.tuple #[.agg #[.int .i64 0, .int .i64 0, .int .i64 0, .int .i64 0], .bool false]) ∧ Past w w' := fun w hg => by
          have := readVariant_any tb w hg (by omega)
          rw [hr] at this
          exact this
        have HRV := Lib.hid hrv
        clear hrv hr
        go_wp2_with fail
        (with_reducible refine (HRV.out _ hgb).mono ?_)
        rintro e wc ⟨rfl, hpc⟩
        go_wp2_with fail
        go_ret
        exact ⟨rfl, (hpW.trans hpc).alloc _⟩
      | some x =>
        obtain ⟨p', c', h', s'⟩ := x
        obtain ⟨hv', ht'⟩ := rdV_yes hr
        have hrv : ∀ w, Glob w → Calls Tryd.prog 23 #[.string tb] w fun e w' => e = .returned (.tuple #[.agg #[.int .i64 p', .int .i64 c', .int .i64 h', .int .i64 s'], .bool true]) ∧ Past w w' := fun w hg => by
          have := readVariant_any tb w hg (by omega)
          rw [hr] at this
          exact this
        have hvx := fun w => variantText_any p' c' h' s' w
        rw [show vtB p' c' h' s' = tb from vtB_eq.2 (by rw [ht', vText, if_pos hv'])] at hvx
        have HRV := Lib.hid hrv
        have HVX := Lib.hid hvx
        clear hrv hr hvx ht' hv'
        go_wp2_with fail
        (with_reducible refine (HRV.out _ hgb).mono ?_)
        rintro e wc ⟨rfl, hpc⟩
        go_wp2_with fail
        (with_reducible refine (HVX.out _).mono ?_)
        rintro e wd ⟨rfl, hpd⟩
        go_wp2_with fail
        go_ret
        exact ⟨rfl, ((hpW.trans hpc).alloc _).trans hpd⟩
  · rw [hd] at hbig
    go_enter Tryd.func9, Tryd.ntmps9
    go_wp2_with (go_at_call 32; (with_reducible refine (hbig _).mono ?_); rintro e w9 ⟨rfl, rfl⟩)
    go_ret
    exact ⟨rfl, Past.refl _⟩
end Go.Proofs.YtdcdjocjlicplaaDoor
