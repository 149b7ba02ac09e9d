/-
  Contracts: the draw of a damaged text.
-/
import Derived.Test.YtdcdjocjlicplaaDoorDrawV
import Derived.Test.YtdcdjocjlicplaaDoorWordS
import Derived.Deep.RegionWith
import Derived.Laws.Concat
namespace Go.Proofs.YtdcdjocjlicplaaDoor
open Go.ChangeShapes Go.WideShapes Go.ChangeAt Go.RowKit Go.Joins

def Damaged (w : World) (g : Nat) (A : Option Addr) (n k : Nat) (tb : ByteArray) (e : Ending) (w' : World) : Prop := ∃ tc, e = .returned (.string tc) ∧ tc.size ≤ tb.size + 10 ∧ Drew w g A n k w'
theorem ex_size (tb : ByteArray) (i j : Nat) : (tb.extract i j).size ≤ tb.size := by
  rw [ByteArray.size_extract]
  omega
theorem ad_le {P : Program} (a b : ByteArray) (w : World) (ha : a.size ≤ 10000) (hb : b.size ≤ 10000) : (Op.stringOp .add a b).run P w = .ok (.string (a ++ b)) w := run_string_add_sum w a b (by omega)
theorem cell_d {w : World} {a : Addr} {v : Value} (h : w.cell? a = some v) : w.drew.cell? a = some v := h
def selV (Z : Nat) : ByteArray := [(⟨#[48]⟩ : ByteArray), (⟨#[47]⟩ : ByteArray), (⟨#[32]⟩ : ByteArray), (⟨#[120]⟩ : ByteArray), (⟨#[49]⟩ : ByteArray), (⟨#[45]⟩ : ByteArray)].getD Z ⟨#[]⟩
theorem selV_size {Z : Nat} (h : Z < 6) : (selV Z).size ≤ 1 := by
  rcases (by omega : Z = 0 ∨ Z = 1 ∨ Z = 2 ∨ Z = 3 ∨ Z = 4 ∨ Z = 5) with rfl | rfl | rfl | rfl | rfl | rfl <;> decide
theorem arrV_cell (wx : World) (t : TypeId) {Z : Nat} (h : Z < 6) : (wx.alloc (.cells #[.string ⟨#[48]⟩, .string ⟨#[47]⟩, .string ⟨#[32]⟩, .string ⟨#[120]⟩, .string ⟨#[49]⟩, .string ⟨#[45]⟩] t)).cell? ⟨wx.heap.size, Z, none⟩ = some (.string (selV Z)) := by
  rcases (by omega : Z = 0 ∨ Z = 1 ∨ Z = 2 ∨ Z = 3 ∨ Z = 4 ∨ Z = 5) with rfl | rfl | rfl | rfl | rfl | rfl <;> exact (Blk.new wx t _).cell _ rfl
set_option maxHeartbeats 4000000 in
set_option maxRecDepth 100000 in
theorem damV_any (w : World) (g : Nat) (A : Option Addr) (n k : Nat) (hs : Src w g A n k) (tb : ByteArray) (hsz : tb.size ≤ 900) :
    Calls Tryd.prog 57 #[.pointer (some ⟨g, 0, none⟩), .string tb] w (Damaged w g A n k tb) := by
  have W0 : IntKind.i64.wrap ((tb.size : Int) + 1) = (tb.size : Int) + 1 := IntWalk.i64_in _ (by omega)
  go_enter Tryd.func57, Tryd.ntmps57
  go_wp2_with fail
  (with_reducible refine (next_any _ _ _ _ _ _ hs (by omega)).mono ?_)
  rintro e w5 ⟨y, rfl, y0, y1, h5⟩
  have hs5 := h5.src
  obtain ⟨Y, rfl⟩ := Int.eq_ofNat_of_zero_le y0
  have hY : Y ≤ tb.size := by omega
  go_wp2_with fail
  (with_reducible refine (next_any _ _ _ _ _ _ hs5 (by omega)).mono ?_)
  rintro e w6 ⟨x, rfl, x0, x1, h6⟩
  have hD := h5.trans h6
  have hs6 := h6.src
  have hgl := hs6.lt
  clear h5 h6 hs5 y1 hs W0
  have hY1 : (Y : Int) ≤ (tb.size : Int) := by omega
  have sl1 := fun w => run_slice_string_h (P := Tryd.prog) (w := w) (t := 9) (by rfl) (s := tb) .i64 (Y : Int) (by omega) (by omega)
  have sl2 := fun w => run_slice_string_l (P := Tryd.prog) (w := w) (t := 9) (by rfl) (s := tb) .i64 (Y : Int) (by omega) (by omega)
  rw [Int.toNat_natCast] at sl1 sl2
  have sz1 := ex_size tb 0 Y
  have sz2 := ex_size tb Y tb.size
  by_cases e0 : x = 0
  · subst e0
    go_wp2_with fail
    go_ret
    exact ⟨_, rfl, by omega, hD⟩
  · by_cases e1 : x = 1
    · subst e1
      go_upto_region 6 with fail
      have hnx := fun wx (p : Past w6 wx) => next_any wx g A n k 6 (hs6.past p) (by decide)
      obtain ⟨ta, hta⟩ : ∃ ta, ta = tb.extract 0 Y := ⟨_, rfl⟩
      obtain ⟨tc, htc⟩ : ∃ tc, tc = tb.extract Y tb.size := ⟨_, rfl⟩
      have sz3 : ta.size + tc.size ≤ tb.size := by
        rw [hta, htc, ByteArray.size_extract, ByteArray.size_extract]
        omega
      rw [← hta] at sl1 sz1
      rw [← htc] at sl2 sz2
      clear hta htc
      go_region_with (go_at_call 74; (with_reducible refine (hnx _ ?_).mono ?_); (repeat (first | exact Past.refl _ | refine Past.alloc ?_ _ | refine Past.drew ?_)); rintro e w9 ⟨z, rfl, z0, z1, hd⟩; obtain ⟨Z, rfl⟩ := Int.eq_ofNat_of_zero_le z0; have hZ4 : Z < 6 := (by omega); have z2 : (Z : Int) < 6 := (by omega); have hgen := fun wx => arrV_cell wx 9 hZ4; have hss := selV_size hZ4; have ad1 := fun w => ad_le (P := Tryd.prog) ta (selV Z) w (by omega) (by omega); have ad2 := fun w => ad_le (P := Tryd.prog) (ta ++ selV Z) tc w (by rw [ByteArray.size_append]; omega) (by omega); (try (have hA := hd.cell (p := ⟨w6.heap.size, Z, none⟩) (v := .string (selV Z)) (by first | exact hgen w6 | exact cell_d (hgen w6) | exact hgen w6.drew) (by simp only; omega))))
      · have hpa : Past w6 (w6.alloc (.cells #[.string ⟨#[48]⟩, .string ⟨#[47]⟩, .string ⟨#[32]⟩, .string ⟨#[120]⟩, .string ⟨#[49]⟩, .string ⟨#[45]⟩] 9)).drew := (by repeat (first | exact Past.refl _ | refine Past.alloc ?_ _ | refine Past.drew ?_))
        have hDE := hD.trans (Drew.after hpa hd)
        clear hA hgen hpa hd
        go_wp2_with fail
        go_ret
        exact ⟨_, rfl, by rw [ByteArray.size_append, ByteArray.size_append]; omega, hDE⟩
      · have hpa : Past w6 w6.drew := (by repeat (first | exact Past.refl _ | refine Past.alloc ?_ _ | refine Past.drew ?_))
        have hDE := hD.trans (Drew.after hpa hd)
        clear hgen hpa hd
        go_wp2_with fail
        go_ret
        exact ⟨_, rfl, by rw [ByteArray.size_append, ByteArray.size_append]; omega, hDE.alloc _⟩
    · by_cases e2 : x = 2
      · subst e2
        by_cases hYl : Y < tb.size
        · have hYl2 : (Y : Int) < (tb.size : Int) := by omega
          have sl5 := fun w => run_slice_string_l (P := Tryd.prog) (w := w) (t := 9) (by rfl) (s := tb) .i64 ((Y : Int) + 1) (by omega) (by omega)
          have W1 : IntKind.i64.wrap ((Y : Int) + 1) = (Y : Int) + 1 := IntWalk.i64_in _ (by omega)
          obtain ⟨ta, hta⟩ : ∃ ta, ta = tb.extract 0 Y := ⟨_, rfl⟩
          obtain ⟨tg, htg⟩ : ∃ tg, tg = tb.extract ((Y : Int) + 1).toNat tb.size := ⟨_, rfl⟩
          have sz3 : ta.size + tg.size ≤ tb.size := by
            rw [hta, htg, ByteArray.size_extract, ByteArray.size_extract]
            omega
          rw [← hta] at sl1 sz1
          rw [← htg] at sl5
          have ad1 := fun w => ad_le (P := Tryd.prog) ta tg w (by omega) (by omega)
          clear hta htg sl2 sz2
          go_upto_region 9 with fail
          go_region
          all_goals
            go_wp2_with fail
            go_ret
            exact ⟨_, rfl, by rw [ByteArray.size_append]; omega, hD.drew⟩
        · have hYl2 : ¬ (Y : Int) < (tb.size : Int) := by omega
          go_wp2_with fail
          go_ret
          exact ⟨_, rfl, by omega, hD⟩
      · go_wp2_with fail
        go_ret
        exact ⟨_, rfl, by omega, hD⟩
def selS (Z : Nat) : ByteArray := [(⟨#[48]⟩ : ByteArray), (⟨#[47]⟩ : ByteArray), (⟨#[32]⟩ : ByteArray), (⟨#[42]⟩ : ByteArray), (⟨#[111, 102, 102]⟩ : ByteArray), (⟨#[98, 97, 114]⟩ : ByteArray), (⟨#[40]⟩ : ByteArray), (⟨#[49, 41]⟩ : ByteArray)].getD Z ⟨#[]⟩
theorem selS_size {Z : Nat} (h : Z < 8) : (selS Z).size ≤ 3 := by
  rcases (by omega : Z = 0 ∨ Z = 1 ∨ Z = 2 ∨ Z = 3 ∨ Z = 4 ∨ Z = 5 ∨ Z = 6 ∨ Z = 7) with rfl | rfl | rfl | rfl | rfl | rfl | rfl | rfl <;> decide
theorem arrS_cell (wx : World) (t : TypeId) {Z : Nat} (h : Z < 8) : (wx.alloc (.cells #[.string ⟨#[48]⟩, .string ⟨#[47]⟩, .string ⟨#[32]⟩, .string ⟨#[42]⟩, .string ⟨#[111, 102, 102]⟩, .string ⟨#[98, 97, 114]⟩, .string ⟨#[40]⟩, .string ⟨#[49, 41]⟩] t)).cell? ⟨wx.heap.size, Z, none⟩ = some (.string (selS Z)) := by
  rcases (by omega : Z = 0 ∨ Z = 1 ∨ Z = 2 ∨ Z = 3 ∨ Z = 4 ∨ Z = 5 ∨ Z = 6 ∨ Z = 7) with rfl | rfl | rfl | rfl | rfl | rfl | rfl | rfl <;> exact (Blk.new wx t _).cell _ rfl
set_option maxHeartbeats 4000000 in
set_option maxRecDepth 100000 in
theorem damS_any (w : World) (g : Nat) (A : Option Addr) (n k : Nat) (hs : Src w g A n k) (tb : ByteArray) (hsz : tb.size ≤ 900) :
    Calls Tryd.prog 59 #[.pointer (some ⟨g, 0, none⟩), .string tb] w (Damaged w g A n k tb) := by
  have W0 : IntKind.i64.wrap ((tb.size : Int) + 1) = (tb.size : Int) + 1 := IntWalk.i64_in _ (by omega)
  go_enter Tryd.func59, Tryd.ntmps59
  go_wp2_with fail
  (with_reducible refine (next_any _ _ _ _ _ _ hs (by omega)).mono ?_)
  rintro e w5 ⟨y, rfl, y0, y1, h5⟩
  have hs5 := h5.src
  obtain ⟨Y, rfl⟩ := Int.eq_ofNat_of_zero_le y0
  have hY : Y ≤ tb.size := by omega
  go_wp2_with fail
  (with_reducible refine (next_any _ _ _ _ _ _ hs5 (by omega)).mono ?_)
  rintro e w6 ⟨x, rfl, x0, x1, h6⟩
  have hD := h5.trans h6
  have hs6 := h6.src
  have hgl := hs6.lt
  clear h5 h6 hs5 y1 hs W0
  have hY1 : (Y : Int) ≤ (tb.size : Int) := by omega
  have sl1 := fun w => run_slice_string_h (P := Tryd.prog) (w := w) (t := 9) (by rfl) (s := tb) .i64 (Y : Int) (by omega) (by omega)
  have sl2 := fun w => run_slice_string_l (P := Tryd.prog) (w := w) (t := 9) (by rfl) (s := tb) .i64 (Y : Int) (by omega) (by omega)
  rw [Int.toNat_natCast] at sl1 sl2
  have sz1 := ex_size tb 0 Y
  have sz2 := ex_size tb Y tb.size
  by_cases e0 : x = 0
  · subst e0
    go_wp2_with fail
    go_ret
    exact ⟨_, rfl, by omega, hD⟩
  · by_cases e1 : x = 1
    · subst e1
      go_upto_region 6 with fail
      have hnx := fun wx (p : Past w6 wx) => next_any wx g A n k 8 (hs6.past p) (by decide)
      obtain ⟨ta, hta⟩ : ∃ ta, ta = tb.extract 0 Y := ⟨_, rfl⟩
      obtain ⟨tc, htc⟩ : ∃ tc, tc = tb.extract Y tb.size := ⟨_, rfl⟩
      have sz3 : ta.size + tc.size ≤ tb.size := by
        rw [hta, htc, ByteArray.size_extract, ByteArray.size_extract]
        omega
      rw [← hta] at sl1 sz1
      rw [← htc] at sl2 sz2
      clear hta htc
      go_region_with (go_at_call 74; (with_reducible refine (hnx _ ?_).mono ?_); (repeat (first | exact Past.refl _ | refine Past.alloc ?_ _ | refine Past.drew ?_)); rintro e w9 ⟨z, rfl, z0, z1, hd⟩; obtain ⟨Z, rfl⟩ := Int.eq_ofNat_of_zero_le z0; have hZ4 : Z < 8 := (by omega); have z2 : (Z : Int) < 8 := (by omega); have hgen := fun wx => arrS_cell wx 9 hZ4; have hss := selS_size hZ4; have ad1 := fun w => ad_le (P := Tryd.prog) ta (selS Z) w (by omega) (by omega); have ad2 := fun w => ad_le (P := Tryd.prog) (ta ++ selS Z) tc w (by rw [ByteArray.size_append]; omega) (by omega); (try (have hA := hd.cell (p := ⟨w6.heap.size, Z, none⟩) (v := .string (selS Z)) (by first | exact hgen w6 | exact cell_d (hgen w6) | exact hgen w6.drew) (by simp only; omega))))
      · have hpa : Past w6 (w6.alloc (.cells #[.string ⟨#[48]⟩, .string ⟨#[47]⟩, .string ⟨#[32]⟩, .string ⟨#[42]⟩, .string ⟨#[111, 102, 102]⟩, .string ⟨#[98, 97, 114]⟩, .string ⟨#[40]⟩, .string ⟨#[49, 41]⟩] 9)).drew := (by repeat (first | exact Past.refl _ | refine Past.alloc ?_ _ | refine Past.drew ?_))
        have hDE := hD.trans (Drew.after hpa hd)
        clear hA hgen hpa hd
        go_wp2_with fail
        go_ret
        exact ⟨_, rfl, by rw [ByteArray.size_append, ByteArray.size_append]; omega, hDE⟩
      · have hpa : Past w6 w6.drew := (by repeat (first | exact Past.refl _ | refine Past.alloc ?_ _ | refine Past.drew ?_))
        have hDE := hD.trans (Drew.after hpa hd)
        clear hgen hpa hd
        go_wp2_with fail
        go_ret
        exact ⟨_, rfl, by rw [ByteArray.size_append, ByteArray.size_append]; omega, hDE.alloc _⟩
    · by_cases e2 : x = 2
      · subst e2
        by_cases hYl : Y < tb.size
        · have hYl2 : (Y : Int) < (tb.size : Int) := by omega
          have sl5 := fun w => run_slice_string_l (P := Tryd.prog) (w := w) (t := 9) (by rfl) (s := tb) .i64 ((Y : Int) + 1) (by omega) (by omega)
          have W1 : IntKind.i64.wrap ((Y : Int) + 1) = (Y : Int) + 1 := IntWalk.i64_in _ (by omega)
          obtain ⟨ta, hta⟩ : ∃ ta, ta = tb.extract 0 Y := ⟨_, rfl⟩
          obtain ⟨tg, htg⟩ : ∃ tg, tg = tb.extract ((Y : Int) + 1).toNat tb.size := ⟨_, rfl⟩
          have sz3 : ta.size + tg.size ≤ tb.size := by
            rw [hta, htg, ByteArray.size_extract, ByteArray.size_extract]
            omega
          rw [← hta] at sl1 sz1
          rw [← htg] at sl5
          have ad1 := fun w => ad_le (P := Tryd.prog) ta tg w (by omega) (by omega)
          clear hta htg sl2 sz2
          go_upto_region 9 with fail
          go_region
          all_goals
            go_wp2_with fail
            go_ret
            exact ⟨_, rfl, by rw [ByteArray.size_append]; omega, hD.drew⟩
        · have hYl2 : ¬ (Y : Int) < (tb.size : Int) := by omega
          go_wp2_with fail
          go_ret
          exact ⟨_, rfl, by omega, hD⟩
      · go_wp2_with fail
        go_ret
        exact ⟨_, rfl, by omega, hD⟩
end Go.Proofs.YtdcdjocjlicplaaDoor
