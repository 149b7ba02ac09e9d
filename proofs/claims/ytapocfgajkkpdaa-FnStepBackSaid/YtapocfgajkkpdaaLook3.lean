/-
  Contracts of the functions that count on a board: borne off, pips, points.
-/
import Derived.Test.YtapocfgajkkpdaaLook2
namespace Go.Proofs.Ytapocfgajkkpdaa
open Go.ChangeShapes Go.WideShapes Go.ChangeAt Go.RowKit Go.Joins

def offF (p c h s : Int) (xs ys : List Int) : Int := if bOk p c h s xs ys = true then c - xs.sum else -1
def offG (p c h s : Int) (xs ys : List Int) : Int := if bOk p c h s xs ys = true then c - ys.sum else -1
def pipCF (p c h s : Int) (xs ys : List Int) : Int := if bOk p c h s xs ys = true then pipsF xs else -1
def pipCG (p c h s : Int) (xs ys : List Int) : Int := if bOk p c h s xs ys = true then pipsF ys else -1
theorem borneOff (p c h s : Int) (A D : Option Addr) (n k m l : Nat) (xs ys : List Int) (w : World) (hx : RdI w A n xs) (hy : RdI w D m ys) (hn : n ≤ 1048576) (hm : m ≤ 1048576) :
    Calls Try.prog 28 #[.agg #[.int .i64 p, .int .i64 c, .int .i64 h, .int .i64 s], .agg #[.slice A n k, .slice D m l]] w fun e w' => e = .returned (.tuple #[.int .i64 (offF p c h s xs ys), .int .i64 (offG p c h s xs ys)]) ∧ Past w w' := by
  cases hb : bOk p c h s xs ys
  · rw [show offF p c h s xs ys = -1 from by simp [offF, hb], show offG p c h s xs ys = -1 from by simp [offG, hb]]
    go_enter Try.func28, Try.ntmps28
    go_wp2_with (go_at_call 31; (with_reducible refine (isBoard_any _ _ _ _ _ _ _ _ _ _ _ _ _ (hx.past (by repeat (first | exact Past.refl _ | assumption | refine Past.alloc ?_ _ | refine Past.drew ?_ | refine Past.drewN ?_ _ | refine Past.setCell ?_ (by first | (simp; done) | (simp <;> omega)) _ | refine Past.trans ?_ (past_over _ _) | refine Past.trans ?_ (by assumption)))) (hy.past (by repeat (first | exact Past.refl _ | assumption | refine Past.alloc ?_ _ | refine Past.drew ?_ | refine Past.drewN ?_ _ | refine Past.setCell ?_ (by first | (simp; done) | (simp <;> omega)) _ | refine Past.trans ?_ (past_over _ _) | refine Past.trans ?_ (by assumption)))) hn hm).mono ?_); rintro e w1 ⟨rfl, hb1⟩; obtain ⟨hc1, hf1, _⟩ := hb1.cells; have hz1_0 : w.heap.size < w1.heap.size := Past.lt hb1 (by first | omega | (simp <;> omega)); have hz1_1 : w.heap.size + 1 < w1.heap.size := Past.lt hb1 (by first | omega | (simp <;> omega)))
    go_ret2
    exact ⟨rfl, (by repeat (first | exact Past.refl _ | assumption | refine Past.alloc ?_ _ | refine Past.drew ?_ | refine Past.drewN ?_ _ | refine Past.setCell ?_ (by first | (simp; done) | (simp <;> omega)) _ | refine Past.trans ?_ (past_over _ _) | refine Past.trans ?_ (by assumption)))⟩
  · have F := Lib.hid (bFacts hb)
    have h0x := Lib.hid F.out.2.2.2.2.1.2.1
    have h0y := Lib.hid F.out.2.2.2.2.2.2.1
    have nx := sum_nonneg h0x.out
    have ny := sum_nonneg h0y.out
    have ux : xs.sum ≤ 1000000 := by have := F.out; omega
    have uy : ys.sum ≤ 1000000 := by have := F.out; omega
    have c1 : 1 ≤ c := by have := F.out; omega
    have c2 : c ≤ 15 := by have := F.out; omega
    rw [show offF p c h s xs ys = c - xs.sum from by simp [offF, hb], show offG p c h s xs ys = c - ys.sum from by simp [offG, hb]]
    go_enter Try.func28, Try.ntmps28
    go_wp2_with (go_at_call 31; (with_reducible refine (isBoard_any _ _ _ _ _ _ _ _ _ _ _ _ _ (hx.past (by repeat (first | exact Past.refl _ | assumption | refine Past.alloc ?_ _ | refine Past.drew ?_ | refine Past.drewN ?_ _ | refine Past.setCell ?_ (by first | (simp; done) | (simp <;> omega)) _ | refine Past.trans ?_ (past_over _ _) | refine Past.trans ?_ (by assumption)))) (hy.past (by repeat (first | exact Past.refl _ | assumption | refine Past.alloc ?_ _ | refine Past.drew ?_ | refine Past.drewN ?_ _ | refine Past.setCell ?_ (by first | (simp; done) | (simp <;> omega)) _ | refine Past.trans ?_ (past_over _ _) | refine Past.trans ?_ (by assumption)))) hn hm).mono ?_); rintro e w1 ⟨rfl, hb1⟩; obtain ⟨hc1, hf1, _⟩ := hb1.cells; have hz1_0 : w.heap.size < w1.heap.size := Past.lt hb1 (by first | omega | (simp <;> omega)); have hz1_1 : w.heap.size + 1 < w1.heap.size := Past.lt hb1 (by first | omega | (simp <;> omega)))
    refine wp_region_over (by kernel_rfl) (by kernel_rfl) ?_
    repeat (go_big_quiet_step ((first | (go_at_call 75; exact over_same (total_any _ _ _ _ _ (hx.past (by repeat (first | exact Past.refl _ | assumption | refine Past.alloc ?_ _ | refine Past.drew ?_ | refine Past.drewN ?_ _ | refine Past.setCell ?_ (by first | (simp; done) | (simp <;> omega)) _ | refine Past.trans ?_ (past_over _ _) | refine Past.trans ?_ (by assumption)))) h0x.out ux hn)) | (go_at_call 75; exact over_same (total_any _ _ _ _ _ (hy.past (by repeat (first | exact Past.refl _ | assumption | refine Past.alloc ?_ _ | refine Past.drew ?_ | refine Past.drewN ?_ _ | refine Past.setCell ?_ (by first | (simp; done) | (simp <;> omega)) _ | refine Past.trans ?_ (past_over _ _) | refine Past.trans ?_ (by assumption)))) h0y.out uy hm)))))
    refine wpQuiet_nil ?_
    intro w2 hb2
    obtain ⟨hc2, hf2, _⟩ := hb2.cells
    go_wp2
    go_ret2
    exact ⟨rfl, (by repeat (first | exact Past.refl _ | assumption | refine Past.alloc ?_ _ | refine Past.drew ?_ | refine Past.drewN ?_ _ | refine Past.setCell ?_ (by first | (simp; done) | (simp <;> omega)) _ | refine Past.trans ?_ (past_over _ _) | refine Past.trans ?_ (by assumption)))⟩
theorem pipCounts (p c h s : Int) (A D : Option Addr) (n k m l : Nat) (xs ys : List Int) (w : World) (hx : RdI w A n xs) (hy : RdI w D m ys) (hn : n ≤ 1048576) (hm : m ≤ 1048576) :
    Calls Try.prog 32 #[.agg #[.int .i64 p, .int .i64 c, .int .i64 h, .int .i64 s], .agg #[.slice A n k, .slice D m l]] w fun e w' => e = .returned (.tuple #[.int .i64 (pipCF p c h s xs ys), .int .i64 (pipCG p c h s xs ys)]) ∧ Past w w' := by
  cases hb : bOk p c h s xs ys
  · rw [show pipCF p c h s xs ys = -1 from by simp [pipCF, hb], show pipCG p c h s xs ys = -1 from by simp [pipCG, hb]]
    go_enter Try.func32, Try.ntmps32
    go_wp2_with (go_at_call 31; (with_reducible refine (isBoard_any _ _ _ _ _ _ _ _ _ _ _ _ _ (hx.past (by repeat (first | exact Past.refl _ | assumption | refine Past.alloc ?_ _ | refine Past.drew ?_ | refine Past.drewN ?_ _ | refine Past.setCell ?_ (by first | (simp; done) | (simp <;> omega)) _ | refine Past.trans ?_ (past_over _ _) | refine Past.trans ?_ (by assumption)))) (hy.past (by repeat (first | exact Past.refl _ | assumption | refine Past.alloc ?_ _ | refine Past.drew ?_ | refine Past.drewN ?_ _ | refine Past.setCell ?_ (by first | (simp; done) | (simp <;> omega)) _ | refine Past.trans ?_ (past_over _ _) | refine Past.trans ?_ (by assumption)))) hn hm).mono ?_); rintro e w1 ⟨rfl, hb1⟩; obtain ⟨hc1, hf1, _⟩ := hb1.cells; have hz1_0 : w.heap.size < w1.heap.size := Past.lt hb1 (by first | omega | (simp <;> omega)); have hz1_1 : w.heap.size + 1 < w1.heap.size := Past.lt hb1 (by first | omega | (simp <;> omega)))
    go_ret2
    exact ⟨rfl, (by repeat (first | exact Past.refl _ | assumption | refine Past.alloc ?_ _ | refine Past.drew ?_ | refine Past.drewN ?_ _ | refine Past.setCell ?_ (by first | (simp; done) | (simp <;> omega)) _ | refine Past.trans ?_ (past_over _ _) | refine Past.trans ?_ (by assumption)))⟩
  · have F := Lib.hid (bFacts hb)
    have h0x := Lib.hid (le15 F.out.2.2.2.2.1.2.1 F.out.2.2.2.2.1.2.2 F.out.2.1.2)
    have h0y := Lib.hid (le15 F.out.2.2.2.2.2.2.1 F.out.2.2.2.2.2.2.2 F.out.2.1.2)
    have n25 : n ≤ 25 := by have := F.out; have := hx.1; omega
    have m25 : m ≤ 25 := by have := F.out; have := hy.1; omega
    rw [show pipCF p c h s xs ys = pipsF xs from by simp [pipCF, hb], show pipCG p c h s xs ys = pipsF ys from by simp [pipCG, hb]]
    go_enter Try.func32, Try.ntmps32
    go_wp2_with (go_at_call 31; (with_reducible refine (isBoard_any _ _ _ _ _ _ _ _ _ _ _ _ _ (hx.past (by repeat (first | exact Past.refl _ | assumption | refine Past.alloc ?_ _ | refine Past.drew ?_ | refine Past.drewN ?_ _ | refine Past.setCell ?_ (by first | (simp; done) | (simp <;> omega)) _ | refine Past.trans ?_ (past_over _ _) | refine Past.trans ?_ (by assumption)))) (hy.past (by repeat (first | exact Past.refl _ | assumption | refine Past.alloc ?_ _ | refine Past.drew ?_ | refine Past.drewN ?_ _ | refine Past.setCell ?_ (by first | (simp; done) | (simp <;> omega)) _ | refine Past.trans ?_ (past_over _ _) | refine Past.trans ?_ (by assumption)))) hn hm).mono ?_); rintro e w1 ⟨rfl, hb1⟩; obtain ⟨hc1, hf1, _⟩ := hb1.cells; have hz1_0 : w.heap.size < w1.heap.size := Past.lt hb1 (by first | omega | (simp <;> omega)); have hz1_1 : w.heap.size + 1 < w1.heap.size := Past.lt hb1 (by first | omega | (simp <;> omega)))
    refine wp_region_over (by kernel_rfl) (by kernel_rfl) ?_
    repeat (go_big_quiet_step ((first | (go_at_call 77; exact over_same (pips_any _ _ _ _ _ (hx.past (by repeat (first | exact Past.refl _ | assumption | refine Past.alloc ?_ _ | refine Past.drew ?_ | refine Past.drewN ?_ _ | refine Past.setCell ?_ (by first | (simp; done) | (simp <;> omega)) _ | refine Past.trans ?_ (past_over _ _) | refine Past.trans ?_ (by assumption)))) n25 h0x)) | (go_at_call 77; exact over_same (pips_any _ _ _ _ _ (hy.past (by repeat (first | exact Past.refl _ | assumption | refine Past.alloc ?_ _ | refine Past.drew ?_ | refine Past.drewN ?_ _ | refine Past.setCell ?_ (by first | (simp; done) | (simp <;> omega)) _ | refine Past.trans ?_ (past_over _ _) | refine Past.trans ?_ (by assumption)))) m25 h0y)))))
    refine wpQuiet_nil ?_
    intro w2 hb2
    obtain ⟨hc2, hf2, _⟩ := hb2.cells
    go_wp2
    go_ret2
    exact ⟨rfl, (by repeat (first | exact Past.refl _ | assumption | refine Past.alloc ?_ _ | refine Past.drew ?_ | refine Past.drewN ?_ _ | refine Past.setCell ?_ (by first | (simp; done) | (simp <;> omega)) _ | refine Past.trans ?_ (past_over _ _) | refine Past.trans ?_ (by assumption)))⟩
theorem sPipCounts (p c h s : Int) (A D : Option Addr) (n k m l : Nat) (xs ys : List Int) (w : World) (hx : RdI w A n xs) (hy : RdI w D m ys) (hn : n ≤ 1048576) (hm : m ≤ 1048576) :
    Calls Try.prog 33 #[.agg #[.int .i64 p, .int .i64 c, .int .i64 h, .int .i64 s], .agg #[.slice A n k, .slice D m l]] w fun e w' => e = .returned (.tuple #[.int .i64 (pipCF p c h s xs ys), .int .i64 (pipCG p c h s xs ys)]) ∧ Past w w' := by
  cases hb : bOk p c h s xs ys
  · rw [show pipCF p c h s xs ys = -1 from by simp [pipCF, hb], show pipCG p c h s xs ys = -1 from by simp [pipCG, hb]]
    go_enter Try.func33, Try.ntmps33
    go_wp2_with (go_at_call 26; (with_reducible refine (sIsBoard_any _ _ _ _ _ _ _ _ _ _ _ _ _ (hx.past (by repeat (first | exact Past.refl _ | assumption | refine Past.alloc ?_ _ | refine Past.drew ?_ | refine Past.drewN ?_ _ | refine Past.setCell ?_ (by first | (simp; done) | (simp <;> omega)) _ | refine Past.trans ?_ (past_over _ _) | refine Past.trans ?_ (by assumption)))) (hy.past (by repeat (first | exact Past.refl _ | assumption | refine Past.alloc ?_ _ | refine Past.drew ?_ | refine Past.drewN ?_ _ | refine Past.setCell ?_ (by first | (simp; done) | (simp <;> omega)) _ | refine Past.trans ?_ (past_over _ _) | refine Past.trans ?_ (by assumption)))) hn hm).mono ?_); rintro e w1 ⟨rfl, hb1⟩; obtain ⟨hc1, hf1, _⟩ := hb1.cells; have hz1_0 : w.heap.size < w1.heap.size := Past.lt hb1 (by first | omega | (simp <;> omega)); have hz1_1 : w.heap.size + 1 < w1.heap.size := Past.lt hb1 (by first | omega | (simp <;> omega)))
    go_ret2
    exact ⟨rfl, (by repeat (first | exact Past.refl _ | assumption | refine Past.alloc ?_ _ | refine Past.drew ?_ | refine Past.drewN ?_ _ | refine Past.setCell ?_ (by first | (simp; done) | (simp <;> omega)) _ | refine Past.trans ?_ (past_over _ _) | refine Past.trans ?_ (by assumption)))⟩
  · have F := Lib.hid (bFacts hb)
    have h0x := Lib.hid (le15 F.out.2.2.2.2.1.2.1 F.out.2.2.2.2.1.2.2 F.out.2.1.2)
    have h0y := Lib.hid (le15 F.out.2.2.2.2.2.2.1 F.out.2.2.2.2.2.2.2 F.out.2.1.2)
    have n25 : n ≤ 25 := by have := F.out; have := hx.1; omega
    have m25 : m ≤ 25 := by have := F.out; have := hy.1; omega
    rw [show pipCF p c h s xs ys = pipsF xs from by simp [pipCF, hb], show pipCG p c h s xs ys = pipsF ys from by simp [pipCG, hb]]
    go_enter Try.func33, Try.ntmps33
    go_wp2_with (go_at_call 26; (with_reducible refine (sIsBoard_any _ _ _ _ _ _ _ _ _ _ _ _ _ (hx.past (by repeat (first | exact Past.refl _ | assumption | refine Past.alloc ?_ _ | refine Past.drew ?_ | refine Past.drewN ?_ _ | refine Past.setCell ?_ (by first | (simp; done) | (simp <;> omega)) _ | refine Past.trans ?_ (past_over _ _) | refine Past.trans ?_ (by assumption)))) (hy.past (by repeat (first | exact Past.refl _ | assumption | refine Past.alloc ?_ _ | refine Past.drew ?_ | refine Past.drewN ?_ _ | refine Past.setCell ?_ (by first | (simp; done) | (simp <;> omega)) _ | refine Past.trans ?_ (past_over _ _) | refine Past.trans ?_ (by assumption)))) hn hm).mono ?_); rintro e w1 ⟨rfl, hb1⟩; obtain ⟨hc1, hf1, _⟩ := hb1.cells; have hz1_0 : w.heap.size < w1.heap.size := Past.lt hb1 (by first | omega | (simp <;> omega)); have hz1_1 : w.heap.size + 1 < w1.heap.size := Past.lt hb1 (by first | omega | (simp <;> omega)))
    refine wp_region_over (by kernel_rfl) (by kernel_rfl) ?_
    repeat (go_big_quiet_step ((first | (go_at_call 78; exact over_same (sPips_any _ _ _ _ _ (hx.past (by repeat (first | exact Past.refl _ | assumption | refine Past.alloc ?_ _ | refine Past.drew ?_ | refine Past.drewN ?_ _ | refine Past.setCell ?_ (by first | (simp; done) | (simp <;> omega)) _ | refine Past.trans ?_ (past_over _ _) | refine Past.trans ?_ (by assumption)))) n25 h0x)) | (go_at_call 78; exact over_same (sPips_any _ _ _ _ _ (hy.past (by repeat (first | exact Past.refl _ | assumption | refine Past.alloc ?_ _ | refine Past.drew ?_ | refine Past.drewN ?_ _ | refine Past.setCell ?_ (by first | (simp; done) | (simp <;> omega)) _ | refine Past.trans ?_ (past_over _ _) | refine Past.trans ?_ (by assumption)))) m25 h0y)))))
    refine wpQuiet_nil ?_
    intro w2 hb2
    obtain ⟨hc2, hf2, _⟩ := hb2.cells
    go_wp2
    go_ret2
    exact ⟨rfl, (by repeat (first | exact Past.refl _ | assumption | refine Past.alloc ?_ _ | refine Past.drew ?_ | refine Past.drewN ?_ _ | refine Past.setCell ?_ (by first | (simp; done) | (simp <;> omega)) _ | refine Past.trans ?_ (past_over _ _) | refine Past.trans ?_ (by assumption)))⟩
def pointF (p c h s : Int) (xs ys : List Int) (i : Int) : Int := if (bOk p c h s xs ys && win i 0 (p - 1)) = true then xs.getD i.toNat 0 - ys.getD (p.toNat - 1 - i.toNat) 0 else 0
theorem pointCount (p c h s : Int) (A D : Option Addr) (n k m l : Nat) (xs ys : List Int) (i : Int) (w : World) (hx : RdI w A n xs) (hy : RdI w D m ys) (hn : n ≤ 1048576) (hm : m ≤ 1048576) :
    Calls Try.prog 27 #[.agg #[.int .i64 p, .int .i64 c, .int .i64 h, .int .i64 s], .agg #[.slice A n k, .slice D m l], .int .i64 i] w fun e w' => e = .returned (.int .i64 (pointF p c h s xs ys i)) ∧ Past w w' := by
  cases hb : bOk p c h s xs ys
  · rw [show pointF p c h s xs ys i = 0 from by simp [pointF, hb]]
    go_enter Try.func27, Try.ntmps27
    go_wp2_with (go_at_call 31; (with_reducible refine (isBoard_any _ _ _ _ _ _ _ _ _ _ _ _ _ (hx.past (by repeat (first | exact Past.refl _ | assumption | refine Past.alloc ?_ _ | refine Past.drew ?_ | refine Past.drewN ?_ _ | refine Past.setCell ?_ (by first | (simp; done) | (simp <;> omega)) _ | refine Past.trans ?_ (past_over _ _) | refine Past.trans ?_ (by assumption)))) (hy.past (by repeat (first | exact Past.refl _ | assumption | refine Past.alloc ?_ _ | refine Past.drew ?_ | refine Past.drewN ?_ _ | refine Past.setCell ?_ (by first | (simp; done) | (simp <;> omega)) _ | refine Past.trans ?_ (past_over _ _) | refine Past.trans ?_ (by assumption)))) hn hm).mono ?_); rintro e w1 ⟨rfl, hb1⟩; obtain ⟨hc1, hf1, _⟩ := hb1.cells; have hz1_0 : w.heap.size < w1.heap.size := Past.lt hb1 (by first | omega | (simp <;> omega)); have hz1_1 : w.heap.size + 1 < w1.heap.size := Past.lt hb1 (by first | omega | (simp <;> omega)))
    go_ret
    exact ⟨rfl, (by repeat (first | exact Past.refl _ | assumption | refine Past.alloc ?_ _ | refine Past.drew ?_ | refine Past.drewN ?_ _ | refine Past.setCell ?_ (by first | (simp; done) | (simp <;> omega)) _ | refine Past.trans ?_ (past_over _ _) | refine Past.trans ?_ (by assumption)))⟩
  · have F := Lib.hid (bFacts hb)
    have hp1 : 2 ≤ p := by have := F.out; omega
    have hp2 : p ≤ 24 := by have := F.out; omega
    cases hi : win i 0 (p - 1)
    · rw [show pointF p c h s xs ys i = 0 from by simp [pointF, hi]]
      go_enter Try.func27, Try.ntmps27
      go_wp2_with (first | (go_at_call 31; (with_reducible refine (isBoard_any _ _ _ _ _ _ _ _ _ _ _ _ _ (hx.past (by repeat (first | exact Past.refl _ | assumption | refine Past.alloc ?_ _ | refine Past.drew ?_ | refine Past.drewN ?_ _ | refine Past.setCell ?_ (by first | (simp; done) | (simp <;> omega)) _ | refine Past.trans ?_ (past_over _ _) | refine Past.trans ?_ (by assumption)))) (hy.past (by repeat (first | exact Past.refl _ | assumption | refine Past.alloc ?_ _ | refine Past.drew ?_ | refine Past.drewN ?_ _ | refine Past.setCell ?_ (by first | (simp; done) | (simp <;> omega)) _ | refine Past.trans ?_ (past_over _ _) | refine Past.trans ?_ (by assumption)))) hn hm).mono ?_); rintro e w1 ⟨rfl, hb1⟩; obtain ⟨hc1, hf1, _⟩ := hb1.cells; have hz1_0 : w.heap.size < w1.heap.size := Past.lt hb1 (by first | omega | (simp <;> omega)); have hz1_1 : w.heap.size + 1 < w1.heap.size := Past.lt hb1 (by first | omega | (simp <;> omega))) | (go_at_call 71; (with_reducible refine (within_any _ _ _ _).mono ?_); rintro e w9 ⟨rfl, rfl⟩))
      go_ret
      exact ⟨rfl, (by repeat (first | exact Past.refl _ | assumption | refine Past.alloc ?_ _ | refine Past.drew ?_ | refine Past.drewN ?_ _ | refine Past.setCell ?_ (by first | (simp; done) | (simp <;> omega)) _ | refine Past.trans ?_ (past_over _ _) | refine Past.trans ?_ (by assumption)))⟩
    · obtain ⟨i1, i2⟩ := win_yes hi
      obtain ⟨P, rfl⟩ := Int.eq_ofNat_of_zero_le (show 0 ≤ p from by omega)
      obtain ⟨I, rfl⟩ := Int.eq_ofNat_of_zero_le i1
      have g1 : (P : Int) < (n : Int) := by have := F.out.2.2.2.2.1.1; have := hx.1; omega
      have g2 : (P : Int) < (m : Int) := by have := F.out.2.2.2.2.2.1; have := hy.1; omega
      obtain ⟨b, o, x, rfl, hxj, hcx⟩ := hx.at_ (j := I) (by omega)
      obtain ⟨b', o', y, rfl, hyj, hcy⟩ := hy.at_ (j := P - 1 - I) (by omega)
      have ex : 0 ≤ x ∧ x ≤ 15 := le15 F.out.2.2.2.2.1.2.1 F.out.2.2.2.2.1.2.2 F.out.2.1.2 x (mem_of_get hxj)
      have ey : 0 ≤ y ∧ y ≤ 15 := le15 F.out.2.2.2.2.2.2.1 F.out.2.2.2.2.2.2.2 F.out.2.1.2 y (mem_of_get hyj)
      rw [show pointF (P : Int) c h s xs ys (I : Int) = x - y from by simp only [pointF, hb, hi, Bool.and_self, if_true, Int.toNat_natCast, getD_of hxj, getD_of hyj]]
      obtain ⟨x0, x1⟩ := ex
      obtain ⟨y0, y1⟩ := ey
      have HXJ := Lib.hid hxj
      have HYJ := Lib.hid hyj
      clear hxj hyj
      go_enter Try.func27, Try.ntmps27
      go_wp2_with (first | (go_at_call 31; (with_reducible refine (isBoard_any _ _ _ _ _ _ _ _ _ _ _ _ _ (hx.past (by repeat (first | exact Past.refl _ | assumption | refine Past.alloc ?_ _ | refine Past.drew ?_ | refine Past.drewN ?_ _ | refine Past.setCell ?_ (by first | (simp; done) | (simp <;> omega)) _ | refine Past.trans ?_ (past_over _ _) | refine Past.trans ?_ (by assumption)))) (hy.past (by repeat (first | exact Past.refl _ | assumption | refine Past.alloc ?_ _ | refine Past.drew ?_ | refine Past.drewN ?_ _ | refine Past.setCell ?_ (by first | (simp; done) | (simp <;> omega)) _ | refine Past.trans ?_ (past_over _ _) | refine Past.trans ?_ (by assumption)))) hn hm).mono ?_); rintro e w1 ⟨rfl, hb1⟩; obtain ⟨hc1, hf1, _⟩ := hb1.cells; have hz1_0 : w.heap.size < w1.heap.size := Past.lt hb1 (by first | omega | (simp <;> omega)); have hz1_1 : w.heap.size + 1 < w1.heap.size := Past.lt hb1 (by first | omega | (simp <;> omega))) | (go_at_call 71; (with_reducible refine (within_any _ _ _ _).mono ?_); rintro e w9 ⟨rfl, rfl⟩))
      have hp1 : Past w w1 := (by repeat (first | exact Past.refl _ | assumption | refine Past.alloc ?_ _ | refine Past.drew ?_ | refine Past.drewN ?_ _ | refine Past.setCell ?_ (by first | (simp; done) | (simp <;> omega)) _ | refine Past.trans ?_ (past_over _ _) | refine Past.trans ?_ (by assumption)))
      have u1 := hp1.keep hcx
      have u2 := hp1.keep hcy
      have u3 := World.block_lt_of_cell? w1 _ u1
      have u4 := World.block_lt_of_cell? w1 _ u2
      simp only at u3 u4
      refine wp_region_over (by kernel_rfl) (by kernel_rfl) ?_
      repeat (go_big_quiet_step ((fail)))
      refine wpQuiet_nil ?_
      intro w2 hb2
      obtain ⟨hc2, hf2, _⟩ := hb2.cells
      go_wp2
      go_ret
      exact ⟨rfl, (by repeat (first | exact Past.refl _ | assumption | refine Past.alloc ?_ _ | refine Past.drew ?_ | refine Past.drewN ?_ _ | refine Past.setCell ?_ (by first | (simp; done) | (simp <;> omega)) _ | refine Past.trans ?_ (past_over _ _) | refine Past.trans ?_ (by assumption)))⟩
end Go.Proofs.Ytapocfgajkkpdaa
