/-
  Contracts: the draws of a variant and a board, out of a law's code.
-/
import Derived.Test.YtapocfgajkkpdaaDrawP
namespace Go.Proofs.Ytapocfgajkkpdaa
open Go.ChangeShapes Go.WideShapes Go.ChangeAt Go.RowKit Go.Joins

/-- A variant and a board that a draw hands back in a law. -/
def PairNew (w : World) (e : Ending) (w' : World) : Prop :=
  ∃ p c h s b1 n1 l1 X1 b2 n2 l2 X2, e = .returned (.tuple #[.agg #[.int .i64 p, .int .i64 c, .int .i64 h, .int .i64 s], .agg #[.slice (some ⟨b1, 0, none⟩) n1 l1, .slice (some ⟨b2, 0, none⟩) n2 l2]]) ∧ vBd p c h s ∧ RdI w' (some ⟨b1, 0, none⟩) n1 X1 ∧ RdI w' (some ⟨b2, 0, none⟩) n2 X2 ∧ n1 ≤ 25 ∧ n2 ≤ 25 ∧ Past w w'
theorem past6 {w x : World} {v0 v1 v2 v3 u0 u1 : Value} (h : Past w x) :
    Past w ((((((x.setCell ⟨w.heap.size, 0, none⟩ (v0)).setCell ⟨w.heap.size, 1, none⟩ (v1)).setCell ⟨w.heap.size, 2, none⟩ (v2)).setCell ⟨w.heap.size, 3, none⟩ (v3)).setCell ⟨w.heap.size + 1, 0, none⟩ (u0)).setCell ⟨w.heap.size + 1, 1, none⟩ (u1)) :=
  (((((h.setCell (p := ⟨w.heap.size, 0, none⟩) (Nat.le_refl _) v0).setCell (p := ⟨w.heap.size, 1, none⟩) (Nat.le_refl _) v1).setCell (p := ⟨w.heap.size, 2, none⟩) (Nat.le_refl _) v2).setCell (p := ⟨w.heap.size, 3, none⟩) (Nat.le_refl _) v3).setCell (p := ⟨w.heap.size + 1, 0, none⟩) (Nat.le_succ _) u0).setCell (p := ⟨w.heap.size + 1, 1, none⟩) (Nat.le_succ _) u1
set_option maxHeartbeats 1000000 in
theorem drawSwap_any (A : Option Addr) (n k : Nat) (w : World) (hx : RdC w w.heap.size A n) (hn : n ≤ 5000) :
    Calls Try.prog 29 #[.slice A n k] w (PairNew w) := by
  obtain ⟨wv, hwv⟩ : ∃ w0, w0 = w.alloc (.cells #[.int .i64 0, .int .i64 0, .int .i64 0, .int .i64 0] 25) := ⟨_, rfl⟩
  have hVv : Blk wv w.heap.size 25 #[.int .i64 0, .int .i64 0, .int .i64 0, .int .i64 0] := by rw [hwv]; exact Blk.new _ _ _
  have hpv : Past w wv := by rw [hwv]; exact (by repeat (first | exact Past.refl _ | assumption | refine Past.alloc ?_ _ | refine Past.drew ?_ | refine Past.drewN ?_ _ | refine Past.setCell ?_ (by first | (simp; done) | (simp <;> omega)) _ | refine Past.trans ?_ (past_over _ _) | refine Past.trans ?_ (by assumption)))
  have zv : wv.heap.size = w.heap.size + 1 := by rw [hwv]; simp
  obtain ⟨w0, hw0⟩ : ∃ w0, w0 = wv.alloc (.cells #[.slice none 0 0, .slice none 0 0] 43) := ⟨_, rfl⟩
  have hS : Blk w0 (w.heap.size + 1) 43 #[.slice none 0 0, .slice none 0 0] := by rw [hw0]; exact Blk.at_ zv.symm
  have hpr : Past wv w0 := by rw [hw0]; exact (by repeat (first | exact Past.refl _ | assumption | refine Past.alloc ?_ _ | refine Past.drew ?_ | refine Past.drewN ?_ _ | refine Past.setCell ?_ (by first | (simp; done) | (simp <;> omega)) _ | refine Past.trans ?_ (past_over _ _) | refine Past.trans ?_ (by assumption)))
  have hR := hVv.past hpr
  have hp0 := hpv.trans hpr
  have hz0 := hS.lt
  go_enter Try.func29, Try.ntmps29
  go_upto_region 1 with fail
  rw [← hwv, ← hw0]
  clear hwv hw0 hVv hpr hpv zv
  go_wp2_with fail
  (with_reducible refine (from_any _ _ _ _ (hx.past hp0 hp0.sz) hn).mono ?_)
  rintro e w1 ⟨g, rfl, hs1, hg1, hp1⟩
  have hR1 := hR.past hp1
  have hS1 := hS.past hp1
  have zg := hs1.lt
  go_wp2_with fail
  (with_reducible refine (drawPair_any _ _ _ _ _ hs1).mono ?_)
  rintro e w2 ⟨p, c, h, s, b1, n1, l1, X1, b2, n2, l2, X2, rfl, hbd, q1, q2, m1, m2, g1, g2, h2⟩
  have hR2 := h2.blk hR1 (by omega)
  have hS2 := h2.blk hS1 (by omega)
  have hp2 : Past w w2 := h2.pastOf (hp0.trans hp1) (by omega)
  clear h2 hR hR1 hp1 hs1 hS hS1
  have r0 : w2.cell? ⟨w.heap.size, 0, none⟩ = some (.int .i64 0) := hR2.cell 0 rfl
  have r1 : w2.cell? ⟨w.heap.size, 1, none⟩ = some (.int .i64 0) := hR2.cell 1 rfl
  have r2 : w2.cell? ⟨w.heap.size, 2, none⟩ = some (.int .i64 0) := hR2.cell 2 rfl
  have r3 : w2.cell? ⟨w.heap.size, 3, none⟩ = some (.int .i64 0) := hR2.cell 3 rfl
  have f0 := hR2.free 0
  have f1 := hR2.free 1
  have f2 := hR2.free 2
  have f3 := hR2.free 3
  have s0 : w2.cell? ⟨w.heap.size + 1, 0, none⟩ = some (.slice none 0 0) := hS2.cell 0 rfl
  have s1 : w2.cell? ⟨w.heap.size + 1, 1, none⟩ = some (.slice none 0 0) := hS2.cell 1 rfl
  have k0 := hS2.free 0
  have k1 := hS2.free 1
  obtain ⟨wE, hwE⟩ : ∃ wE, wE = ((((((w2.setCell ⟨w.heap.size, 0, none⟩ (.int .i64 p)).setCell ⟨w.heap.size, 1, none⟩ (.int .i64 c)).setCell ⟨w.heap.size, 2, none⟩ (.int .i64 h)).setCell ⟨w.heap.size, 3, none⟩ (.int .i64 s)).setCell ⟨w.heap.size + 1, 0, none⟩ (.slice (some ⟨b1, 0, none⟩) n1 l1)).setCell ⟨w.heap.size + 1, 1, none⟩ (.slice (some ⟨b2, 0, none⟩) n2 l2)) := ⟨_, rfl⟩
  have hRE : Blk wE w.heap.size 25 #[.int .i64 p, .int .i64 c, .int .i64 h, .int .i64 s] := by rw [hwE]; exact (hR2.put4).off2 (by omega)
  have hSE : Blk wE (w.heap.size + 1) 43 #[.slice (some ⟨b1, 0, none⟩) n1 l1, .slice (some ⟨b2, 0, none⟩) n2 l2] := by rw [hwE]; exact Blk.put2 (hS2.off4 (by omega))
  have q1E : RdI wE (some ⟨b1, 0, none⟩) n1 X1 := by rw [hwE]; exact (q1.off4 (by omega)).off2 (by omega)
  have q2E : RdI wE (some ⟨b2, 0, none⟩) n2 X2 := by rw [hwE]; exact (q2.off4 (by omega)).off2 (by omega)
  have hpE : Past w wE := by rw [hwE]; exact past6 hp2
  clear hR2 hS2 hp2 hp0 q1 q2
  go_wp2_with fail
  rw [← hwE]
  clear hwE r0 r1 r2 r3 s0 s1 f0 f1 f2 f3 k0 k1
  have r0 : wE.cell? ⟨w.heap.size, 0, none⟩ = some (.int .i64 p) := hRE.cell 0 rfl
  have r1 : wE.cell? ⟨w.heap.size, 1, none⟩ = some (.int .i64 c) := hRE.cell 1 rfl
  have r2 : wE.cell? ⟨w.heap.size, 2, none⟩ = some (.int .i64 h) := hRE.cell 2 rfl
  have r3 : wE.cell? ⟨w.heap.size, 3, none⟩ = some (.int .i64 s) := hRE.cell 3 rfl
  have s0 : wE.cell? ⟨w.heap.size + 1, 0, none⟩ = some (.slice (some ⟨b1, 0, none⟩) n1 l1) := hSE.cell 0 rfl
  have s1 : wE.cell? ⟨w.heap.size + 1, 1, none⟩ = some (.slice (some ⟨b2, 0, none⟩) n2 l2) := hSE.cell 1 rfl
  exact bodyPost_ret (v := .tuple #[.agg #[.int .i64 p, .int .i64 c, .int .i64 h, .int .i64 s], .agg #[.slice (some ⟨b1, 0, none⟩) n1 l1, .slice (some ⟨b2, 0, none⟩) n2 l2]]) (by simp [r0, r1, r2, r3, s0, s1, results, Try.results29, go_sem]) rfl ⟨_, _, _, _, _, _, _, _, _, _, _, _, rfl, hbd, q1E, q2E, m1, m2, hpE⟩
set_option maxHeartbeats 1000000 in
theorem drawId_any (A : Option Addr) (n k : Nat) (w : World) (hx : RdC w w.heap.size A n) (hn : n ≤ 5000) :
    Calls Try.prog 38 #[.slice A n k] w (PairNew w) := by
  obtain ⟨wv, hwv⟩ : ∃ w0, w0 = w.alloc (.cells #[.int .i64 0, .int .i64 0, .int .i64 0, .int .i64 0] 25) := ⟨_, rfl⟩
  have hVv : Blk wv w.heap.size 25 #[.int .i64 0, .int .i64 0, .int .i64 0, .int .i64 0] := by rw [hwv]; exact Blk.new _ _ _
  have hpv : Past w wv := by rw [hwv]; exact (by repeat (first | exact Past.refl _ | assumption | refine Past.alloc ?_ _ | refine Past.drew ?_ | refine Past.drewN ?_ _ | refine Past.setCell ?_ (by first | (simp; done) | (simp <;> omega)) _ | refine Past.trans ?_ (past_over _ _) | refine Past.trans ?_ (by assumption)))
  have zv : wv.heap.size = w.heap.size + 1 := by rw [hwv]; simp
  obtain ⟨w0, hw0⟩ : ∃ w0, w0 = wv.alloc (.cells #[.slice none 0 0, .slice none 0 0] 43) := ⟨_, rfl⟩
  have hS : Blk w0 (w.heap.size + 1) 43 #[.slice none 0 0, .slice none 0 0] := by rw [hw0]; exact Blk.at_ zv.symm
  have hpr : Past wv w0 := by rw [hw0]; exact (by repeat (first | exact Past.refl _ | assumption | refine Past.alloc ?_ _ | refine Past.drew ?_ | refine Past.drewN ?_ _ | refine Past.setCell ?_ (by first | (simp; done) | (simp <;> omega)) _ | refine Past.trans ?_ (past_over _ _) | refine Past.trans ?_ (by assumption)))
  have hR := hVv.past hpr
  have hp0 := hpv.trans hpr
  have hz0 := hS.lt
  go_enter Try.func38, Try.ntmps38
  go_upto_region 1 with fail
  rw [← hwv, ← hw0]
  clear hwv hw0 hVv hpr hpv zv
  go_wp2_with fail
  (with_reducible refine (from_any _ _ _ _ (hx.past hp0 hp0.sz) hn).mono ?_)
  rintro e w1 ⟨g, rfl, hs1, hg1, hp1⟩
  have hR1 := hR.past hp1
  have hS1 := hS.past hp1
  have zg := hs1.lt
  go_wp2_with fail
  (with_reducible refine (drawPair_any _ _ _ _ _ hs1).mono ?_)
  rintro e w2 ⟨p, c, h, s, b1, n1, l1, X1, b2, n2, l2, X2, rfl, hbd, q1, q2, m1, m2, g1, g2, h2⟩
  have hR2 := h2.blk hR1 (by omega)
  have hS2 := h2.blk hS1 (by omega)
  have hp2 : Past w w2 := h2.pastOf (hp0.trans hp1) (by omega)
  clear h2 hR hR1 hp1 hs1 hS hS1
  have r0 : w2.cell? ⟨w.heap.size, 0, none⟩ = some (.int .i64 0) := hR2.cell 0 rfl
  have r1 : w2.cell? ⟨w.heap.size, 1, none⟩ = some (.int .i64 0) := hR2.cell 1 rfl
  have r2 : w2.cell? ⟨w.heap.size, 2, none⟩ = some (.int .i64 0) := hR2.cell 2 rfl
  have r3 : w2.cell? ⟨w.heap.size, 3, none⟩ = some (.int .i64 0) := hR2.cell 3 rfl
  have f0 := hR2.free 0
  have f1 := hR2.free 1
  have f2 := hR2.free 2
  have f3 := hR2.free 3
  have s0 : w2.cell? ⟨w.heap.size + 1, 0, none⟩ = some (.slice none 0 0) := hS2.cell 0 rfl
  have s1 : w2.cell? ⟨w.heap.size + 1, 1, none⟩ = some (.slice none 0 0) := hS2.cell 1 rfl
  have k0 := hS2.free 0
  have k1 := hS2.free 1
  obtain ⟨wE, hwE⟩ : ∃ wE, wE = ((((((w2.setCell ⟨w.heap.size, 0, none⟩ (.int .i64 p)).setCell ⟨w.heap.size, 1, none⟩ (.int .i64 c)).setCell ⟨w.heap.size, 2, none⟩ (.int .i64 h)).setCell ⟨w.heap.size, 3, none⟩ (.int .i64 s)).setCell ⟨w.heap.size + 1, 0, none⟩ (.slice (some ⟨b1, 0, none⟩) n1 l1)).setCell ⟨w.heap.size + 1, 1, none⟩ (.slice (some ⟨b2, 0, none⟩) n2 l2)) := ⟨_, rfl⟩
  have hRE : Blk wE w.heap.size 25 #[.int .i64 p, .int .i64 c, .int .i64 h, .int .i64 s] := by rw [hwE]; exact (hR2.put4).off2 (by omega)
  have hSE : Blk wE (w.heap.size + 1) 43 #[.slice (some ⟨b1, 0, none⟩) n1 l1, .slice (some ⟨b2, 0, none⟩) n2 l2] := by rw [hwE]; exact Blk.put2 (hS2.off4 (by omega))
  have q1E : RdI wE (some ⟨b1, 0, none⟩) n1 X1 := by rw [hwE]; exact (q1.off4 (by omega)).off2 (by omega)
  have q2E : RdI wE (some ⟨b2, 0, none⟩) n2 X2 := by rw [hwE]; exact (q2.off4 (by omega)).off2 (by omega)
  have hpE : Past w wE := by rw [hwE]; exact past6 hp2
  clear hR2 hS2 hp2 hp0 q1 q2
  go_wp2_with fail
  rw [← hwE]
  clear hwE r0 r1 r2 r3 s0 s1 f0 f1 f2 f3 k0 k1
  have r0 : wE.cell? ⟨w.heap.size, 0, none⟩ = some (.int .i64 p) := hRE.cell 0 rfl
  have r1 : wE.cell? ⟨w.heap.size, 1, none⟩ = some (.int .i64 c) := hRE.cell 1 rfl
  have r2 : wE.cell? ⟨w.heap.size, 2, none⟩ = some (.int .i64 h) := hRE.cell 2 rfl
  have r3 : wE.cell? ⟨w.heap.size, 3, none⟩ = some (.int .i64 s) := hRE.cell 3 rfl
  have s0 : wE.cell? ⟨w.heap.size + 1, 0, none⟩ = some (.slice (some ⟨b1, 0, none⟩) n1 l1) := hSE.cell 0 rfl
  have s1 : wE.cell? ⟨w.heap.size + 1, 1, none⟩ = some (.slice (some ⟨b2, 0, none⟩) n2 l2) := hSE.cell 1 rfl
  exact bodyPost_ret (v := .tuple #[.agg #[.int .i64 p, .int .i64 c, .int .i64 h, .int .i64 s], .agg #[.slice (some ⟨b1, 0, none⟩) n1 l1, .slice (some ⟨b2, 0, none⟩) n2 l2]]) (by simp [r0, r1, r2, r3, s0, s1, results, Try.results38, go_sem]) rfl ⟨_, _, _, _, _, _, _, _, _, _, _, _, rfl, hbd, q1E, q2E, m1, m2, hpE⟩
end Go.Proofs.Ytapocfgajkkpdaa
