/-
  Contracts: the variants that the reference draws.
-/
import Derived.Test.YtdcdjocjlicplaaDoorSrc
import Derived.Test.YtdcdjocjlicplaaDoorVar
namespace Go.Proofs.YtdcdjocjlicplaaDoor
open Go.ChangeShapes Go.WideShapes Go.ChangeAt Go.RowKit Go.Joins

/-- A valid variant that a draw hands back. -/
def VarOk (w : World) (g : Nat) (A : Option Addr) (n k : Nat) (e : Ending) (w' : World) : Prop :=
  ∃ p c h s, e = .returned (.agg #[.int .i64 p, .int .i64 c, .int .i64 h, .int .i64 s]) ∧ Hid (vOk p c h s = true) ∧ Drew w g A n k w'
/-- Any variant that a draw hands back. -/
def vBd (p c h s : Int) : Prop := (-1 ≤ p ∧ p ≤ 25) ∧ (0 ≤ c ∧ c ≤ 16) ∧ (0 ≤ h ∧ h ≤ 26) ∧ 0 ≤ s ∧ s ≤ 7
def VarAny (w : World) (g : Nat) (A : Option Addr) (n k : Nat) (e : Ending) (w' : World) : Prop :=
  ∃ p c h s, e = .returned (.agg #[.int .i64 p, .int .i64 c, .int .i64 h, .int .i64 s]) ∧ vBd p c h s ∧ Drew w g A n k w'
theorem vOk_mk {p c h s : Int} (h1 : 2 ≤ p) (h2 : p ≤ 24) (h3 : 1 ≤ c) (h4 : c ≤ 15) (h5 : 1 ≤ h) (h6 : h ≤ p) (h7 : 1 ≤ s) (h8 : s ≤ 6) : Hid (vOk p c h s = true) := by
  refine Lib.hid ?_
  simp only [vOk, Bool.and_eq_true]
  exact ⟨win_mk ⟨h1, h2⟩, win_mk ⟨h3, h4⟩, win_mk ⟨h5, h6⟩, win_mk ⟨h7, h8⟩⟩
/-- A variant laid in a result's cells. -/
theorem var_ret {w w6 : World} {g b : Nat} {A : Option Addr} {n k : Nat} {t : TypeId} {P C H S y0 y1 y2 y3 : Int} (hR : Blk w6 b t #[.int .i64 y0, .int .i64 y1, .int .i64 y2, .int .i64 y3]) (h : Drew w g A n k w6) (hb : w.heap.size ≤ b) (hg : g < b) :
    ∃ wE, wE = (((w6.setCell ⟨b, 0, none⟩ (.int .i64 P)).setCell ⟨b, 1, none⟩ (.int .i64 C)).setCell ⟨b, 2, none⟩ (.int .i64 H)).setCell ⟨b, 3, none⟩ (.int .i64 S) ∧
      Blk wE b t #[.int .i64 P, .int .i64 C, .int .i64 H, .int .i64 S] ∧ Drew w g A n k wE :=
  ⟨_, rfl, (((hR.set 0 _).set 1 _).set 2 _).set 3 _, (((h.set (p := ⟨b, 0, none⟩) hb hg _).set (p := ⟨b, 1, none⟩) hb hg _).set (p := ⟨b, 2, none⟩) hb hg _).set (p := ⟨b, 3, none⟩) hb hg _⟩

set_option maxHeartbeats 1000000 in
theorem drawSmall_any (w : World) (g : Nat) (A : Option Addr) (n k : Nat) (hs : Src w g A n k) :
    Calls Tryd.prog 88 #[.pointer (some ⟨g, 0, none⟩)] w (VarOk w g A n k) := by
  have hg := hs.lt
  obtain ⟨w0, hw0⟩ : ∃ w0, w0 = w.alloc (.cells #[.int .i64 0, .int .i64 0, .int .i64 0, .int .i64 0] 25) := ⟨_, rfl⟩
  have hR : Blk w0 w.heap.size 25 #[.int .i64 0, .int .i64 0, .int .i64 0, .int .i64 0] := by rw [hw0]; exact Blk.new _ _ _
  have hp0 : Past w w0 := by rw [hw0]; exact (by repeat (first | exact Past.refl _ | assumption | refine Past.alloc ?_ _ | refine Past.drew ?_ | refine Past.drewN ?_ _ | refine Past.setCell ?_ (by first | (simp; done) | (simp <;> omega)) _ | refine Past.trans ?_ (past_over _ _) | refine Past.trans ?_ (by assumption)))
  have h0 : Drew w0 g A n k w0 := Drew.refl (hs.past hp0)
  have hz0 := hR.lt
  go_enter Tryd.func88, Tryd.ntmps88
  go_upto_region 1 with fail
  rw [← hw0]
  clear hw0
  go_wp2_with fail
  (with_reducible refine (next_any _ _ _ _ _ _ h0.src (by omega)).mono ?_)
  rintro e w1 ⟨x1, rfl, x10, x11, h1⟩
  replace h1 := h0.trans h1
  go_wp2_with fail
  (with_reducible refine (next_any _ _ _ _ _ _ h1.src (by omega)).mono ?_)
  rintro e w2 ⟨x2, rfl, x20, x21, h2⟩
  replace h2 := h1.trans h2
  go_wp2_with fail
  (with_reducible refine (next_any _ _ _ _ _ _ h2.src (by omega)).mono ?_)
  rintro e w3 ⟨x3, rfl, x30, x31, h3⟩
  replace h3 := h2.trans h3
  go_upto_region 2 with fail
  obtain ⟨w4, hw4⟩ : ∃ w4, w4 = w3.alloc (.cells #[.int .i64 (2 + x1), .int .i64 (1 + x2), .int .i64 0, .int .i64 (1 + x3)] 25) := ⟨_, rfl⟩
  rw [← hw4]
  have hV : Blk w4 w3.heap.size 25 #[.int .i64 (2 + x1), .int .i64 (1 + x2), .int .i64 0, .int .i64 (1 + x3)] := by rw [hw4]; exact Blk.new _ _ _
  have h4 : Drew w0 g A n k w4 := by rw [hw4]; exact h3.alloc _
  have hz3 := h3.sz
  have q0 : w4.cell? ⟨w3.heap.size, 0, none⟩ = some (.int .i64 (2 + x1)) := hV.cell 0 rfl
  clear hw4 h0 h1 h2 h3
  go_wp2_with fail
  (with_reducible refine (next_any _ _ _ _ _ _ h4.src (by omega)).mono ?_)
  rintro e w5 ⟨x4, rfl, x40, x41, h5⟩
  have hV5 := h5.blk hV (by omega)
  have h6 := h4.trans h5
  have hR5 := h6.blk hR (by omega)
  have hz5 := h6.sz
  have d0 := hV5.free 2
  have d4 : w5.cell? ⟨w3.heap.size, 2, none⟩ = some (.int .i64 0) := hV5.cell 2 rfl
  have hv := vOk_mk (p := 2 + x1) (c := 1 + x2) (h := 1 + x4) (s := 1 + x3) (by omega) (by omega) (by omega) (by omega) (by omega) (by omega) (by omega) (by omega)
  go_upto_region 3 with fail
  obtain ⟨w6, hw6⟩ : ∃ w6, w6 = w5.setCell ⟨w3.heap.size, 2, none⟩ (.int .i64 (1 + x4)) := ⟨_, rfl⟩
  rw [← hw6]
  have hV6 : Blk w6 w3.heap.size 25 #[.int .i64 (2 + x1), .int .i64 (1 + x2), .int .i64 (1 + x4), .int .i64 (1 + x3)] := by rw [hw6]; exact hV5.set 2 _
  have hR6 : Blk w6 w.heap.size 25 #[.int .i64 0, .int .i64 0, .int .i64 0, .int .i64 0] := by rw [hw6]; exact hR5.off _ (by simp only; omega)
  have h7 : Drew w0 g A n k w6 := by rw [hw6]; exact h6.set (by simp only; omega) (by simp only; omega) _
  clear hw6 h6 h5 h4 hV hV5 hR hR5 q0 x41 x31 x21 x11 d0 d4
  generalize 2 + x1 = P at hV6 hv ⊢
  generalize 1 + x2 = C at hV6 hv ⊢
  generalize 1 + x4 = H at hV6 hv ⊢
  generalize 1 + x3 = S at hV6 hv ⊢
  have d2 : w6.cell? ⟨w3.heap.size, 0, none⟩ = some (.int .i64 P) := hV6.cell 0 rfl
  have d3 : w6.cell? ⟨w3.heap.size, 1, none⟩ = some (.int .i64 C) := hV6.cell 1 rfl
  have d4 : w6.cell? ⟨w3.heap.size, 2, none⟩ = some (.int .i64 H) := hV6.cell 2 rfl
  have d5 : w6.cell? ⟨w3.heap.size, 3, none⟩ = some (.int .i64 S) := hV6.cell 3 rfl
  obtain ⟨wE, hwE, hRE, hDE⟩ := var_ret (P := P) (C := C) (H := H) (S := S) hR6 (Drew.after hp0 h7) (Nat.le_refl _) hg
  have f0 := hR6.free 0
  have f1 := hR6.free 1
  have f2 := hR6.free 2
  have f3 := hR6.free 3
  have r0 : w6.cell? ⟨w.heap.size, 0, none⟩ = some (.int .i64 0) := hR6.cell 0 rfl
  have r1 : w6.cell? ⟨w.heap.size, 1, none⟩ = some (.int .i64 0) := hR6.cell 1 rfl
  have r2 : w6.cell? ⟨w.heap.size, 2, none⟩ = some (.int .i64 0) := hR6.cell 2 rfl
  have r3 : w6.cell? ⟨w.heap.size, 3, none⟩ = some (.int .i64 0) := hR6.cell 3 rfl
  clear hV6 hR6 h7 hp0
  go_wp2_with fail
  rw [← hwE]
  clear hwE f0 f1 f2 f3 d2 d3 d4 d5 r0 r1 r2 r3
  have r0 : wE.cell? ⟨w.heap.size, 0, none⟩ = some (.int .i64 P) := hRE.cell 0 rfl
  have r1 : wE.cell? ⟨w.heap.size, 1, none⟩ = some (.int .i64 C) := hRE.cell 1 rfl
  have r2 : wE.cell? ⟨w.heap.size, 2, none⟩ = some (.int .i64 H) := hRE.cell 2 rfl
  have r3 : wE.cell? ⟨w.heap.size, 3, none⟩ = some (.int .i64 S) := hRE.cell 3 rfl
  exact bodyPost_ret (v := .agg #[.int .i64 P, .int .i64 C, .int .i64 H, .int .i64 S]) (by simp [r0, r1, r2, r3, results, Tryd.results88, go_sem]) rfl ⟨_, _, _, _, rfl, hv, hDE⟩
set_option maxHeartbeats 1000000 in
theorem drawValid_any (w : World) (g : Nat) (A : Option Addr) (n k : Nat) (hs : Src w g A n k) :
    Calls Tryd.prog 73 #[.pointer (some ⟨g, 0, none⟩)] w (VarOk w g A n k) := by
  have hg := hs.lt
  obtain ⟨w0, hw0⟩ : ∃ w0, w0 = w.alloc (.cells #[.int .i64 0, .int .i64 0, .int .i64 0, .int .i64 0] 25) := ⟨_, rfl⟩
  have hR : Blk w0 w.heap.size 25 #[.int .i64 0, .int .i64 0, .int .i64 0, .int .i64 0] := by rw [hw0]; exact Blk.new _ _ _
  have hp0 : Past w w0 := by rw [hw0]; exact (by repeat (first | exact Past.refl _ | assumption | refine Past.alloc ?_ _ | refine Past.drew ?_ | refine Past.drewN ?_ _ | refine Past.setCell ?_ (by first | (simp; done) | (simp <;> omega)) _ | refine Past.trans ?_ (past_over _ _) | refine Past.trans ?_ (by assumption)))
  have h0 : Drew w0 g A n k w0 := Drew.refl (hs.past hp0)
  have hz0 := hR.lt
  go_enter Tryd.func73, Tryd.ntmps73
  go_upto_region 1 with fail
  rw [← hw0]
  clear hw0
  go_wp2_with fail
  (with_reducible refine (next_any _ _ _ _ _ _ h0.src (by omega)).mono ?_)
  rintro e w1 ⟨x, rfl, x0, x1, h1⟩
  replace h1 := h0.trans h1
  have hR1 := h1.blk hR (by omega)
  have hD1 := Drew.after hp0 h1
  by_cases e0 : x = 0
  · subst e0
    go_wp2_with fail
    (with_reducible refine (sFullVar _).mono ?_)
    rintro e w2 ⟨rfl, hp2⟩
    have hR2 := hR1.past hp2
    have hD2 := hD1.past hp2
    have hv := vOk_mk (p := 24) (c := 15) (h := 6) (s := 6) (by omega) (by omega) (by omega) (by omega) (by omega) (by omega) (by omega) (by omega)
    obtain ⟨wE, hwE, hRE, hDE⟩ := var_ret (P := 24) (C := 15) (H := 6) (S := 6) hR2 hD2 (Nat.le_refl _) hg
    have f0 := (hR2).free 0
    have f1 := (hR2).free 1
    have f2 := (hR2).free 2
    have f3 := (hR2).free 3
    have r0 : w2.cell? ⟨w.heap.size, 0, none⟩ = some (.int .i64 0) := (hR2).cell 0 rfl
    have r1 : w2.cell? ⟨w.heap.size, 1, none⟩ = some (.int .i64 0) := (hR2).cell 1 rfl
    have r2 : w2.cell? ⟨w.heap.size, 2, none⟩ = some (.int .i64 0) := (hR2).cell 2 rfl
    have r3 : w2.cell? ⟨w.heap.size, 3, none⟩ = some (.int .i64 0) := (hR2).cell 3 rfl
    clear hR hR1 h0 h1 hD1
    go_wp2_with fail
    rw [← hwE]
    clear hwE f0 f1 f2 f3 r0 r1 r2 r3
    have r0 : wE.cell? ⟨w.heap.size, 0, none⟩ = some (.int .i64 24) := hRE.cell 0 rfl
    have r1 : wE.cell? ⟨w.heap.size, 1, none⟩ = some (.int .i64 15) := hRE.cell 1 rfl
    have r2 : wE.cell? ⟨w.heap.size, 2, none⟩ = some (.int .i64 6) := hRE.cell 2 rfl
    have r3 : wE.cell? ⟨w.heap.size, 3, none⟩ = some (.int .i64 6) := hRE.cell 3 rfl
    exact bodyPost_ret (v := .agg #[.int .i64 24, .int .i64 15, .int .i64 6, .int .i64 6]) (by simp [r0, r1, r2, r3, results, Tryd.results73, go_sem]) rfl ⟨_, _, _, _, rfl, hv, hDE⟩
  · by_cases e1 : x = 1
    · subst e1
      have hz1 := h1.sz
      go_wp2_with fail
      (with_reducible refine (next_any _ _ _ _ _ _ h1.src (by omega)).mono ?_)
      rintro e w2 ⟨x1, rfl, x10, x11, h2⟩
      replace h2 := h1.trans h2
      go_wp2_with fail
      (with_reducible refine (next_any _ _ _ _ _ _ h2.src (by omega)).mono ?_)
      rintro e w3 ⟨x2, rfl, x20, x21, h3⟩
      replace h3 := h2.trans h3
      go_wp2_with fail
      (with_reducible refine (next_any _ _ _ _ _ _ h3.src (by omega)).mono ?_)
      rintro e w4 ⟨x3, rfl, x30, x31, h4⟩
      replace h4 := h3.trans h4
      go_upto_region 6 with fail
      obtain ⟨w5, hw5⟩ : ∃ w5, w5 = w4.alloc (.cells #[.int .i64 (4 + x1), .int .i64 (1 + x2), .int .i64 0, .int .i64 (1 + x3)] 25) := ⟨_, rfl⟩
      rw [← hw5]
      have hV : Blk w5 w4.heap.size 25 #[.int .i64 (4 + x1), .int .i64 (1 + x2), .int .i64 0, .int .i64 (1 + x3)] := by rw [hw5]; exact Blk.new _ _ _
      have h5 : Drew w0 g A n k w5 := by rw [hw5]; exact h4.alloc _
      have hz4 := h4.sz
      have q0 : w5.cell? ⟨w4.heap.size, 0, none⟩ = some (.int .i64 (4 + x1)) := hV.cell 0 rfl
      have T1 : (4 + x1).tdiv 2 = (4 + x1) / 2 := Int.tdiv_eq_ediv_of_nonneg (by omega)
      clear hw5 h0 h1 h2 h3 hR1 hD1
      go_wp2_with fail
      (with_reducible refine (next_any _ _ _ _ _ _ h5.src (by omega)).mono ?_)
      rintro e w6 ⟨x4, rfl, x40, x41, h6⟩
      have hV6 := h6.blk hV (by omega)
      have h7 := h5.trans h6
      have hR6 := h7.blk hR (by omega)
      have hz6 := h7.sz
      have d0 := hV6.free 2
      have d4 : w6.cell? ⟨w4.heap.size, 2, none⟩ = some (.int .i64 0) := hV6.cell 2 rfl
      have hv := vOk_mk (p := 4 + x1) (c := 1 + x2) (h := 1 + x4) (s := 1 + x3) (by omega) (by omega) (by omega) (by omega) (by omega) (by omega) (by omega) (by omega)
      go_upto_region 7 with fail
      obtain ⟨w7, hw7⟩ : ∃ w7, w7 = w6.setCell ⟨w4.heap.size, 2, none⟩ (.int .i64 (1 + x4)) := ⟨_, rfl⟩
      rw [← hw7]
      have hV7 : Blk w7 w4.heap.size 25 #[.int .i64 (4 + x1), .int .i64 (1 + x2), .int .i64 (1 + x4), .int .i64 (1 + x3)] := by rw [hw7]; exact hV6.set 2 _
      have hR7 : Blk w7 w.heap.size 25 #[.int .i64 0, .int .i64 0, .int .i64 0, .int .i64 0] := by rw [hw7]; exact hR6.off _ (by simp only; omega)
      have h8 : Drew w0 g A n k w7 := by rw [hw7]; exact h7.set (by simp only; omega) (by simp only; omega) _
      have hD7 := Drew.after hp0 h8
      clear hw7 h7 h6 h5 h4 hV hV6 hR hR6 q0 x41 x31 x21 x11 d0 d4 T1
      generalize 4 + x1 = P at hV7 hv ⊢
      generalize 1 + x2 = C at hV7 hv ⊢
      generalize 1 + x4 = H at hV7 hv ⊢
      generalize 1 + x3 = S at hV7 hv ⊢
      have d2 : w7.cell? ⟨w4.heap.size, 0, none⟩ = some (.int .i64 P) := hV7.cell 0 rfl
      have d3 : w7.cell? ⟨w4.heap.size, 1, none⟩ = some (.int .i64 C) := hV7.cell 1 rfl
      have d4 : w7.cell? ⟨w4.heap.size, 2, none⟩ = some (.int .i64 H) := hV7.cell 2 rfl
      have d5 : w7.cell? ⟨w4.heap.size, 3, none⟩ = some (.int .i64 S) := hV7.cell 3 rfl
      obtain ⟨wE, hwE, hRE, hDE⟩ := var_ret (P := P) (C := C) (H := H) (S := S) hR7 hD7 (Nat.le_refl _) hg
      have f0 := (hR7).free 0
      have f1 := (hR7).free 1
      have f2 := (hR7).free 2
      have f3 := (hR7).free 3
      have r0 : w7.cell? ⟨w.heap.size, 0, none⟩ = some (.int .i64 0) := (hR7).cell 0 rfl
      have r1 : w7.cell? ⟨w.heap.size, 1, none⟩ = some (.int .i64 0) := (hR7).cell 1 rfl
      have r2 : w7.cell? ⟨w.heap.size, 2, none⟩ = some (.int .i64 0) := (hR7).cell 2 rfl
      have r3 : w7.cell? ⟨w.heap.size, 3, none⟩ = some (.int .i64 0) := (hR7).cell 3 rfl
      clear hV7 h8
      go_wp2_with fail
      rw [← hwE]
      clear hwE f0 f1 f2 f3 r0 r1 r2 r3
      have r0 : wE.cell? ⟨w.heap.size, 0, none⟩ = some (.int .i64 P) := hRE.cell 0 rfl
      have r1 : wE.cell? ⟨w.heap.size, 1, none⟩ = some (.int .i64 C) := hRE.cell 1 rfl
      have r2 : wE.cell? ⟨w.heap.size, 2, none⟩ = some (.int .i64 H) := hRE.cell 2 rfl
      have r3 : wE.cell? ⟨w.heap.size, 3, none⟩ = some (.int .i64 S) := hRE.cell 3 rfl
      exact bodyPost_ret (v := .agg #[.int .i64 P, .int .i64 C, .int .i64 H, .int .i64 S]) (by simp [r0, r1, r2, r3, results, Tryd.results73, go_sem]) rfl ⟨_, _, _, _, rfl, hv, hDE⟩
    · go_wp2_with fail
      (with_reducible refine (drawSmall_any _ _ _ _ _ h1.src).mono ?_)
      rintro e w2 ⟨P, C, H, S, rfl, hv, h2⟩
      have hR2 := h2.blk hR1 (by omega)
      have hD2 := hD1.trans h2
      obtain ⟨wE, hwE, hRE, hDE⟩ := var_ret (P := P) (C := C) (H := H) (S := S) hR2 hD2 (Nat.le_refl _) hg
      have f0 := (hR2).free 0
      have f1 := (hR2).free 1
      have f2 := (hR2).free 2
      have f3 := (hR2).free 3
      have r0 : w2.cell? ⟨w.heap.size, 0, none⟩ = some (.int .i64 0) := (hR2).cell 0 rfl
      have r1 : w2.cell? ⟨w.heap.size, 1, none⟩ = some (.int .i64 0) := (hR2).cell 1 rfl
      have r2 : w2.cell? ⟨w.heap.size, 2, none⟩ = some (.int .i64 0) := (hR2).cell 2 rfl
      have r3 : w2.cell? ⟨w.heap.size, 3, none⟩ = some (.int .i64 0) := (hR2).cell 3 rfl
      clear hR hR1 h0 h1 hD1 h2
      go_wp2_with fail
      rw [← hwE]
      clear hwE f0 f1 f2 f3 r0 r1 r2 r3
      have r0 : wE.cell? ⟨w.heap.size, 0, none⟩ = some (.int .i64 P) := hRE.cell 0 rfl
      have r1 : wE.cell? ⟨w.heap.size, 1, none⟩ = some (.int .i64 C) := hRE.cell 1 rfl
      have r2 : wE.cell? ⟨w.heap.size, 2, none⟩ = some (.int .i64 H) := hRE.cell 2 rfl
      have r3 : wE.cell? ⟨w.heap.size, 3, none⟩ = some (.int .i64 S) := hRE.cell 3 rfl
      exact bodyPost_ret (v := .agg #[.int .i64 P, .int .i64 C, .int .i64 H, .int .i64 S]) (by simp [r0, r1, r2, r3, results, Tryd.results73, go_sem]) rfl ⟨_, _, _, _, rfl, hv, hDE⟩
set_option maxHeartbeats 2000000 in
theorem drawAny_any (w : World) (g : Nat) (A : Option Addr) (n k : Nat) (hs : Src w g A n k) :
    Calls Tryd.prog 55 #[.pointer (some ⟨g, 0, none⟩)] w (VarAny w g A n k) := by
  have hg := hs.lt
  obtain ⟨w0, hw0⟩ : ∃ w0, w0 = w.alloc (.cells #[.int .i64 0, .int .i64 0, .int .i64 0, .int .i64 0] 25) := ⟨_, rfl⟩
  have hR : Blk w0 w.heap.size 25 #[.int .i64 0, .int .i64 0, .int .i64 0, .int .i64 0] := by rw [hw0]; exact Blk.new _ _ _
  have hp0 : Past w w0 := by rw [hw0]; exact (by repeat (first | exact Past.refl _ | assumption | refine Past.alloc ?_ _ | refine Past.drew ?_ | refine Past.drewN ?_ _ | refine Past.setCell ?_ (by first | (simp; done) | (simp <;> omega)) _ | refine Past.trans ?_ (past_over _ _) | refine Past.trans ?_ (by assumption)))
  have h0 : Drew w0 g A n k w0 := Drew.refl (hs.past hp0)
  have hz0 := hR.lt
  go_enter Tryd.func55, Tryd.ntmps55
  go_upto_region 1 with fail
  rw [← hw0]
  clear hw0
  go_wp2_with fail
  (with_reducible refine (drawValid_any _ _ _ _ _ h0.src).mono ?_)
  rintro e w1 ⟨P, C, H, S, rfl, hv, h1⟩
  replace h1 := h0.trans h1
  go_upto_region 2 with fail
  obtain ⟨w2, hw2⟩ : ∃ w2, w2 = w1.alloc (.cells #[.int .i64 P, .int .i64 C, .int .i64 H, .int .i64 S] 25) := ⟨_, rfl⟩
  rw [← hw2]
  have hV : Blk w2 w1.heap.size 25 #[.int .i64 P, .int .i64 C, .int .i64 H, .int .i64 S] := by rw [hw2]; exact Blk.new _ _ _
  have h2 : Drew w0 g A n k w2 := by rw [hw2]; exact h1.alloc _
  have hR2 := h2.blk hR (by omega)
  have hD2 := Drew.after hp0 h2
  have hz1 := h1.sz
  obtain ⟨bV, hbV⟩ : ∃ b, b = w1.heap.size := ⟨_, rfl⟩
  rw [← hbV] at hV hz1 ⊢
  obtain ⟨hv1, hv2, hv3, hv4⟩ := vOk_yes hv.out
  clear hw2 h0 h1 hR h2 hbV hv
  go_wp2_with fail
  (with_reducible refine (next_any _ _ _ _ _ _ hD2.src (by omega)).mono ?_)
  rintro e w3 ⟨x, rfl, x0, x1, h3⟩
  have hV3 := h3.blk hV (by omega)
  have hR3 := h3.blk hR2 (by omega)
  have hD3 := hD2.trans h3
  have hz3 := hV3.lt
  clear hV hR2 hD2 h3
  by_cases e0 : x = 0
  · subst e0
    go_wp2_with fail
    obtain ⟨w4, hw4⟩ : ∃ w4, w4 = w3.alloc (.cells #[.int .i64 1, .int .i64 25, .int .i64 (-1), .int .i64 24] 2) := ⟨_, rfl⟩
    rw [← hw4]
    have hA4 : Blk w4 w3.heap.size 2 #[.int .i64 1, .int .i64 25, .int .i64 (-1), .int .i64 24] := by rw [hw4]; exact Blk.new _ _ _
    have hp4 : Past w3 w4 := by rw [hw4]; exact (by repeat (first | exact Past.refl _ | assumption | refine Past.alloc ?_ _ | refine Past.drew ?_ | refine Past.drewN ?_ _ | refine Past.setCell ?_ (by first | (simp; done) | (simp <;> omega)) _ | refine Past.trans ?_ (past_over _ _) | refine Past.trans ?_ (by assumption)))
    clear hw4
    have hV4 := hV3.past hp4
    have hR4 := hR3.past hp4
    have hD4 := hD3.past hp4
    (with_reducible refine (next_any _ _ _ _ _ _ hD4.src (by omega)).mono ?_)
    rintro e w5 ⟨y, rfl, y0, y1, h5⟩
    have hV5 := h5.blk hV4 (by omega)
    have hR5 := h5.blk hR4 (by omega)
    have hA5 := h5.blk hA4 (by omega)
    have hD5 := hD4.trans h5
    clear hV3 hR3 hA4 hD3 hV4 hR4 hD4 h5
    have fV := hV5.free 0
    have cV : w5.cell? ⟨bV, 0, none⟩ = some (.int .i64 P) := hV5.cell 0 rfl
    have cA0 : w5.cell? ⟨w3.heap.size, 0, none⟩ = some (.int .i64 1) := hA5.cell 0 rfl
    have cA1 : w5.cell? ⟨w3.heap.size, 1, none⟩ = some (.int .i64 25) := hA5.cell 1 rfl
    have cA2 : w5.cell? ⟨w3.heap.size, 2, none⟩ = some (.int .i64 (-1)) := hA5.cell 2 rfl
    have cA3 : w5.cell? ⟨w3.heap.size, 3, none⟩ = some (.int .i64 24) := hA5.cell 3 rfl
    rcases (by omega : y = 0 ∨ y = 1 ∨ y = 2 ∨ y = 3) with rfl | rfl | rfl | rfl
    · go_upto_region 11 with fail
      obtain ⟨w6, hw6⟩ : ∃ w6, w6 = w5.setCell ⟨bV, 0, none⟩ (.int .i64 1) := ⟨_, rfl⟩
      rw [← hw6]
      have hVe : Blk w6 bV 25 #[.int .i64 1, .int .i64 C, .int .i64 H, .int .i64 S] := by rw [hw6]; exact hV5.set 0 _
      have hRe : Blk w6 w.heap.size 25 #[.int .i64 0, .int .i64 0, .int .i64 0, .int .i64 0] := by rw [hw6]; exact hR5.off _ (by simp only; omega)
      have hDe : Drew w g A n k w6 := by rw [hw6]; exact hD5.set (by simp only; omega) (by simp only; omega) _
      have hbd : vBd 1 C H S := by unfold vBd; omega
      clear hw6 hV5 hR5 hA5 hD5 fV cV cA0 cA1 cA2 cA3
      have hdV0 : w6.cell? ⟨bV, 0, none⟩ = some (.int .i64 1) := hVe.cell 0 rfl
      have hdV1 : w6.cell? ⟨bV, 1, none⟩ = some (.int .i64 C) := hVe.cell 1 rfl
      have hdV2 : w6.cell? ⟨bV, 2, none⟩ = some (.int .i64 H) := hVe.cell 2 rfl
      have hdV3 : w6.cell? ⟨bV, 3, none⟩ = some (.int .i64 S) := hVe.cell 3 rfl
      obtain ⟨wE, hwE, hRE, hDE⟩ := var_ret (P := 1) (C := C) (H := H) (S := S) hRe hDe (Nat.le_refl _) hg
      have f0 := (hRe).free 0
      have f1 := (hRe).free 1
      have f2 := (hRe).free 2
      have f3 := (hRe).free 3
      have r0 : w6.cell? ⟨w.heap.size, 0, none⟩ = some (.int .i64 0) := (hRe).cell 0 rfl
      have r1 : w6.cell? ⟨w.heap.size, 1, none⟩ = some (.int .i64 0) := (hRe).cell 1 rfl
      have r2 : w6.cell? ⟨w.heap.size, 2, none⟩ = some (.int .i64 0) := (hRe).cell 2 rfl
      have r3 : w6.cell? ⟨w.heap.size, 3, none⟩ = some (.int .i64 0) := (hRe).cell 3 rfl
      clear hVe 
      go_wp2_with fail
      rw [← hwE]
      clear hwE f0 f1 f2 f3 r0 r1 r2 r3
      have r0 : wE.cell? ⟨w.heap.size, 0, none⟩ = some (.int .i64 1) := hRE.cell 0 rfl
      have r1 : wE.cell? ⟨w.heap.size, 1, none⟩ = some (.int .i64 C) := hRE.cell 1 rfl
      have r2 : wE.cell? ⟨w.heap.size, 2, none⟩ = some (.int .i64 H) := hRE.cell 2 rfl
      have r3 : wE.cell? ⟨w.heap.size, 3, none⟩ = some (.int .i64 S) := hRE.cell 3 rfl
      exact bodyPost_ret (v := .agg #[.int .i64 1, .int .i64 C, .int .i64 H, .int .i64 S]) (by simp [r0, r1, r2, r3, results, Tryd.results55, go_sem]) rfl ⟨_, _, _, _, rfl, hbd, hDE⟩
    · go_upto_region 11 with fail
      obtain ⟨w6, hw6⟩ : ∃ w6, w6 = w5.setCell ⟨bV, 0, none⟩ (.int .i64 25) := ⟨_, rfl⟩
      rw [← hw6]
      have hVe : Blk w6 bV 25 #[.int .i64 25, .int .i64 C, .int .i64 H, .int .i64 S] := by rw [hw6]; exact hV5.set 0 _
      have hRe : Blk w6 w.heap.size 25 #[.int .i64 0, .int .i64 0, .int .i64 0, .int .i64 0] := by rw [hw6]; exact hR5.off _ (by simp only; omega)
      have hDe : Drew w g A n k w6 := by rw [hw6]; exact hD5.set (by simp only; omega) (by simp only; omega) _
      have hbd : vBd 25 C H S := by unfold vBd; omega
      clear hw6 hV5 hR5 hA5 hD5 fV cV cA0 cA1 cA2 cA3
      have hdV0 : w6.cell? ⟨bV, 0, none⟩ = some (.int .i64 25) := hVe.cell 0 rfl
      have hdV1 : w6.cell? ⟨bV, 1, none⟩ = some (.int .i64 C) := hVe.cell 1 rfl
      have hdV2 : w6.cell? ⟨bV, 2, none⟩ = some (.int .i64 H) := hVe.cell 2 rfl
      have hdV3 : w6.cell? ⟨bV, 3, none⟩ = some (.int .i64 S) := hVe.cell 3 rfl
      obtain ⟨wE, hwE, hRE, hDE⟩ := var_ret (P := 25) (C := C) (H := H) (S := S) hRe hDe (Nat.le_refl _) hg
      have f0 := (hRe).free 0
      have f1 := (hRe).free 1
      have f2 := (hRe).free 2
      have f3 := (hRe).free 3
      have r0 : w6.cell? ⟨w.heap.size, 0, none⟩ = some (.int .i64 0) := (hRe).cell 0 rfl
      have r1 : w6.cell? ⟨w.heap.size, 1, none⟩ = some (.int .i64 0) := (hRe).cell 1 rfl
      have r2 : w6.cell? ⟨w.heap.size, 2, none⟩ = some (.int .i64 0) := (hRe).cell 2 rfl
      have r3 : w6.cell? ⟨w.heap.size, 3, none⟩ = some (.int .i64 0) := (hRe).cell 3 rfl
      clear hVe 
      go_wp2_with fail
      rw [← hwE]
      clear hwE f0 f1 f2 f3 r0 r1 r2 r3
      have r0 : wE.cell? ⟨w.heap.size, 0, none⟩ = some (.int .i64 25) := hRE.cell 0 rfl
      have r1 : wE.cell? ⟨w.heap.size, 1, none⟩ = some (.int .i64 C) := hRE.cell 1 rfl
      have r2 : wE.cell? ⟨w.heap.size, 2, none⟩ = some (.int .i64 H) := hRE.cell 2 rfl
      have r3 : wE.cell? ⟨w.heap.size, 3, none⟩ = some (.int .i64 S) := hRE.cell 3 rfl
      exact bodyPost_ret (v := .agg #[.int .i64 25, .int .i64 C, .int .i64 H, .int .i64 S]) (by simp [r0, r1, r2, r3, results, Tryd.results55, go_sem]) rfl ⟨_, _, _, _, rfl, hbd, hDE⟩
    · go_upto_region 11 with fail
      obtain ⟨w6, hw6⟩ : ∃ w6, w6 = w5.setCell ⟨bV, 0, none⟩ (.int .i64 (-1)) := ⟨_, rfl⟩
      rw [← hw6]
      have hVe : Blk w6 bV 25 #[.int .i64 (-1), .int .i64 C, .int .i64 H, .int .i64 S] := by rw [hw6]; exact hV5.set 0 _
      have hRe : Blk w6 w.heap.size 25 #[.int .i64 0, .int .i64 0, .int .i64 0, .int .i64 0] := by rw [hw6]; exact hR5.off _ (by simp only; omega)
      have hDe : Drew w g A n k w6 := by rw [hw6]; exact hD5.set (by simp only; omega) (by simp only; omega) _
      have hbd : vBd (-1) C H S := by unfold vBd; omega
      clear hw6 hV5 hR5 hA5 hD5 fV cV cA0 cA1 cA2 cA3
      have hdV0 : w6.cell? ⟨bV, 0, none⟩ = some (.int .i64 (-1)) := hVe.cell 0 rfl
      have hdV1 : w6.cell? ⟨bV, 1, none⟩ = some (.int .i64 C) := hVe.cell 1 rfl
      have hdV2 : w6.cell? ⟨bV, 2, none⟩ = some (.int .i64 H) := hVe.cell 2 rfl
      have hdV3 : w6.cell? ⟨bV, 3, none⟩ = some (.int .i64 S) := hVe.cell 3 rfl
      obtain ⟨wE, hwE, hRE, hDE⟩ := var_ret (P := (-1)) (C := C) (H := H) (S := S) hRe hDe (Nat.le_refl _) hg
      have f0 := (hRe).free 0
      have f1 := (hRe).free 1
      have f2 := (hRe).free 2
      have f3 := (hRe).free 3
      have r0 : w6.cell? ⟨w.heap.size, 0, none⟩ = some (.int .i64 0) := (hRe).cell 0 rfl
      have r1 : w6.cell? ⟨w.heap.size, 1, none⟩ = some (.int .i64 0) := (hRe).cell 1 rfl
      have r2 : w6.cell? ⟨w.heap.size, 2, none⟩ = some (.int .i64 0) := (hRe).cell 2 rfl
      have r3 : w6.cell? ⟨w.heap.size, 3, none⟩ = some (.int .i64 0) := (hRe).cell 3 rfl
      clear hVe 
      go_wp2_with fail
      rw [← hwE]
      clear hwE f0 f1 f2 f3 r0 r1 r2 r3
      have r0 : wE.cell? ⟨w.heap.size, 0, none⟩ = some (.int .i64 (-1)) := hRE.cell 0 rfl
      have r1 : wE.cell? ⟨w.heap.size, 1, none⟩ = some (.int .i64 C) := hRE.cell 1 rfl
      have r2 : wE.cell? ⟨w.heap.size, 2, none⟩ = some (.int .i64 H) := hRE.cell 2 rfl
      have r3 : wE.cell? ⟨w.heap.size, 3, none⟩ = some (.int .i64 S) := hRE.cell 3 rfl
      exact bodyPost_ret (v := .agg #[.int .i64 (-1), .int .i64 C, .int .i64 H, .int .i64 S]) (by simp [r0, r1, r2, r3, results, Tryd.results55, go_sem]) rfl ⟨_, _, _, _, rfl, hbd, hDE⟩
    · go_upto_region 11 with fail
      obtain ⟨w6, hw6⟩ : ∃ w6, w6 = w5.setCell ⟨bV, 0, none⟩ (.int .i64 24) := ⟨_, rfl⟩
      rw [← hw6]
      have hVe : Blk w6 bV 25 #[.int .i64 24, .int .i64 C, .int .i64 H, .int .i64 S] := by rw [hw6]; exact hV5.set 0 _
      have hRe : Blk w6 w.heap.size 25 #[.int .i64 0, .int .i64 0, .int .i64 0, .int .i64 0] := by rw [hw6]; exact hR5.off _ (by simp only; omega)
      have hDe : Drew w g A n k w6 := by rw [hw6]; exact hD5.set (by simp only; omega) (by simp only; omega) _
      have hbd : vBd 24 C H S := by unfold vBd; omega
      clear hw6 hV5 hR5 hA5 hD5 fV cV cA0 cA1 cA2 cA3
      have hdV0 : w6.cell? ⟨bV, 0, none⟩ = some (.int .i64 24) := hVe.cell 0 rfl
      have hdV1 : w6.cell? ⟨bV, 1, none⟩ = some (.int .i64 C) := hVe.cell 1 rfl
      have hdV2 : w6.cell? ⟨bV, 2, none⟩ = some (.int .i64 H) := hVe.cell 2 rfl
      have hdV3 : w6.cell? ⟨bV, 3, none⟩ = some (.int .i64 S) := hVe.cell 3 rfl
      obtain ⟨wE, hwE, hRE, hDE⟩ := var_ret (P := 24) (C := C) (H := H) (S := S) hRe hDe (Nat.le_refl _) hg
      have f0 := (hRe).free 0
      have f1 := (hRe).free 1
      have f2 := (hRe).free 2
      have f3 := (hRe).free 3
      have r0 : w6.cell? ⟨w.heap.size, 0, none⟩ = some (.int .i64 0) := (hRe).cell 0 rfl
      have r1 : w6.cell? ⟨w.heap.size, 1, none⟩ = some (.int .i64 0) := (hRe).cell 1 rfl
      have r2 : w6.cell? ⟨w.heap.size, 2, none⟩ = some (.int .i64 0) := (hRe).cell 2 rfl
      have r3 : w6.cell? ⟨w.heap.size, 3, none⟩ = some (.int .i64 0) := (hRe).cell 3 rfl
      clear hVe 
      go_wp2_with fail
      rw [← hwE]
      clear hwE f0 f1 f2 f3 r0 r1 r2 r3
      have r0 : wE.cell? ⟨w.heap.size, 0, none⟩ = some (.int .i64 24) := hRE.cell 0 rfl
      have r1 : wE.cell? ⟨w.heap.size, 1, none⟩ = some (.int .i64 C) := hRE.cell 1 rfl
      have r2 : wE.cell? ⟨w.heap.size, 2, none⟩ = some (.int .i64 H) := hRE.cell 2 rfl
      have r3 : wE.cell? ⟨w.heap.size, 3, none⟩ = some (.int .i64 S) := hRE.cell 3 rfl
      exact bodyPost_ret (v := .agg #[.int .i64 24, .int .i64 C, .int .i64 H, .int .i64 S]) (by simp [r0, r1, r2, r3, results, Tryd.results55, go_sem]) rfl ⟨_, _, _, _, rfl, hbd, hDE⟩
  · by_cases e1 : x = 1
    · subst e1
      go_wp2_with fail
      (with_reducible refine (next_any _ _ _ _ _ _ hD3.src (by omega)).mono ?_)
      rintro e w5 ⟨y, rfl, y0, y1, h5⟩
      have hV5 := h5.blk hV3 (by omega)
      have hR5 := h5.blk hR3 (by omega)
      have hD5 := hD3.trans h5
      clear hV3 hR3 hD3 h5
      have fV := hV5.free 1
      have cV : w5.cell? ⟨bV, 1, none⟩ = some (.int .i64 C) := hV5.cell 1 rfl
      go_upto_region 11 with fail
      obtain ⟨w6, hw6⟩ : ∃ w6, w6 = w5.setCell ⟨bV, 1, none⟩ (.int .i64 (16 * y)) := ⟨_, rfl⟩
      rw [← hw6]
      have hVe : Blk w6 bV 25 #[.int .i64 P, .int .i64 (16 * y), .int .i64 H, .int .i64 S] := by rw [hw6]; exact hV5.set 1 _
      have hRe : Blk w6 w.heap.size 25 #[.int .i64 0, .int .i64 0, .int .i64 0, .int .i64 0] := by rw [hw6]; exact hR5.off _ (by simp only; omega)
      have hDe : Drew w g A n k w6 := by rw [hw6]; exact hD5.set (by simp only; omega) (by simp only; omega) _
      have hbd : vBd P (16 * y) H S := by unfold vBd; omega
      clear hw6 hV5 hR5 hD5 fV cV
      generalize 16 * y = Y at hVe hbd ⊢
      have hdV0 : w6.cell? ⟨bV, 0, none⟩ = some (.int .i64 P) := hVe.cell 0 rfl
      have hdV1 : w6.cell? ⟨bV, 1, none⟩ = some (.int .i64 Y) := hVe.cell 1 rfl
      have hdV2 : w6.cell? ⟨bV, 2, none⟩ = some (.int .i64 H) := hVe.cell 2 rfl
      have hdV3 : w6.cell? ⟨bV, 3, none⟩ = some (.int .i64 S) := hVe.cell 3 rfl
      obtain ⟨wE, hwE, hRE, hDE⟩ := var_ret (P := P) (C := Y) (H := H) (S := S) hRe hDe (Nat.le_refl _) hg
      have f0 := (hRe).free 0
      have f1 := (hRe).free 1
      have f2 := (hRe).free 2
      have f3 := (hRe).free 3
      have r0 : w6.cell? ⟨w.heap.size, 0, none⟩ = some (.int .i64 0) := (hRe).cell 0 rfl
      have r1 : w6.cell? ⟨w.heap.size, 1, none⟩ = some (.int .i64 0) := (hRe).cell 1 rfl
      have r2 : w6.cell? ⟨w.heap.size, 2, none⟩ = some (.int .i64 0) := (hRe).cell 2 rfl
      have r3 : w6.cell? ⟨w.heap.size, 3, none⟩ = some (.int .i64 0) := (hRe).cell 3 rfl
      clear hVe 
      go_wp2_with fail
      rw [← hwE]
      clear hwE f0 f1 f2 f3 r0 r1 r2 r3
      have r0 : wE.cell? ⟨w.heap.size, 0, none⟩ = some (.int .i64 P) := hRE.cell 0 rfl
      have r1 : wE.cell? ⟨w.heap.size, 1, none⟩ = some (.int .i64 Y) := hRE.cell 1 rfl
      have r2 : wE.cell? ⟨w.heap.size, 2, none⟩ = some (.int .i64 H) := hRE.cell 2 rfl
      have r3 : wE.cell? ⟨w.heap.size, 3, none⟩ = some (.int .i64 S) := hRE.cell 3 rfl
      exact bodyPost_ret (v := .agg #[.int .i64 P, .int .i64 Y, .int .i64 H, .int .i64 S]) (by simp [r0, r1, r2, r3, results, Tryd.results55, go_sem]) rfl ⟨_, _, _, _, rfl, hbd, hDE⟩
    · by_cases e2 : x = 2
      · subst e2
        have cV0 : w3.cell? ⟨bV, 0, none⟩ = some (.int .i64 P) := hV3.cell 0 rfl
        have fV := hV3.free 2
        have cV : w3.cell? ⟨bV, 2, none⟩ = some (.int .i64 H) := hV3.cell 2 rfl
        go_upto_region 11 with fail
        obtain ⟨w6, hw6⟩ : ∃ w6, w6 = w3.setCell ⟨bV, 2, none⟩ (.int .i64 (P + 1)) := ⟨_, rfl⟩
        rw [← hw6]
        have hVe : Blk w6 bV 25 #[.int .i64 P, .int .i64 C, .int .i64 (P + 1), .int .i64 S] := by rw [hw6]; exact hV3.set 2 _
        have hRe : Blk w6 w.heap.size 25 #[.int .i64 0, .int .i64 0, .int .i64 0, .int .i64 0] := by rw [hw6]; exact hR3.off _ (by simp only; omega)
        have hDe : Drew w g A n k w6 := by rw [hw6]; exact hD3.set (by simp only; omega) (by simp only; omega) _
        have hbd : vBd P C (P + 1) S := by unfold vBd; omega
        clear hw6 hV3 hR3 hD3 fV cV cV0
        generalize P + 1 = Y at hVe hbd ⊢
        have hdV0 : w6.cell? ⟨bV, 0, none⟩ = some (.int .i64 P) := hVe.cell 0 rfl
        have hdV1 : w6.cell? ⟨bV, 1, none⟩ = some (.int .i64 C) := hVe.cell 1 rfl
        have hdV2 : w6.cell? ⟨bV, 2, none⟩ = some (.int .i64 Y) := hVe.cell 2 rfl
        have hdV3 : w6.cell? ⟨bV, 3, none⟩ = some (.int .i64 S) := hVe.cell 3 rfl
        obtain ⟨wE, hwE, hRE, hDE⟩ := var_ret (P := P) (C := C) (H := Y) (S := S) hRe hDe (Nat.le_refl _) hg
        have f0 := (hRe).free 0
        have f1 := (hRe).free 1
        have f2 := (hRe).free 2
        have f3 := (hRe).free 3
        have r0 : w6.cell? ⟨w.heap.size, 0, none⟩ = some (.int .i64 0) := (hRe).cell 0 rfl
        have r1 : w6.cell? ⟨w.heap.size, 1, none⟩ = some (.int .i64 0) := (hRe).cell 1 rfl
        have r2 : w6.cell? ⟨w.heap.size, 2, none⟩ = some (.int .i64 0) := (hRe).cell 2 rfl
        have r3 : w6.cell? ⟨w.heap.size, 3, none⟩ = some (.int .i64 0) := (hRe).cell 3 rfl
        clear hVe 
        go_wp2_with fail
        rw [← hwE]
        clear hwE f0 f1 f2 f3 r0 r1 r2 r3
        have r0 : wE.cell? ⟨w.heap.size, 0, none⟩ = some (.int .i64 P) := hRE.cell 0 rfl
        have r1 : wE.cell? ⟨w.heap.size, 1, none⟩ = some (.int .i64 C) := hRE.cell 1 rfl
        have r2 : wE.cell? ⟨w.heap.size, 2, none⟩ = some (.int .i64 Y) := hRE.cell 2 rfl
        have r3 : wE.cell? ⟨w.heap.size, 3, none⟩ = some (.int .i64 S) := hRE.cell 3 rfl
        exact bodyPost_ret (v := .agg #[.int .i64 P, .int .i64 C, .int .i64 Y, .int .i64 S]) (by simp [r0, r1, r2, r3, results, Tryd.results55, go_sem]) rfl ⟨_, _, _, _, rfl, hbd, hDE⟩
      · by_cases e3 : x = 3
        · subst e3
          go_wp2_with fail
          (with_reducible refine (next_any _ _ _ _ _ _ hD3.src (by omega)).mono ?_)
          rintro e w5 ⟨y, rfl, y0, y1, h5⟩
          have hV5 := h5.blk hV3 (by omega)
          have hR5 := h5.blk hR3 (by omega)
          have hD5 := hD3.trans h5
          clear hV3 hR3 hD3 h5
          have fV := hV5.free 3
          have cV : w5.cell? ⟨bV, 3, none⟩ = some (.int .i64 S) := hV5.cell 3 rfl
          go_upto_region 11 with fail
          obtain ⟨w6, hw6⟩ : ∃ w6, w6 = w5.setCell ⟨bV, 3, none⟩ (.int .i64 (7 * y)) := ⟨_, rfl⟩
          rw [← hw6]
          have hVe : Blk w6 bV 25 #[.int .i64 P, .int .i64 C, .int .i64 H, .int .i64 (7 * y)] := by rw [hw6]; exact hV5.set 3 _
          have hRe : Blk w6 w.heap.size 25 #[.int .i64 0, .int .i64 0, .int .i64 0, .int .i64 0] := by rw [hw6]; exact hR5.off _ (by simp only; omega)
          have hDe : Drew w g A n k w6 := by rw [hw6]; exact hD5.set (by simp only; omega) (by simp only; omega) _
          have hbd : vBd P C H (7 * y) := by unfold vBd; omega
          clear hw6 hV5 hR5 hD5 fV cV
          generalize 7 * y = Y at hVe hbd ⊢
          have hdV0 : w6.cell? ⟨bV, 0, none⟩ = some (.int .i64 P) := hVe.cell 0 rfl
          have hdV1 : w6.cell? ⟨bV, 1, none⟩ = some (.int .i64 C) := hVe.cell 1 rfl
          have hdV2 : w6.cell? ⟨bV, 2, none⟩ = some (.int .i64 H) := hVe.cell 2 rfl
          have hdV3 : w6.cell? ⟨bV, 3, none⟩ = some (.int .i64 Y) := hVe.cell 3 rfl
          obtain ⟨wE, hwE, hRE, hDE⟩ := var_ret (P := P) (C := C) (H := H) (S := Y) hRe hDe (Nat.le_refl _) hg
          have f0 := (hRe).free 0
          have f1 := (hRe).free 1
          have f2 := (hRe).free 2
          have f3 := (hRe).free 3
          have r0 : w6.cell? ⟨w.heap.size, 0, none⟩ = some (.int .i64 0) := (hRe).cell 0 rfl
          have r1 : w6.cell? ⟨w.heap.size, 1, none⟩ = some (.int .i64 0) := (hRe).cell 1 rfl
          have r2 : w6.cell? ⟨w.heap.size, 2, none⟩ = some (.int .i64 0) := (hRe).cell 2 rfl
          have r3 : w6.cell? ⟨w.heap.size, 3, none⟩ = some (.int .i64 0) := (hRe).cell 3 rfl
          clear hVe 
          go_wp2_with fail
          rw [← hwE]
          clear hwE f0 f1 f2 f3 r0 r1 r2 r3
          have r0 : wE.cell? ⟨w.heap.size, 0, none⟩ = some (.int .i64 P) := hRE.cell 0 rfl
          have r1 : wE.cell? ⟨w.heap.size, 1, none⟩ = some (.int .i64 C) := hRE.cell 1 rfl
          have r2 : wE.cell? ⟨w.heap.size, 2, none⟩ = some (.int .i64 H) := hRE.cell 2 rfl
          have r3 : wE.cell? ⟨w.heap.size, 3, none⟩ = some (.int .i64 Y) := hRE.cell 3 rfl
          exact bodyPost_ret (v := .agg #[.int .i64 P, .int .i64 C, .int .i64 H, .int .i64 Y]) (by simp [r0, r1, r2, r3, results, Tryd.results55, go_sem]) rfl ⟨_, _, _, _, rfl, hbd, hDE⟩
        · have hVe := hV3
          have hRe := hR3
          have hDe := hD3
          have hbd : vBd P C H S := by unfold vBd; omega
          clear hV3 hR3 hD3
          go_upto_region 11 with fail
          have hdV0 : w3.cell? ⟨bV, 0, none⟩ = some (.int .i64 P) := hVe.cell 0 rfl
          have hdV1 : w3.cell? ⟨bV, 1, none⟩ = some (.int .i64 C) := hVe.cell 1 rfl
          have hdV2 : w3.cell? ⟨bV, 2, none⟩ = some (.int .i64 H) := hVe.cell 2 rfl
          have hdV3 : w3.cell? ⟨bV, 3, none⟩ = some (.int .i64 S) := hVe.cell 3 rfl
          obtain ⟨wE, hwE, hRE, hDE⟩ := var_ret (P := P) (C := C) (H := H) (S := S) hRe hDe (Nat.le_refl _) hg
          have f0 := (hRe).free 0
          have f1 := (hRe).free 1
          have f2 := (hRe).free 2
          have f3 := (hRe).free 3
          have r0 : w3.cell? ⟨w.heap.size, 0, none⟩ = some (.int .i64 0) := (hRe).cell 0 rfl
          have r1 : w3.cell? ⟨w.heap.size, 1, none⟩ = some (.int .i64 0) := (hRe).cell 1 rfl
          have r2 : w3.cell? ⟨w.heap.size, 2, none⟩ = some (.int .i64 0) := (hRe).cell 2 rfl
          have r3 : w3.cell? ⟨w.heap.size, 3, none⟩ = some (.int .i64 0) := (hRe).cell 3 rfl
          clear hVe 
          go_wp2_with fail
          rw [← hwE]
          clear hwE f0 f1 f2 f3 r0 r1 r2 r3
          have r0 : wE.cell? ⟨w.heap.size, 0, none⟩ = some (.int .i64 P) := hRE.cell 0 rfl
          have r1 : wE.cell? ⟨w.heap.size, 1, none⟩ = some (.int .i64 C) := hRE.cell 1 rfl
          have r2 : wE.cell? ⟨w.heap.size, 2, none⟩ = some (.int .i64 H) := hRE.cell 2 rfl
          have r3 : wE.cell? ⟨w.heap.size, 3, none⟩ = some (.int .i64 S) := hRE.cell 3 rfl
          exact bodyPost_ret (v := .agg #[.int .i64 P, .int .i64 C, .int .i64 H, .int .i64 S]) (by simp [r0, r1, r2, r3, results, Tryd.results55, go_sem]) rfl ⟨_, _, _, _, rfl, hbd, hDE⟩
end Go.Proofs.YtdcdjocjlicplaaDoor
