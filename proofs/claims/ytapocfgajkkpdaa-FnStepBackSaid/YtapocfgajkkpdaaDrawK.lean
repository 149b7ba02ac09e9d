/-
  Contracts: the draw of a step.
-/
import Derived.Test.YtapocfgajkkpdaaDrawD
import Derived.Test.YtapocfgajkkpdaaHits
namespace Go.Proofs.Ytapocfgajkkpdaa
open Go.ChangeShapes Go.WideShapes Go.ChangeAt Go.RowKit Go.Joins

def StepDrawn (w : World) (g : Nat) (A : Option Addr) (n k : Nat) (e : Ending) (w' : World) : Prop :=
  ∃ f t d x, e = .returned (.agg #[.int .i64 f, .int .i64 t, .int .i64 d, .bool x]) ∧ Drew w g A n k w'
theorem OwS.turn {base : Nat} {a c : World} {g n k b m l : Nat} {A : Option Addr} {L : List Stp} (h : OwS base a (some ⟨b, 0, none⟩) m l L) (hd : Drew a g A n k c) (hb : b ≠ g) : OwS base c (some ⟨b, 0, none⟩) m l L :=
  OwE.mod h hd.2 (fun b' hb' hh => by simp only [Option.some.injEq, Addr.mk.injEq, and_true] at hb'; omega)
theorem Blk.cells4 {w : World} {b : Nat} {t : TypeId} {y0 y1 y2 y3 : Value} (h : Blk w b t #[y0, y1, y2, y3]) : (w.cell? ⟨b, 0, none⟩ = some y0 ∧ w.cell? ⟨b, 1, none⟩ = some y1 ∧ w.cell? ⟨b, 2, none⟩ = some y2 ∧ w.cell? ⟨b, 3, none⟩ = some y3) ∧ w.frozen? ⟨b, 0, none⟩ = false ∧ w.frozen? ⟨b, 1, none⟩ = false ∧ w.frozen? ⟨b, 2, none⟩ = false ∧ w.frozen? ⟨b, 3, none⟩ = false :=
  ⟨⟨h.cell 0 rfl, h.cell 1 rfl, h.cell 2 rfl, h.cell 3 rfl⟩, h.free 0, h.free 1, h.free 2, h.free 3⟩
theorem RdI.blk_lt {w : World} {b o n : Nat} {xs : List Int} (h : RdI w (some ⟨b, o, none⟩) n xs) (hn : 0 < n) : b < w.heap.size := by
  obtain ⟨b', o', x', e, _, hc⟩ := h.at_ hn
  simp only [Option.some.injEq, Addr.mk.injEq, and_true] at e
  have := World.block_lt_of_cell? w _ hc
  simp only at this
  omega
theorem RdI.setIf {w : World} {b o n : Nat} {xs : List Int} (h : RdI w (some ⟨b, o, none⟩) n xs) {p : Addr} (u : Value) (hp : 0 < n → b ≠ p.block) : RdI (w.setCell p u) (some ⟨b, o, none⟩) n xs := by
  by_cases hn : 0 < n
  · exact h.set u (hp hn)
  · exact ⟨h.1, fun h' => absurd h' hn⟩
set_option maxHeartbeats 4000000 in
theorem drawStep_any (w : World) (g : Nat) (A : Option Addr) (n k : Nat) (hs : Src w g A n k) (p c h s : Int) (hbd : vBd p c h s) (b1 n1 l1 b2 n2 l2 : Nat) (X1 X2 : List Int) (q1 : RdI w (some ⟨b1, 0, none⟩) n1 X1) (q2 : RdI w (some ⟨b2, 0, none⟩) n2 X2) (m1 : n1 ≤ 25) (m2 : n2 ≤ 25) (g1 : b1 ≠ g) (g2 : b2 ≠ g) :
    Calls Try.prog 92 #[.pointer (some ⟨g, 0, none⟩), .agg #[.int .i64 p, .int .i64 c, .int .i64 h, .int .i64 s], .agg #[.slice (some ⟨b1, 0, none⟩) n1 l1, .slice (some ⟨b2, 0, none⟩) n2 l2]] w (StepDrawn w g A n k) := by
  have hg := hs.lt
  have hb1 : 0 < n1 → b1 < w.heap.size := fun hn => q1.blk_lt hn
  have hb2 : 0 < n2 → b2 < w.heap.size := fun hn => q2.blk_lt hn
  have hpb : -1 ≤ p ∧ p ≤ 25 := by unfold vBd at hbd; omega
  obtain ⟨wv, hwv⟩ : ∃ w0, w0 = w.alloc (.cells #[.int .i64 p, .int .i64 c, .int .i64 h, .int .i64 s] 25) := ⟨_, rfl⟩
  have hVv : Blk wv w.heap.size 25 #[.int .i64 p, .int .i64 c, .int .i64 h, .int .i64 s] := by rw [hwv]; exact Blk.new _ _ _
  have hpv : Past w wv := by rw [hwv]; exact (by repeat (first | exact Past.refl _ | assumption | refine Past.alloc ?_ _ | refine Past.drew ?_ | refine Past.drewN ?_ _ | refine Past.setCell ?_ (by first | (simp; done) | (simp <;> omega)) _ | refine Past.trans ?_ (past_over _ _) | refine Past.trans ?_ (by assumption)))
  have zv : wv.heap.size = w.heap.size + 1 := by rw [hwv]; simp
  obtain ⟨wb, hwb⟩ : ∃ w0, w0 = wv.alloc (.cells #[.slice (some ⟨b1, 0, none⟩) n1 l1, .slice (some ⟨b2, 0, none⟩) n2 l2] 43) := ⟨_, rfl⟩
  have hBb : Blk wb (w.heap.size + 1) 43 #[.slice (some ⟨b1, 0, none⟩) n1 l1, .slice (some ⟨b2, 0, none⟩) n2 l2] := by rw [hwb]; exact Blk.at_ zv.symm
  have hpb1 : Past wv wb := by rw [hwb]; exact (by repeat (first | exact Past.refl _ | assumption | refine Past.alloc ?_ _ | refine Past.drew ?_ | refine Past.drewN ?_ _ | refine Past.setCell ?_ (by first | (simp; done) | (simp <;> omega)) _ | refine Past.trans ?_ (past_over _ _) | refine Past.trans ?_ (by assumption)))
  have zb : wb.heap.size = w.heap.size + 2 := by rw [hwb]; simp [zv]
  obtain ⟨w0, hw0⟩ : ∃ w0, w0 = wb.alloc (.cells #[.int .i64 0, .int .i64 0, .int .i64 0, .bool false] 66) := ⟨_, rfl⟩
  have hR : Blk w0 (w.heap.size + 2) 66 #[.int .i64 0, .int .i64 0, .int .i64 0, .bool false] := by rw [hw0]; exact Blk.at_ zb.symm
  have hpb2 : Past wb w0 := by rw [hw0]; exact (by repeat (first | exact Past.refl _ | assumption | refine Past.alloc ?_ _ | refine Past.drew ?_ | refine Past.drewN ?_ _ | refine Past.setCell ?_ (by first | (simp; done) | (simp <;> omega)) _ | refine Past.trans ?_ (past_over _ _) | refine Past.trans ?_ (by assumption)))
  have hV := (hVv.past hpb1).past hpb2
  have hB := hBb.past hpb2
  have hp0 := hpv.trans (hpb1.trans hpb2)
  have hz0 := hR.lt
  replace q1 := q1.past hp0
  replace q2 := q2.past hp0
  have hD : Drew w g A n k w0 := (Drew.refl hs).past hp0
  go_enter Try.func92, Try.ntmps92
  go_upto_region 1 with fail
  rw [← hwv, ← hwb, ← hw0]
  obtain ⟨bV, hbV⟩ : ∃ b, b = w.heap.size := ⟨_, rfl⟩
  obtain ⟨bB, hbB⟩ : ∃ b, b = w.heap.size + 1 := ⟨_, rfl⟩
  rw [← hbB] at hB ⊢
  obtain ⟨bR, hbR⟩ : ∃ b, b = bB + 1 := ⟨_, rfl⟩
  rw [show w.heap.size + 2 = bB + 1 from by omega, ← hbR] at hR
  rw [← hbR]
  rw [← hbV] at hV ⊢
  have k1 : w.heap.size ≤ bV := by omega
  have k2 : bV < bB := by omega
  have k3 : bB < bR := by omega
  have k4 : bR < w0.heap.size := by omega
  have k5 : g < bV := by omega
  clear hwv hwb hw0 hVv hBb hpv hpb1 hpb2 hp0 zv zb hbV hbB hbR hz0
  have v0 : w0.cell? ⟨bV, 0, none⟩ = some (.int .i64 p) := hV.cell 0 rfl
  have v1 : w0.cell? ⟨bV, 1, none⟩ = some (.int .i64 c) := hV.cell 1 rfl
  have v2 : w0.cell? ⟨bV, 2, none⟩ = some (.int .i64 h) := hV.cell 2 rfl
  have v3 : w0.cell? ⟨bV, 3, none⟩ = some (.int .i64 s) := hV.cell 3 rfl
  have u0 : w0.cell? ⟨bB, 0, none⟩ = some (.slice (some ⟨b1, 0, none⟩) n1 l1) := hB.cell 0 rfl
  have u1 : w0.cell? ⟨bB, 1, none⟩ = some (.slice (some ⟨b2, 0, none⟩) n2 l2) := hB.cell 1 rfl
  go_wp2_with fail
  (with_reducible refine (drawDie_any _ _ _ _ _ hD.src _ _ _ _ hbd).mono ?_)
  rintro e w1 ⟨d, rfl, h1⟩
  replace hV := h1.blk hV (by omega)
  replace hB := h1.blk hB (by omega)
  replace hR := h1.blk hR (by omega)
  replace q1 := h1.rd q1 (by omega)
  replace q2 := h1.rd q2 (by omega)
  replace hD := hD.trans h1
  clear h1 v0 v1 v2 v3 u0 u1
  have v0 : w1.cell? ⟨bV, 0, none⟩ = some (.int .i64 p) := hV.cell 0 rfl
  have v1 : w1.cell? ⟨bV, 1, none⟩ = some (.int .i64 c) := hV.cell 1 rfl
  have v2 : w1.cell? ⟨bV, 2, none⟩ = some (.int .i64 h) := hV.cell 2 rfl
  have v3 : w1.cell? ⟨bV, 3, none⟩ = some (.int .i64 s) := hV.cell 3 rfl
  have u0 : w1.cell? ⟨bB, 0, none⟩ = some (.slice (some ⟨b1, 0, none⟩) n1 l1) := hB.cell 0 rfl
  have u1 : w1.cell? ⟨bB, 1, none⟩ = some (.slice (some ⟨b2, 0, none⟩) n2 l2) := hB.cell 1 rfl
  go_wp2_with fail
  (with_reducible refine (next_any _ _ _ _ _ _ hD.src (by omega)).mono ?_)
  rintro e w2 ⟨y1, rfl, y10, y11, h2⟩
  replace hV := h2.blk hV (by omega)
  replace hB := h2.blk hB (by omega)
  replace hR := h2.blk hR (by omega)
  replace q1 := h2.rd q1 (by omega)
  replace q2 := h2.rd q2 (by omega)
  replace hD := hD.trans h2
  go_wp2_with fail
  (with_reducible refine (next_any _ _ _ _ _ _ hD.src (by omega)).mono ?_)
  rintro e w3 ⟨y2, rfl, y20, y21, h3⟩
  replace hV := h3.blk hV (by omega)
  replace hB := h3.blk hB (by omega)
  replace hR := h3.blk hR (by omega)
  replace q1 := h3.rd q1 (by omega)
  replace q2 := h3.rd q2 (by omega)
  replace hD := hD.trans h3
  clear h2 h3 v0 v1 v2 v3 u0 u1
  have T2 : y2.tdiv 15 = y2 / 15 := Int.tdiv_eq_ediv_of_nonneg y20
  go_upto_region 3 with fail
  obtain ⟨F, hF⟩ : ∃ F, F = y1 - y2 / 15 := ⟨_, rfl⟩
  rw [← hF]
  obtain ⟨w4, hw4⟩ : ∃ w4, w4 = w3.alloc (.cells #[.int .i64 F, .int .i64 0, .int .i64 d, .bool false] 66) := ⟨_, rfl⟩
  rw [← hw4]
  obtain ⟨bX, hbX⟩ : ∃ b, b = w3.heap.size := ⟨_, rfl⟩
  have hX : Blk w4 bX 66 #[.int .i64 F, .int .i64 0, .int .i64 d, .bool false] := by rw [hw4, hbX]; exact Blk.new _ _ _
  have hpx : Past w3 w4 := by rw [hw4]; exact (Past.refl w3).alloc _
  have k6 : bR < bX := by have := hD.sz; have := hR.lt; omega
  rw [← hbX]
  clear hw4 hbX hF
  replace hV := hV.past hpx
  replace hB := hB.past hpx
  replace hR := hR.past hpx
  replace q1 := q1.past hpx
  replace q2 := q2.past hpx
  replace hD := hD.past hpx
  clear hpx y10 y11 y20 y21 T2
  have HQ1 : Hid (0 < n1 → b1 ≠ bX) := Lib.hid (fun hn => by have := hb1 hn; omega)
  have HQ2 : Hid (0 < n2 → b2 ≠ bX) := Lib.hid (fun hn => by have := hb2 hn; omega)
  have f1 := hX.free 1
  have x0 : w4.cell? ⟨bX, 0, none⟩ = some (.int .i64 F) := hX.cell 0 rfl
  have x1 : w4.cell? ⟨bX, 1, none⟩ = some (.int .i64 0) := hX.cell 1 rfl
  have x2 : w4.cell? ⟨bX, 2, none⟩ = some (.int .i64 d) := hX.cell 2 rfl
  have x3 : w4.cell? ⟨bX, 3, none⟩ = some (.bool false) := hX.cell 3 rfl
  go_upto_region 4 with fail
  generalize (if -1 < wrap64 (F - d) then wrap64 (F - d) else -1 : Int) = T
  clear f1 x0 x1 x2 x3
  obtain ⟨w5, hw_⟩ : ∃ x, x = w4.setCell ⟨bX, 1, none⟩ (.int .i64 T) := ⟨_, rfl⟩
  rw [← hw_]
  replace hX : Blk w5 bX 66 #[.int .i64 F, .int .i64 T, .int .i64 d, .bool false] := by rw [hw_]; exact hX.set 1 _
  replace hV : Blk w5 bV 25 #[.int .i64 p, .int .i64 c, .int .i64 h, .int .i64 s] := by rw [hw_]; exact hV.off (p := ⟨bX, 1, none⟩) _ (by simp only; omega)
  replace hB : Blk w5 bB 43 #[.slice (some ⟨b1, 0, none⟩) n1 l1, .slice (some ⟨b2, 0, none⟩) n2 l2] := by rw [hw_]; exact hB.off (p := ⟨bX, 1, none⟩) _ (by simp only; omega)
  replace hR : Blk w5 bR 66 #[.int .i64 0, .int .i64 0, .int .i64 0, .bool false] := by rw [hw_]; exact hR.off (p := ⟨bX, 1, none⟩) _ (by simp only; omega)
  replace q1 : RdI w5 (some ⟨b1, 0, none⟩) n1 X1 := by rw [hw_]; exact q1.setIf (p := ⟨bX, 1, none⟩) _ HQ1.out
  replace q2 : RdI w5 (some ⟨b2, 0, none⟩) n2 X2 := by rw [hw_]; exact q2.setIf (p := ⟨bX, 1, none⟩) _ HQ2.out
  replace hD : Drew w g A n k w5 := by rw [hw_]; exact hD.set (p := ⟨bX, 1, none⟩) (by simp only; omega) (by simp only; omega) _
  clear hw_
  go_wp2_with fail
  (with_reducible refine (next_any _ _ _ _ _ _ hD.src (by omega)).mono ?_)
  rintro e w6 ⟨y3, rfl, y30, y31, h6⟩
  replace hV := h6.blk hV (by omega)
  replace hB := h6.blk hB (by omega)
  replace hR := h6.blk hR (by omega)
  replace hX := h6.blk hX (by omega)
  replace q1 := h6.rd q1 (by omega)
  replace q2 := h6.rd q2 (by omega)
  replace hD := hD.trans h6
  clear h6
  have x0 : w6.cell? ⟨bX, 0, none⟩ = some (.int .i64 F) := hX.cell 0 rfl
  have x1 : w6.cell? ⟨bX, 1, none⟩ = some (.int .i64 T) := hX.cell 1 rfl
  have x2 : w6.cell? ⟨bX, 2, none⟩ = some (.int .i64 d) := hX.cell 2 rfl
  have x3 : w6.cell? ⟨bX, 3, none⟩ = some (.bool false) := hX.cell 3 rfl
  have f3 := hX.free 3
  go_upto_region 5 with fail
  generalize (y3 == 0) = xb
  clear f3 x0 x1 x2 x3
  obtain ⟨w7, hw_⟩ : ∃ x, x = w6.setCell ⟨bX, 3, none⟩ (.bool xb) := ⟨_, rfl⟩
  rw [← hw_]
  replace hX : Blk w7 bX 66 #[.int .i64 F, .int .i64 T, .int .i64 d, .bool xb] := by rw [hw_]; exact hX.set 3 _
  replace hV : Blk w7 bV 25 #[.int .i64 p, .int .i64 c, .int .i64 h, .int .i64 s] := by rw [hw_]; exact hV.off (p := ⟨bX, 3, none⟩) _ (by simp only; omega)
  replace hB : Blk w7 bB 43 #[.slice (some ⟨b1, 0, none⟩) n1 l1, .slice (some ⟨b2, 0, none⟩) n2 l2] := by rw [hw_]; exact hB.off (p := ⟨bX, 3, none⟩) _ (by simp only; omega)
  replace hR : Blk w7 bR 66 #[.int .i64 0, .int .i64 0, .int .i64 0, .bool false] := by rw [hw_]; exact hR.off (p := ⟨bX, 3, none⟩) _ (by simp only; omega)
  replace q1 : RdI w7 (some ⟨b1, 0, none⟩) n1 X1 := by rw [hw_]; exact q1.setIf (p := ⟨bX, 3, none⟩) _ HQ1.out
  replace q2 : RdI w7 (some ⟨b2, 0, none⟩) n2 X2 := by rw [hw_]; exact q2.setIf (p := ⟨bX, 3, none⟩) _ HQ2.out
  replace hD : Drew w g A n k w7 := by rw [hw_]; exact hD.set (p := ⟨bX, 3, none⟩) (by simp only; omega) (by simp only; omega) _
  clear hw_
  have k10 := hX.lt
  have v0 : w7.cell? ⟨bV, 0, none⟩ = some (.int .i64 p) := hV.cell 0 rfl
  have v1 : w7.cell? ⟨bV, 1, none⟩ = some (.int .i64 c) := hV.cell 1 rfl
  have v2 : w7.cell? ⟨bV, 2, none⟩ = some (.int .i64 h) := hV.cell 2 rfl
  have v3 : w7.cell? ⟨bV, 3, none⟩ = some (.int .i64 s) := hV.cell 3 rfl
  have u0 : w7.cell? ⟨bB, 0, none⟩ = some (.slice (some ⟨b1, 0, none⟩) n1 l1) := hB.cell 0 rfl
  have u1 : w7.cell? ⟨bB, 1, none⟩ = some (.slice (some ⟨b2, 0, none⟩) n2 l2) := hB.cell 1 rfl
  go_wp2_with fail
  (with_reducible refine (sLegalStepsC _ _ _ _ _ _ _ _ _ _ _ _ _ _ q1 q2 (by omega) (by omega)).mono ?_)
  rintro e w8 ⟨AL, kL, rfl, hoL, hp8⟩
  replace hV := hV.past hp8
  replace hB := hB.past hp8
  replace hR := hR.past hp8
  replace hX := hX.past hp8
  replace hD := hD.past hp8
  have k8 := hp8.sz
  have k9 := hX.lt
  clear hp8 v0 v1 v2 v3 u0 u1 q1 q2 y30 y31
  have hLle := lsL_le p c h s X1 X2 d
  generalize lsL p c h s X1 X2 d = L at hoL hLle ⊢
  generalize lsC p c h s X1 X2 d = K
  by_cases hl0 : L.length = 0
  · have hl1 : ¬ (0 : Int) < (L.length : Int) := by omega
    clear hoL
    go_wp2_with fail
    (with_reducible refine (next_any _ _ _ _ _ _ hD.src (by omega)).mono ?_)
    rintro e w20 ⟨z, rfl, z0, z1, h20⟩
    replace hV := h20.blk hV (by omega)
    replace hB := h20.blk hB (by omega)
    replace hR := h20.blk hR (by omega)
    replace hX := h20.blk hX (by omega)
    replace hD := hD.trans h20
    clear h20
    by_cases e0 : z = 0
    · subst e0
      obtain ⟨⟨x0, x1, x2, x3⟩, f0, f1, f2, f3⟩ := hX.cells4
      go_upto_region 13 with fail
      clear x0 x1 x2 x3 f0 f1 f2 f3
      obtain ⟨w21, hw_⟩ : ∃ x, x = w20.setCell ⟨bX, 3, none⟩ (.bool (!xb)) := ⟨_, rfl⟩
      rw [← hw_]
      replace hX : Blk w21 bX 66 #[.int .i64 F, .int .i64 T, .int .i64 d, .bool (!xb)] := by rw [hw_]; exact hX.set 3 _
      replace hV : Blk w21 bV 25 #[.int .i64 p, .int .i64 c, .int .i64 h, .int .i64 s] := by rw [hw_]; exact hV.off (p := ⟨bX, 3, none⟩) _ (by simp only; omega)
      replace hB : Blk w21 bB 43 #[.slice (some ⟨b1, 0, none⟩) n1 l1, .slice (some ⟨b2, 0, none⟩) n2 l2] := by rw [hw_]; exact hB.off (p := ⟨bX, 3, none⟩) _ (by simp only; omega)
      replace hR : Blk w21 bR 66 #[.int .i64 0, .int .i64 0, .int .i64 0, .bool false] := by rw [hw_]; exact hR.off (p := ⟨bX, 3, none⟩) _ (by simp only; omega)
      replace hD : Drew w g A n k w21 := by rw [hw_]; exact hD.set (p := ⟨bX, 3, none⟩) (by simp only; omega) (by simp only; omega) _
      clear hw_
      obtain ⟨⟨r0, r1, r2, r3⟩, rf0, rf1, rf2, rf3⟩ := hR.cells4
      obtain ⟨⟨x0, x1, x2, x3⟩, _, _, _, _⟩ := hX.cells4
      obtain ⟨wE, hwE⟩ : ∃ x, x = (((w21.setCell ⟨bR, 0, none⟩ (.int .i64 F)).setCell ⟨bR, 1, none⟩ (.int .i64 T)).setCell ⟨bR, 2, none⟩ (.int .i64 d)).setCell ⟨bR, 3, none⟩ (.bool (!xb)) := ⟨_, rfl⟩
      have hRE : Blk wE bR 66 #[.int .i64 F, .int .i64 T, .int .i64 d, .bool (!xb)] := by rw [hwE]; exact hR.put4
      have hDE : Drew w g A n k wE := by rw [hwE]; exact hD.put4 (by omega) (by omega)
      clear hX hR hD hB hV
      go_wp2_with fail
      rw [← hwE]
      clear hwE r0 r1 r2 r3 rf0 rf1 rf2 rf3 x0 x1 x2 x3
      obtain ⟨⟨r0, r1, r2, r3⟩, _, _, _, _⟩ := hRE.cells4
      exact bodyPost_ret (v := .agg #[.int .i64 F, .int .i64 T, .int .i64 d, .bool (!xb)]) (by simp [r0, r1, r2, r3, results, Try.results92, go_sem]) rfl ⟨_, _, _, _, rfl, hDE⟩
    · by_cases e1 : z = 1
      · subst e1
        obtain ⟨⟨x0, x1, x2, x3⟩, f0, f1, f2, f3⟩ := hX.cells4
        go_upto_region 13 with fail
        clear x0 x1 x2 x3 f0 f1 f2 f3
        generalize wrap64 (T - 1) = TT
        obtain ⟨w21, hw_⟩ : ∃ x, x = w20.setCell ⟨bX, 1, none⟩ (.int .i64 TT) := ⟨_, rfl⟩
        rw [← hw_]
        replace hX : Blk w21 bX 66 #[.int .i64 F, .int .i64 TT, .int .i64 d, .bool xb] := by rw [hw_]; exact hX.set 1 _
        replace hV : Blk w21 bV 25 #[.int .i64 p, .int .i64 c, .int .i64 h, .int .i64 s] := by rw [hw_]; exact hV.off (p := ⟨bX, 1, none⟩) _ (by simp only; omega)
        replace hB : Blk w21 bB 43 #[.slice (some ⟨b1, 0, none⟩) n1 l1, .slice (some ⟨b2, 0, none⟩) n2 l2] := by rw [hw_]; exact hB.off (p := ⟨bX, 1, none⟩) _ (by simp only; omega)
        replace hR : Blk w21 bR 66 #[.int .i64 0, .int .i64 0, .int .i64 0, .bool false] := by rw [hw_]; exact hR.off (p := ⟨bX, 1, none⟩) _ (by simp only; omega)
        replace hD : Drew w g A n k w21 := by rw [hw_]; exact hD.set (p := ⟨bX, 1, none⟩) (by simp only; omega) (by simp only; omega) _
        clear hw_
        obtain ⟨⟨r0, r1, r2, r3⟩, rf0, rf1, rf2, rf3⟩ := hR.cells4
        obtain ⟨⟨x0, x1, x2, x3⟩, _, _, _, _⟩ := hX.cells4
        obtain ⟨wE, hwE⟩ : ∃ x, x = (((w21.setCell ⟨bR, 0, none⟩ (.int .i64 F)).setCell ⟨bR, 1, none⟩ (.int .i64 TT)).setCell ⟨bR, 2, none⟩ (.int .i64 d)).setCell ⟨bR, 3, none⟩ (.bool xb) := ⟨_, rfl⟩
        have hRE : Blk wE bR 66 #[.int .i64 F, .int .i64 TT, .int .i64 d, .bool xb] := by rw [hwE]; exact hR.put4
        have hDE : Drew w g A n k wE := by rw [hwE]; exact hD.put4 (by omega) (by omega)
        clear hX hR hD hB hV
        go_wp2_with fail
        rw [← hwE]
        clear hwE r0 r1 r2 r3 rf0 rf1 rf2 rf3 x0 x1 x2 x3
        obtain ⟨⟨r0, r1, r2, r3⟩, _, _, _, _⟩ := hRE.cells4
        exact bodyPost_ret (v := .agg #[.int .i64 F, .int .i64 TT, .int .i64 d, .bool xb]) (by simp [r0, r1, r2, r3, results, Try.results92, go_sem]) rfl ⟨_, _, _, _, rfl, hDE⟩
      · go_upto_region 13 with fail
        obtain ⟨⟨r0, r1, r2, r3⟩, rf0, rf1, rf2, rf3⟩ := hR.cells4
        obtain ⟨⟨x0, x1, x2, x3⟩, _, _, _, _⟩ := hX.cells4
        obtain ⟨wE, hwE⟩ : ∃ x, x = (((w20.setCell ⟨bR, 0, none⟩ (.int .i64 F)).setCell ⟨bR, 1, none⟩ (.int .i64 T)).setCell ⟨bR, 2, none⟩ (.int .i64 d)).setCell ⟨bR, 3, none⟩ (.bool xb) := ⟨_, rfl⟩
        have hRE : Blk wE bR 66 #[.int .i64 F, .int .i64 T, .int .i64 d, .bool xb] := by rw [hwE]; exact hR.put4
        have hDE : Drew w g A n k wE := by rw [hwE]; exact hD.put4 (by omega) (by omega)
        clear hX hR hD hB hV
        go_wp2_with fail
        rw [← hwE]
        clear hwE r0 r1 r2 r3 rf0 rf1 rf2 rf3 x0 x1 x2 x3
        obtain ⟨⟨r0, r1, r2, r3⟩, _, _, _, _⟩ := hRE.cells4
        exact bodyPost_ret (v := .agg #[.int .i64 F, .int .i64 T, .int .i64 d, .bool xb]) (by simp [r0, r1, r2, r3, results, Try.results92, go_sem]) rfl ⟨_, _, _, _, rfl, hDE⟩
  · have hl1 : (0 : Int) < (L.length : Int) := by omega
    obtain ⟨gL, rfl⟩ := OwE.addr hoL (by omega)
    have hgL := OwE.blk_lt hoL (b := gL) ⟨_, rfl, rfl⟩
    go_wp2_with fail
    (with_reducible refine (next_any _ _ _ _ _ _ hD.src (by omega)).mono ?_)
    rintro e w9 ⟨y4, rfl, y40, y41, h9⟩
    replace hV := h9.blk hV (by omega)
    replace hB := h9.blk hB (by omega)
    replace hR := h9.blk hR (by omega)
    replace hX := h9.blk hX (by omega)
    replace hD := hD.trans h9
    replace hoL := OwS.turn hoL h9 (by omega)
    clear h9
    by_cases hy4 : 0 < y4
    · go_wp2_with fail
      (with_reducible refine (next_any _ _ _ _ _ _ hD.src (by omega)).mono ?_)
      rintro e w10 ⟨y5, rfl, y50, y51, h10⟩
      replace hV := h10.blk hV (by omega)
      replace hB := h10.blk hB (by omega)
      replace hR := h10.blk hR (by omega)
      replace hX := h10.blk hX (by omega)
      replace hD := hD.trans h10
      replace hoL := OwS.turn hoL h10 (by omega)
      clear h10
      obtain ⟨Y, rfl⟩ := Int.eq_ofNat_of_zero_le y50
      have j1 : (Y : Int) < (L.length : Int) := by omega
      obtain ⟨gL', a, e, ha, s0, s1, s2, s3⟩ := OwS.at_ hoL (show Y < L.length by omega)
      simp only [Option.some.injEq, Addr.mk.injEq, and_true] at e
      subst e
      obtain ⟨af, at_, ad, ax⟩ := a
      simp only at s0 s1 s2 s3
      obtain ⟨⟨x0, x1, x2, x3⟩, f0, f1, f2, f3⟩ := hX.cells4
      clear ha hoL
      go_upto_region 8 with fail
      clear x0 x1 x2 x3 f0 f1 f2 f3 s0 s1 s2 s3
      obtain ⟨w11, hw_⟩ : ∃ x, x = (((w10.setCell ⟨bX, 0, none⟩ (.int .i64 af)).setCell ⟨bX, 1, none⟩ (.int .i64 at_)).setCell ⟨bX, 2, none⟩ (.int .i64 ad)).setCell ⟨bX, 3, none⟩ (.bool ax) := ⟨_, rfl⟩
      rw [← hw_]
      replace hX : Blk w11 bX 66 #[.int .i64 af, .int .i64 at_, .int .i64 ad, .bool ax] := by rw [hw_]; exact hX.put4
      replace hV := hw_ ▸ hV.off4 (b := bX) (v0 := .int .i64 af) (v1 := .int .i64 at_) (v2 := .int .i64 ad) (v3 := .bool ax) (by omega)
      replace hB := hw_ ▸ hB.off4 (b := bX) (v0 := .int .i64 af) (v1 := .int .i64 at_) (v2 := .int .i64 ad) (v3 := .bool ax) (by omega)
      replace hR := hw_ ▸ hR.off4 (b := bX) (v0 := .int .i64 af) (v1 := .int .i64 at_) (v2 := .int .i64 ad) (v3 := .bool ax) (by omega)
      replace hD : Drew w g A n k w11 := by rw [hw_]; exact hD.put4 (by omega) (by omega)
      clear hw_
      go_wp2_with fail
      (with_reducible refine (next_any _ _ _ _ _ _ hD.src (by omega)).mono ?_)
      rintro e w20 ⟨z, rfl, z0, z1, h20⟩
      replace hV := h20.blk hV (by omega)
      replace hB := h20.blk hB (by omega)
      replace hR := h20.blk hR (by omega)
      replace hX := h20.blk hX (by omega)
      replace hD := hD.trans h20
      clear h20
      by_cases e0 : z = 0
      · subst e0
        obtain ⟨⟨x0, x1, x2, x3⟩, f0, f1, f2, f3⟩ := hX.cells4
        go_upto_region 13 with fail
        clear x0 x1 x2 x3 f0 f1 f2 f3
        obtain ⟨w21, hw_⟩ : ∃ x, x = w20.setCell ⟨bX, 3, none⟩ (.bool (!ax)) := ⟨_, rfl⟩
        rw [← hw_]
        replace hX : Blk w21 bX 66 #[.int .i64 af, .int .i64 at_, .int .i64 ad, .bool (!ax)] := by rw [hw_]; exact hX.set 3 _
        replace hV : Blk w21 bV 25 #[.int .i64 p, .int .i64 c, .int .i64 h, .int .i64 s] := by rw [hw_]; exact hV.off (p := ⟨bX, 3, none⟩) _ (by simp only; omega)
        replace hB : Blk w21 bB 43 #[.slice (some ⟨b1, 0, none⟩) n1 l1, .slice (some ⟨b2, 0, none⟩) n2 l2] := by rw [hw_]; exact hB.off (p := ⟨bX, 3, none⟩) _ (by simp only; omega)
        replace hR : Blk w21 bR 66 #[.int .i64 0, .int .i64 0, .int .i64 0, .bool false] := by rw [hw_]; exact hR.off (p := ⟨bX, 3, none⟩) _ (by simp only; omega)
        replace hD : Drew w g A n k w21 := by rw [hw_]; exact hD.set (p := ⟨bX, 3, none⟩) (by simp only; omega) (by simp only; omega) _
        clear hw_
        obtain ⟨⟨r0, r1, r2, r3⟩, rf0, rf1, rf2, rf3⟩ := hR.cells4
        obtain ⟨⟨x0, x1, x2, x3⟩, _, _, _, _⟩ := hX.cells4
        obtain ⟨wE, hwE⟩ : ∃ x, x = (((w21.setCell ⟨bR, 0, none⟩ (.int .i64 af)).setCell ⟨bR, 1, none⟩ (.int .i64 at_)).setCell ⟨bR, 2, none⟩ (.int .i64 ad)).setCell ⟨bR, 3, none⟩ (.bool (!ax)) := ⟨_, rfl⟩
        have hRE : Blk wE bR 66 #[.int .i64 af, .int .i64 at_, .int .i64 ad, .bool (!ax)] := by rw [hwE]; exact hR.put4
        have hDE : Drew w g A n k wE := by rw [hwE]; exact hD.put4 (by omega) (by omega)
        clear hX hR hD hB hV
        go_wp2_with fail
        rw [← hwE]
        clear hwE r0 r1 r2 r3 rf0 rf1 rf2 rf3 x0 x1 x2 x3
        obtain ⟨⟨r0, r1, r2, r3⟩, _, _, _, _⟩ := hRE.cells4
        exact bodyPost_ret (v := .agg #[.int .i64 af, .int .i64 at_, .int .i64 ad, .bool (!ax)]) (by simp [r0, r1, r2, r3, results, Try.results92, go_sem]) rfl ⟨_, _, _, _, rfl, hDE⟩
      · by_cases e1 : z = 1
        · subst e1
          obtain ⟨⟨x0, x1, x2, x3⟩, f0, f1, f2, f3⟩ := hX.cells4
          go_upto_region 13 with fail
          clear x0 x1 x2 x3 f0 f1 f2 f3
          generalize wrap64 (at_ - 1) = TT
          obtain ⟨w21, hw_⟩ : ∃ x, x = w20.setCell ⟨bX, 1, none⟩ (.int .i64 TT) := ⟨_, rfl⟩
          rw [← hw_]
          replace hX : Blk w21 bX 66 #[.int .i64 af, .int .i64 TT, .int .i64 ad, .bool ax] := by rw [hw_]; exact hX.set 1 _
          replace hV : Blk w21 bV 25 #[.int .i64 p, .int .i64 c, .int .i64 h, .int .i64 s] := by rw [hw_]; exact hV.off (p := ⟨bX, 1, none⟩) _ (by simp only; omega)
          replace hB : Blk w21 bB 43 #[.slice (some ⟨b1, 0, none⟩) n1 l1, .slice (some ⟨b2, 0, none⟩) n2 l2] := by rw [hw_]; exact hB.off (p := ⟨bX, 1, none⟩) _ (by simp only; omega)
          replace hR : Blk w21 bR 66 #[.int .i64 0, .int .i64 0, .int .i64 0, .bool false] := by rw [hw_]; exact hR.off (p := ⟨bX, 1, none⟩) _ (by simp only; omega)
          replace hD : Drew w g A n k w21 := by rw [hw_]; exact hD.set (p := ⟨bX, 1, none⟩) (by simp only; omega) (by simp only; omega) _
          clear hw_
          obtain ⟨⟨r0, r1, r2, r3⟩, rf0, rf1, rf2, rf3⟩ := hR.cells4
          obtain ⟨⟨x0, x1, x2, x3⟩, _, _, _, _⟩ := hX.cells4
          obtain ⟨wE, hwE⟩ : ∃ x, x = (((w21.setCell ⟨bR, 0, none⟩ (.int .i64 af)).setCell ⟨bR, 1, none⟩ (.int .i64 TT)).setCell ⟨bR, 2, none⟩ (.int .i64 ad)).setCell ⟨bR, 3, none⟩ (.bool ax) := ⟨_, rfl⟩
          have hRE : Blk wE bR 66 #[.int .i64 af, .int .i64 TT, .int .i64 ad, .bool ax] := by rw [hwE]; exact hR.put4
          have hDE : Drew w g A n k wE := by rw [hwE]; exact hD.put4 (by omega) (by omega)
          clear hX hR hD hB hV
          go_wp2_with fail
          rw [← hwE]
          clear hwE r0 r1 r2 r3 rf0 rf1 rf2 rf3 x0 x1 x2 x3
          obtain ⟨⟨r0, r1, r2, r3⟩, _, _, _, _⟩ := hRE.cells4
          exact bodyPost_ret (v := .agg #[.int .i64 af, .int .i64 TT, .int .i64 ad, .bool ax]) (by simp [r0, r1, r2, r3, results, Try.results92, go_sem]) rfl ⟨_, _, _, _, rfl, hDE⟩
        · go_upto_region 13 with fail
          obtain ⟨⟨r0, r1, r2, r3⟩, rf0, rf1, rf2, rf3⟩ := hR.cells4
          obtain ⟨⟨x0, x1, x2, x3⟩, _, _, _, _⟩ := hX.cells4
          obtain ⟨wE, hwE⟩ : ∃ x, x = (((w20.setCell ⟨bR, 0, none⟩ (.int .i64 af)).setCell ⟨bR, 1, none⟩ (.int .i64 at_)).setCell ⟨bR, 2, none⟩ (.int .i64 ad)).setCell ⟨bR, 3, none⟩ (.bool ax) := ⟨_, rfl⟩
          have hRE : Blk wE bR 66 #[.int .i64 af, .int .i64 at_, .int .i64 ad, .bool ax] := by rw [hwE]; exact hR.put4
          have hDE : Drew w g A n k wE := by rw [hwE]; exact hD.put4 (by omega) (by omega)
          clear hX hR hD hB hV
          go_wp2_with fail
          rw [← hwE]
          clear hwE r0 r1 r2 r3 rf0 rf1 rf2 rf3 x0 x1 x2 x3
          obtain ⟨⟨r0, r1, r2, r3⟩, _, _, _, _⟩ := hRE.cells4
          exact bodyPost_ret (v := .agg #[.int .i64 af, .int .i64 at_, .int .i64 ad, .bool ax]) (by simp [r0, r1, r2, r3, results, Try.results92, go_sem]) rfl ⟨_, _, _, _, rfl, hDE⟩
    · clear hoL
      go_wp2_with fail
      (with_reducible refine (next_any _ _ _ _ _ _ hD.src (by omega)).mono ?_)
      rintro e w20 ⟨z, rfl, z0, z1, h20⟩
      replace hV := h20.blk hV (by omega)
      replace hB := h20.blk hB (by omega)
      replace hR := h20.blk hR (by omega)
      replace hX := h20.blk hX (by omega)
      replace hD := hD.trans h20
      clear h20
      by_cases e0 : z = 0
      · subst e0
        obtain ⟨⟨x0, x1, x2, x3⟩, f0, f1, f2, f3⟩ := hX.cells4
        go_upto_region 13 with fail
        clear x0 x1 x2 x3 f0 f1 f2 f3
        obtain ⟨w21, hw_⟩ : ∃ x, x = w20.setCell ⟨bX, 3, none⟩ (.bool (!xb)) := ⟨_, rfl⟩
        rw [← hw_]
        replace hX : Blk w21 bX 66 #[.int .i64 F, .int .i64 T, .int .i64 d, .bool (!xb)] := by rw [hw_]; exact hX.set 3 _
        replace hV : Blk w21 bV 25 #[.int .i64 p, .int .i64 c, .int .i64 h, .int .i64 s] := by rw [hw_]; exact hV.off (p := ⟨bX, 3, none⟩) _ (by simp only; omega)
        replace hB : Blk w21 bB 43 #[.slice (some ⟨b1, 0, none⟩) n1 l1, .slice (some ⟨b2, 0, none⟩) n2 l2] := by rw [hw_]; exact hB.off (p := ⟨bX, 3, none⟩) _ (by simp only; omega)
        replace hR : Blk w21 bR 66 #[.int .i64 0, .int .i64 0, .int .i64 0, .bool false] := by rw [hw_]; exact hR.off (p := ⟨bX, 3, none⟩) _ (by simp only; omega)
        replace hD : Drew w g A n k w21 := by rw [hw_]; exact hD.set (p := ⟨bX, 3, none⟩) (by simp only; omega) (by simp only; omega) _
        clear hw_
        obtain ⟨⟨r0, r1, r2, r3⟩, rf0, rf1, rf2, rf3⟩ := hR.cells4
        obtain ⟨⟨x0, x1, x2, x3⟩, _, _, _, _⟩ := hX.cells4
        obtain ⟨wE, hwE⟩ : ∃ x, x = (((w21.setCell ⟨bR, 0, none⟩ (.int .i64 F)).setCell ⟨bR, 1, none⟩ (.int .i64 T)).setCell ⟨bR, 2, none⟩ (.int .i64 d)).setCell ⟨bR, 3, none⟩ (.bool (!xb)) := ⟨_, rfl⟩
        have hRE : Blk wE bR 66 #[.int .i64 F, .int .i64 T, .int .i64 d, .bool (!xb)] := by rw [hwE]; exact hR.put4
        have hDE : Drew w g A n k wE := by rw [hwE]; exact hD.put4 (by omega) (by omega)
        clear hX hR hD hB hV
        go_wp2_with fail
        rw [← hwE]
        clear hwE r0 r1 r2 r3 rf0 rf1 rf2 rf3 x0 x1 x2 x3
        obtain ⟨⟨r0, r1, r2, r3⟩, _, _, _, _⟩ := hRE.cells4
        exact bodyPost_ret (v := .agg #[.int .i64 F, .int .i64 T, .int .i64 d, .bool (!xb)]) (by simp [r0, r1, r2, r3, results, Try.results92, go_sem]) rfl ⟨_, _, _, _, rfl, hDE⟩
      · by_cases e1 : z = 1
        · subst e1
          obtain ⟨⟨x0, x1, x2, x3⟩, f0, f1, f2, f3⟩ := hX.cells4
          go_upto_region 13 with fail
          clear x0 x1 x2 x3 f0 f1 f2 f3
          generalize wrap64 (T - 1) = TT
          obtain ⟨w21, hw_⟩ : ∃ x, x = w20.setCell ⟨bX, 1, none⟩ (.int .i64 TT) := ⟨_, rfl⟩
          rw [← hw_]
          replace hX : Blk w21 bX 66 #[.int .i64 F, .int .i64 TT, .int .i64 d, .bool xb] := by rw [hw_]; exact hX.set 1 _
          replace hV : Blk w21 bV 25 #[.int .i64 p, .int .i64 c, .int .i64 h, .int .i64 s] := by rw [hw_]; exact hV.off (p := ⟨bX, 1, none⟩) _ (by simp only; omega)
          replace hB : Blk w21 bB 43 #[.slice (some ⟨b1, 0, none⟩) n1 l1, .slice (some ⟨b2, 0, none⟩) n2 l2] := by rw [hw_]; exact hB.off (p := ⟨bX, 1, none⟩) _ (by simp only; omega)
          replace hR : Blk w21 bR 66 #[.int .i64 0, .int .i64 0, .int .i64 0, .bool false] := by rw [hw_]; exact hR.off (p := ⟨bX, 1, none⟩) _ (by simp only; omega)
          replace hD : Drew w g A n k w21 := by rw [hw_]; exact hD.set (p := ⟨bX, 1, none⟩) (by simp only; omega) (by simp only; omega) _
          clear hw_
          obtain ⟨⟨r0, r1, r2, r3⟩, rf0, rf1, rf2, rf3⟩ := hR.cells4
          obtain ⟨⟨x0, x1, x2, x3⟩, _, _, _, _⟩ := hX.cells4
          obtain ⟨wE, hwE⟩ : ∃ x, x = (((w21.setCell ⟨bR, 0, none⟩ (.int .i64 F)).setCell ⟨bR, 1, none⟩ (.int .i64 TT)).setCell ⟨bR, 2, none⟩ (.int .i64 d)).setCell ⟨bR, 3, none⟩ (.bool xb) := ⟨_, rfl⟩
          have hRE : Blk wE bR 66 #[.int .i64 F, .int .i64 TT, .int .i64 d, .bool xb] := by rw [hwE]; exact hR.put4
          have hDE : Drew w g A n k wE := by rw [hwE]; exact hD.put4 (by omega) (by omega)
          clear hX hR hD hB hV
          go_wp2_with fail
          rw [← hwE]
          clear hwE r0 r1 r2 r3 rf0 rf1 rf2 rf3 x0 x1 x2 x3
          obtain ⟨⟨r0, r1, r2, r3⟩, _, _, _, _⟩ := hRE.cells4
          exact bodyPost_ret (v := .agg #[.int .i64 F, .int .i64 TT, .int .i64 d, .bool xb]) (by simp [r0, r1, r2, r3, results, Try.results92, go_sem]) rfl ⟨_, _, _, _, rfl, hDE⟩
        · go_upto_region 13 with fail
          obtain ⟨⟨r0, r1, r2, r3⟩, rf0, rf1, rf2, rf3⟩ := hR.cells4
          obtain ⟨⟨x0, x1, x2, x3⟩, _, _, _, _⟩ := hX.cells4
          obtain ⟨wE, hwE⟩ : ∃ x, x = (((w20.setCell ⟨bR, 0, none⟩ (.int .i64 F)).setCell ⟨bR, 1, none⟩ (.int .i64 T)).setCell ⟨bR, 2, none⟩ (.int .i64 d)).setCell ⟨bR, 3, none⟩ (.bool xb) := ⟨_, rfl⟩
          have hRE : Blk wE bR 66 #[.int .i64 F, .int .i64 T, .int .i64 d, .bool xb] := by rw [hwE]; exact hR.put4
          have hDE : Drew w g A n k wE := by rw [hwE]; exact hD.put4 (by omega) (by omega)
          clear hX hR hD hB hV
          go_wp2_with fail
          rw [← hwE]
          clear hwE r0 r1 r2 r3 rf0 rf1 rf2 rf3 x0 x1 x2 x3
          obtain ⟨⟨r0, r1, r2, r3⟩, _, _, _, _⟩ := hRE.cells4
          exact bodyPost_ret (v := .agg #[.int .i64 F, .int .i64 T, .int .i64 d, .bool xb]) (by simp [r0, r1, r2, r3, results, Try.results92, go_sem]) rfl ⟨_, _, _, _, rfl, hDE⟩
end Go.Proofs.Ytapocfgajkkpdaa
