/-
  Contracts: a variant and a board that the reference draws.
-/
import Derived.Test.YtapocfgajkkpdaaDrawC
namespace Go.Proofs.Ytapocfgajkkpdaa
open Go.ChangeShapes Go.WideShapes Go.ChangeAt Go.RowKit Go.Joins

theorem RdI.set {w : World} {b o n : Nat} {xs : List Int} (h : RdI w (some ⟨b, o, none⟩) n xs) {p : Addr} (u : Value) (hp : b ≠ p.block) : RdI (w.setCell p u) (some ⟨b, o, none⟩) n xs :=
  ⟨h.1, fun hn => by
    obtain ⟨b', o', hA, hc⟩ := h.2 hn
    simp only [Option.some.injEq, Addr.mk.injEq, and_true] at hA
    obtain ⟨rfl, rfl⟩ := hA
    exact ⟨b, o, rfl, fun j x hj => (World.cell?_setCell_other w p ⟨b, o + j, none⟩ u (fun h => hp (by have := congrArg Addr.block h; simp only at this; omega))).trans (hc j x hj)⟩⟩
theorem RdI.drew' {w : World} {A : Option Addr} {n : Nat} {xs : List Int} (h : RdI w A n xs) : RdI w.drew A n xs := h
theorem OwI.capLe {base : Nat} {w : World} {g n k : Nat} {xs : List Int} (h : OwI base w (some ⟨g, 0, none⟩) n k xs) : n ≤ k := by
  rcases h.2 with ⟨h0, _⟩ | ⟨g', cap, cur, hv, _, _, hc, _⟩
  · simp at h0
  · simp only [Value.slice.injEq] at hv
    omega
theorem RdI.less {w : World} {A : Option Addr} {n k : Nat} {xs : List Int} (h : RdI w A n xs) (hk : k ≤ n) : RdI w A k (xs.take k) :=
  ⟨by rw [List.length_take, h.1]; omega, fun hn => by
    obtain ⟨b, o, hA, hc⟩ := h.2 (by omega)
    refine ⟨b, o, hA, fun j x hj => ?_⟩
    have hjk : j < k := by
      have := (List.getElem?_eq_some_iff.1 hj).1
      rw [List.length_take] at this
      omega
    rw [List.getElem?_take_of_lt hjk] at hj
    exact hc j x hj⟩
/-- A variant and a board that a draw hands back. -/
def PairDrawn (w : World) (g : Nat) (A : Option Addr) (n k : Nat) (e : Ending) (w' : World) : Prop :=
  ∃ p c h s b1 n1 l1 X1 b2 n2 l2 X2, e = .returned (.tuple #[.agg #[.int .i64 p, .int .i64 c, .int .i64 h, .int .i64 s], .agg #[.slice (some ⟨b1, 0, none⟩) n1 l1, .slice (some ⟨b2, 0, none⟩) n2 l2]]) ∧ vBd p c h s ∧ RdI w' (some ⟨b1, 0, none⟩) n1 X1 ∧ RdI w' (some ⟨b2, 0, none⟩) n2 X2 ∧ n1 ≤ 25 ∧ n2 ≤ 25 ∧ w.heap.size ≤ b1 ∧ w.heap.size ≤ b2 ∧ Drew w g A n k w'
section
variable {w wz : World} {g : Nat} {A : Option Addr} {n k : Nat} {p c h s : Int} {b1 n1 l1 b2 n2 l2 : Nat} {X1 X2 : List Int}
/-- What the results' cells hold at the end, and what stands besides. -/
def PairEnd (w : World) (g : Nat) (A : Option Addr) (n k : Nat) (p c h s : Int) (b1 n1 l1 : Nat) (X1 : List Int) (b2 n2 l2 : Nat) (X2 : List Int) (wE : World) : Prop :=
  Blk wE w.heap.size 25 #[.int .i64 p, .int .i64 c, .int .i64 h, .int .i64 s] ∧ Blk wE (w.heap.size + 1) 43 #[.slice (some ⟨b1, 0, none⟩) n1 l1, .slice (some ⟨b2, 0, none⟩) n2 l2] ∧ RdI wE (some ⟨b1, 0, none⟩) n1 X1 ∧ RdI wE (some ⟨b2, 0, none⟩) n2 X2 ∧ Drew w g A n k wE
theorem Blk.off4 {x : World} {b d : Nat} {t : TypeId} {cs : Array Value} {v0 v1 v2 v3 : Value} (h : Blk x d t cs) (hb : d ≠ b) : Blk ((((x.setCell ⟨b, 0, none⟩ v0).setCell ⟨b, 1, none⟩ v1).setCell ⟨b, 2, none⟩ v2).setCell ⟨b, 3, none⟩ v3) d t cs :=
  (((h.off (p := ⟨b, 0, none⟩) v0 hb).off (p := ⟨b, 1, none⟩) v1 hb).off (p := ⟨b, 2, none⟩) v2 hb).off (p := ⟨b, 3, none⟩) v3 hb
theorem Blk.off2 {x : World} {b d : Nat} {t : TypeId} {cs : Array Value} {v0 v1 : Value} (h : Blk x d t cs) (hb : d ≠ b) : Blk ((x.setCell ⟨b, 0, none⟩ v0).setCell ⟨b, 1, none⟩ v1) d t cs :=
  (h.off (p := ⟨b, 0, none⟩) v0 hb).off (p := ⟨b, 1, none⟩) v1 hb
theorem RdI.off4 {x : World} {b d m : Nat} {xs : List Int} {v0 v1 v2 v3 : Value} (h : RdI x (some ⟨d, 0, none⟩) m xs) (hb : d ≠ b) : RdI ((((x.setCell ⟨b, 0, none⟩ v0).setCell ⟨b, 1, none⟩ v1).setCell ⟨b, 2, none⟩ v2).setCell ⟨b, 3, none⟩ v3) (some ⟨d, 0, none⟩) m xs :=
  (((h.set (p := ⟨b, 0, none⟩) v0 hb).set (p := ⟨b, 1, none⟩) v1 hb).set (p := ⟨b, 2, none⟩) v2 hb).set (p := ⟨b, 3, none⟩) v3 hb
theorem RdI.off2 {x : World} {b d m : Nat} {xs : List Int} {v0 v1 : Value} (h : RdI x (some ⟨d, 0, none⟩) m xs) (hb : d ≠ b) : RdI ((x.setCell ⟨b, 0, none⟩ v0).setCell ⟨b, 1, none⟩ v1) (some ⟨d, 0, none⟩) m xs :=
  (h.set (p := ⟨b, 0, none⟩) v0 hb).set (p := ⟨b, 1, none⟩) v1 hb
theorem Drew.put4 {x : World} {b : Nat} {v0 v1 v2 v3 : Value} (h : Drew w g A n k x) (hb : w.heap.size ≤ b) (hg : g < b) : Drew w g A n k ((((x.setCell ⟨b, 0, none⟩ v0).setCell ⟨b, 1, none⟩ v1).setCell ⟨b, 2, none⟩ v2).setCell ⟨b, 3, none⟩ v3) :=
  (((h.set (p := ⟨b, 0, none⟩) hb hg v0).set (p := ⟨b, 1, none⟩) hb hg v1).set (p := ⟨b, 2, none⟩) hb hg v2).set (p := ⟨b, 3, none⟩) hb hg v3
theorem Drew.put2 {x : World} {b : Nat} {v0 v1 : Value} (h : Drew w g A n k x) (hb : w.heap.size ≤ b) (hg : g < b) : Drew w g A n k ((x.setCell ⟨b, 0, none⟩ v0).setCell ⟨b, 1, none⟩ v1) :=
  (h.set (p := ⟨b, 0, none⟩) hb hg v0).set (p := ⟨b, 1, none⟩) hb hg v1
theorem Blk.put4 {x : World} {b : Nat} {t : TypeId} {y0 y1 y2 y3 v0 v1 v2 v3 : Value} (h : Blk x b t #[y0, y1, y2, y3]) : Blk ((((x.setCell ⟨b, 0, none⟩ v0).setCell ⟨b, 1, none⟩ v1).setCell ⟨b, 2, none⟩ v2).setCell ⟨b, 3, none⟩ v3) b t #[v0, v1, v2, v3] :=
  (((h.set 0 v0).set 1 v1).set 2 v2).set 3 v3
theorem Blk.put2 {x : World} {b : Nat} {t : TypeId} {y0 y1 v0 v1 : Value} (h : Blk x b t #[y0, y1]) : Blk ((x.setCell ⟨b, 0, none⟩ v0).setCell ⟨b, 1, none⟩ v1) b t #[v0, v1] := (h.set 0 v0).set 1 v1
theorem pair_end (hR : Blk wz w.heap.size 25 #[.int .i64 0, .int .i64 0, .int .i64 0, .int .i64 0]) (hS : Blk wz (w.heap.size + 1) 43 #[.slice none 0 0, .slice none 0 0]) (h1 : RdI wz (some ⟨b1, 0, none⟩) n1 X1) (h2 : RdI wz (some ⟨b2, 0, none⟩) n2 X2) (hD : Drew w g A n k wz) (hg : g < w.heap.size) (hb1 : w.heap.size + 1 < b1) (hb2 : w.heap.size + 1 < b2) :
    ∃ wE, wE = ((((((wz.setCell ⟨w.heap.size, 0, none⟩ (.int .i64 p)).setCell ⟨w.heap.size, 1, none⟩ (.int .i64 c)).setCell ⟨w.heap.size, 2, none⟩ (.int .i64 h)).setCell ⟨w.heap.size, 3, none⟩ (.int .i64 s)).setCell ⟨w.heap.size + 1, 0, none⟩ (.slice (some ⟨b1, 0, none⟩) n1 l1)).setCell ⟨w.heap.size + 1, 1, none⟩ (.slice (some ⟨b2, 0, none⟩) n2 l2)).drew ∧ PairEnd w g A n k p c h s b1 n1 l1 X1 b2 n2 l2 X2 wE :=
  ⟨_, rfl, ((hR.put4).off2 (by omega)).drew, (Blk.put2 (hS.off4 (by omega))).drew, (((h1.off4 (by omega)).off2 (by omega)).drew), (((h2.off4 (by omega)).off2 (by omega)).drew), (((hD.put4 (Nat.le_refl _) hg).put2 (by omega) (by omega)).drew)⟩
theorem cellq4 {w : World} {b d i : Nat} {v0 v1 v2 v3 v : Value} (hb : d ≠ b) (h : w.cell? ⟨d, i, none⟩ = some v) :
    ((((w.setCell ⟨b, 0, none⟩ v0).setCell ⟨b, 1, none⟩ v1).setCell ⟨b, 2, none⟩ v2).setCell ⟨b, 3, none⟩ v3).cell? ⟨d, i, none⟩ = some v := by
  have e : ∀ j, (⟨b, j, none⟩ : Addr) ≠ ⟨d, i, none⟩ := fun j h => hb (by have := congrArg Addr.block h; simp only at this; omega)
  rw [World.cell?_setCell_other _ _ _ _ (e 3), World.cell?_setCell_other _ _ _ _ (e 2), World.cell?_setCell_other _ _ _ _ (e 1), World.cell?_setCell_other _ _ _ _ (e 0)]
  exact h
theorem cellq2 {w : World} {b d i : Nat} {v0 v1 v : Value} (hb : d ≠ b) (h : w.cell? ⟨d, i, none⟩ = some v) :
    ((w.setCell ⟨b, 0, none⟩ v0).setCell ⟨b, 1, none⟩ v1).cell? ⟨d, i, none⟩ = some v := by
  have e : ∀ j, (⟨b, j, none⟩ : Addr) ≠ ⟨d, i, none⟩ := fun j h => hb (by have := congrArg Addr.block h; simp only at this; omega)
  rw [World.cell?_setCell_other _ _ _ _ (e 1), World.cell?_setCell_other _ _ _ _ (e 0)]
  exact h
theorem cellqd {w : World} {a : Addr} {v : Value} (h : w.cell? a = some v) : w.drew.cell? a = some v := h
theorem cellq4d {w : World} {b d i : Nat} {v0 v1 v2 v3 v : Value} (hb : d ≠ b) (h : w.cell? ⟨d, i, none⟩ = some v) :
    ((((w.setCell ⟨b, 0, none⟩ v0).setCell ⟨b, 1, none⟩ v1).setCell ⟨b, 2, none⟩ v2).setCell ⟨b, 3, none⟩ v3).drew.cell? ⟨d, i, none⟩ = some v := cellqd (cellq4 hb h)
theorem cellq2d {w : World} {b d i : Nat} {v0 v1 v : Value} (hb : d ≠ b) (h : w.cell? ⟨d, i, none⟩ = some v) :
    ((w.setCell ⟨b, 0, none⟩ v0).setCell ⟨b, 1, none⟩ v1).drew.cell? ⟨d, i, none⟩ = some v := cellqd (cellq2 hb h)
end
set_option maxHeartbeats 4000000 in
theorem drawPair_any (w : World) (g : Nat) (A : Option Addr) (n k : Nat) (hs : Src w g A n k) :
    Calls Try.prog 72 #[.pointer (some ⟨g, 0, none⟩)] w (PairDrawn w g A n k) := by
  have hg := hs.lt
  obtain ⟨wv, hwv⟩ : ∃ w0, w0 = w.alloc (.cells #[.int .i64 0, .int .i64 0, .int .i64 0, .int .i64 0] 25) := ⟨_, rfl⟩
  have hVv : Blk wv w.heap.size 25 #[.int .i64 0, .int .i64 0, .int .i64 0, .int .i64 0] := by rw [hwv]; exact Blk.new _ _ _
  have hpv : Past w wv := by rw [hwv]; exact (by repeat (first | exact Past.refl _ | assumption | refine Past.alloc ?_ _ | refine Past.drew ?_ | refine Past.drewN ?_ _ | refine Past.setCell ?_ (by first | (simp; done) | (simp <;> omega)) _ | refine Past.trans ?_ (past_over _ _) | refine Past.trans ?_ (by assumption)))
  have zv : wv.heap.size = w.heap.size + 1 := by rw [hwv]; simp
  obtain ⟨w0, hw0⟩ : ∃ w0, w0 = wv.alloc (.cells #[.slice none 0 0, .slice none 0 0] 43) := ⟨_, rfl⟩
  have hS : Blk w0 (w.heap.size + 1) 43 #[.slice none 0 0, .slice none 0 0] := by rw [hw0]; exact Blk.at_ zv.symm
  have hpr : Past wv w0 := by rw [hw0]; exact (by repeat (first | exact Past.refl _ | assumption | refine Past.alloc ?_ _ | refine Past.drew ?_ | refine Past.drewN ?_ _ | refine Past.setCell ?_ (by first | (simp; done) | (simp <;> omega)) _ | refine Past.trans ?_ (past_over _ _) | refine Past.trans ?_ (by assumption)))
  have hR := hVv.past hpr
  have hp0 := hpv.trans hpr
  have hz0 := hS.lt
  have hD0 : Drew w0 g A n k w0 := Drew.refl (hs.past hp0)
  go_enter Try.func72, Try.ntmps72
  go_upto_region 1 with fail
  rw [← hwv, ← hw0]
  clear hwv hw0 hVv hpr hpv zv
  go_wp2_with fail
  (with_reducible refine (drawValid_any _ _ _ _ _ hD0.src).mono ?_)
  rintro e w1 ⟨p, c, h, s, rfl, hv, h1⟩
  obtain ⟨hv1, hv2, hv3, hv4⟩ := vOk_yes hv.out
  obtain ⟨P, rfl⟩ := Int.eq_ofNat_of_zero_le (show 0 ≤ p from by omega)
  obtain ⟨C, rfl⟩ := Int.eq_ofNat_of_zero_le (show 0 ≤ c from by omega)
  go_upto_region 2 with fail
  obtain ⟨w2, hw2⟩ : ∃ w2, w2 = w1.alloc (.cells #[.int .i64 (P : Int), .int .i64 (C : Int), .int .i64 h, .int .i64 s] 25) := ⟨_, rfl⟩
  rw [← hw2]
  obtain ⟨bV, hbV⟩ : ∃ b, b = w1.heap.size := ⟨_, rfl⟩
  have hV : Blk w2 bV 25 #[.int .i64 (P : Int), .int .i64 (C : Int), .int .i64 h, .int .i64 s] := by rw [hw2, hbV]; exact Blk.new _ _ _
  have h2 : Drew w0 g A n k w2 := by rw [hw2]; exact h1.alloc _
  have hz1 := h1.sz
  rw [← hbV] at hz1 ⊢
  clear hw2 hbV h1 hD0
  have c0 : w2.cell? ⟨bV, 0, none⟩ = some (.int .i64 (P : Int)) := hV.cell 0 rfl
  have c1 : w2.cell? ⟨bV, 1, none⟩ = some (.int .i64 (C : Int)) := hV.cell 1 rfl
  have c2 : w2.cell? ⟨bV, 2, none⟩ = some (.int .i64 h) := hV.cell 2 rfl
  have c3 : w2.cell? ⟨bV, 3, none⟩ = some (.int .i64 s) := hV.cell 3 rfl
  have zV := hV.lt
  go_wp2_with fail
  (with_reducible refine (draw_any _ _ _ _ _ h2.src _ _ _ _ hv).mono ?_)
  rintro e w3 ⟨b1, l1, L1, b2, l2, L2, rfl, ho1, ho2, hne, hF1, hF2, h3⟩
  have hV3 := h3.blk hV (by omega)
  have hD3 := h2.trans h3
  have z1 := own_at ho1
  have z2 := own_at ho2
  have z3 := h3.sz
  go_upto_region 3 with fail
  obtain ⟨w4, hw4⟩ : ∃ w4, w4 = w3.alloc (.cells #[.slice (some ⟨b1, 0, none⟩) (P + 1) l1, .slice (some ⟨b2, 0, none⟩) (P + 1) l2] 43) := ⟨_, rfl⟩
  rw [← hw4]
  obtain ⟨bB, hbB⟩ : ∃ b, b = w3.heap.size := ⟨_, rfl⟩
  have hp4 : Past w3 w4 := by rw [hw4]; exact (Past.refl w3).alloc _
  have hB : Blk w4 bB 43 #[.slice (some ⟨b1, 0, none⟩) (P + 1) l1, .slice (some ⟨b2, 0, none⟩) (P + 1) l2] := by rw [hw4, hbB]; exact Blk.new _ _ _
  have hV4 := hV3.past hp4
  have hD4 := hD3.past hp4
  have ho14 := ho1.past hp4
  have ho24 := ho2.past hp4
  rw [← hbB] at z1 z2 z3 ⊢
  clear hw4 hbB hV hV3 h2 h3 hD3 c0 c1 c2 c3 hp4 ho1 ho2
  have c0 : w4.cell? ⟨bV, 0, none⟩ = some (.int .i64 (P : Int)) := hV4.cell 0 rfl
  go_wp2_with fail
  (with_reducible refine (next_any _ _ _ _ _ _ hD4.src (by omega)).mono ?_)
  rintro e w5 ⟨K, rfl, K0, K1, h5⟩
  obtain ⟨K, rfl⟩ := Int.eq_ofNat_of_zero_le K0
  have hV5 := h5.blk hV4 (by omega)
  have hB5 := h5.blk hB (by omega)
  have ho15 := h5.ow ho14 (by omega)
  have ho25 := h5.ow ho24 (by omega)
  have hD5 := hD4.trans h5
  go_wp2_with fail
  (with_reducible refine (next_any _ _ _ _ _ _ hD5.src (by omega)).mono ?_)
  rintro e w6 ⟨x, rfl, x0, x1, h6⟩
  have hV6 := h6.blk hV5 (by omega)
  have hB6 := h6.blk hB5 (by omega)
  have ho16 := h6.ow ho15 (by omega)
  have ho26 := h6.ow ho25 (by omega)
  have hD6' := hD5.trans h6
  have hR6 := hD6'.blk hR (by omega)
  have hS6 := hD6'.blk hS (by omega)
  have hD6 := Drew.after hp0 hD6'
  have hK : K ≤ P := by omega
  have zB := hB6.lt
  have hb1z : w.heap.size + 1 < b1 := by omega
  have hb2z : w.heap.size + 1 < b2 := by omega
  have zR : w.heap.size + 1 < bV := by omega
  have hbd : vBd (P : Int) (C : Int) h s := by unfold vBd; omega
  clear hV4 hV5 hB hB5 ho14 ho15 ho24 ho25 hD4 hD5 hD6' h5 h6 hR hS c0 hp0
  have g1 : b1 ≠ g := by omega
  have g2 : b2 ≠ g := by omega
  by_cases e0 : x = 0
  · subst e0
    obtain ⟨a, ha⟩ : ∃ a, L1[K]? = some a := ⟨_, List.getElem?_eq_getElem (show K < L1.length by rw [ho16.len]; omega)⟩
    have hab := hF1.get ha
    have p1 := ho16.cellj K (by omega) a ha
    have p2 := ho16.freej K
    have u0 : w6.cell? ⟨bB, 0, none⟩ = some (.slice (some ⟨b1, 0, none⟩) (P + 1) l1) := hB6.cell 0 rfl
    have i1 : (K : Int) < ((P + 1 : Nat) : Int) := by omega
    go_wp2_with fail
    go_region
    clear p1 p2 u0 ha
    obtain ⟨wz, hwz⟩ : ∃ wz, wz = (w6.setCell ⟨b1, K, none⟩ (.int .i64 (a + 1))).drew := ⟨_, rfl⟩
    rw [← hwz]
    have hVz := (hV6.off (p := ⟨b1, K, none⟩) (.int .i64 (a + 1)) (by simp only; omega)).drew
    have hBz := (hB6.off (p := ⟨b1, K, none⟩) (.int .i64 (a + 1)) (by simp only; omega)).drew
    have hRz := (hR6.off (p := ⟨b1, K, none⟩) (.int .i64 (a + 1)) (by simp only; omega)).drew
    have hSz := (hS6.off (p := ⟨b1, K, none⟩) (.int .i64 (a + 1)) (by simp only; omega)).drew
    have hDz := (hD6.set (p := ⟨b1, K, none⟩) (by simp only; omega) (by simp only; omega) (.int .i64 (a + 1))).drew
    have r1z := (ho16.set1 K (a + 1)).drew.rd
    have r2z := (ho26.far (p := ⟨b1, K, none⟩) (by simp only; omega) (.int .i64 (a + 1))).drew.rd
    rw [← hwz] at hVz hBz hRz hSz hDz r1z r2z
    clear hwz hV6 hB6 hR6 hS6 hD6 ho16 ho26
    go_upto_region 17 with fail
    obtain ⟨wE, hwE, HE⟩ := pair_end (p := (P : Int)) (c := (C : Int)) (h := h) (s := s) (l1 := l1) (l2 := l2) hRz hSz r1z r2z hDz hg hb1z hb2z
    have v0 : wz.cell? ⟨bV, 0, none⟩ = some (.int .i64 (P : Int)) := hVz.cell 0 rfl
    have v1 : wz.cell? ⟨bV, 1, none⟩ = some (.int .i64 (C : Int)) := hVz.cell 1 rfl
    have v2 : wz.cell? ⟨bV, 2, none⟩ = some (.int .i64 h) := hVz.cell 2 rfl
    have v3 : wz.cell? ⟨bV, 3, none⟩ = some (.int .i64 s) := hVz.cell 3 rfl
    have u0 : wz.cell? ⟨bB, 0, none⟩ = some (.slice (some ⟨b1, 0, none⟩) (P + 1) l1) := hBz.cell 0 rfl
    have u1 : wz.cell? ⟨bB, 1, none⟩ = some (.slice (some ⟨b2, 0, none⟩) (P + 1) l2) := hBz.cell 1 rfl
    have r0 : wz.cell? ⟨w.heap.size, 0, none⟩ = some (.int .i64 0) := hRz.cell 0 rfl
    have r1 : wz.cell? ⟨w.heap.size, 1, none⟩ = some (.int .i64 0) := hRz.cell 1 rfl
    have r2 : wz.cell? ⟨w.heap.size, 2, none⟩ = some (.int .i64 0) := hRz.cell 2 rfl
    have r3 : wz.cell? ⟨w.heap.size, 3, none⟩ = some (.int .i64 0) := hRz.cell 3 rfl
    have f0 := hRz.free 0
    have f1 := hRz.free 1
    have f2 := hRz.free 2
    have f3 := hRz.free 3
    have s0 : wz.cell? ⟨w.heap.size + 1, 0, none⟩ = some (.slice none 0 0) := hSz.cell 0 rfl
    have s1 : wz.cell? ⟨w.heap.size + 1, 1, none⟩ = some (.slice none 0 0) := hSz.cell 1 rfl
    have k0 := hSz.free 0
    have k1 := hSz.free 1
    have HWE := Lib.hid hwE
    clear hwE hVz hBz hRz hSz r1z r2z hDz
    go_region_held3 (fun w' => w'.cell? ⟨bV, 0, none⟩ = some (.int .i64 (P : Int)) ∧ w'.cell? ⟨bV, 1, none⟩ = some (.int .i64 (C : Int)) ∧ w'.cell? ⟨bV, 2, none⟩ = some (.int .i64 h) ∧ w'.cell? ⟨bV, 3, none⟩ = some (.int .i64 s) ∧ w'.cell? ⟨bB, 0, none⟩ = some (.slice (some ⟨b1, 0, none⟩) (P + 1) l1) ∧ w'.cell? ⟨bB, 1, none⟩ = some (.slice (some ⟨b2, 0, none⟩) (P + 1) l2)) (first | (go_split_ands; refine ⟨(by first | with_reducible assumption | (with_reducible refine cellq4d (by omega) ?_; with_reducible assumption) | (with_reducible refine cellq2d (by omega) ?_; with_reducible assumption) | (with_reducible refine cellq2d (by omega) (cellq4 (by omega) ?_); with_reducible assumption) | (with_reducible refine cellqd ?_; with_reducible assumption)), (by first | with_reducible assumption | (with_reducible refine cellq4d (by omega) ?_; with_reducible assumption) | (with_reducible refine cellq2d (by omega) ?_; with_reducible assumption) | (with_reducible refine cellq2d (by omega) (cellq4 (by omega) ?_); with_reducible assumption) | (with_reducible refine cellqd ?_; with_reducible assumption)), (by first | with_reducible assumption | (with_reducible refine cellq4d (by omega) ?_; with_reducible assumption) | (with_reducible refine cellq2d (by omega) ?_; with_reducible assumption) | (with_reducible refine cellq2d (by omega) (cellq4 (by omega) ?_); with_reducible assumption) | (with_reducible refine cellqd ?_; with_reducible assumption)), (by first | with_reducible assumption | (with_reducible refine cellq4d (by omega) ?_; with_reducible assumption) | (with_reducible refine cellq2d (by omega) ?_; with_reducible assumption) | (with_reducible refine cellq2d (by omega) (cellq4 (by omega) ?_); with_reducible assumption) | (with_reducible refine cellqd ?_; with_reducible assumption)), (by first | with_reducible assumption | (with_reducible refine cellq4d (by omega) ?_; with_reducible assumption) | (with_reducible refine cellq2d (by omega) ?_; with_reducible assumption) | (with_reducible refine cellq2d (by omega) (cellq4 (by omega) ?_); with_reducible assumption) | (with_reducible refine cellqd ?_; with_reducible assumption)), (by first | with_reducible assumption | (with_reducible refine cellq4d (by omega) ?_; with_reducible assumption) | (with_reducible refine cellq2d (by omega) ?_; with_reducible assumption) | (with_reducible refine cellq2d (by omega) (cellq4 (by omega) ?_); with_reducible assumption) | (with_reducible refine cellqd ?_; with_reducible assumption))⟩)) (fail)
    rw [← HWE.out]
    go_wp2_with fail
    obtain ⟨hRE, hSE, h1E, h2E, hDE⟩ := HE
    have r0 : wE.cell? ⟨w.heap.size, 0, none⟩ = some (.int .i64 (P : Int)) := hRE.cell 0 rfl
    have r1 : wE.cell? ⟨w.heap.size, 1, none⟩ = some (.int .i64 (C : Int)) := hRE.cell 1 rfl
    have r2 : wE.cell? ⟨w.heap.size, 2, none⟩ = some (.int .i64 h) := hRE.cell 2 rfl
    have r3 : wE.cell? ⟨w.heap.size, 3, none⟩ = some (.int .i64 s) := hRE.cell 3 rfl
    have s0 : wE.cell? ⟨w.heap.size + 1, 0, none⟩ = some (.slice (some ⟨b1, 0, none⟩) (P + 1) l1) := hSE.cell 0 rfl
    have s1 : wE.cell? ⟨w.heap.size + 1, 1, none⟩ = some (.slice (some ⟨b2, 0, none⟩) (P + 1) l2) := hSE.cell 1 rfl
    exact bodyPost_ret (v := .tuple #[.agg #[.int .i64 (P : Int), .int .i64 (C : Int), .int .i64 h, .int .i64 s], .agg #[.slice (some ⟨b1, 0, none⟩) (P + 1) l1, .slice (some ⟨b2, 0, none⟩) (P + 1) l2]]) (by simp [r0, r1, r2, r3, s0, s1, results, Try.results72, go_sem]) rfl ⟨_, _, _, _, b1, _, _, _, b2, _, _, _, rfl, hbd, h1E, h2E, by omega, by omega, by omega, by omega, hDE⟩
  · by_cases e1 : x = 1
    · subst e1
      obtain ⟨a, ha⟩ : ∃ a, L2[K]? = some a := ⟨_, List.getElem?_eq_getElem (show K < L2.length by rw [ho26.len]; omega)⟩
      have p1 := ho26.cellj K (by omega) a ha
      have p2 := ho26.freej K
      have u0 : w6.cell? ⟨bB, 1, none⟩ = some (.slice (some ⟨b2, 0, none⟩) (P + 1) l2) := hB6.cell 1 rfl
      have i1 : (K : Int) < ((P + 1 : Nat) : Int) := by omega
      go_upto_region 17 with fail
      clear p1 p2 u0 ha
      obtain ⟨wz, hwz⟩ : ∃ wz, wz = w6.setCell ⟨b2, K, none⟩ (.int .i64 (-1)) := ⟨_, rfl⟩
      rw [← hwz]
      have hVz := hV6.off (p := ⟨b2, K, none⟩) (.int .i64 (-1)) (by simp only; omega)
      have hBz := hB6.off (p := ⟨b2, K, none⟩) (.int .i64 (-1)) (by simp only; omega)
      have hRz := hR6.off (p := ⟨b2, K, none⟩) (.int .i64 (-1)) (by simp only; omega)
      have hSz := hS6.off (p := ⟨b2, K, none⟩) (.int .i64 (-1)) (by simp only; omega)
      have hDz := hD6.set (p := ⟨b2, K, none⟩) (by simp only; omega) (by simp only; omega) (.int .i64 (-1))
      have r1z := (ho16.far (p := ⟨b2, K, none⟩) (by simp only; omega) (.int .i64 (-1))).rd
      have r2z := (ho26.set1 K (-1)).rd
      rw [← hwz] at hVz hBz hRz hSz hDz r1z r2z
      clear hwz hV6 hB6 hR6 hS6 hD6 ho16 ho26
      obtain ⟨wE, hwE, HE⟩ := pair_end (p := (P : Int)) (c := (C : Int)) (h := h) (s := s) (l1 := l1) (l2 := l2) hRz hSz r1z r2z hDz hg hb1z hb2z
      have v0 : wz.cell? ⟨bV, 0, none⟩ = some (.int .i64 (P : Int)) := hVz.cell 0 rfl
      have v1 : wz.cell? ⟨bV, 1, none⟩ = some (.int .i64 (C : Int)) := hVz.cell 1 rfl
      have v2 : wz.cell? ⟨bV, 2, none⟩ = some (.int .i64 h) := hVz.cell 2 rfl
      have v3 : wz.cell? ⟨bV, 3, none⟩ = some (.int .i64 s) := hVz.cell 3 rfl
      have u0 : wz.cell? ⟨bB, 0, none⟩ = some (.slice (some ⟨b1, 0, none⟩) (P + 1) l1) := hBz.cell 0 rfl
      have u1 : wz.cell? ⟨bB, 1, none⟩ = some (.slice (some ⟨b2, 0, none⟩) (P + 1) l2) := hBz.cell 1 rfl
      have r0 : wz.cell? ⟨w.heap.size, 0, none⟩ = some (.int .i64 0) := hRz.cell 0 rfl
      have r1 : wz.cell? ⟨w.heap.size, 1, none⟩ = some (.int .i64 0) := hRz.cell 1 rfl
      have r2 : wz.cell? ⟨w.heap.size, 2, none⟩ = some (.int .i64 0) := hRz.cell 2 rfl
      have r3 : wz.cell? ⟨w.heap.size, 3, none⟩ = some (.int .i64 0) := hRz.cell 3 rfl
      have f0 := hRz.free 0
      have f1 := hRz.free 1
      have f2 := hRz.free 2
      have f3 := hRz.free 3
      have s0 : wz.cell? ⟨w.heap.size + 1, 0, none⟩ = some (.slice none 0 0) := hSz.cell 0 rfl
      have s1 : wz.cell? ⟨w.heap.size + 1, 1, none⟩ = some (.slice none 0 0) := hSz.cell 1 rfl
      have k0 := hSz.free 0
      have k1 := hSz.free 1
      have HWE := Lib.hid hwE
      clear hwE hVz hBz hRz hSz r1z r2z hDz
      go_region_held3 (fun w' => w'.cell? ⟨bV, 0, none⟩ = some (.int .i64 (P : Int)) ∧ w'.cell? ⟨bV, 1, none⟩ = some (.int .i64 (C : Int)) ∧ w'.cell? ⟨bV, 2, none⟩ = some (.int .i64 h) ∧ w'.cell? ⟨bV, 3, none⟩ = some (.int .i64 s) ∧ w'.cell? ⟨bB, 0, none⟩ = some (.slice (some ⟨b1, 0, none⟩) (P + 1) l1) ∧ w'.cell? ⟨bB, 1, none⟩ = some (.slice (some ⟨b2, 0, none⟩) (P + 1) l2)) (first | (go_split_ands; refine ⟨(by first | with_reducible assumption | (with_reducible refine cellq4d (by omega) ?_; with_reducible assumption) | (with_reducible refine cellq2d (by omega) ?_; with_reducible assumption) | (with_reducible refine cellq2d (by omega) (cellq4 (by omega) ?_); with_reducible assumption) | (with_reducible refine cellqd ?_; with_reducible assumption)), (by first | with_reducible assumption | (with_reducible refine cellq4d (by omega) ?_; with_reducible assumption) | (with_reducible refine cellq2d (by omega) ?_; with_reducible assumption) | (with_reducible refine cellq2d (by omega) (cellq4 (by omega) ?_); with_reducible assumption) | (with_reducible refine cellqd ?_; with_reducible assumption)), (by first | with_reducible assumption | (with_reducible refine cellq4d (by omega) ?_; with_reducible assumption) | (with_reducible refine cellq2d (by omega) ?_; with_reducible assumption) | (with_reducible refine cellq2d (by omega) (cellq4 (by omega) ?_); with_reducible assumption) | (with_reducible refine cellqd ?_; with_reducible assumption)), (by first | with_reducible assumption | (with_reducible refine cellq4d (by omega) ?_; with_reducible assumption) | (with_reducible refine cellq2d (by omega) ?_; with_reducible assumption) | (with_reducible refine cellq2d (by omega) (cellq4 (by omega) ?_); with_reducible assumption) | (with_reducible refine cellqd ?_; with_reducible assumption)), (by first | with_reducible assumption | (with_reducible refine cellq4d (by omega) ?_; with_reducible assumption) | (with_reducible refine cellq2d (by omega) ?_; with_reducible assumption) | (with_reducible refine cellq2d (by omega) (cellq4 (by omega) ?_); with_reducible assumption) | (with_reducible refine cellqd ?_; with_reducible assumption)), (by first | with_reducible assumption | (with_reducible refine cellq4d (by omega) ?_; with_reducible assumption) | (with_reducible refine cellq2d (by omega) ?_; with_reducible assumption) | (with_reducible refine cellq2d (by omega) (cellq4 (by omega) ?_); with_reducible assumption) | (with_reducible refine cellqd ?_; with_reducible assumption))⟩)) (fail)
      rw [← HWE.out]
      go_wp2_with fail
      obtain ⟨hRE, hSE, h1E, h2E, hDE⟩ := HE
      have r0 : wE.cell? ⟨w.heap.size, 0, none⟩ = some (.int .i64 (P : Int)) := hRE.cell 0 rfl
      have r1 : wE.cell? ⟨w.heap.size, 1, none⟩ = some (.int .i64 (C : Int)) := hRE.cell 1 rfl
      have r2 : wE.cell? ⟨w.heap.size, 2, none⟩ = some (.int .i64 h) := hRE.cell 2 rfl
      have r3 : wE.cell? ⟨w.heap.size, 3, none⟩ = some (.int .i64 s) := hRE.cell 3 rfl
      have s0 : wE.cell? ⟨w.heap.size + 1, 0, none⟩ = some (.slice (some ⟨b1, 0, none⟩) (P + 1) l1) := hSE.cell 0 rfl
      have s1 : wE.cell? ⟨w.heap.size + 1, 1, none⟩ = some (.slice (some ⟨b2, 0, none⟩) (P + 1) l2) := hSE.cell 1 rfl
      exact bodyPost_ret (v := .tuple #[.agg #[.int .i64 (P : Int), .int .i64 (C : Int), .int .i64 h, .int .i64 s], .agg #[.slice (some ⟨b1, 0, none⟩) (P + 1) l1, .slice (some ⟨b2, 0, none⟩) (P + 1) l2]]) (by simp [r0, r1, r2, r3, s0, s1, results, Try.results72, go_sem]) rfl ⟨_, _, _, _, b1, _, _, _, b2, _, _, _, rfl, hbd, h1E, h2E, by omega, by omega, by omega, by omega, hDE⟩
    · by_cases e2 : x = 2
      · subst e2
        have u0 : w6.cell? ⟨bB, 0, none⟩ = some (.slice (some ⟨b1, 0, none⟩) (P + 1) l1) := hB6.cell 0 rfl
        have f0 := hB6.free 0
        have hk1 := ho16.capLe
        have i1 : (K : Int) ≤ (l1 : Int) := by omega
        go_upto_region 17 with fail
        clear u0 f0
        obtain ⟨wz, hwz⟩ : ∃ wz, wz = w6.setCell ⟨bB, 0, none⟩ (.slice (some ⟨b1, 0, none⟩) K l1) := ⟨_, rfl⟩
        rw [← hwz]
        have hVz := hV6.off (p := ⟨bB, 0, none⟩) (.slice (some ⟨b1, 0, none⟩) K l1) (by simp only; omega)
        have hBz := hB6.set 0 (.slice (some ⟨b1, 0, none⟩) K l1)
        have hRz := hR6.off (p := ⟨bB, 0, none⟩) (.slice (some ⟨b1, 0, none⟩) K l1) (by simp only; omega)
        have hSz := hS6.off (p := ⟨bB, 0, none⟩) (.slice (some ⟨b1, 0, none⟩) K l1) (by simp only; omega)
        have hDz := hD6.set (p := ⟨bB, 0, none⟩) (by simp only; omega) (by simp only; omega) (.slice (some ⟨b1, 0, none⟩) K l1)
        have r1z := (ho16.far (p := ⟨bB, 0, none⟩) (by simp only; omega) (.slice (some ⟨b1, 0, none⟩) K l1)).rd.less (show K ≤ P + 1 by omega)
        have r2z := (ho26.far (p := ⟨bB, 0, none⟩) (by simp only; omega) (.slice (some ⟨b1, 0, none⟩) K l1)).rd
        rw [← hwz] at hVz hBz hRz hSz hDz r1z r2z
        clear hwz hV6 hB6 hR6 hS6 hD6 ho16 ho26
        obtain ⟨wE, hwE, HE⟩ := pair_end (p := (P : Int)) (c := (C : Int)) (h := h) (s := s) (l1 := l1) (l2 := l2) hRz hSz r1z r2z hDz hg hb1z hb2z
        have v0 : wz.cell? ⟨bV, 0, none⟩ = some (.int .i64 (P : Int)) := hVz.cell 0 rfl
        have v1 : wz.cell? ⟨bV, 1, none⟩ = some (.int .i64 (C : Int)) := hVz.cell 1 rfl
        have v2 : wz.cell? ⟨bV, 2, none⟩ = some (.int .i64 h) := hVz.cell 2 rfl
        have v3 : wz.cell? ⟨bV, 3, none⟩ = some (.int .i64 s) := hVz.cell 3 rfl
        have u0 : wz.cell? ⟨bB, 0, none⟩ = some (.slice (some ⟨b1, 0, none⟩) K l1) := hBz.cell 0 rfl
        have u1 : wz.cell? ⟨bB, 1, none⟩ = some (.slice (some ⟨b2, 0, none⟩) (P + 1) l2) := hBz.cell 1 rfl
        have r0 : wz.cell? ⟨w.heap.size, 0, none⟩ = some (.int .i64 0) := hRz.cell 0 rfl
        have r1 : wz.cell? ⟨w.heap.size, 1, none⟩ = some (.int .i64 0) := hRz.cell 1 rfl
        have r2 : wz.cell? ⟨w.heap.size, 2, none⟩ = some (.int .i64 0) := hRz.cell 2 rfl
        have r3 : wz.cell? ⟨w.heap.size, 3, none⟩ = some (.int .i64 0) := hRz.cell 3 rfl
        have f0 := hRz.free 0
        have f1 := hRz.free 1
        have f2 := hRz.free 2
        have f3 := hRz.free 3
        have s0 : wz.cell? ⟨w.heap.size + 1, 0, none⟩ = some (.slice none 0 0) := hSz.cell 0 rfl
        have s1 : wz.cell? ⟨w.heap.size + 1, 1, none⟩ = some (.slice none 0 0) := hSz.cell 1 rfl
        have k0 := hSz.free 0
        have k1 := hSz.free 1
        have HWE := Lib.hid hwE
        clear hwE hVz hBz hRz hSz r1z r2z hDz
        go_region_held3 (fun w' => w'.cell? ⟨bV, 0, none⟩ = some (.int .i64 (P : Int)) ∧ w'.cell? ⟨bV, 1, none⟩ = some (.int .i64 (C : Int)) ∧ w'.cell? ⟨bV, 2, none⟩ = some (.int .i64 h) ∧ w'.cell? ⟨bV, 3, none⟩ = some (.int .i64 s) ∧ w'.cell? ⟨bB, 0, none⟩ = some (.slice (some ⟨b1, 0, none⟩) K l1) ∧ w'.cell? ⟨bB, 1, none⟩ = some (.slice (some ⟨b2, 0, none⟩) (P + 1) l2)) (first | (go_split_ands; refine ⟨(by first | with_reducible assumption | (with_reducible refine cellq4d (by omega) ?_; with_reducible assumption) | (with_reducible refine cellq2d (by omega) ?_; with_reducible assumption) | (with_reducible refine cellq2d (by omega) (cellq4 (by omega) ?_); with_reducible assumption) | (with_reducible refine cellqd ?_; with_reducible assumption)), (by first | with_reducible assumption | (with_reducible refine cellq4d (by omega) ?_; with_reducible assumption) | (with_reducible refine cellq2d (by omega) ?_; with_reducible assumption) | (with_reducible refine cellq2d (by omega) (cellq4 (by omega) ?_); with_reducible assumption) | (with_reducible refine cellqd ?_; with_reducible assumption)), (by first | with_reducible assumption | (with_reducible refine cellq4d (by omega) ?_; with_reducible assumption) | (with_reducible refine cellq2d (by omega) ?_; with_reducible assumption) | (with_reducible refine cellq2d (by omega) (cellq4 (by omega) ?_); with_reducible assumption) | (with_reducible refine cellqd ?_; with_reducible assumption)), (by first | with_reducible assumption | (with_reducible refine cellq4d (by omega) ?_; with_reducible assumption) | (with_reducible refine cellq2d (by omega) ?_; with_reducible assumption) | (with_reducible refine cellq2d (by omega) (cellq4 (by omega) ?_); with_reducible assumption) | (with_reducible refine cellqd ?_; with_reducible assumption)), (by first | with_reducible assumption | (with_reducible refine cellq4d (by omega) ?_; with_reducible assumption) | (with_reducible refine cellq2d (by omega) ?_; with_reducible assumption) | (with_reducible refine cellq2d (by omega) (cellq4 (by omega) ?_); with_reducible assumption) | (with_reducible refine cellqd ?_; with_reducible assumption)), (by first | with_reducible assumption | (with_reducible refine cellq4d (by omega) ?_; with_reducible assumption) | (with_reducible refine cellq2d (by omega) ?_; with_reducible assumption) | (with_reducible refine cellq2d (by omega) (cellq4 (by omega) ?_); with_reducible assumption) | (with_reducible refine cellqd ?_; with_reducible assumption))⟩)) (fail)
        rw [← HWE.out]
        go_wp2_with fail
        obtain ⟨hRE, hSE, h1E, h2E, hDE⟩ := HE
        have r0 : wE.cell? ⟨w.heap.size, 0, none⟩ = some (.int .i64 (P : Int)) := hRE.cell 0 rfl
        have r1 : wE.cell? ⟨w.heap.size, 1, none⟩ = some (.int .i64 (C : Int)) := hRE.cell 1 rfl
        have r2 : wE.cell? ⟨w.heap.size, 2, none⟩ = some (.int .i64 h) := hRE.cell 2 rfl
        have r3 : wE.cell? ⟨w.heap.size, 3, none⟩ = some (.int .i64 s) := hRE.cell 3 rfl
        have s0 : wE.cell? ⟨w.heap.size + 1, 0, none⟩ = some (.slice (some ⟨b1, 0, none⟩) K l1) := hSE.cell 0 rfl
        have s1 : wE.cell? ⟨w.heap.size + 1, 1, none⟩ = some (.slice (some ⟨b2, 0, none⟩) (P + 1) l2) := hSE.cell 1 rfl
        exact bodyPost_ret (v := .tuple #[.agg #[.int .i64 (P : Int), .int .i64 (C : Int), .int .i64 h, .int .i64 s], .agg #[.slice (some ⟨b1, 0, none⟩) K l1, .slice (some ⟨b2, 0, none⟩) (P + 1) l2]]) (by simp [r0, r1, r2, r3, s0, s1, results, Try.results72, go_sem]) rfl ⟨_, _, _, _, b1, _, _, _, b2, _, _, _, rfl, hbd, h1E, h2E, by omega, by omega, by omega, by omega, hDE⟩
      · by_cases e3 : x = 3
        · subst e3
          have hP24 : P ≤ 24 := by omega
          have v0 : w6.cell? ⟨bV, 0, none⟩ = some (.int .i64 (P : Int)) := hV6.cell 0 rfl
          have v1 : w6.cell? ⟨bV, 1, none⟩ = some (.int .i64 (C : Int)) := hV6.cell 1 rfl
          have v2 : w6.cell? ⟨bV, 2, none⟩ = some (.int .i64 h) := hV6.cell 2 rfl
          have v3 : w6.cell? ⟨bV, 3, none⟩ = some (.int .i64 s) := hV6.cell 3 rfl
          go_wp2_with fail
          go_region_held3 (fun w' => w'.cell? ⟨bV, 0, none⟩ = some (.int .i64 (P : Int)) ∧ w'.cell? ⟨bV, 1, none⟩ = some (.int .i64 (C : Int)) ∧ w'.cell? ⟨bV, 2, none⟩ = some (.int .i64 h) ∧ w'.cell? ⟨bV, 3, none⟩ = some (.int .i64 s)) (first | (go_split_ands; refine ⟨(by first | with_reducible assumption | (with_reducible refine Past.keep hb8 ?_; first | with_reducible assumption | (with_reducible refine cellqd ?_; with_reducible assumption)) | (with_reducible refine cellq2d (by omega) ?_; with_reducible assumption) | (with_reducible refine cellq2 (by omega) ?_; with_reducible assumption) | (with_reducible refine cellqd ?_; with_reducible assumption)), (by first | with_reducible assumption | (with_reducible refine Past.keep hb8 ?_; first | with_reducible assumption | (with_reducible refine cellqd ?_; with_reducible assumption)) | (with_reducible refine cellq2d (by omega) ?_; with_reducible assumption) | (with_reducible refine cellq2 (by omega) ?_; with_reducible assumption) | (with_reducible refine cellqd ?_; with_reducible assumption)), (by first | with_reducible assumption | (with_reducible refine Past.keep hb8 ?_; first | with_reducible assumption | (with_reducible refine cellqd ?_; with_reducible assumption)) | (with_reducible refine cellq2d (by omega) ?_; with_reducible assumption) | (with_reducible refine cellq2 (by omega) ?_; with_reducible assumption) | (with_reducible refine cellqd ?_; with_reducible assumption)), (by first | with_reducible assumption | (with_reducible refine Past.keep hb8 ?_; first | with_reducible assumption | (with_reducible refine cellqd ?_; with_reducible assumption)) | (with_reducible refine cellq2d (by omega) ?_; with_reducible assumption) | (with_reducible refine cellq2 (by omega) ?_; with_reducible assumption) | (with_reducible refine cellqd ?_; with_reducible assumption))⟩)) (first | (have _ := ho3; go_at_call 104; (try go_split_ands); (with_reducible refine (sEmpty _ _ _ _ _ hP24).mono ?_); rintro e w8 ⟨b4, rfl, ho4, hb9⟩; have hb8 := hb9; have hB8 := (Blk.past (show Blk _ bB _ _ from (by first | assumption | exact Blk.drew (by assumption))) hb9); have u0 : w8.cell? ⟨bB, 0, none⟩ = some (.slice (some ⟨b1, 0, none⟩) (P + 1) l1) := hB8.cell 0 rfl; have u1 : w8.cell? ⟨bB, 1, none⟩ = some (.slice (some ⟨b2, 0, none⟩) (P + 1) l2) := hB8.cell 1 rfl; have k0 := hB8.free 0; have k1 := hB8.free 1) | (go_at_call 104; (try go_split_ands); (with_reducible refine (sEmpty _ _ _ _ _ hP24).mono ?_); rintro e w8 ⟨b3, rfl, ho3, hb7⟩; have hb8 := hb7; have hB8 := (Blk.past (show Blk _ bB _ _ from (by first | assumption | exact Blk.drew (by assumption))) hb7); have u0 : w8.cell? ⟨bB, 0, none⟩ = some (.slice (some ⟨b1, 0, none⟩) (P + 1) l1) := hB8.cell 0 rfl; have u1 : w8.cell? ⟨bB, 1, none⟩ = some (.slice (some ⟨b2, 0, none⟩) (P + 1) l2) := hB8.cell 1 rfl; have k0 := hB8.free 0; have k1 := hB8.free 1))
          have hp : Past w6 w8 := Past.trans ((Past.refl w6).drew) (Past.trans hb7 (by first | exact hb9 | exact Past.trans ((Past.refl _).drew) hb9))
          have hoa := ho3.past (by first | exact hb9 | exact Past.trans ((Past.refl _).drew) hb9)
          have za := own_at hoa
          have zb := own_at ho4
          have zc := hb7.sz
          simp only [size_drew] at za zb zc
          clear u0 u1 k0 k1 v0 v1 v2 v3
          have g1 : b3 ≠ g := by omega
          have g2 : b4 ≠ g := by omega
          have hb1z : w.heap.size + 1 < b3 := by omega
          have hb2z : w.heap.size + 1 < b4 := by omega
          obtain ⟨wz, hwz⟩ : ∃ wz, wz = (w8.setCell ⟨bB, 0, none⟩ (.slice (some ⟨b3, 0, none⟩) (P + 1) (P + 1))).setCell ⟨bB, 1, none⟩ (.slice (some ⟨b4, 0, none⟩) (P + 1) (P + 1)) := ⟨_, rfl⟩
          rw [← hwz]
          have hVz := (hV6.past hp).off2 (b := bB) (v0 := .slice (some ⟨b3, 0, none⟩) (P + 1) (P + 1)) (v1 := .slice (some ⟨b4, 0, none⟩) (P + 1) (P + 1)) (by omega)
          have hBz := (hB6.past hp).put2 (v0 := .slice (some ⟨b3, 0, none⟩) (P + 1) (P + 1)) (v1 := .slice (some ⟨b4, 0, none⟩) (P + 1) (P + 1))
          have hRz := (hR6.past hp).off2 (b := bB) (v0 := .slice (some ⟨b3, 0, none⟩) (P + 1) (P + 1)) (v1 := .slice (some ⟨b4, 0, none⟩) (P + 1) (P + 1)) (by omega)
          have hSz := (hS6.past hp).off2 (b := bB) (v0 := .slice (some ⟨b3, 0, none⟩) (P + 1) (P + 1)) (v1 := .slice (some ⟨b4, 0, none⟩) (P + 1) (P + 1)) (by omega)
          have hDz := (hD6.past hp).put2 (b := bB) (v0 := .slice (some ⟨b3, 0, none⟩) (P + 1) (P + 1)) (v1 := .slice (some ⟨b4, 0, none⟩) (P + 1) (P + 1)) (by omega) (by omega)
          have r1z := hoa.rd.off2 (b := bB) (v0 := .slice (some ⟨b3, 0, none⟩) (P + 1) (P + 1)) (v1 := .slice (some ⟨b4, 0, none⟩) (P + 1) (P + 1)) (by omega)
          have r2z := ho4.rd.off2 (b := bB) (v0 := .slice (some ⟨b3, 0, none⟩) (P + 1) (P + 1)) (v1 := .slice (some ⟨b4, 0, none⟩) (P + 1) (P + 1)) (by omega)
          rw [← hwz] at hVz hBz hRz hSz hDz r1z r2z
          clear hwz hV6 hB6 hR6 hS6 hD6 ho16 ho26
          go_upto_region 17 with fail
          obtain ⟨wE, hwE, HE⟩ := pair_end (p := (P : Int)) (c := (C : Int)) (h := h) (s := s) (l1 := (P + 1)) (l2 := (P + 1)) hRz hSz r1z r2z hDz hg hb1z hb2z
          have v0 : wz.cell? ⟨bV, 0, none⟩ = some (.int .i64 (P : Int)) := hVz.cell 0 rfl
          have v1 : wz.cell? ⟨bV, 1, none⟩ = some (.int .i64 (C : Int)) := hVz.cell 1 rfl
          have v2 : wz.cell? ⟨bV, 2, none⟩ = some (.int .i64 h) := hVz.cell 2 rfl
          have v3 : wz.cell? ⟨bV, 3, none⟩ = some (.int .i64 s) := hVz.cell 3 rfl
          have u0 : wz.cell? ⟨bB, 0, none⟩ = some (.slice (some ⟨b3, 0, none⟩) (P + 1) (P + 1)) := hBz.cell 0 rfl
          have u1 : wz.cell? ⟨bB, 1, none⟩ = some (.slice (some ⟨b4, 0, none⟩) (P + 1) (P + 1)) := hBz.cell 1 rfl
          have r0 : wz.cell? ⟨w.heap.size, 0, none⟩ = some (.int .i64 0) := hRz.cell 0 rfl
          have r1 : wz.cell? ⟨w.heap.size, 1, none⟩ = some (.int .i64 0) := hRz.cell 1 rfl
          have r2 : wz.cell? ⟨w.heap.size, 2, none⟩ = some (.int .i64 0) := hRz.cell 2 rfl
          have r3 : wz.cell? ⟨w.heap.size, 3, none⟩ = some (.int .i64 0) := hRz.cell 3 rfl
          have f0 := hRz.free 0
          have f1 := hRz.free 1
          have f2 := hRz.free 2
          have f3 := hRz.free 3
          have s0 : wz.cell? ⟨w.heap.size + 1, 0, none⟩ = some (.slice none 0 0) := hSz.cell 0 rfl
          have s1 : wz.cell? ⟨w.heap.size + 1, 1, none⟩ = some (.slice none 0 0) := hSz.cell 1 rfl
          have k0 := hSz.free 0
          have k1 := hSz.free 1
          have HWE := Lib.hid hwE
          clear hwE hVz hBz hRz hSz r1z r2z hDz
          go_region_held3 (fun w' => w'.cell? ⟨bV, 0, none⟩ = some (.int .i64 (P : Int)) ∧ w'.cell? ⟨bV, 1, none⟩ = some (.int .i64 (C : Int)) ∧ w'.cell? ⟨bV, 2, none⟩ = some (.int .i64 h) ∧ w'.cell? ⟨bV, 3, none⟩ = some (.int .i64 s) ∧ w'.cell? ⟨bB, 0, none⟩ = some (.slice (some ⟨b3, 0, none⟩) (P + 1) (P + 1)) ∧ w'.cell? ⟨bB, 1, none⟩ = some (.slice (some ⟨b4, 0, none⟩) (P + 1) (P + 1))) (first | (go_split_ands; refine ⟨(by first | with_reducible assumption | (with_reducible refine cellq4d (by omega) ?_; with_reducible assumption) | (with_reducible refine cellq2d (by omega) ?_; with_reducible assumption) | (with_reducible refine cellq2d (by omega) (cellq4 (by omega) ?_); with_reducible assumption) | (with_reducible refine cellqd ?_; with_reducible assumption)), (by first | with_reducible assumption | (with_reducible refine cellq4d (by omega) ?_; with_reducible assumption) | (with_reducible refine cellq2d (by omega) ?_; with_reducible assumption) | (with_reducible refine cellq2d (by omega) (cellq4 (by omega) ?_); with_reducible assumption) | (with_reducible refine cellqd ?_; with_reducible assumption)), (by first | with_reducible assumption | (with_reducible refine cellq4d (by omega) ?_; with_reducible assumption) | (with_reducible refine cellq2d (by omega) ?_; with_reducible assumption) | (with_reducible refine cellq2d (by omega) (cellq4 (by omega) ?_); with_reducible assumption) | (with_reducible refine cellqd ?_; with_reducible assumption)), (by first | with_reducible assumption | (with_reducible refine cellq4d (by omega) ?_; with_reducible assumption) | (with_reducible refine cellq2d (by omega) ?_; with_reducible assumption) | (with_reducible refine cellq2d (by omega) (cellq4 (by omega) ?_); with_reducible assumption) | (with_reducible refine cellqd ?_; with_reducible assumption)), (by first | with_reducible assumption | (with_reducible refine cellq4d (by omega) ?_; with_reducible assumption) | (with_reducible refine cellq2d (by omega) ?_; with_reducible assumption) | (with_reducible refine cellq2d (by omega) (cellq4 (by omega) ?_); with_reducible assumption) | (with_reducible refine cellqd ?_; with_reducible assumption)), (by first | with_reducible assumption | (with_reducible refine cellq4d (by omega) ?_; with_reducible assumption) | (with_reducible refine cellq2d (by omega) ?_; with_reducible assumption) | (with_reducible refine cellq2d (by omega) (cellq4 (by omega) ?_); with_reducible assumption) | (with_reducible refine cellqd ?_; with_reducible assumption))⟩)) (fail)
          rw [← HWE.out]
          go_wp2_with fail
          obtain ⟨hRE, hSE, h1E, h2E, hDE⟩ := HE
          have r0 : wE.cell? ⟨w.heap.size, 0, none⟩ = some (.int .i64 (P : Int)) := hRE.cell 0 rfl
          have r1 : wE.cell? ⟨w.heap.size, 1, none⟩ = some (.int .i64 (C : Int)) := hRE.cell 1 rfl
          have r2 : wE.cell? ⟨w.heap.size, 2, none⟩ = some (.int .i64 h) := hRE.cell 2 rfl
          have r3 : wE.cell? ⟨w.heap.size, 3, none⟩ = some (.int .i64 s) := hRE.cell 3 rfl
          have s0 : wE.cell? ⟨w.heap.size + 1, 0, none⟩ = some (.slice (some ⟨b3, 0, none⟩) (P + 1) (P + 1)) := hSE.cell 0 rfl
          have s1 : wE.cell? ⟨w.heap.size + 1, 1, none⟩ = some (.slice (some ⟨b4, 0, none⟩) (P + 1) (P + 1)) := hSE.cell 1 rfl
          exact bodyPost_ret (v := .tuple #[.agg #[.int .i64 (P : Int), .int .i64 (C : Int), .int .i64 h, .int .i64 s], .agg #[.slice (some ⟨b3, 0, none⟩) (P + 1) (P + 1), .slice (some ⟨b4, 0, none⟩) (P + 1) (P + 1)]]) (by simp [r0, r1, r2, r3, s0, s1, results, Try.results72, go_sem]) rfl ⟨_, _, _, _, b3, _, _, _, b4, _, _, _, rfl, hbd, h1E, h2E, by omega, by omega, by omega, by omega, hDE⟩
        · by_cases e4 : x = 4
          · subst e4
            go_wp2_with fail
            (with_reducible refine (drawAny_any _ _ _ _ _ hD6.src).mono ?_)
            rintro e w7 ⟨p', c', h', s', rfl, hbd', h7⟩
            have hV7 := h7.blk hV6 (by omega)
            have hB7 := h7.blk hB6 (by omega)
            have hR7 := h7.blk hR6 (by omega)
            have hS7 := h7.blk hS6 (by omega)
            have ho17 := h7.ow ho16 (by omega)
            have ho27 := h7.ow ho26 (by omega)
            have hD7 := hD6.trans h7
            have v0 : w7.cell? ⟨bV, 0, none⟩ = some (.int .i64 (P : Int)) := hV7.cell 0 rfl
            have v1 : w7.cell? ⟨bV, 1, none⟩ = some (.int .i64 (C : Int)) := hV7.cell 1 rfl
            have v2 : w7.cell? ⟨bV, 2, none⟩ = some (.int .i64 h) := hV7.cell 2 rfl
            have v3 : w7.cell? ⟨bV, 3, none⟩ = some (.int .i64 s) := hV7.cell 3 rfl
            have f0 := hV7.free 0
            have f1 := hV7.free 1
            have f2 := hV7.free 2
            have f3 := hV7.free 3
            replace hbd := hbd'
            go_upto_region 17 with fail
            clear v0 v1 v2 v3 f0 f1 f2 f3
            obtain ⟨wz, hwz⟩ : ∃ wz, wz = ((((w7.setCell ⟨bV, 0, none⟩ (.int .i64 p')).setCell ⟨bV, 1, none⟩ (.int .i64 c')).setCell ⟨bV, 2, none⟩ (.int .i64 h')).setCell ⟨bV, 3, none⟩ (.int .i64 s')) := ⟨_, rfl⟩
            rw [← hwz]
            have hVz := hV7.put4 (v0 := .int .i64 p') (v1 := .int .i64 c') (v2 := .int .i64 h') (v3 := .int .i64 s')
            have hBz := hB7.off4 (b := bV) (v0 := .int .i64 p') (v1 := .int .i64 c') (v2 := .int .i64 h') (v3 := .int .i64 s') (by omega)
            have hRz := hR7.off4 (b := bV) (v0 := .int .i64 p') (v1 := .int .i64 c') (v2 := .int .i64 h') (v3 := .int .i64 s') (by omega)
            have hSz := hS7.off4 (b := bV) (v0 := .int .i64 p') (v1 := .int .i64 c') (v2 := .int .i64 h') (v3 := .int .i64 s') (by omega)
            have hDz := hD7.put4 (b := bV) (v0 := .int .i64 p') (v1 := .int .i64 c') (v2 := .int .i64 h') (v3 := .int .i64 s') (by omega) (by omega)
            have r1z := ho17.rd.off4 (b := bV) (v0 := .int .i64 p') (v1 := .int .i64 c') (v2 := .int .i64 h') (v3 := .int .i64 s') (by omega)
            have r2z := ho27.rd.off4 (b := bV) (v0 := .int .i64 p') (v1 := .int .i64 c') (v2 := .int .i64 h') (v3 := .int .i64 s') (by omega)
            rw [← hwz] at hVz hBz hRz hSz hDz r1z r2z
            clear hwz hV6 hB6 hR6 hS6 hD6 ho16 ho26
            obtain ⟨wE, hwE, HE⟩ := pair_end (p := p') (c := c') (h := h') (s := s') (l1 := l1) (l2 := l2) hRz hSz r1z r2z hDz hg hb1z hb2z
            have v0 : wz.cell? ⟨bV, 0, none⟩ = some (.int .i64 p') := hVz.cell 0 rfl
            have v1 : wz.cell? ⟨bV, 1, none⟩ = some (.int .i64 c') := hVz.cell 1 rfl
            have v2 : wz.cell? ⟨bV, 2, none⟩ = some (.int .i64 h') := hVz.cell 2 rfl
            have v3 : wz.cell? ⟨bV, 3, none⟩ = some (.int .i64 s') := hVz.cell 3 rfl
            have u0 : wz.cell? ⟨bB, 0, none⟩ = some (.slice (some ⟨b1, 0, none⟩) (P + 1) l1) := hBz.cell 0 rfl
            have u1 : wz.cell? ⟨bB, 1, none⟩ = some (.slice (some ⟨b2, 0, none⟩) (P + 1) l2) := hBz.cell 1 rfl
            have r0 : wz.cell? ⟨w.heap.size, 0, none⟩ = some (.int .i64 0) := hRz.cell 0 rfl
            have r1 : wz.cell? ⟨w.heap.size, 1, none⟩ = some (.int .i64 0) := hRz.cell 1 rfl
            have r2 : wz.cell? ⟨w.heap.size, 2, none⟩ = some (.int .i64 0) := hRz.cell 2 rfl
            have r3 : wz.cell? ⟨w.heap.size, 3, none⟩ = some (.int .i64 0) := hRz.cell 3 rfl
            have f0 := hRz.free 0
            have f1 := hRz.free 1
            have f2 := hRz.free 2
            have f3 := hRz.free 3
            have s0 : wz.cell? ⟨w.heap.size + 1, 0, none⟩ = some (.slice none 0 0) := hSz.cell 0 rfl
            have s1 : wz.cell? ⟨w.heap.size + 1, 1, none⟩ = some (.slice none 0 0) := hSz.cell 1 rfl
            have k0 := hSz.free 0
            have k1 := hSz.free 1
            have HWE := Lib.hid hwE
            clear hwE hVz hBz hRz hSz r1z r2z hDz
            go_region_held3 (fun w' => w'.cell? ⟨bV, 0, none⟩ = some (.int .i64 p') ∧ w'.cell? ⟨bV, 1, none⟩ = some (.int .i64 c') ∧ w'.cell? ⟨bV, 2, none⟩ = some (.int .i64 h') ∧ w'.cell? ⟨bV, 3, none⟩ = some (.int .i64 s') ∧ w'.cell? ⟨bB, 0, none⟩ = some (.slice (some ⟨b1, 0, none⟩) (P + 1) l1) ∧ w'.cell? ⟨bB, 1, none⟩ = some (.slice (some ⟨b2, 0, none⟩) (P + 1) l2)) (first | (go_split_ands; refine ⟨(by first | with_reducible assumption | (with_reducible refine cellq4d (by omega) ?_; with_reducible assumption) | (with_reducible refine cellq2d (by omega) ?_; with_reducible assumption) | (with_reducible refine cellq2d (by omega) (cellq4 (by omega) ?_); with_reducible assumption) | (with_reducible refine cellqd ?_; with_reducible assumption)), (by first | with_reducible assumption | (with_reducible refine cellq4d (by omega) ?_; with_reducible assumption) | (with_reducible refine cellq2d (by omega) ?_; with_reducible assumption) | (with_reducible refine cellq2d (by omega) (cellq4 (by omega) ?_); with_reducible assumption) | (with_reducible refine cellqd ?_; with_reducible assumption)), (by first | with_reducible assumption | (with_reducible refine cellq4d (by omega) ?_; with_reducible assumption) | (with_reducible refine cellq2d (by omega) ?_; with_reducible assumption) | (with_reducible refine cellq2d (by omega) (cellq4 (by omega) ?_); with_reducible assumption) | (with_reducible refine cellqd ?_; with_reducible assumption)), (by first | with_reducible assumption | (with_reducible refine cellq4d (by omega) ?_; with_reducible assumption) | (with_reducible refine cellq2d (by omega) ?_; with_reducible assumption) | (with_reducible refine cellq2d (by omega) (cellq4 (by omega) ?_); with_reducible assumption) | (with_reducible refine cellqd ?_; with_reducible assumption)), (by first | with_reducible assumption | (with_reducible refine cellq4d (by omega) ?_; with_reducible assumption) | (with_reducible refine cellq2d (by omega) ?_; with_reducible assumption) | (with_reducible refine cellq2d (by omega) (cellq4 (by omega) ?_); with_reducible assumption) | (with_reducible refine cellqd ?_; with_reducible assumption)), (by first | with_reducible assumption | (with_reducible refine cellq4d (by omega) ?_; with_reducible assumption) | (with_reducible refine cellq2d (by omega) ?_; with_reducible assumption) | (with_reducible refine cellq2d (by omega) (cellq4 (by omega) ?_); with_reducible assumption) | (with_reducible refine cellqd ?_; with_reducible assumption))⟩)) (fail)
            rw [← HWE.out]
            go_wp2_with fail
            obtain ⟨hRE, hSE, h1E, h2E, hDE⟩ := HE
            have r0 : wE.cell? ⟨w.heap.size, 0, none⟩ = some (.int .i64 p') := hRE.cell 0 rfl
            have r1 : wE.cell? ⟨w.heap.size, 1, none⟩ = some (.int .i64 c') := hRE.cell 1 rfl
            have r2 : wE.cell? ⟨w.heap.size, 2, none⟩ = some (.int .i64 h') := hRE.cell 2 rfl
            have r3 : wE.cell? ⟨w.heap.size, 3, none⟩ = some (.int .i64 s') := hRE.cell 3 rfl
            have s0 : wE.cell? ⟨w.heap.size + 1, 0, none⟩ = some (.slice (some ⟨b1, 0, none⟩) (P + 1) l1) := hSE.cell 0 rfl
            have s1 : wE.cell? ⟨w.heap.size + 1, 1, none⟩ = some (.slice (some ⟨b2, 0, none⟩) (P + 1) l2) := hSE.cell 1 rfl
            exact bodyPost_ret (v := .tuple #[.agg #[.int .i64 p', .int .i64 c', .int .i64 h', .int .i64 s'], .agg #[.slice (some ⟨b1, 0, none⟩) (P + 1) l1, .slice (some ⟨b2, 0, none⟩) (P + 1) l2]]) (by simp [r0, r1, r2, r3, s0, s1, results, Try.results72, go_sem]) rfl ⟨_, _, _, _, b1, _, _, _, b2, _, _, _, rfl, hbd, h1E, h2E, by omega, by omega, by omega, by omega, hDE⟩
          · by_cases e5 : x = 5
            · subst e5
              obtain ⟨a, ha⟩ : ∃ a, L2[K]? = some a := ⟨_, List.getElem?_eq_getElem (show K < L2.length by rw [ho26.len]; omega)⟩
              have hab := hF2.get ha
              have p1 := ho26.cellj K (by omega) a ha
              have p2 := ho26.freej K
              have u0 : w6.cell? ⟨bB, 1, none⟩ = some (.slice (some ⟨b2, 0, none⟩) (P + 1) l2) := hB6.cell 1 rfl
              have i1 : (K : Int) < ((P + 1 : Nat) : Int) := by omega
              go_wp2_with fail
              go_region
              clear p1 p2 u0 ha
              obtain ⟨wz, hwz⟩ : ∃ wz, wz = (w6.setCell ⟨b2, K, none⟩ (.int .i64 (a + 1))).drew := ⟨_, rfl⟩
              rw [← hwz]
              have hVz := (hV6.off (p := ⟨b2, K, none⟩) (.int .i64 (a + 1)) (by simp only; omega)).drew
              have hBz := (hB6.off (p := ⟨b2, K, none⟩) (.int .i64 (a + 1)) (by simp only; omega)).drew
              have hRz := (hR6.off (p := ⟨b2, K, none⟩) (.int .i64 (a + 1)) (by simp only; omega)).drew
              have hSz := (hS6.off (p := ⟨b2, K, none⟩) (.int .i64 (a + 1)) (by simp only; omega)).drew
              have hDz := (hD6.set (p := ⟨b2, K, none⟩) (by simp only; omega) (by simp only; omega) (.int .i64 (a + 1))).drew
              have r1z := (ho16.far (p := ⟨b2, K, none⟩) (by simp only; omega) (.int .i64 (a + 1))).drew.rd
              have r2z := (ho26.set1 K (a + 1)).drew.rd
              rw [← hwz] at hVz hBz hRz hSz hDz r1z r2z
              clear hwz hV6 hB6 hR6 hS6 hD6 ho16 ho26
              go_upto_region 17 with fail
              obtain ⟨wE, hwE, HE⟩ := pair_end (p := (P : Int)) (c := (C : Int)) (h := h) (s := s) (l1 := l1) (l2 := l2) hRz hSz r1z r2z hDz hg hb1z hb2z
              have v0 : wz.cell? ⟨bV, 0, none⟩ = some (.int .i64 (P : Int)) := hVz.cell 0 rfl
              have v1 : wz.cell? ⟨bV, 1, none⟩ = some (.int .i64 (C : Int)) := hVz.cell 1 rfl
              have v2 : wz.cell? ⟨bV, 2, none⟩ = some (.int .i64 h) := hVz.cell 2 rfl
              have v3 : wz.cell? ⟨bV, 3, none⟩ = some (.int .i64 s) := hVz.cell 3 rfl
              have u0 : wz.cell? ⟨bB, 0, none⟩ = some (.slice (some ⟨b1, 0, none⟩) (P + 1) l1) := hBz.cell 0 rfl
              have u1 : wz.cell? ⟨bB, 1, none⟩ = some (.slice (some ⟨b2, 0, none⟩) (P + 1) l2) := hBz.cell 1 rfl
              have r0 : wz.cell? ⟨w.heap.size, 0, none⟩ = some (.int .i64 0) := hRz.cell 0 rfl
              have r1 : wz.cell? ⟨w.heap.size, 1, none⟩ = some (.int .i64 0) := hRz.cell 1 rfl
              have r2 : wz.cell? ⟨w.heap.size, 2, none⟩ = some (.int .i64 0) := hRz.cell 2 rfl
              have r3 : wz.cell? ⟨w.heap.size, 3, none⟩ = some (.int .i64 0) := hRz.cell 3 rfl
              have f0 := hRz.free 0
              have f1 := hRz.free 1
              have f2 := hRz.free 2
              have f3 := hRz.free 3
              have s0 : wz.cell? ⟨w.heap.size + 1, 0, none⟩ = some (.slice none 0 0) := hSz.cell 0 rfl
              have s1 : wz.cell? ⟨w.heap.size + 1, 1, none⟩ = some (.slice none 0 0) := hSz.cell 1 rfl
              have k0 := hSz.free 0
              have k1 := hSz.free 1
              have HWE := Lib.hid hwE
              clear hwE hVz hBz hRz hSz r1z r2z hDz
              go_region_held3 (fun w' => w'.cell? ⟨bV, 0, none⟩ = some (.int .i64 (P : Int)) ∧ w'.cell? ⟨bV, 1, none⟩ = some (.int .i64 (C : Int)) ∧ w'.cell? ⟨bV, 2, none⟩ = some (.int .i64 h) ∧ w'.cell? ⟨bV, 3, none⟩ = some (.int .i64 s) ∧ w'.cell? ⟨bB, 0, none⟩ = some (.slice (some ⟨b1, 0, none⟩) (P + 1) l1) ∧ w'.cell? ⟨bB, 1, none⟩ = some (.slice (some ⟨b2, 0, none⟩) (P + 1) l2)) (first | (go_split_ands; refine ⟨(by first | with_reducible assumption | (with_reducible refine cellq4d (by omega) ?_; with_reducible assumption) | (with_reducible refine cellq2d (by omega) ?_; with_reducible assumption) | (with_reducible refine cellq2d (by omega) (cellq4 (by omega) ?_); with_reducible assumption) | (with_reducible refine cellqd ?_; with_reducible assumption)), (by first | with_reducible assumption | (with_reducible refine cellq4d (by omega) ?_; with_reducible assumption) | (with_reducible refine cellq2d (by omega) ?_; with_reducible assumption) | (with_reducible refine cellq2d (by omega) (cellq4 (by omega) ?_); with_reducible assumption) | (with_reducible refine cellqd ?_; with_reducible assumption)), (by first | with_reducible assumption | (with_reducible refine cellq4d (by omega) ?_; with_reducible assumption) | (with_reducible refine cellq2d (by omega) ?_; with_reducible assumption) | (with_reducible refine cellq2d (by omega) (cellq4 (by omega) ?_); with_reducible assumption) | (with_reducible refine cellqd ?_; with_reducible assumption)), (by first | with_reducible assumption | (with_reducible refine cellq4d (by omega) ?_; with_reducible assumption) | (with_reducible refine cellq2d (by omega) ?_; with_reducible assumption) | (with_reducible refine cellq2d (by omega) (cellq4 (by omega) ?_); with_reducible assumption) | (with_reducible refine cellqd ?_; with_reducible assumption)), (by first | with_reducible assumption | (with_reducible refine cellq4d (by omega) ?_; with_reducible assumption) | (with_reducible refine cellq2d (by omega) ?_; with_reducible assumption) | (with_reducible refine cellq2d (by omega) (cellq4 (by omega) ?_); with_reducible assumption) | (with_reducible refine cellqd ?_; with_reducible assumption)), (by first | with_reducible assumption | (with_reducible refine cellq4d (by omega) ?_; with_reducible assumption) | (with_reducible refine cellq2d (by omega) ?_; with_reducible assumption) | (with_reducible refine cellq2d (by omega) (cellq4 (by omega) ?_); with_reducible assumption) | (with_reducible refine cellqd ?_; with_reducible assumption))⟩)) (fail)
              rw [← HWE.out]
              go_wp2_with fail
              obtain ⟨hRE, hSE, h1E, h2E, hDE⟩ := HE
              have r0 : wE.cell? ⟨w.heap.size, 0, none⟩ = some (.int .i64 (P : Int)) := hRE.cell 0 rfl
              have r1 : wE.cell? ⟨w.heap.size, 1, none⟩ = some (.int .i64 (C : Int)) := hRE.cell 1 rfl
              have r2 : wE.cell? ⟨w.heap.size, 2, none⟩ = some (.int .i64 h) := hRE.cell 2 rfl
              have r3 : wE.cell? ⟨w.heap.size, 3, none⟩ = some (.int .i64 s) := hRE.cell 3 rfl
              have s0 : wE.cell? ⟨w.heap.size + 1, 0, none⟩ = some (.slice (some ⟨b1, 0, none⟩) (P + 1) l1) := hSE.cell 0 rfl
              have s1 : wE.cell? ⟨w.heap.size + 1, 1, none⟩ = some (.slice (some ⟨b2, 0, none⟩) (P + 1) l2) := hSE.cell 1 rfl
              exact bodyPost_ret (v := .tuple #[.agg #[.int .i64 (P : Int), .int .i64 (C : Int), .int .i64 h, .int .i64 s], .agg #[.slice (some ⟨b1, 0, none⟩) (P + 1) l1, .slice (some ⟨b2, 0, none⟩) (P + 1) l2]]) (by simp [r0, r1, r2, r3, s0, s1, results, Try.results72, go_sem]) rfl ⟨_, _, _, _, b1, _, _, _, b2, _, _, _, rfl, hbd, h1E, h2E, by omega, by omega, by omega, by omega, hDE⟩
            · go_upto_region 17 with fail
              obtain ⟨wz, hwz⟩ : ∃ wz, wz = w6 := ⟨_, rfl⟩
              rw [← hwz]
              have hVz := hV6
              have hBz := hB6
              have hRz := hR6
              have hSz := hS6
              have hDz := hD6
              have r1z := ho16.rd
              have r2z := ho26.rd
              rw [← hwz] at hVz hBz hRz hSz hDz r1z r2z
              clear hwz hV6 hB6 hR6 hS6 hD6 ho16 ho26
              obtain ⟨wE, hwE, HE⟩ := pair_end (p := (P : Int)) (c := (C : Int)) (h := h) (s := s) (l1 := l1) (l2 := l2) hRz hSz r1z r2z hDz hg hb1z hb2z
              have v0 : wz.cell? ⟨bV, 0, none⟩ = some (.int .i64 (P : Int)) := hVz.cell 0 rfl
              have v1 : wz.cell? ⟨bV, 1, none⟩ = some (.int .i64 (C : Int)) := hVz.cell 1 rfl
              have v2 : wz.cell? ⟨bV, 2, none⟩ = some (.int .i64 h) := hVz.cell 2 rfl
              have v3 : wz.cell? ⟨bV, 3, none⟩ = some (.int .i64 s) := hVz.cell 3 rfl
              have u0 : wz.cell? ⟨bB, 0, none⟩ = some (.slice (some ⟨b1, 0, none⟩) (P + 1) l1) := hBz.cell 0 rfl
              have u1 : wz.cell? ⟨bB, 1, none⟩ = some (.slice (some ⟨b2, 0, none⟩) (P + 1) l2) := hBz.cell 1 rfl
              have r0 : wz.cell? ⟨w.heap.size, 0, none⟩ = some (.int .i64 0) := hRz.cell 0 rfl
              have r1 : wz.cell? ⟨w.heap.size, 1, none⟩ = some (.int .i64 0) := hRz.cell 1 rfl
              have r2 : wz.cell? ⟨w.heap.size, 2, none⟩ = some (.int .i64 0) := hRz.cell 2 rfl
              have r3 : wz.cell? ⟨w.heap.size, 3, none⟩ = some (.int .i64 0) := hRz.cell 3 rfl
              have f0 := hRz.free 0
              have f1 := hRz.free 1
              have f2 := hRz.free 2
              have f3 := hRz.free 3
              have s0 : wz.cell? ⟨w.heap.size + 1, 0, none⟩ = some (.slice none 0 0) := hSz.cell 0 rfl
              have s1 : wz.cell? ⟨w.heap.size + 1, 1, none⟩ = some (.slice none 0 0) := hSz.cell 1 rfl
              have k0 := hSz.free 0
              have k1 := hSz.free 1
              have HWE := Lib.hid hwE
              clear hwE hVz hBz hRz hSz r1z r2z hDz
              go_region_held3 (fun w' => w'.cell? ⟨bV, 0, none⟩ = some (.int .i64 (P : Int)) ∧ w'.cell? ⟨bV, 1, none⟩ = some (.int .i64 (C : Int)) ∧ w'.cell? ⟨bV, 2, none⟩ = some (.int .i64 h) ∧ w'.cell? ⟨bV, 3, none⟩ = some (.int .i64 s) ∧ w'.cell? ⟨bB, 0, none⟩ = some (.slice (some ⟨b1, 0, none⟩) (P + 1) l1) ∧ w'.cell? ⟨bB, 1, none⟩ = some (.slice (some ⟨b2, 0, none⟩) (P + 1) l2)) (first | (go_split_ands; refine ⟨(by first | with_reducible assumption | (with_reducible refine cellq4d (by omega) ?_; with_reducible assumption) | (with_reducible refine cellq2d (by omega) ?_; with_reducible assumption) | (with_reducible refine cellq2d (by omega) (cellq4 (by omega) ?_); with_reducible assumption) | (with_reducible refine cellqd ?_; with_reducible assumption)), (by first | with_reducible assumption | (with_reducible refine cellq4d (by omega) ?_; with_reducible assumption) | (with_reducible refine cellq2d (by omega) ?_; with_reducible assumption) | (with_reducible refine cellq2d (by omega) (cellq4 (by omega) ?_); with_reducible assumption) | (with_reducible refine cellqd ?_; with_reducible assumption)), (by first | with_reducible assumption | (with_reducible refine cellq4d (by omega) ?_; with_reducible assumption) | (with_reducible refine cellq2d (by omega) ?_; with_reducible assumption) | (with_reducible refine cellq2d (by omega) (cellq4 (by omega) ?_); with_reducible assumption) | (with_reducible refine cellqd ?_; with_reducible assumption)), (by first | with_reducible assumption | (with_reducible refine cellq4d (by omega) ?_; with_reducible assumption) | (with_reducible refine cellq2d (by omega) ?_; with_reducible assumption) | (with_reducible refine cellq2d (by omega) (cellq4 (by omega) ?_); with_reducible assumption) | (with_reducible refine cellqd ?_; with_reducible assumption)), (by first | with_reducible assumption | (with_reducible refine cellq4d (by omega) ?_; with_reducible assumption) | (with_reducible refine cellq2d (by omega) ?_; with_reducible assumption) | (with_reducible refine cellq2d (by omega) (cellq4 (by omega) ?_); with_reducible assumption) | (with_reducible refine cellqd ?_; with_reducible assumption)), (by first | with_reducible assumption | (with_reducible refine cellq4d (by omega) ?_; with_reducible assumption) | (with_reducible refine cellq2d (by omega) ?_; with_reducible assumption) | (with_reducible refine cellq2d (by omega) (cellq4 (by omega) ?_); with_reducible assumption) | (with_reducible refine cellqd ?_; with_reducible assumption))⟩)) (fail)
              rw [← HWE.out]
              go_wp2_with fail
              obtain ⟨hRE, hSE, h1E, h2E, hDE⟩ := HE
              have r0 : wE.cell? ⟨w.heap.size, 0, none⟩ = some (.int .i64 (P : Int)) := hRE.cell 0 rfl
              have r1 : wE.cell? ⟨w.heap.size, 1, none⟩ = some (.int .i64 (C : Int)) := hRE.cell 1 rfl
              have r2 : wE.cell? ⟨w.heap.size, 2, none⟩ = some (.int .i64 h) := hRE.cell 2 rfl
              have r3 : wE.cell? ⟨w.heap.size, 3, none⟩ = some (.int .i64 s) := hRE.cell 3 rfl
              have s0 : wE.cell? ⟨w.heap.size + 1, 0, none⟩ = some (.slice (some ⟨b1, 0, none⟩) (P + 1) l1) := hSE.cell 0 rfl
              have s1 : wE.cell? ⟨w.heap.size + 1, 1, none⟩ = some (.slice (some ⟨b2, 0, none⟩) (P + 1) l2) := hSE.cell 1 rfl
              exact bodyPost_ret (v := .tuple #[.agg #[.int .i64 (P : Int), .int .i64 (C : Int), .int .i64 h, .int .i64 s], .agg #[.slice (some ⟨b1, 0, none⟩) (P + 1) l1, .slice (some ⟨b2, 0, none⟩) (P + 1) l2]]) (by simp [r0, r1, r2, r3, s0, s1, results, Try.results72, go_sem]) rfl ⟨_, _, _, _, b1, _, _, _, b2, _, _, _, rfl, hbd, h1E, h2E, by omega, by omega, by omega, by omega, hDE⟩

end Go.Proofs.Ytapocfgajkkpdaa
