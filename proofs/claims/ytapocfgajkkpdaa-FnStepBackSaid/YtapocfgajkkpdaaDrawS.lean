/-
  Contracts: a variant and a number that the reference draws.
-/
import Derived.Test.YtapocfgajkkpdaaDrawV
import Derived.Test.YtapocfgajkkpdaaChoose
namespace Go.Proofs.Ytapocfgajkkpdaa
open Go.ChangeShapes Go.WideShapes Go.ChangeAt Go.RowKit Go.Joins

theorem Drew.fz {a b : World} {g d i : Nat} {A : Option Addr} {n k : Nat} (h : Drew a g A n k b) (hf : (∃ v, a.cell? ⟨d, i, none⟩ = some v) ∧ a.frozen? ⟨d, i, none⟩ = false) (hs : d ≠ g) : b.frozen? ⟨d, i, none⟩ = false := by
  obtain ⟨⟨v, hv⟩, hf⟩ := hf
  exact (h.2.frozen (World.block_lt_of_cell? a _ hv) (by simp only; omega)).trans hf
theorem Src.drew {w : World} {g : Nat} {A : Option Addr} {n k : Nat} (h : Src w g A n k) : Src w.drew g A n k := h.past (Past.refl w).drew
theorem cell4 {w : World} {b d i : Nat} {v0 v1 v2 v3 v : Value} (hb : d ≠ b) (h : w.cell? ⟨d, i, none⟩ = some v) :
    ((((w.setCell ⟨b, 0, none⟩ v0).setCell ⟨b, 1, none⟩ v1).setCell ⟨b, 2, none⟩ v2).setCell ⟨b, 3, none⟩ v3).cell? ⟨d, i, none⟩ = some v := by
  rw [World.cell?_setCell_other _ _ _ _ (fun h => hb (by have := congrArg Addr.block h; simp only at this; omega)), World.cell?_setCell_other _ _ _ _ (fun h => hb (by have := congrArg Addr.block h; simp only at this; omega)), World.cell?_setCell_other _ _ _ _ (fun h => hb (by have := congrArg Addr.block h; simp only at this; omega)), World.cell?_setCell_other _ _ _ _ (fun h => hb (by have := congrArg Addr.block h; simp only at this; omega))]
  exact h
theorem past4 {w x : World} {v0 v1 v2 v3 : Value} (h : Past w x) :
    Past w ((((x.setCell ⟨w.heap.size, 0, none⟩ v0).setCell ⟨w.heap.size, 1, none⟩ v1).setCell ⟨w.heap.size, 2, none⟩ v2).setCell ⟨w.heap.size, 3, none⟩ v3) :=
  (((h.setCell (p := ⟨w.heap.size, 0, none⟩) (Nat.le_refl _) v0).setCell (p := ⟨w.heap.size, 1, none⟩) (Nat.le_refl _) v1).setCell (p := ⟨w.heap.size, 2, none⟩) (Nat.le_refl _) v2).setCell (p := ⟨w.heap.size, 3, none⟩) (Nat.le_refl _) v3
/-- A variant and a number that a draw hands back. -/
def VarNum (w : World) (e : Ending) (w' : World) : Prop :=
  ∃ p c h s N, e = .returned (.tuple #[.agg #[.int .i64 p, .int .i64 c, .int .i64 h, .int .i64 s], .int .i64 N]) ∧ vBd p c h s ∧ Past w w'
set_option maxHeartbeats 1000000 in
theorem drawSideOf_any (A : Option Addr) (n k : Nat) (w : World) (hx : RdC w w.heap.size A n) (hn : n ≤ 5000) :
    Calls Try.prog 12 #[.slice A n k] w (VarNum w) := by
  obtain ⟨w0, hw0⟩ : ∃ w0, w0 = w.alloc (.cells #[.int .i64 0, .int .i64 0, .int .i64 0, .int .i64 0] 25) := ⟨_, rfl⟩
  have hR : Blk w0 w.heap.size 25 #[.int .i64 0, .int .i64 0, .int .i64 0, .int .i64 0] := by rw [hw0]; exact Blk.new _ _ _
  have hp0 : Past w w0 := by rw [hw0]; exact (by repeat (first | exact Past.refl _ | assumption | refine Past.alloc ?_ _ | refine Past.drew ?_ | refine Past.drewN ?_ _ | refine Past.setCell ?_ (by first | (simp; done) | (simp <;> omega)) _ | refine Past.trans ?_ (past_over _ _) | refine Past.trans ?_ (by assumption)))
  have hz0 := hR.lt
  go_enter Try.func12, Try.ntmps12
  go_upto_region 1 with fail
  rw [← hw0]
  clear hw0
  go_wp2_with fail
  (with_reducible refine (from_any _ _ _ _ (hx.past hp0 hp0.sz) hn).mono ?_)
  rintro e w1 ⟨g, rfl, hs1, hg1, hp1⟩
  have hR1 := hR.past hp1
  go_wp2_with fail
  (with_reducible refine (drawAny_any _ _ _ _ _ hs1).mono ?_)
  rintro e w2 ⟨P, C, H, S, rfl, hbd, h2⟩
  have hR2 := h2.blk hR1 (by omega)
  have hgz := h2.src.lt
  have hp2 : Past w w2 := h2.pastOf (hp0.trans hp1) (by omega)
  go_upto_region 3 with fail
  obtain ⟨w3, hw3⟩ : ∃ w3, w3 = w2.alloc (.cells #[.int .i64 P, .int .i64 C, .int .i64 H, .int .i64 S] 25) := ⟨_, rfl⟩
  rw [← hw3]
  have hV : Blk w3 w2.heap.size 25 #[.int .i64 P, .int .i64 C, .int .i64 H, .int .i64 S] := by rw [hw3]; exact Blk.new _ _ _
  have hpw : Past w2 w3 := by rw [hw3]; exact (Past.refl w2).alloc _
  have hs3 := h2.src.past hpw
  have hR3 := hR2.past hpw
  have hp3 := hp2.trans hpw
  obtain ⟨bV, hbV⟩ : ∃ b, b = w2.heap.size := ⟨_, rfl⟩
  rw [← hbV] at hV hgz ⊢
  have hzV := hp2.sz
  rw [← hbV] at hzV
  clear hw3 hbV hR hR1 hR2 h2 hs1 hp0 hp1 hp2 hpw
  have c0 : w3.cell? ⟨bV, 0, none⟩ = some (.int .i64 P) := hV.cell 0 rfl
  have c1 : w3.cell? ⟨bV, 1, none⟩ = some (.int .i64 C) := hV.cell 1 rfl
  have c2 : w3.cell? ⟨bV, 2, none⟩ = some (.int .i64 H) := hV.cell 2 rfl
  have c3 : w3.cell? ⟨bV, 3, none⟩ = some (.int .i64 S) := hV.cell 3 rfl
  have hcnt : countF P C H S = -1 ∨ 1 ≤ countF P C H S ∧ countF P C H S ≤ 100000000000 := by
    unfold countF
    split
    · rename_i hv
      obtain ⟨_, _, _, _⟩ := vOk_yes hv
      exact .inr (cntI_bd (by omega) (by omega))
    · exact .inl rfl
  have hsc := fun w => sSideCount P C H S w
  generalize countF P C H S = N at hcnt hsc
  go_wp2_with fail
  (with_reducible refine (hsc _).mono ?_)
  rintro e w4 ⟨rfl, hp4⟩
  have hV4 := hV.past hp4
  have hR4 := hR3.past hp4
  have hs4 := hs3.past hp4
  clear c0 c1 c2 c3 hV hR3 hs3 hsc
  go_wp2_with fail
  (with_reducible refine (next_any _ _ _ _ _ _ hs4 (by omega)).mono ?_)
  rintro e w5 ⟨x, rfl, x0, x1, h5⟩
  have hV5 := h5.blk hV4 (by omega)
  have hR5 := h5.blk hR4 (by omega)
  have hS := h5.src
  have hpE : Past w w5 := h5.pastOf (hp3.trans hp4) (by omega)
  have hzV5 : w.heap.size < bV := by omega
  clear h5 hs4 hV4 hR4 hp3 hp4
  have c0 : w5.cell? ⟨bV, 0, none⟩ = some (.int .i64 P) := hV5.cell 0 rfl
  have c1 : w5.cell? ⟨bV, 1, none⟩ = some (.int .i64 C) := hV5.cell 1 rfl
  have c2 : w5.cell? ⟨bV, 2, none⟩ = some (.int .i64 H) := hV5.cell 2 rfl
  have c3 : w5.cell? ⟨bV, 3, none⟩ = some (.int .i64 S) := hV5.cell 3 rfl
  have hne : bV ≠ w.heap.size := by omega
  by_cases e0 : x = 0
  · subst e0
    go_wp2_with fail
    go_region_held3 (fun w' => w'.cell? ⟨bV, 0, none⟩ = some (.int .i64 P) ∧ w'.cell? ⟨bV, 1, none⟩ = some (.int .i64 C) ∧ w'.cell? ⟨bV, 2, none⟩ = some (.int .i64 H) ∧ w'.cell? ⟨bV, 3, none⟩ = some (.int .i64 S) ∧ Past w w') (first | (go_split_ands; refine ⟨(by first | with_reducible assumption | (with_reducible refine cell4 (by omega) ?_; assumption) | (with_reducible refine Drew.cell hd ?_ (by simp only; omega); assumption) | assumption), (by first | with_reducible assumption | (with_reducible refine cell4 (by omega) ?_; assumption) | (with_reducible refine Drew.cell hd ?_ (by simp only; omega); assumption) | assumption), (by first | with_reducible assumption | (with_reducible refine cell4 (by omega) ?_; assumption) | (with_reducible refine Drew.cell hd ?_ (by simp only; omega); assumption) | assumption), (by first | with_reducible assumption | (with_reducible refine cell4 (by omega) ?_; assumption) | (with_reducible refine Drew.cell hd ?_ (by simp only; omega); assumption) | assumption), ?_⟩; first | with_reducible assumption | (with_reducible (refine past4 ?_; first | with_reducible assumption | (refine Past.drew ?_; with_reducible assumption))) | (with_reducible (refine Drew.pastOf hd ?_ (by omega); first | with_reducible assumption | (refine Past.drew ?_; with_reducible assumption))) | (with_reducible (refine Past.drew ?_; with_reducible assumption)))) (first | (go_at_call 65; (try go_split_ands); (with_reducible refine (next_any _ _ _ _ _ _ (by first | assumption | exact Src.drew (by assumption)) (by omega)).mono ?_); rintro e w9 ⟨y1, rfl, y10, y11, hd1⟩; have hd := hd1; have s9 := hd.src; have hR9 := hd.blk (show Blk _ w.heap.size _ _ from (by first | assumption | exact Blk.drew (by assumption))) (by omega); have r0 : w9.cell? ⟨w.heap.size, 0, none⟩ = some (.int .i64 0) := hR9.cell 0 rfl; have f0 := hR9.free 0; have r1 : w9.cell? ⟨w.heap.size, 1, none⟩ = some (.int .i64 0) := hR9.cell 1 rfl; have f1 := hR9.free 1; have r2 : w9.cell? ⟨w.heap.size, 2, none⟩ = some (.int .i64 0) := hR9.cell 2 rfl; have f2 := hR9.free 2; have r3 : w9.cell? ⟨w.heap.size, 3, none⟩ = some (.int .i64 0) := hR9.cell 3 rfl; have f3 := hR9.free 3))
    have hpw : Past w w9 := hd.pastOf (by assumption) (by omega)
    obtain ⟨wE, hwE⟩ : ∃ wE, wE = (((w9.setCell ⟨w.heap.size, 0, none⟩ (.int .i64 P)).setCell ⟨w.heap.size, 1, none⟩ (.int .i64 C)).setCell ⟨w.heap.size, 2, none⟩ (.int .i64 H)).setCell ⟨w.heap.size, 3, none⟩ (.int .i64 S) := ⟨_, rfl⟩
    have hRE : Blk wE w.heap.size 25 #[.int .i64 P, .int .i64 C, .int .i64 H, .int .i64 S] := by rw [hwE]; exact (((hR9.set 0 _).set 1 _).set 2 _).set 3 _
    have hpF : Past w wE := by rw [hwE]; exact past4 hpw
    rw [← hwE]
    clear hwE r0 r1 r2 r3 f0 f1 f2 f3
    go_wp2_with fail
    have r0 : wE.cell? ⟨w.heap.size, 0, none⟩ = some (.int .i64 P) := hRE.cell 0 rfl
    have r1 : wE.cell? ⟨w.heap.size, 1, none⟩ = some (.int .i64 C) := hRE.cell 1 rfl
    have r2 : wE.cell? ⟨w.heap.size, 2, none⟩ = some (.int .i64 H) := hRE.cell 2 rfl
    have r3 : wE.cell? ⟨w.heap.size, 3, none⟩ = some (.int .i64 S) := hRE.cell 3 rfl
    exact bodyPost_ret (v := .tuple #[.agg #[.int .i64 P, .int .i64 C, .int .i64 H, .int .i64 S], .int .i64 (IntKind.i64.wrap (N - y1))]) (by simp [r0, r1, r2, r3, results, Try.results12, go_sem]) rfl ⟨_, _, _, _, _, rfl, hbd, hpF⟩
  · have M1 : N = -1 ∨ N = 1 ∨ 1 < N := by omega
    rcases M1 with rfl | rfl | M1
    · go_wp2_with fail
      go_region_held3 (fun w' => w'.cell? ⟨bV, 0, none⟩ = some (.int .i64 P) ∧ w'.cell? ⟨bV, 1, none⟩ = some (.int .i64 C) ∧ w'.cell? ⟨bV, 2, none⟩ = some (.int .i64 H) ∧ w'.cell? ⟨bV, 3, none⟩ = some (.int .i64 S) ∧ Past w w') (first | (go_split_ands; refine ⟨(by first | with_reducible assumption | (with_reducible refine cell4 (by omega) ?_; assumption) | (with_reducible refine Drew.cell hd ?_ (by simp only; omega); assumption) | assumption), (by first | with_reducible assumption | (with_reducible refine cell4 (by omega) ?_; assumption) | (with_reducible refine Drew.cell hd ?_ (by simp only; omega); assumption) | assumption), (by first | with_reducible assumption | (with_reducible refine cell4 (by omega) ?_; assumption) | (with_reducible refine Drew.cell hd ?_ (by simp only; omega); assumption) | assumption), (by first | with_reducible assumption | (with_reducible refine cell4 (by omega) ?_; assumption) | (with_reducible refine Drew.cell hd ?_ (by simp only; omega); assumption) | assumption), ?_⟩; first | with_reducible assumption | (with_reducible (refine past4 ?_; first | with_reducible assumption | (refine Past.drew ?_; with_reducible assumption))) | (with_reducible (refine Drew.pastOf hd ?_ (by omega); first | with_reducible assumption | (refine Past.drew ?_; with_reducible assumption))) | (with_reducible (refine Past.drew ?_; with_reducible assumption)))) (first | (have _ := hd2; go_at_call 65; (try go_split_ands); (with_reducible refine (next_any _ _ _ _ _ _ (by first | assumption | exact Src.drew (by assumption)) (by omega)).mono ?_); rintro e w9 ⟨y3, rfl, y30, y31, hd3⟩; have hd := hd3; have s9 := hd.src; have hR9 := hd.blk (show Blk _ w.heap.size _ _ from (by first | assumption | exact Blk.drew (by assumption))) (by omega); have r0 : w9.cell? ⟨w.heap.size, 0, none⟩ = some (.int .i64 0) := hR9.cell 0 rfl; have f0 := hR9.free 0; have r1 : w9.cell? ⟨w.heap.size, 1, none⟩ = some (.int .i64 0) := hR9.cell 1 rfl; have f1 := hR9.free 1; have r2 : w9.cell? ⟨w.heap.size, 2, none⟩ = some (.int .i64 0) := hR9.cell 2 rfl; have f2 := hR9.free 2; have r3 : w9.cell? ⟨w.heap.size, 3, none⟩ = some (.int .i64 0) := hR9.cell 3 rfl; have f3 := hR9.free 3) | (have _ := hd1; go_at_call 65; (try go_split_ands); (with_reducible refine (next_any _ _ _ _ _ _ (by first | assumption | exact Src.drew (by assumption)) (by omega)).mono ?_); rintro e w9 ⟨y2, rfl, y20, y21, hd2⟩; have hd := hd2; have s9 := hd.src; have hR9 := hd.blk (show Blk _ w.heap.size _ _ from (by first | assumption | exact Blk.drew (by assumption))) (by omega); have r0 : w9.cell? ⟨w.heap.size, 0, none⟩ = some (.int .i64 0) := hR9.cell 0 rfl; have f0 := hR9.free 0; have r1 : w9.cell? ⟨w.heap.size, 1, none⟩ = some (.int .i64 0) := hR9.cell 1 rfl; have f1 := hR9.free 1; have r2 : w9.cell? ⟨w.heap.size, 2, none⟩ = some (.int .i64 0) := hR9.cell 2 rfl; have f2 := hR9.free 2; have r3 : w9.cell? ⟨w.heap.size, 3, none⟩ = some (.int .i64 0) := hR9.cell 3 rfl; have f3 := hR9.free 3) | (go_at_call 65; (try go_split_ands); (with_reducible refine (next_any _ _ _ _ _ _ (by first | assumption | exact Src.drew (by assumption)) (by omega)).mono ?_); rintro e w9 ⟨y1, rfl, y10, y11, hd1⟩; have hd := hd1; have s9 := hd.src; have hR9 := hd.blk (show Blk _ w.heap.size _ _ from (by first | assumption | exact Blk.drew (by assumption))) (by omega); have r0 : w9.cell? ⟨w.heap.size, 0, none⟩ = some (.int .i64 0) := hR9.cell 0 rfl; have f0 := hR9.free 0; have r1 : w9.cell? ⟨w.heap.size, 1, none⟩ = some (.int .i64 0) := hR9.cell 1 rfl; have f1 := hR9.free 1; have r2 : w9.cell? ⟨w.heap.size, 2, none⟩ = some (.int .i64 0) := hR9.cell 2 rfl; have f2 := hR9.free 2; have r3 : w9.cell? ⟨w.heap.size, 3, none⟩ = some (.int .i64 0) := hR9.cell 3 rfl; have f3 := hR9.free 3))
      all_goals
        have hpw : Past w w9 := hd.pastOf (by assumption) (by omega)
        obtain ⟨wE, hwE⟩ : ∃ wE, wE = (((w9.setCell ⟨w.heap.size, 0, none⟩ (.int .i64 P)).setCell ⟨w.heap.size, 1, none⟩ (.int .i64 C)).setCell ⟨w.heap.size, 2, none⟩ (.int .i64 H)).setCell ⟨w.heap.size, 3, none⟩ (.int .i64 S) := ⟨_, rfl⟩
        have hRE : Blk wE w.heap.size 25 #[.int .i64 P, .int .i64 C, .int .i64 H, .int .i64 S] := by rw [hwE]; exact (((hR9.set 0 _).set 1 _).set 2 _).set 3 _
        have hpF : Past w wE := by rw [hwE]; exact past4 hpw
        rw [← hwE]
        clear hwE r0 r1 r2 r3 f0 f1 f2 f3
        go_wp2_with fail
        have r0 : wE.cell? ⟨w.heap.size, 0, none⟩ = some (.int .i64 P) := hRE.cell 0 rfl
        have r1 : wE.cell? ⟨w.heap.size, 1, none⟩ = some (.int .i64 C) := hRE.cell 1 rfl
        have r2 : wE.cell? ⟨w.heap.size, 2, none⟩ = some (.int .i64 H) := hRE.cell 2 rfl
        have r3 : wE.cell? ⟨w.heap.size, 3, none⟩ = some (.int .i64 S) := hRE.cell 3 rfl
        exact bodyPost_ret (v := .tuple #[.agg #[.int .i64 P, .int .i64 C, .int .i64 H, .int .i64 S], .int .i64 (IntKind.i64.wrap (-IntKind.i64.wrap (y3.tdiv 23)))]) (by simp [r0, r1, r2, r3, results, Try.results12, go_sem]) rfl ⟨_, _, _, _, _, rfl, hbd, hpF⟩
    · go_wp2_with fail
      go_region_held3 (fun w' => w'.cell? ⟨bV, 0, none⟩ = some (.int .i64 P) ∧ w'.cell? ⟨bV, 1, none⟩ = some (.int .i64 C) ∧ w'.cell? ⟨bV, 2, none⟩ = some (.int .i64 H) ∧ w'.cell? ⟨bV, 3, none⟩ = some (.int .i64 S) ∧ Past w w') (first | (go_split_ands; refine ⟨(by first | with_reducible assumption | (with_reducible refine cell4 (by omega) ?_; assumption) | (with_reducible refine Drew.cell hd ?_ (by simp only; omega); assumption) | assumption), (by first | with_reducible assumption | (with_reducible refine cell4 (by omega) ?_; assumption) | (with_reducible refine Drew.cell hd ?_ (by simp only; omega); assumption) | assumption), (by first | with_reducible assumption | (with_reducible refine cell4 (by omega) ?_; assumption) | (with_reducible refine Drew.cell hd ?_ (by simp only; omega); assumption) | assumption), (by first | with_reducible assumption | (with_reducible refine cell4 (by omega) ?_; assumption) | (with_reducible refine Drew.cell hd ?_ (by simp only; omega); assumption) | assumption), ?_⟩; first | with_reducible assumption | (with_reducible (refine past4 ?_; first | with_reducible assumption | (refine Past.drew ?_; with_reducible assumption))) | (with_reducible (refine Drew.pastOf hd ?_ (by omega); first | with_reducible assumption | (refine Past.drew ?_; with_reducible assumption))) | (with_reducible (refine Past.drew ?_; with_reducible assumption)))) (first | (have _ := hd2; go_at_call 65; (try go_split_ands); (with_reducible refine (next_any _ _ _ _ _ _ (by first | assumption | exact Src.drew (by assumption)) (by omega)).mono ?_); rintro e w9 ⟨y3, rfl, y30, y31, hd3⟩; have hd := hd3; have s9 := hd.src; have hR9 := hd.blk (show Blk _ w.heap.size _ _ from (by first | assumption | exact Blk.drew (by assumption))) (by omega); have r0 : w9.cell? ⟨w.heap.size, 0, none⟩ = some (.int .i64 0) := hR9.cell 0 rfl; have f0 := hR9.free 0; have r1 : w9.cell? ⟨w.heap.size, 1, none⟩ = some (.int .i64 0) := hR9.cell 1 rfl; have f1 := hR9.free 1; have r2 : w9.cell? ⟨w.heap.size, 2, none⟩ = some (.int .i64 0) := hR9.cell 2 rfl; have f2 := hR9.free 2; have r3 : w9.cell? ⟨w.heap.size, 3, none⟩ = some (.int .i64 0) := hR9.cell 3 rfl; have f3 := hR9.free 3) | (have _ := hd1; go_at_call 65; (try go_split_ands); (with_reducible refine (next_any _ _ _ _ _ _ (by first | assumption | exact Src.drew (by assumption)) (by omega)).mono ?_); rintro e w9 ⟨y2, rfl, y20, y21, hd2⟩; have hd := hd2; have s9 := hd.src; have hR9 := hd.blk (show Blk _ w.heap.size _ _ from (by first | assumption | exact Blk.drew (by assumption))) (by omega); have r0 : w9.cell? ⟨w.heap.size, 0, none⟩ = some (.int .i64 0) := hR9.cell 0 rfl; have f0 := hR9.free 0; have r1 : w9.cell? ⟨w.heap.size, 1, none⟩ = some (.int .i64 0) := hR9.cell 1 rfl; have f1 := hR9.free 1; have r2 : w9.cell? ⟨w.heap.size, 2, none⟩ = some (.int .i64 0) := hR9.cell 2 rfl; have f2 := hR9.free 2; have r3 : w9.cell? ⟨w.heap.size, 3, none⟩ = some (.int .i64 0) := hR9.cell 3 rfl; have f3 := hR9.free 3) | (go_at_call 65; (try go_split_ands); (with_reducible refine (next_any _ _ _ _ _ _ (by first | assumption | exact Src.drew (by assumption)) (by omega)).mono ?_); rintro e w9 ⟨y1, rfl, y10, y11, hd1⟩; have hd := hd1; have s9 := hd.src; have hR9 := hd.blk (show Blk _ w.heap.size _ _ from (by first | assumption | exact Blk.drew (by assumption))) (by omega); have r0 : w9.cell? ⟨w.heap.size, 0, none⟩ = some (.int .i64 0) := hR9.cell 0 rfl; have f0 := hR9.free 0; have r1 : w9.cell? ⟨w.heap.size, 1, none⟩ = some (.int .i64 0) := hR9.cell 1 rfl; have f1 := hR9.free 1; have r2 : w9.cell? ⟨w.heap.size, 2, none⟩ = some (.int .i64 0) := hR9.cell 2 rfl; have f2 := hR9.free 2; have r3 : w9.cell? ⟨w.heap.size, 3, none⟩ = some (.int .i64 0) := hR9.cell 3 rfl; have f3 := hR9.free 3))
      all_goals
        have hpw : Past w w9 := hd.pastOf (by assumption) (by omega)
        obtain ⟨wE, hwE⟩ : ∃ wE, wE = (((w9.setCell ⟨w.heap.size, 0, none⟩ (.int .i64 P)).setCell ⟨w.heap.size, 1, none⟩ (.int .i64 C)).setCell ⟨w.heap.size, 2, none⟩ (.int .i64 H)).setCell ⟨w.heap.size, 3, none⟩ (.int .i64 S) := ⟨_, rfl⟩
        have hRE : Blk wE w.heap.size 25 #[.int .i64 P, .int .i64 C, .int .i64 H, .int .i64 S] := by rw [hwE]; exact (((hR9.set 0 _).set 1 _).set 2 _).set 3 _
        have hpF : Past w wE := by rw [hwE]; exact past4 hpw
        rw [← hwE]
        clear hwE r0 r1 r2 r3 f0 f1 f2 f3
        go_wp2_with fail
        have r0 : wE.cell? ⟨w.heap.size, 0, none⟩ = some (.int .i64 P) := hRE.cell 0 rfl
        have r1 : wE.cell? ⟨w.heap.size, 1, none⟩ = some (.int .i64 C) := hRE.cell 1 rfl
        have r2 : wE.cell? ⟨w.heap.size, 2, none⟩ = some (.int .i64 H) := hRE.cell 2 rfl
        have r3 : wE.cell? ⟨w.heap.size, 3, none⟩ = some (.int .i64 S) := hRE.cell 3 rfl
        exact bodyPost_ret (v := .tuple #[.agg #[.int .i64 P, .int .i64 C, .int .i64 H, .int .i64 S], .int .i64 (IntKind.i64.wrap (-IntKind.i64.wrap (y3.tdiv 23)))]) (by simp [r0, r1, r2, r3, results, Try.results12, go_sem]) rfl ⟨_, _, _, _, _, rfl, hbd, hpF⟩
    · have m2 : (N == 0) = false := beq_eq_false_iff_ne.2 (by omega)
      have m3 : ¬ N = 0 := by omega
      have m1 : max 1 N = N := by omega
      clear hcnt
      go_wp2_with fail
      go_region_held3 (fun w' => w'.cell? ⟨bV, 0, none⟩ = some (.int .i64 P) ∧ w'.cell? ⟨bV, 1, none⟩ = some (.int .i64 C) ∧ w'.cell? ⟨bV, 2, none⟩ = some (.int .i64 H) ∧ w'.cell? ⟨bV, 3, none⟩ = some (.int .i64 S) ∧ Past w w') (first | (go_split_ands; refine ⟨(by first | with_reducible assumption | (with_reducible refine cell4 (by omega) ?_; assumption) | (with_reducible refine Drew.cell hd ?_ (by simp only; omega); assumption) | assumption), (by first | with_reducible assumption | (with_reducible refine cell4 (by omega) ?_; assumption) | (with_reducible refine Drew.cell hd ?_ (by simp only; omega); assumption) | assumption), (by first | with_reducible assumption | (with_reducible refine cell4 (by omega) ?_; assumption) | (with_reducible refine Drew.cell hd ?_ (by simp only; omega); assumption) | assumption), (by first | with_reducible assumption | (with_reducible refine cell4 (by omega) ?_; assumption) | (with_reducible refine Drew.cell hd ?_ (by simp only; omega); assumption) | assumption), ?_⟩; first | with_reducible assumption | (with_reducible (refine past4 ?_; first | with_reducible assumption | (refine Past.drew ?_; with_reducible assumption))) | (with_reducible (refine Drew.pastOf hd ?_ (by omega); first | with_reducible assumption | (refine Past.drew ?_; with_reducible assumption))) | (with_reducible (refine Past.drew ?_; with_reducible assumption)))) (first | (have _ := hd2; go_at_call 65; (try go_split_ands); (with_reducible refine (next_any _ _ _ _ _ _ (by first | assumption | exact Src.drew (by assumption)) (by omega)).mono ?_); rintro e w9 ⟨y3, rfl, y30, y31, hd3⟩; have hd := hd3; have s9 := hd.src; have hR9 := hd.blk (show Blk _ w.heap.size _ _ from (by first | assumption | exact Blk.drew (by assumption))) (by omega); have r0 : w9.cell? ⟨w.heap.size, 0, none⟩ = some (.int .i64 0) := hR9.cell 0 rfl; have f0 := hR9.free 0; have r1 : w9.cell? ⟨w.heap.size, 1, none⟩ = some (.int .i64 0) := hR9.cell 1 rfl; have f1 := hR9.free 1; have r2 : w9.cell? ⟨w.heap.size, 2, none⟩ = some (.int .i64 0) := hR9.cell 2 rfl; have f2 := hR9.free 2; have r3 : w9.cell? ⟨w.heap.size, 3, none⟩ = some (.int .i64 0) := hR9.cell 3 rfl; have f3 := hR9.free 3) | (have _ := hd1; go_at_call 65; (try go_split_ands); (with_reducible refine (next_any _ _ _ _ _ _ (by first | assumption | exact Src.drew (by assumption)) (by omega)).mono ?_); rintro e w9 ⟨y2, rfl, y20, y21, hd2⟩; have hd := hd2; have s9 := hd.src; have hR9 := hd.blk (show Blk _ w.heap.size _ _ from (by first | assumption | exact Blk.drew (by assumption))) (by omega); have r0 : w9.cell? ⟨w.heap.size, 0, none⟩ = some (.int .i64 0) := hR9.cell 0 rfl; have f0 := hR9.free 0; have r1 : w9.cell? ⟨w.heap.size, 1, none⟩ = some (.int .i64 0) := hR9.cell 1 rfl; have f1 := hR9.free 1; have r2 : w9.cell? ⟨w.heap.size, 2, none⟩ = some (.int .i64 0) := hR9.cell 2 rfl; have f2 := hR9.free 2; have r3 : w9.cell? ⟨w.heap.size, 3, none⟩ = some (.int .i64 0) := hR9.cell 3 rfl; have f3 := hR9.free 3) | (go_at_call 65; (try go_split_ands); (with_reducible refine (next_any _ _ _ _ _ _ (by first | assumption | exact Src.drew (by assumption)) (by omega)).mono ?_); rintro e w9 ⟨y1, rfl, y10, y11, hd1⟩; have hd := hd1; have s9 := hd.src; have hR9 := hd.blk (show Blk _ w.heap.size _ _ from (by first | assumption | exact Blk.drew (by assumption))) (by omega); have r0 : w9.cell? ⟨w.heap.size, 0, none⟩ = some (.int .i64 0) := hR9.cell 0 rfl; have f0 := hR9.free 0; have r1 : w9.cell? ⟨w.heap.size, 1, none⟩ = some (.int .i64 0) := hR9.cell 1 rfl; have f1 := hR9.free 1; have r2 : w9.cell? ⟨w.heap.size, 2, none⟩ = some (.int .i64 0) := hR9.cell 2 rfl; have f2 := hR9.free 2; have r3 : w9.cell? ⟨w.heap.size, 3, none⟩ = some (.int .i64 0) := hR9.cell 3 rfl; have f3 := hR9.free 3))
      all_goals
        have hpw : Past w w9 := hd.pastOf (by assumption) (by omega)
        obtain ⟨wE, hwE⟩ : ∃ wE, wE = (((w9.setCell ⟨w.heap.size, 0, none⟩ (.int .i64 P)).setCell ⟨w.heap.size, 1, none⟩ (.int .i64 C)).setCell ⟨w.heap.size, 2, none⟩ (.int .i64 H)).setCell ⟨w.heap.size, 3, none⟩ (.int .i64 S) := ⟨_, rfl⟩
        have hRE : Blk wE w.heap.size 25 #[.int .i64 P, .int .i64 C, .int .i64 H, .int .i64 S] := by rw [hwE]; exact (((hR9.set 0 _).set 1 _).set 2 _).set 3 _
        have hpF : Past w wE := by rw [hwE]; exact past4 hpw
        rw [← hwE]
        clear hwE r0 r1 r2 r3 f0 f1 f2 f3
        go_wp2_with fail
        have r0 : wE.cell? ⟨w.heap.size, 0, none⟩ = some (.int .i64 P) := hRE.cell 0 rfl
        have r1 : wE.cell? ⟨w.heap.size, 1, none⟩ = some (.int .i64 C) := hRE.cell 1 rfl
        have r2 : wE.cell? ⟨w.heap.size, 2, none⟩ = some (.int .i64 H) := hRE.cell 2 rfl
        have r3 : wE.cell? ⟨w.heap.size, 3, none⟩ = some (.int .i64 S) := hRE.cell 3 rfl
        exact bodyPost_ret (v := .tuple #[.agg #[.int .i64 P, .int .i64 C, .int .i64 H, .int .i64 S], .int .i64 (IntKind.i64.wrap ((IntKind.i64.wrap (y1 * y2)).tmod N - IntKind.i64.wrap (y3.tdiv 23)))]) (by simp [r0, r1, r2, r3, results, Try.results12, go_sem]) rfl ⟨_, _, _, _, _, rfl, hbd, hpF⟩
end Go.Proofs.Ytapocfgajkkpdaa
