/-
  Contracts: the draws of a variant and a step, and of a variant and a step's text.
-/
import Derived.Test.YtdcdjocjlicplaaDoorDrawY
import Derived.Test.YtdcdjocjlicplaaDoorStepV
namespace Go.Proofs.YtdcdjocjlicplaaDoor
open Go.ChangeShapes Go.WideShapes Go.ChangeAt Go.RowKit Go.Joins

theorem Src.dr {w : World} {g : Nat} {A : Option Addr} {n k : Nat} (h : Src w g A n k) : Src w.drew g A n k := h.past (Past.refl w).drew
theorem cell_s {w : World} {b d i j : Nat} {u v : Value} (hb : d ≠ b) (h : w.cell? ⟨d, i, none⟩ = some v) : (w.setCell ⟨b, j, none⟩ u).cell? ⟨d, i, none⟩ = some v :=
  (World.cell?_setCell_other w ⟨b, j, none⟩ ⟨d, i, none⟩ u (by intro e; simp only [Addr.mk.injEq] at e; omega)).trans h
theorem stepB_size (p c h s f t d : Int) (x : Bool) : (stepB p c h s f t d x).size ≤ 30 := by
  unfold stepB
  split
  · rename_i hv
    have h1 := vOk_yes hv
    split
    · rename_i hp
      obtain ⟨b1, b2, b3⟩ := plS_yes hp
      have e : (stB p f t d x).size = (stTxt p f t d x).length := List.size_toArray ..
      have df : (fromT p f).length ≤ 3 := by
        unfold fromT
        split
        · have := decs_le (p := f + 1) (by omega) (by omega); omega
        · simp
      have dt : (toT f t d x).length ≤ 7 := by
        unfold toT
        split
        · have := decs_le (p := t + 1) (by omega) (by omega)
          split
          · rw [List.length_append]; simp; omega
          · omega
        · split
          · simp
          · have := decs_le (p := d) (by omega) (by omega)
            simp only [List.length_append, List.length_cons, List.length_nil]
            omega
      rw [e, stTxt, List.length_append, List.length_cons]
      omega
    · exact Nat.zero_le _
  · exact Nat.zero_le _
theorem past_st {w x : World} {v0 v1 v2 v3 : Value} (h : Past w x) : Past w ((((x.setCell ⟨w.heap.size + 1, 0, none⟩ v0).setCell ⟨w.heap.size + 1, 1, none⟩ v1).setCell ⟨w.heap.size + 1, 2, none⟩ v2).setCell ⟨w.heap.size + 1, 3, none⟩ v3) :=
  (((h.setCell (p := ⟨w.heap.size + 1, 0, none⟩) (Nat.le_succ _) v0).setCell (p := ⟨w.heap.size + 1, 1, none⟩) (Nat.le_succ _) v1).setCell (p := ⟨w.heap.size + 1, 2, none⟩) (Nat.le_succ _) v2).setCell (p := ⟨w.heap.size + 1, 3, none⟩) (Nat.le_succ _) v3
theorem Blk.p4 {x : World} {b : Nat} {t : TypeId} {y0 y1 y2 y3 v0 v1 v2 v3 : Value} (h : Blk x b t #[y0, y1, y2, y3]) : Blk ((((x.setCell ⟨b, 0, none⟩ v0).setCell ⟨b, 1, none⟩ v1).setCell ⟨b, 2, none⟩ v2).setCell ⟨b, 3, none⟩ v3) b t #[v0, v1, v2, v3] :=
  (((h.sset 0 v0 rfl).sset 1 v1 rfl).sset 2 v2 rfl).sset 3 v3 rfl
theorem Blk.o4 {x : World} {b d : Nat} {t : TypeId} {cs : Array Value} {v0 v1 v2 v3 : Value} (h : Blk x d t cs) (hb : d ≠ b) : Blk ((((x.setCell ⟨b, 0, none⟩ v0).setCell ⟨b, 1, none⟩ v1).setCell ⟨b, 2, none⟩ v2).setCell ⟨b, 3, none⟩ v3) d t cs :=
  (((h.soff v0 hb).soff v1 hb).soff v2 hb).soff v3 hb
def VarStep (w : World) (e : Ending) (w' : World) : Prop := ∃ p c h s f t d x, e = .returned (.tuple #[.agg #[.int .i64 p, .int .i64 c, .int .i64 h, .int .i64 s], .agg #[.int .i64 f, .int .i64 t, .int .i64 d, .bool x]]) ∧ vBd p c h s ∧ Past w w'
def VarTxt (w : World) (e : Ending) (w' : World) : Prop := ∃ p c h s tb, e = .returned (.tuple #[.agg #[.int .i64 p, .int .i64 c, .int .i64 h, .int .i64 s], .string tb]) ∧ vBd p c h s ∧ tb.size ≤ 1000 ∧ Past w w'
set_option maxHeartbeats 4000000 in
set_option maxRecDepth 100000 in
theorem drawVStep_any (A : Option Addr) (n k : Nat) (w : World) (hx : RdC w w.heap.size A n) (hn : n ≤ 5000) :
    Calls Tryd.prog 37 #[.slice A n k] w (VarStep w) := by
  obtain ⟨wv, hwv⟩ : ∃ w0, w0 = w.alloc (.cells #[.int .i64 0, .int .i64 0, .int .i64 0, .int .i64 0] 25) := ⟨_, rfl⟩
  have hRv : Blk wv w.heap.size 25 #[.int .i64 0, .int .i64 0, .int .i64 0, .int .i64 0] := by rw [hwv]; exact Blk.new _ _ _
  have hpv : Past w wv := by rw [hwv]; exact (by repeat (first | exact Past.refl _ | assumption | refine Past.alloc ?_ _ | refine Past.drew ?_ | refine Past.drewN ?_ _ | refine Past.setCell ?_ (by first | (simp; done) | (simp <;> omega)) _ | refine Past.trans ?_ (past_over _ _) | refine Past.trans ?_ (by assumption)))
  have zv : wv.heap.size = w.heap.size + 1 := by rw [hwv]; simp
  obtain ⟨w0, hw0⟩ : ∃ w0, w0 = wv.alloc (.cells #[.int .i64 0, .int .i64 0, .int .i64 0, .bool false] 31) := ⟨_, rfl⟩
  have hQ : Blk w0 (w.heap.size + 1) 31 #[.int .i64 0, .int .i64 0, .int .i64 0, .bool false] := by rw [hw0]; exact Blk.at_ zv.symm
  have hpr : Past wv w0 := by rw [hw0]; exact (by repeat (first | exact Past.refl _ | assumption | refine Past.alloc ?_ _ | refine Past.drew ?_ | refine Past.drewN ?_ _ | refine Past.setCell ?_ (by first | (simp; done) | (simp <;> omega)) _ | refine Past.trans ?_ (past_over _ _) | refine Past.trans ?_ (by assumption)))
  have hR := hRv.past hpr
  have hp0 := hpv.trans hpr
  have hz0 := hQ.lt
  go_enter Tryd.func37, Tryd.ntmps37
  go_upto_region 1 with fail
  rw [← hwv, ← hw0]
  clear hwv hw0 hpr zv hRv hpv
  go_wp2_with fail
  (with_reducible refine (from_any _ _ _ _ (hx.past hp0 hp0.sz) hn).mono ?_)
  rintro e w1 ⟨g, rfl, hs1, hg1, hp1⟩
  have hR1 := hR.past hp1
  have hQ1 := hQ.past hp1
  have zg := hs1.lt
  go_wp2_with fail
  (with_reducible refine (drawAny_any _ _ _ _ _ hs1).mono ?_)
  rintro e w2 ⟨p, c, h, s, rfl, hbd, h2⟩
  have hR2 := h2.blk hR1 (by omega)
  have hQ2 := h2.blk hQ1 (by omega)
  have hp2 : Past w w2 := h2.pastOf (hp0.trans hp1) (by omega)
  have hz2 := h2.sz
  have hs2 := h2.src
  clear h2 hR hR1 hp1 hs1 hQ hQ1
  go_upto_region 3 with fail
  obtain ⟨w3, hw3⟩ : ∃ w3, w3 = w2.alloc (.cells #[.int .i64 p, .int .i64 c, .int .i64 h, .int .i64 s] 25) := ⟨_, rfl⟩
  have hV : Blk w3 w2.heap.size 25 #[.int .i64 p, .int .i64 c, .int .i64 h, .int .i64 s] := by rw [hw3]; exact Blk.new _ _ _
  have hp23 : Past w2 w3 := by rw [hw3]; exact (Past.refl w2).alloc _
  rw [← hw3]
  have hs3 := hs2.past hp23
  have hR3 := hR2.past hp23
  have hQ3 := hQ2.past hp23
  have hp3 := hp2.trans hp23
  have zV := hV.lt
  obtain ⟨bV, hbV⟩ : ∃ b, b = w2.heap.size := ⟨_, rfl⟩
  rw [← hbV] at hV zV hz2 ⊢
  clear hw3 hbV hp23 hp2 hR2 hs2 hQ2
  have c0 : w3.cell? ⟨bV, 0, none⟩ = some (.int .i64 p) := hV.cell 0 rfl
  have c1 : w3.cell? ⟨bV, 1, none⟩ = some (.int .i64 c) := hV.cell 1 rfl
  have c2 : w3.cell? ⟨bV, 2, none⟩ = some (.int .i64 h) := hV.cell 2 rfl
  have c3 : w3.cell? ⟨bV, 3, none⟩ = some (.int .i64 s) := hV.cell 3 rfl
  clear hV
  go_wp2_with fail
  go_region_held3 (fun w' => w'.cell? ⟨bV, 0, none⟩ = some (.int .i64 p) ∧ w'.cell? ⟨bV, 1, none⟩ = some (.int .i64 c) ∧ w'.cell? ⟨bV, 2, none⟩ = some (.int .i64 h) ∧ w'.cell? ⟨bV, 3, none⟩ = some (.int .i64 s) ∧ Past w w') ((go_split_ands; exact ⟨(by repeat (first | with_reducible assumption | (with_reducible refine cell_d ?_) | (with_reducible refine cell_s (by omega) ?_) | (with_reducible refine Drew.cell hd3 ?_ (by simp only; omega)) | (with_reducible refine Past.keep hb10 ?_) | (with_reducible refine Drew.cell hd1 ?_ (by simp only; omega)))), (by repeat (first | with_reducible assumption | (with_reducible refine cell_d ?_) | (with_reducible refine cell_s (by omega) ?_) | (with_reducible refine Drew.cell hd3 ?_ (by simp only; omega)) | (with_reducible refine Past.keep hb10 ?_) | (with_reducible refine Drew.cell hd1 ?_ (by simp only; omega)))), (by repeat (first | with_reducible assumption | (with_reducible refine cell_d ?_) | (with_reducible refine cell_s (by omega) ?_) | (with_reducible refine Drew.cell hd3 ?_ (by simp only; omega)) | (with_reducible refine Past.keep hb10 ?_) | (with_reducible refine Drew.cell hd1 ?_ (by simp only; omega)))), (by repeat (first | with_reducible assumption | (with_reducible refine cell_d ?_) | (with_reducible refine cell_s (by omega) ?_) | (with_reducible refine Drew.cell hd3 ?_ (by simp only; omega)) | (with_reducible refine Past.keep hb10 ?_) | (with_reducible refine Drew.cell hd1 ?_ (by simp only; omega)))), (by repeat (first | with_reducible assumption | (with_reducible refine Past.drew ?_) | (with_reducible refine Past.setCell ?_ (by first | omega | (simp only; omega) | (simp <;> omega)) _) | (with_reducible refine Drew.pastOf hd3 ?_ (by omega)) | (with_reducible refine Past.trans ?_ hb10) | (with_reducible refine Drew.pastOf hd1 ?_ (by omega))))⟩)) (first | (go_at_call 58; (try go_split_ands); (with_reducible refine (drawPlain_any _ _ _ _ _ (by first | with_reducible assumption | with_reducible exact Src.dr (by with_reducible assumption)) _ _ _ _ hbd).mono ?_); rintro e w9 ⟨f, t, d, x, rfl, hd1⟩; have hs9 := hd1.src; have hRx := Drew.blk hd1 (show Blk _ (w.heap.size) _ _ from (by first | with_reducible assumption | with_reducible exact Blk.drew (by with_reducible assumption))) (by omega); have hQx := Drew.blk hd1 (show Blk _ (w.heap.size + 1) _ _ from (by first | with_reducible assumption | with_reducible exact Blk.drew (by with_reducible assumption))) (by omega); have r0 : w9.cell? ⟨w.heap.size, 0, none⟩ = some (.int .i64 0) := hRx.cell 0 rfl; have rf0 := hRx.free 0; have r1 : w9.cell? ⟨w.heap.size, 1, none⟩ = some (.int .i64 0) := hRx.cell 1 rfl; have rf1 := hRx.free 1; have r2 : w9.cell? ⟨w.heap.size, 2, none⟩ = some (.int .i64 0) := hRx.cell 2 rfl; have rf2 := hRx.free 2; have r3 : w9.cell? ⟨w.heap.size, 3, none⟩ = some (.int .i64 0) := hRx.cell 3 rfl; have rf3 := hRx.free 3; have q0 : w9.cell? ⟨w.heap.size + 1, 0, none⟩ = some (.int .i64 0) := hQx.cell 0 rfl; have qf0 := hQx.free 0; have q1 : w9.cell? ⟨w.heap.size + 1, 1, none⟩ = some (.int .i64 0) := hQx.cell 1 rfl; have qf1 := hQx.free 1; have q2 : w9.cell? ⟨w.heap.size + 1, 2, none⟩ = some (.int .i64 0) := hQx.cell 2 rfl; have qf2 := hQx.free 2; have q3 : w9.cell? ⟨w.heap.size + 1, 3, none⟩ = some (.bool false) := hQx.cell 3 rfl; have qf3 := hQx.free 3))
  go_split_ands
  have hp9 : Past w w9 := by first | exact hd1.pastOf hp3 (by omega) | exact hd1.pastOf (Past.drew hp3) (by omega)
  obtain ⟨wE, hwE⟩ : ∃ wE, wE = ((((((((w9.setCell ⟨w.heap.size, 0, none⟩ (.int .i64 p)).setCell ⟨w.heap.size, 1, none⟩ (.int .i64 c)).setCell ⟨w.heap.size, 2, none⟩ (.int .i64 h)).setCell ⟨w.heap.size, 3, none⟩ (.int .i64 s)).setCell ⟨w.heap.size + 1, 0, none⟩ (.int .i64 f)).setCell ⟨w.heap.size + 1, 1, none⟩ (.int .i64 t)).setCell ⟨w.heap.size + 1, 2, none⟩ (.int .i64 d)).setCell ⟨w.heap.size + 1, 3, none⟩ (.bool x)) := ⟨_, rfl⟩
  have hRE : Blk wE w.heap.size 25 #[.int .i64 p, .int .i64 c, .int .i64 h, .int .i64 s] := by rw [hwE]; exact (hRx.p4).o4 (by omega)
  have hQE : Blk wE (w.heap.size + 1) 31 #[.int .i64 f, .int .i64 t, .int .i64 d, .bool x] := by rw [hwE]; exact Blk.p4 (hQx.o4 (by omega))
  have hpE : Past w wE := by rw [hwE]; exact past_st (past_four hp9)
  clear hRx hQx hp9 r0 r1 r2 r3 rf0 rf1 rf2 rf3 q0 q1 q2 q3 qf0 qf1 qf2 qf3
  rw [← hwE]
  clear hwE
  go_wp2_with fail
  have r0 : wE.cell? ⟨w.heap.size, 0, none⟩ = some (.int .i64 p) := hRE.cell 0 rfl
  have r1 : wE.cell? ⟨w.heap.size, 1, none⟩ = some (.int .i64 c) := hRE.cell 1 rfl
  have r2 : wE.cell? ⟨w.heap.size, 2, none⟩ = some (.int .i64 h) := hRE.cell 2 rfl
  have r3 : wE.cell? ⟨w.heap.size, 3, none⟩ = some (.int .i64 s) := hRE.cell 3 rfl
  have z0 : wE.cell? ⟨w.heap.size + 1, 0, none⟩ = some (.int .i64 f) := hQE.cell 0 rfl
  have z1 : wE.cell? ⟨w.heap.size + 1, 1, none⟩ = some (.int .i64 t) := hQE.cell 1 rfl
  have z2 : wE.cell? ⟨w.heap.size + 1, 2, none⟩ = some (.int .i64 d) := hQE.cell 2 rfl
  have z3 : wE.cell? ⟨w.heap.size + 1, 3, none⟩ = some (.bool x) := hQE.cell 3 rfl
  exact bodyPost_ret (v := .tuple #[.agg #[.int .i64 p, .int .i64 c, .int .i64 h, .int .i64 s], .agg #[.int .i64 f, .int .i64 t, .int .i64 d, .bool x]]) (by simp [r0, r1, r2, r3, z0, z1, z2, z3, results, Tryd.results37, go_sem]) rfl ⟨_, _, _, _, _, _, _, _, rfl, hbd, hpE⟩
set_option maxHeartbeats 4000000 in
set_option maxRecDepth 100000 in
theorem drawVTxt_any (A : Option Addr) (n k : Nat) (w : World) (hx : RdC w w.heap.size A n) (hn : n ≤ 5000) :
    Calls Tryd.prog 38 #[.slice A n k] w (VarTxt w) := by
  obtain ⟨wv, hwv⟩ : ∃ w0, w0 = w.alloc (.cells #[.int .i64 0, .int .i64 0, .int .i64 0, .int .i64 0] 25) := ⟨_, rfl⟩
  have hRv : Blk wv w.heap.size 25 #[.int .i64 0, .int .i64 0, .int .i64 0, .int .i64 0] := by rw [hwv]; exact Blk.new _ _ _
  have hpv : Past w wv := by rw [hwv]; exact (by repeat (first | exact Past.refl _ | assumption | refine Past.alloc ?_ _ | refine Past.drew ?_ | refine Past.drewN ?_ _ | refine Past.setCell ?_ (by first | (simp; done) | (simp <;> omega)) _ | refine Past.trans ?_ (past_over _ _) | refine Past.trans ?_ (by assumption)))
  obtain ⟨w0, rfl⟩ : ∃ w0, w0 = wv := ⟨_, rfl⟩
  have hR := hRv
  have hp0 := hpv
  have hz0 := hR.lt
  go_enter Tryd.func38, Tryd.ntmps38
  go_upto_region 1 with fail
  rw [← hwv]
  clear hwv  hRv hpv
  go_wp2_with fail
  (with_reducible refine (from_any _ _ _ _ (hx.past hp0 hp0.sz) hn).mono ?_)
  rintro e w1 ⟨g, rfl, hs1, hg1, hp1⟩
  have hR1 := hR.past hp1
  have zg := hs1.lt
  go_wp2_with fail
  (with_reducible refine (drawAny_any _ _ _ _ _ hs1).mono ?_)
  rintro e w2 ⟨p, c, h, s, rfl, hbd, h2⟩
  have hR2 := h2.blk hR1 (by omega)
  have hp2 : Past w w2 := h2.pastOf (hp0.trans hp1) (by omega)
  have hz2 := h2.sz
  have hs2 := h2.src
  clear h2 hR hR1 hp1 hs1 
  go_upto_region 3 with fail
  obtain ⟨w3, hw3⟩ : ∃ w3, w3 = w2.alloc (.cells #[.int .i64 p, .int .i64 c, .int .i64 h, .int .i64 s] 25) := ⟨_, rfl⟩
  have hV : Blk w3 w2.heap.size 25 #[.int .i64 p, .int .i64 c, .int .i64 h, .int .i64 s] := by rw [hw3]; exact Blk.new _ _ _
  have hp23 : Past w2 w3 := by rw [hw3]; exact (Past.refl w2).alloc _
  rw [← hw3]
  have hs3 := hs2.past hp23
  have hR3 := hR2.past hp23
  have hp3 := hp2.trans hp23
  have zV := hV.lt
  obtain ⟨bV, hbV⟩ : ∃ b, b = w2.heap.size := ⟨_, rfl⟩
  rw [← hbV] at hV zV hz2 ⊢
  clear hw3 hbV hp23 hp2 hR2 hs2 
  have c0 : w3.cell? ⟨bV, 0, none⟩ = some (.int .i64 p) := hV.cell 0 rfl
  have c1 : w3.cell? ⟨bV, 1, none⟩ = some (.int .i64 c) := hV.cell 1 rfl
  have c2 : w3.cell? ⟨bV, 2, none⟩ = some (.int .i64 h) := hV.cell 2 rfl
  have c3 : w3.cell? ⟨bV, 3, none⟩ = some (.int .i64 s) := hV.cell 3 rfl
  clear hV
  go_wp2_with fail
  go_region_held3 (fun w' => w'.cell? ⟨bV, 0, none⟩ = some (.int .i64 p) ∧ w'.cell? ⟨bV, 1, none⟩ = some (.int .i64 c) ∧ w'.cell? ⟨bV, 2, none⟩ = some (.int .i64 h) ∧ w'.cell? ⟨bV, 3, none⟩ = some (.int .i64 s) ∧ Past w w') ((go_split_ands; exact ⟨(by repeat (first | with_reducible assumption | (with_reducible refine cell_d ?_) | (with_reducible refine cell_s (by omega) ?_) | (with_reducible refine Drew.cell hd3 ?_ (by simp only; omega)) | (with_reducible refine Past.keep hb10 ?_) | (with_reducible refine Drew.cell hd1 ?_ (by simp only; omega)))), (by repeat (first | with_reducible assumption | (with_reducible refine cell_d ?_) | (with_reducible refine cell_s (by omega) ?_) | (with_reducible refine Drew.cell hd3 ?_ (by simp only; omega)) | (with_reducible refine Past.keep hb10 ?_) | (with_reducible refine Drew.cell hd1 ?_ (by simp only; omega)))), (by repeat (first | with_reducible assumption | (with_reducible refine cell_d ?_) | (with_reducible refine cell_s (by omega) ?_) | (with_reducible refine Drew.cell hd3 ?_ (by simp only; omega)) | (with_reducible refine Past.keep hb10 ?_) | (with_reducible refine Drew.cell hd1 ?_ (by simp only; omega)))), (by repeat (first | with_reducible assumption | (with_reducible refine cell_d ?_) | (with_reducible refine cell_s (by omega) ?_) | (with_reducible refine Drew.cell hd3 ?_ (by simp only; omega)) | (with_reducible refine Past.keep hb10 ?_) | (with_reducible refine Drew.cell hd1 ?_ (by simp only; omega)))), (by repeat (first | with_reducible assumption | (with_reducible refine Past.drew ?_) | (with_reducible refine Past.setCell ?_ (by first | omega | (simp only; omega) | (simp <;> omega)) _) | (with_reducible refine Drew.pastOf hd3 ?_ (by omega)) | (with_reducible refine Past.trans ?_ hb10) | (with_reducible refine Drew.pastOf hd1 ?_ (by omega))))⟩)) (first | (go_at_call 58; (try go_split_ands); (with_reducible refine (drawPlain_any _ _ _ _ _ (by first | with_reducible assumption | with_reducible exact Src.dr (by with_reducible assumption)) _ _ _ _ hbd).mono ?_); rintro e w9 ⟨f, t, d, x, rfl, hd1⟩; have hs9 := hd1.src; have hRx := Drew.blk hd1 (show Blk _ (w.heap.size) _ _ from (by first | with_reducible assumption | with_reducible exact Blk.drew (by with_reducible assumption))) (by omega)) | (go_at_call 14; (try go_split_ands); (with_reducible refine (sStepTextAll _ _ _ _ _ _ _ _ _).mono ?_); rintro e w10 ⟨rfl, hb10⟩; have hs10 := Src.past hs9 hb10; have hRy := Blk.past hRx hb10; have hss := stepB_size p c h s f t d x) | (go_at_call 59; (try go_split_ands); (with_reducible refine (damS_any _ _ _ _ _ (by first | with_reducible assumption | with_reducible exact Src.dr (by with_reducible assumption)) _ (by omega)).mono ?_); rintro e w11 ⟨tc, rfl, htc, hd3⟩; have hRz := Drew.blk hd3 hRy (by omega); have r0 : w11.cell? ⟨w.heap.size, 0, none⟩ = some (.int .i64 0) := hRz.cell 0 rfl; have rf0 := hRz.free 0; have r1 : w11.cell? ⟨w.heap.size, 1, none⟩ = some (.int .i64 0) := hRz.cell 1 rfl; have rf1 := hRz.free 1; have r2 : w11.cell? ⟨w.heap.size, 2, none⟩ = some (.int .i64 0) := hRz.cell 2 rfl; have rf2 := hRz.free 2; have r3 : w11.cell? ⟨w.heap.size, 3, none⟩ = some (.int .i64 0) := hRz.cell 3 rfl; have rf3 := hRz.free 3))
  go_split_ands
  have hp11 : Past w w11 := hd3.pastOf (Past.trans (by first | exact hd1.pastOf hp3 (by omega) | exact hd1.pastOf (Past.drew hp3) (by omega)) hb10) (by omega)
  obtain ⟨wE, hwE⟩ : ∃ wE, wE = ((((w11.setCell ⟨w.heap.size, 0, none⟩ (.int .i64 p)).setCell ⟨w.heap.size, 1, none⟩ (.int .i64 c)).setCell ⟨w.heap.size, 2, none⟩ (.int .i64 h)).setCell ⟨w.heap.size, 3, none⟩ (.int .i64 s)) := ⟨_, rfl⟩
  have hRE : Blk wE w.heap.size 25 #[.int .i64 p, .int .i64 c, .int .i64 h, .int .i64 s] := by rw [hwE]; exact hRz.p4
  have hpE : Past w wE := by rw [hwE]; exact past_four hp11
  have hsz : tc.size ≤ 1000 := by omega
  clear hRx hRy hRz hp11 r0 r1 r2 r3 rf0 rf1 rf2 rf3
  rw [← hwE]
  clear hwE
  go_wp2_with fail
  have r0 : wE.cell? ⟨w.heap.size, 0, none⟩ = some (.int .i64 p) := hRE.cell 0 rfl
  have r1 : wE.cell? ⟨w.heap.size, 1, none⟩ = some (.int .i64 c) := hRE.cell 1 rfl
  have r2 : wE.cell? ⟨w.heap.size, 2, none⟩ = some (.int .i64 h) := hRE.cell 2 rfl
  have r3 : wE.cell? ⟨w.heap.size, 3, none⟩ = some (.int .i64 s) := hRE.cell 3 rfl
  exact bodyPost_ret (v := .tuple #[.agg #[.int .i64 p, .int .i64 c, .int .i64 h, .int .i64 s], .string tc]) (by simp [r0, r1, r2, r3, results, Tryd.results38, go_sem]) rfl ⟨_, _, _, _, _, rfl, hbd, hsz, hpE⟩
end Go.Proofs.YtdcdjocjlicplaaDoor
