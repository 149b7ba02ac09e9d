/-
  Contracts: the draws of a variant, a board and a die.
-/
import Derived.Test.YtapocfgajkkpdaaDrawN
namespace Go.Proofs.Ytapocfgajkkpdaa
open Go.ChangeShapes Go.WideShapes Go.ChangeAt Go.RowKit Go.Joins

def DieDrawn (w : World) (g : Nat) (A : Option Addr) (n k : Nat) (e : Ending) (w' : World) : Prop := ∃ N, e = .returned (.int .i64 N) ∧ Drew w g A n k w'
set_option maxHeartbeats 1000000 in
theorem drawDie_any (w : World) (g : Nat) (A : Option Addr) (n k : Nat) (hs : Src w g A n k) (p c h s : Int) (hbd : vBd p c h s) :
    Calls Try.prog 88 #[.pointer (some ⟨g, 0, none⟩), .agg #[.int .i64 p, .int .i64 c, .int .i64 h, .int .i64 s]] w (DieDrawn w g A n k) := by
  have hg := hs.lt
  have hs7 : 0 ≤ s ∧ s ≤ 7 := by unfold vBd at hbd; omega
  obtain ⟨w0, hw0⟩ : ∃ w0, w0 = w.alloc (.cells #[.int .i64 p, .int .i64 c, .int .i64 h, .int .i64 s] 25) := ⟨_, rfl⟩
  have hV : Blk w0 w.heap.size 25 #[.int .i64 p, .int .i64 c, .int .i64 h, .int .i64 s] := by rw [hw0]; exact Blk.new _ _ _
  have hp0 : Past w w0 := by rw [hw0]; exact (by repeat (first | exact Past.refl _ | assumption | refine Past.alloc ?_ _ | refine Past.drew ?_ | refine Past.drewN ?_ _ | refine Past.setCell ?_ (by first | (simp; done) | (simp <;> omega)) _ | refine Past.trans ?_ (past_over _ _) | refine Past.trans ?_ (by assumption)))
  go_enter Try.func88, Try.ntmps88
  go_upto_region 1 with fail
  rw [← hw0]
  clear hw0
  go_wp2_with fail
  (with_reducible refine (next_any _ _ _ _ _ _ (hs.past hp0) (by omega)).mono ?_)
  rintro e w1 ⟨x, rfl, x0, x1, h1⟩
  have hV1 := h1.blk hV (by omega)
  have hD1 : Drew w g A n k w1 := Drew.after hp0 h1
  have s1 := h1.src
  clear hV h1 hp0
  have c0 : w1.cell? ⟨w.heap.size, 0, none⟩ = some (.int .i64 p) := hV1.cell 0 rfl
  have c1 : w1.cell? ⟨w.heap.size, 1, none⟩ = some (.int .i64 c) := hV1.cell 1 rfl
  have c2 : w1.cell? ⟨w.heap.size, 2, none⟩ = some (.int .i64 h) := hV1.cell 2 rfl
  have c3 : w1.cell? ⟨w.heap.size, 3, none⟩ = some (.int .i64 s) := hV1.cell 3 rfl
  by_cases e0 : x = 0
  · subst e0
    have W1 : IntKind.i64.wrap (s + 1) = s + 1 := IntWalk.i64_in _ (by omega)
    go_wp2_with fail
    go_region_held3 (fun w' => w'.cell? ⟨w.heap.size, 0, none⟩ = some (.int .i64 p) ∧ w'.cell? ⟨w.heap.size, 1, none⟩ = some (.int .i64 c) ∧ w'.cell? ⟨w.heap.size, 2, none⟩ = some (.int .i64 h) ∧ w'.cell? ⟨w.heap.size, 3, none⟩ = some (.int .i64 s)) (first | (go_split_ands; refine ⟨(by first | with_reducible assumption | (with_reducible refine Drew.cell hd ?_ (by simp only; omega); first | with_reducible assumption | (with_reducible refine cellqd ?_; with_reducible assumption)) | (with_reducible refine cellqd ?_; with_reducible assumption)), (by first | with_reducible assumption | (with_reducible refine Drew.cell hd ?_ (by simp only; omega); first | with_reducible assumption | (with_reducible refine cellqd ?_; with_reducible assumption)) | (with_reducible refine cellqd ?_; with_reducible assumption)), (by first | with_reducible assumption | (with_reducible refine Drew.cell hd ?_ (by simp only; omega); first | with_reducible assumption | (with_reducible refine cellqd ?_; with_reducible assumption)) | (with_reducible refine cellqd ?_; with_reducible assumption)), (by first | with_reducible assumption | (with_reducible refine Drew.cell hd ?_ (by simp only; omega); first | with_reducible assumption | (with_reducible refine cellqd ?_; with_reducible assumption)) | (with_reducible refine cellqd ?_; with_reducible assumption))⟩)) (first | (go_at_call 65; (try go_split_ands); (with_reducible refine (next_any _ _ _ _ _ _ (by first | assumption | exact Src.drew (by assumption)) (by omega)).mono ?_); rintro e w9 ⟨y, rfl, y0, y1, hd⟩))
    have hE : Drew w g A n k w9 := by first | exact hD1.trans hd | exact hD1.drew.trans hd
    go_wp2_with fail
    go_ret
    exact ⟨_, rfl, hE⟩
  · go_wp2_with fail
    (with_reducible refine (next_any _ _ _ _ _ _ s1 (by omega)).mono ?_)
    rintro e w2 ⟨y, rfl, y0, y1, h2⟩
    go_wp2_with fail
    go_ret
    exact ⟨_, rfl, hD1.trans h2⟩
set_option maxHeartbeats 2000000 in
theorem drawLegal_any (A : Option Addr) (n k : Nat) (w : World) (hx : RdC w w.heap.size A n) (hn : n ≤ 5000) :
    Calls Try.prog 46 #[.slice A n k] w (PairNum w) := by
  obtain ⟨wv, hwv⟩ : ∃ w0, w0 = w.alloc (.cells #[.int .i64 0, .int .i64 0, .int .i64 0, .int .i64 0] 25) := ⟨_, rfl⟩
  have hVv : Blk wv w.heap.size 25 #[.int .i64 0, .int .i64 0, .int .i64 0, .int .i64 0] := by rw [hwv]; exact Blk.new _ _ _
  have hpv : Past w wv := by rw [hwv]; exact (by repeat (first | exact Past.refl _ | assumption | refine Past.alloc ?_ _ | refine Past.drew ?_ | refine Past.drewN ?_ _ | refine Past.setCell ?_ (by first | (simp; done) | (simp <;> omega)) _ | refine Past.trans ?_ (past_over _ _) | refine Past.trans ?_ (by assumption)))
  have zv : wv.heap.size = w.heap.size + 1 := by rw [hwv]; simp
  obtain ⟨w0, hw0⟩ : ∃ w0, w0 = wv.alloc (.cells #[.slice none 0 0, .slice none 0 0] 43) := ⟨_, rfl⟩
  have hS : Blk w0 (w.heap.size + 1) 43 #[.slice none 0 0, .slice none 0 0] := by rw [hw0]; exact Blk.at_ zv.symm
  have hpr : Past wv w0 := by rw [hw0]; exact (by repeat (first | exact Past.refl _ | assumption | refine Past.alloc ?_ _ | refine Past.drew ?_ | refine Past.drewN ?_ _ | refine Past.setCell ?_ (by first | (simp; done) | (simp <;> omega)) _ | refine Past.trans ?_ (past_over _ _) | refine Past.trans ?_ (by assumption)))
  have hR := hVv.past hpr
  have hp0 := hpv.trans hpr
  have hz0 := hS.lt
  go_enter Try.func46, Try.ntmps46
  go_upto_region 1 with fail
  rw [← hwv, ← hw0]
  clear hwv hw0 hVv hpr hpv zv
  go_wp2_with fail
  (with_reducible refine (from_any _ _ _ _ (hx.past hp0 hp0.sz) hn).mono ?_)
  rintro e w1 ⟨g, rfl, hs1, hg1, hp1⟩
  have hR1 := hR.past hp1
  have hS1 := hS.past hp1
  have zg := hs1.lt
  go_wp2_with fail
  (with_reducible refine (drawPair_any _ _ _ _ _ hs1).mono ?_)
  rintro e w2 ⟨p, c, h, s, b1, n1, l1, X1, b2, n2, l2, X2, rfl, hbd, q1, q2, m1, m2, g1, g2, h2⟩
  have hR2 := h2.blk hR1 (by omega)
  have hS2 := h2.blk hS1 (by omega)
  have hp2 : Past w w2 := h2.pastOf (hp0.trans hp1) (by omega)
  have hz2 := h2.sz
  have hs2 := h2.src
  clear h2 hR hR1 hp1 hs1 hS hS1
  go_upto_region 3 with fail
  obtain ⟨wu, hwu⟩ : ∃ wu, wu = w2.alloc (.cells #[.int .i64 p, .int .i64 c, .int .i64 h, .int .i64 s] 25) := ⟨_, rfl⟩
  have hVu : Blk wu w2.heap.size 25 #[.int .i64 p, .int .i64 c, .int .i64 h, .int .i64 s] := by rw [hwu]; exact Blk.new _ _ _
  have hpu : Past w2 wu := by rw [hwu]; exact (Past.refl w2).alloc _
  have zu : wu.heap.size = w2.heap.size + 1 := by rw [hwu]; simp
  obtain ⟨w3, hw3⟩ : ∃ w3, w3 = wu.alloc (.cells #[.slice (some ⟨b1, 0, none⟩) n1 l1, .slice (some ⟨b2, 0, none⟩) n2 l2] 43) := ⟨_, rfl⟩
  rw [← hwu, ← hw3]
  have hB : Blk w3 (w2.heap.size + 1) 43 #[.slice (some ⟨b1, 0, none⟩) n1 l1, .slice (some ⟨b2, 0, none⟩) n2 l2] := by rw [hw3]; exact Blk.at_ zu.symm
  have hpx : Past wu w3 := by rw [hw3]; exact (Past.refl wu).alloc _
  have hV := hVu.past hpx
  have hp23 := hpu.trans hpx
  have hs3 := hs2.past hp23
  have hR3 := hR2.past hp23
  have hS3 := hS2.past hp23
  have q13 := q1.past hp23
  have q23 := q2.past hp23
  have hp3 := hp2.trans hp23
  have zB := hB.lt
  obtain ⟨bV, hbV⟩ : ∃ b, b = w2.heap.size := ⟨_, rfl⟩
  rw [← hbV] at hV hB zu zB hz2 ⊢
  clear hw3 hwu hbV hVu hpu hpx hp23 hp2 hR2 hS2 hs2 q1 q2
  have c0 : w3.cell? ⟨bV, 0, none⟩ = some (.int .i64 p) := hV.cell 0 rfl
  have c1 : w3.cell? ⟨bV, 1, none⟩ = some (.int .i64 c) := hV.cell 1 rfl
  have c2 : w3.cell? ⟨bV, 2, none⟩ = some (.int .i64 h) := hV.cell 2 rfl
  have c3 : w3.cell? ⟨bV, 3, none⟩ = some (.int .i64 s) := hV.cell 3 rfl
  have c4 : w3.cell? ⟨bV + 1, 0, none⟩ = some (.slice (some ⟨b1, 0, none⟩) n1 l1) := hB.cell 0 rfl
  have c5 : w3.cell? ⟨bV + 1, 1, none⟩ = some (.slice (some ⟨b2, 0, none⟩) n2 l2) := hB.cell 1 rfl
  clear hV hB
  go_wp2_with fail
  go_region_held3 (fun w' => w'.cell? ⟨bV, 0, none⟩ = some (.int .i64 p) ∧ w'.cell? ⟨bV, 1, none⟩ = some (.int .i64 c) ∧ w'.cell? ⟨bV, 2, none⟩ = some (.int .i64 h) ∧ w'.cell? ⟨bV, 3, none⟩ = some (.int .i64 s) ∧ w'.cell? ⟨bV + 1, 0, none⟩ = some (.slice (some ⟨b1, 0, none⟩) n1 l1) ∧ w'.cell? ⟨bV + 1, 1, none⟩ = some (.slice (some ⟨b2, 0, none⟩) n2 l2) ∧ Past w w') (first | (go_split_ands; refine ⟨(by first | with_reducible assumption | (with_reducible refine cellq4d (by omega) ?_; first | with_reducible assumption | (with_reducible refine cellqd ?_; with_reducible assumption)) | (with_reducible refine cellq2d (by omega) ?_; with_reducible assumption) | (with_reducible refine cellq4 (by omega) ?_; first | with_reducible assumption | (with_reducible refine cellqd ?_; with_reducible assumption)) | (with_reducible refine cellq2 (by omega) ?_; with_reducible assumption) | (with_reducible refine cellq2d (by omega) (cellq4 (by omega) ?_); with_reducible assumption) | (with_reducible refine cellq2 (by omega) (cellq4 (by omega) ?_); with_reducible assumption) | (with_reducible refine Drew.cell hd ?_ (by simp only; omega); first | with_reducible assumption | (with_reducible refine cellqd ?_; with_reducible assumption)) | (with_reducible refine Past.keep hq ?_; first | with_reducible assumption | (with_reducible refine cellqd ?_; with_reducible assumption)) | (with_reducible refine cellqd ?_; with_reducible assumption)), (by first | with_reducible assumption | (with_reducible refine cellq4d (by omega) ?_; first | with_reducible assumption | (with_reducible refine cellqd ?_; with_reducible assumption)) | (with_reducible refine cellq2d (by omega) ?_; with_reducible assumption) | (with_reducible refine cellq4 (by omega) ?_; first | with_reducible assumption | (with_reducible refine cellqd ?_; with_reducible assumption)) | (with_reducible refine cellq2 (by omega) ?_; with_reducible assumption) | (with_reducible refine cellq2d (by omega) (cellq4 (by omega) ?_); with_reducible assumption) | (with_reducible refine cellq2 (by omega) (cellq4 (by omega) ?_); with_reducible assumption) | (with_reducible refine Drew.cell hd ?_ (by simp only; omega); first | with_reducible assumption | (with_reducible refine cellqd ?_; with_reducible assumption)) | (with_reducible refine Past.keep hq ?_; first | with_reducible assumption | (with_reducible refine cellqd ?_; with_reducible assumption)) | (with_reducible refine cellqd ?_; with_reducible assumption)), (by first | with_reducible assumption | (with_reducible refine cellq4d (by omega) ?_; first | with_reducible assumption | (with_reducible refine cellqd ?_; with_reducible assumption)) | (with_reducible refine cellq2d (by omega) ?_; with_reducible assumption) | (with_reducible refine cellq4 (by omega) ?_; first | with_reducible assumption | (with_reducible refine cellqd ?_; with_reducible assumption)) | (with_reducible refine cellq2 (by omega) ?_; with_reducible assumption) | (with_reducible refine cellq2d (by omega) (cellq4 (by omega) ?_); with_reducible assumption) | (with_reducible refine cellq2 (by omega) (cellq4 (by omega) ?_); with_reducible assumption) | (with_reducible refine Drew.cell hd ?_ (by simp only; omega); first | with_reducible assumption | (with_reducible refine cellqd ?_; with_reducible assumption)) | (with_reducible refine Past.keep hq ?_; first | with_reducible assumption | (with_reducible refine cellqd ?_; with_reducible assumption)) | (with_reducible refine cellqd ?_; with_reducible assumption)), (by first | with_reducible assumption | (with_reducible refine cellq4d (by omega) ?_; first | with_reducible assumption | (with_reducible refine cellqd ?_; with_reducible assumption)) | (with_reducible refine cellq2d (by omega) ?_; with_reducible assumption) | (with_reducible refine cellq4 (by omega) ?_; first | with_reducible assumption | (with_reducible refine cellqd ?_; with_reducible assumption)) | (with_reducible refine cellq2 (by omega) ?_; with_reducible assumption) | (with_reducible refine cellq2d (by omega) (cellq4 (by omega) ?_); with_reducible assumption) | (with_reducible refine cellq2 (by omega) (cellq4 (by omega) ?_); with_reducible assumption) | (with_reducible refine Drew.cell hd ?_ (by simp only; omega); first | with_reducible assumption | (with_reducible refine cellqd ?_; with_reducible assumption)) | (with_reducible refine Past.keep hq ?_; first | with_reducible assumption | (with_reducible refine cellqd ?_; with_reducible assumption)) | (with_reducible refine cellqd ?_; with_reducible assumption)), (by first | with_reducible assumption | (with_reducible refine cellq4d (by omega) ?_; first | with_reducible assumption | (with_reducible refine cellqd ?_; with_reducible assumption)) | (with_reducible refine cellq2d (by omega) ?_; with_reducible assumption) | (with_reducible refine cellq4 (by omega) ?_; first | with_reducible assumption | (with_reducible refine cellqd ?_; with_reducible assumption)) | (with_reducible refine cellq2 (by omega) ?_; with_reducible assumption) | (with_reducible refine cellq2d (by omega) (cellq4 (by omega) ?_); with_reducible assumption) | (with_reducible refine cellq2 (by omega) (cellq4 (by omega) ?_); with_reducible assumption) | (with_reducible refine Drew.cell hd ?_ (by simp only; omega); first | with_reducible assumption | (with_reducible refine cellqd ?_; with_reducible assumption)) | (with_reducible refine Past.keep hq ?_; first | with_reducible assumption | (with_reducible refine cellqd ?_; with_reducible assumption)) | (with_reducible refine cellqd ?_; with_reducible assumption)), (by first | with_reducible assumption | (with_reducible refine cellq4d (by omega) ?_; first | with_reducible assumption | (with_reducible refine cellqd ?_; with_reducible assumption)) | (with_reducible refine cellq2d (by omega) ?_; with_reducible assumption) | (with_reducible refine cellq4 (by omega) ?_; first | with_reducible assumption | (with_reducible refine cellqd ?_; with_reducible assumption)) | (with_reducible refine cellq2 (by omega) ?_; with_reducible assumption) | (with_reducible refine cellq2d (by omega) (cellq4 (by omega) ?_); with_reducible assumption) | (with_reducible refine cellq2 (by omega) (cellq4 (by omega) ?_); with_reducible assumption) | (with_reducible refine Drew.cell hd ?_ (by simp only; omega); first | with_reducible assumption | (with_reducible refine cellqd ?_; with_reducible assumption)) | (with_reducible refine Past.keep hq ?_; first | with_reducible assumption | (with_reducible refine cellqd ?_; with_reducible assumption)) | (with_reducible refine cellqd ?_; with_reducible assumption)), ?_⟩; first | with_reducible assumption | (with_reducible refine Past.drew ?_; with_reducible refine past4 ?_; first | with_reducible assumption | (with_reducible refine Past.drew ?_; with_reducible assumption)) | (with_reducible refine past4 ?_; first | with_reducible assumption | (with_reducible refine Past.drew ?_; with_reducible assumption)) | (with_reducible refine Past.drew ?_; with_reducible refine pastb ?_; first | with_reducible assumption | (with_reducible refine Past.drew ?_; with_reducible assumption)) | (with_reducible refine pastb ?_; first | with_reducible assumption | (with_reducible refine Past.drew ?_; with_reducible assumption)) | (with_reducible refine Drew.pastOf hd ?_ (by omega); first | with_reducible assumption | (with_reducible refine Past.drew ?_; with_reducible assumption)) | (with_reducible refine Past.trans ?_ hq; first | with_reducible assumption | (with_reducible refine Past.drew ?_; with_reducible assumption)) | (with_reducible refine Past.drew ?_; with_reducible assumption))) (first | (go_at_call 88; (try go_split_ands); (with_reducible refine (drawDie_any _ _ _ _ _ (by first | assumption | exact Src.drew (by assumption)) _ _ _ _ hbd).mono ?_); rintro e w9 ⟨y1, rfl, hd1⟩; have hd := hd1; have hRx := Drew.blk hd (show Blk _ w.heap.size _ _ from (by first | assumption | exact Blk.drew (by assumption))) (by omega); have hSx := Drew.blk hd (show Blk _ (w.heap.size + 1) _ _ from (by first | assumption | exact Blk.drew (by assumption))) (by omega); have s9 := hd.src; have r0 : w9.cell? ⟨w.heap.size, 0, none⟩ = some (.int .i64 0) := hRx.cell 0 rfl; have rf0 := hRx.free 0; have r1 : w9.cell? ⟨w.heap.size, 1, none⟩ = some (.int .i64 0) := hRx.cell 1 rfl; have rf1 := hRx.free 1; have r2 : w9.cell? ⟨w.heap.size, 2, none⟩ = some (.int .i64 0) := hRx.cell 2 rfl; have rf2 := hRx.free 2; have r3 : w9.cell? ⟨w.heap.size, 3, none⟩ = some (.int .i64 0) := hRx.cell 3 rfl; have rf3 := hRx.free 3; have s0 : w9.cell? ⟨w.heap.size + 1, 0, none⟩ = some (.slice none 0 0) := hSx.cell 0 rfl; have sf0 := hSx.free 0; have s1 : w9.cell? ⟨w.heap.size + 1, 1, none⟩ = some (.slice none 0 0) := hSx.cell 1 rfl; have sf1 := hSx.free 1))
  have t1 : RdI w9 (some ⟨b1, 0, none⟩) n1 X1 := by first | exact (hd1.rd q13 (by omega)) | exact (hd1.rd (RdI.drew' q13) (by omega))
  have t2 : RdI w9 (some ⟨b2, 0, none⟩) n2 X2 := by first | exact (hd1.rd q23 (by omega)) | exact (hd1.rd (RdI.drew' q23) (by omega))
  have hp9 : Past w w9 := by first | exact (hd1.pastOf hp3 (by omega)) | exact (hd1.pastOf (Past.drew hp3) (by omega))
  obtain ⟨wE, hwE⟩ : ∃ wE, wE = ((((((w9.setCell ⟨w.heap.size, 0, none⟩ (.int .i64 p)).setCell ⟨w.heap.size, 1, none⟩ (.int .i64 c)).setCell ⟨w.heap.size, 2, none⟩ (.int .i64 h)).setCell ⟨w.heap.size, 3, none⟩ (.int .i64 s)).setCell ⟨w.heap.size + 1, 0, none⟩ (.slice (some ⟨b1, 0, none⟩) n1 l1)).setCell ⟨w.heap.size + 1, 1, none⟩ (.slice (some ⟨b2, 0, none⟩) n2 l2)) := ⟨_, rfl⟩
  have hRE : Blk wE w.heap.size 25 #[.int .i64 p, .int .i64 c, .int .i64 h, .int .i64 s] := by rw [hwE]; exact (hRx.put4).off2 (by omega)
  have hSE : Blk wE (w.heap.size + 1) 43 #[.slice (some ⟨b1, 0, none⟩) n1 l1, .slice (some ⟨b2, 0, none⟩) n2 l2] := by rw [hwE]; exact Blk.put2 (hSx.off4 (by omega))
  have q1E : RdI wE (some ⟨b1, 0, none⟩) n1 X1 := by rw [hwE]; exact (t1.off4 (by omega)).off2 (by omega)
  have q2E : RdI wE (some ⟨b2, 0, none⟩) n2 X2 := by rw [hwE]; exact (t2.off4 (by omega)).off2 (by omega)
  have hpE : Past w wE := by rw [hwE]; exact past6 hp9
  clear hRx hSx hp9 t1 t2 r0 r1 r2 r3 s0 s1 rf0 rf1 rf2 rf3 sf0 sf1
  rw [← hwE]
  clear hwE
  go_wp2_with fail
  have r0 : wE.cell? ⟨w.heap.size, 0, none⟩ = some (.int .i64 p) := hRE.cell 0 rfl
  have r1 : wE.cell? ⟨w.heap.size, 1, none⟩ = some (.int .i64 c) := hRE.cell 1 rfl
  have r2 : wE.cell? ⟨w.heap.size, 2, none⟩ = some (.int .i64 h) := hRE.cell 2 rfl
  have r3 : wE.cell? ⟨w.heap.size, 3, none⟩ = some (.int .i64 s) := hRE.cell 3 rfl
  have s0 : wE.cell? ⟨w.heap.size + 1, 0, none⟩ = some (.slice (some ⟨b1, 0, none⟩) n1 l1) := hSE.cell 0 rfl
  have s1 : wE.cell? ⟨w.heap.size + 1, 1, none⟩ = some (.slice (some ⟨b2, 0, none⟩) n2 l2) := hSE.cell 1 rfl
  exact bodyPost_ret (v := .tuple #[.agg #[.int .i64 p, .int .i64 c, .int .i64 h, .int .i64 s], .agg #[.slice (some ⟨b1, 0, none⟩) n1 l1, .slice (some ⟨b2, 0, none⟩) n2 l2], .int .i64 (y1)]) (by simp [r0, r1, r2, r3, s0, s1, results, Try.results46, go_sem]) rfl ⟨_, _, _, _, _, _, _, _, _, _, _, _, _, rfl, hbd, q1E, q2E, m1, m2, hpE⟩
end Go.Proofs.Ytapocfgajkkpdaa
