/-
  Contracts: the board from which a game begins.
-/
import Derived.Test.YtapocfgajkkpdaaSpan
import Derived.Test.YtapocfgajkkpdaaSideOf
import Derived.Deep.RegionHeld3
import Derived.Deep.DeepCutAuto
import Derived.BigRegion
import Derived.IntWalk
namespace Go.Proofs.Ytapocfgajkkpdaa
open Go.ChangeShapes Go.WideShapes Go.ChangeAt Go.RowKit Go.Joins

/-- A side of the first board, of the full game and of another. -/
def stF : List Int := ((((List.replicate 25 (0 : Int)).set 5 5).set 7 3).set 12 5).set 23 2
def stD (P C : Nat) : List Int := ((List.replicate (P + 1) (0 : Int)).set (P - 1) ((C : Int) / 2)).set (P / 2 - 1) ((C : Int) - (C : Int) / 2)
theorem stD_len (P C : Nat) : (stD P C).length = P + 1 := by simp [stD]
def BoardOk (w : World) (L M : List Int) (ok : Bool) (e : Ending) (w' : World) : Prop :=
  ∃ A k D l, e = .returned (.tuple #[.agg #[.slice A L.length k, .slice D M.length l], .bool ok]) ∧ BoardVal w w' A k D l L M ∧ Past w w'
theorem BoardOk.empty {w w' : World} (hp : Past w w') : BoardOk w [] [] false (.returned (.tuple #[.agg #[.slice none 0 0, .slice none 0 0], .bool false])) w' := ⟨none, 0, none, 0, rfl, BoardVal.nil _ _, hp⟩
theorem BoardOk.mk {w w' : World} {n m b k d l : Nat} {xs ys : List Int} (h1 : OwI w.heap.size w' (some ⟨b, 0, none⟩) n k xs) (h2 : OwI w.heap.size w' (some ⟨d, 0, none⟩) m l ys) (hne : b ≠ d) (hp : Past w w') :
    BoardOk w xs ys true (.returned (.tuple #[.agg #[.slice (some ⟨b, 0, none⟩) n k, .slice (some ⟨d, 0, none⟩) m l], .bool true])) w' := by
  have e1 := h1.len
  have e2 := h2.len
  subst e1 e2
  exact ⟨_, k, _, l, rfl, ⟨h1, h2, fun x hx hy => hne ((blk_some.1 hx).symm.trans (blk_some.1 hy))⟩, hp⟩
theorem OwI.set1 {base g n k : Nat} {w : World} {xs : List Int} (h : OwI base w (some ⟨g, 0, none⟩) n k xs) (j : Nat) (v : Int) : OwI base (w.setCell ⟨g, j, none⟩ (.int .i64 v)) (some ⟨g, 0, none⟩) n k (xs.set j v) := by
  have h1 := (World.ownsRow.stored h j (.int .i64 v)).1
  rw [← List.map_set] at h1
  exact h1
theorem OwI.cellj {base g n k : Nat} {w : World} {xs : List Int} (h : OwI base w (some ⟨g, 0, none⟩) n k xs) (j : Nat) (hj : j < n) (x : Int) (hx : xs[j]? = some x) : w.cell? ⟨g, j, none⟩ = some (.int .i64 x) := by
  rw [World.ownsRow.cellAt h j (by omega), List.getElem?_map, hx]
  rfl
theorem OwI.freej {base g n k : Nat} {w : World} {xs : List Int} (h : OwI base w (some ⟨g, 0, none⟩) n k xs) (j : Nat) : w.frozen? ⟨g, j, none⟩ = false := World.ownsRow.frozenAt h j
/-- A row just made, of n numbers. -/
def SideMade (w : World) (n : Nat) (xs : List Int) (e : Ending) (w' : World) : Prop := ∃ g, e = .returned (.slice (some ⟨g, 0, none⟩) n n) ∧ OwI w.heap.size w' (some ⟨g, 0, none⟩) n n xs ∧ Past w w'
theorem put2 {w : World} {g a b : Nat} {u v : Value} {W : World} (hp : Past W w) (hg : W.heap.size ≤ g) : Past W ((w.setCell ⟨g, a, none⟩ u).setCell ⟨g, b, none⟩ v) := (hp.setCell hg _).setCell hg _
theorem sEmpty (P : Nat) (c h s : Int) (w : World) (hP : P ≤ 24) :
    Calls Try.prog 104 #[.agg #[.int .i64 (P : Int), .int .i64 c, .int .i64 h, .int .i64 s]] w (SideMade w (P + 1) (List.replicate (P + 1) 0)) := by
  obtain ⟨i0, hi, hz0, hz1, hz2⟩ := info_parts infoI
  go_enter Try.func104, Try.ntmps104
  go_wp2_with (at_make; refine wpList_make_full _ rfl _ _ 28 rfl (w.heap.size + 1) 2 i0 (.int .i64 0) 1 Try.underlying28 hi hz0 hz1 .i64 .i64 ((P : Int) + 1) ((P : Int) + 1) (P + 1) rfl rfl (by omega) (by omega) (by rw [hz2]; omega) (by unfold maxLen; omega) (by simp) ?_; intro w3 hown3 hg3; rw [made_zero] at hown3)
  simp only [World.size_alloc] at hown3
  go_ret
  exact ⟨_, rfl, OwI.less hown3 (by omega), Past.trans ((Past.refl w).alloc _) (Below.grown (Below.refl _ _) hg3 (Nat.le_refl _) (fun k hk => by cases hk))⟩
set_option maxHeartbeats 1000000 in
set_option maxRecDepth 100000 in
theorem sStart_full (w : World) : Calls Try.prog 118 #[.agg #[.int .i64 24, .int .i64 15, .int .i64 6, .int .i64 6]] w (SideMade w 25 stF) := by
  obtain ⟨w0, hw0⟩ : ∃ w0 : World, w0 = w.alloc (.cells #[.int .i64 24, .int .i64 15, .int .i64 6, .int .i64 6] 25) := ⟨_, rfl⟩
  have hp0 : Past w w0 := by rw [hw0]; exact (by repeat (first | exact Past.refl _ | assumption | refine Past.alloc ?_ _ | refine Past.drew ?_ | refine Past.drewN ?_ _ | refine Past.setCell ?_ (by first | (simp; done) | (simp <;> omega)) _ | refine Past.trans ?_ (past_over _ _) | refine Past.trans ?_ (by assumption)))
  have c0 : w0.cell? ⟨w.heap.size, 0, none⟩ = some (.int .i64 24) := by rw [hw0]; simp [go_sem]
  have c1 : w0.cell? ⟨w.heap.size, 1, none⟩ = some (.int .i64 15) := by rw [hw0]; simp [go_sem]
  have c2 : w0.cell? ⟨w.heap.size, 2, none⟩ = some (.int .i64 6) := by rw [hw0]; simp [go_sem]
  have c3 : w0.cell? ⟨w.heap.size, 3, none⟩ = some (.int .i64 6) := by rw [hw0]; simp [go_sem]
  go_enter Try.func118, Try.ntmps118
  go_upto_region 1 with fail
  rw [← hw0]
  clear hw0
  go_wp2_with fail
  refine (sEmpty 24 15 6 6 _ (by omega)).mono ?_
  rintro e w1 ⟨g, rfl, ho, hb1⟩
  have d0 := hb1.keep c0
  have d1 := hb1.keep c1
  have d2 := hb1.keep c2
  have d3 := hb1.keep c3
  have db := World.block_lt_of_cell? w1 _ d0
  simp only at db
  go_wp2
  refine wp_region_over (by kernel_rfl) (by kernel_rfl) ?_
  repeat (go_big_quiet_step ((first | (go_at_call 111; exact over_of (sFullVar _)))))
  refine wpQuiet_nil ?_
  intro w2 hb2
  obtain ⟨hc2, hf2, _⟩ := hb2.cells
  have ho2 := ho.past hb2
  have eg := ho2.at_
  have x5 := ho2.cellj 5 (by omega) 0 (by simp)
  have x7 := ho2.cellj 7 (by omega) 0 (by simp)
  have x12 := ho2.cellj 12 (by omega) 0 (by simp)
  have x23 := ho2.cellj 23 (by omega) 0 (by simp)
  have y5 := ho2.freej 5
  have y7 := ho2.freej 7
  have y12 := ho2.freej 12
  have y23 := ho2.freej 23
  have hN := Lib.hid ((((ho2.set1 5 5).set1 7 3).set1 12 5).set1 23 2)
  have hPP := Lib.hid (put2 (a := 12) (b := 23) (u := .int .i64 5) (v := .int .i64 2) (put2 (a := 5) (b := 7) (u := .int .i64 5) (v := .int .i64 3) (hp0.trans (hb1.trans hb2)) (show w.heap.size ≤ g from Nat.le_trans hp0.sz eg.1)) (show w.heap.size ≤ g from Nat.le_trans hp0.sz eg.1))
  clear ho ho2
  go_wp2
  go_ret
  exact ⟨g, rfl, OwI.less hN.out hp0.sz, hPP.out⟩
set_option maxHeartbeats 2000000 in
set_option maxRecDepth 100000 in
theorem sStart_other (P C : Nat) (h s : Int) (w : World) (hP4 : 4 ≤ P) (hP : P ≤ 24) (hC : C ≤ 15) (hnf : ¬ ((P : Int) = 24 ∧ (C : Int) = 15 ∧ h = 6 ∧ s = 6)) : Calls Try.prog 118 #[.agg #[.int .i64 (P : Int), .int .i64 (C : Int), .int .i64 h, .int .i64 s]] w (SideMade w (P + 1) (stD P C)) := by
  obtain ⟨w0, hw0⟩ : ∃ w0 : World, w0 = w.alloc (.cells #[.int .i64 (P : Int), .int .i64 (C : Int), .int .i64 h, .int .i64 s] 25) := ⟨_, rfl⟩
  have hp0 : Past w w0 := by rw [hw0]; exact (by repeat (first | exact Past.refl _ | assumption | refine Past.alloc ?_ _ | refine Past.drew ?_ | refine Past.drewN ?_ _ | refine Past.setCell ?_ (by first | (simp; done) | (simp <;> omega)) _ | refine Past.trans ?_ (past_over _ _) | refine Past.trans ?_ (by assumption)))
  have c0 : w0.cell? ⟨w.heap.size, 0, none⟩ = some (.int .i64 (P : Int)) := by rw [hw0]; simp [go_sem]
  have c1 : w0.cell? ⟨w.heap.size, 1, none⟩ = some (.int .i64 (C : Int)) := by rw [hw0]; simp [go_sem]
  have c2 : w0.cell? ⟨w.heap.size, 2, none⟩ = some (.int .i64 h) := by rw [hw0]; simp [go_sem]
  have c3 : w0.cell? ⟨w.heap.size, 3, none⟩ = some (.int .i64 s) := by rw [hw0]; simp [go_sem]
  obtain ⟨n, hn⟩ : ∃ n, n = P + 1 := ⟨_, rfl⟩
  have HNF := Lib.hid hnf
  clear hnf
  go_enter Try.func118, Try.ntmps118
  go_upto_region 1 with fail
  rw [← hw0]
  clear hw0
  go_wp2_with fail
  (with_reducible refine (sEmpty P _ _ _ _ hP).mono ?_)
  rintro e w1 ⟨g, rfl, ho, hb1⟩
  rw [← hn] at ho ⊢
  have d0 := hb1.keep c0
  have d1 := hb1.keep c1
  have d2 := hb1.keep c2
  have d3 := hb1.keep c3
  have db := World.block_lt_of_cell? w1 _ d0
  simp only at db
  go_wp2
  go_upto_region 2 with fail
  go_cut [8] (fun b wx => b = .bool false ∧ Past w1 wx)
  case first =>
    have hs4 : (P : Int) ≠ 24 ∨ ((P : Int) = 24 ∧ ((C : Int) ≠ 15 ∨ ((C : Int) = 15 ∧ (h ≠ 6 ∨ (h = 6 ∧ s ≠ 6))))) := by have := HNF.out; omega
    rcases hs4 with h1 | ⟨h1, h1' | ⟨h1', h2 | ⟨h2, h3⟩⟩⟩
    all_goals
      refine wp_region_over (by kernel_rfl) (by kernel_rfl) ?_
      repeat (go_big_quiet_step ((first | (go_at_call 111; exact over_of (sFullVar _)))))
      refine wpQuiet_nil ?_
      intro w2 hb2
      obtain ⟨hc2, hf2, _⟩ := hb2.cells
      go_wp2
      go_meet
      exact ⟨rfl, hb2⟩
  case rest =>
    obtain ⟨rfl, hb2⟩ := hcut
    have ho2 := ho.past hb2
    have eg := ho2.at_
    replace d0 := hb2.keep d0
    replace d1 := hb2.keep d1
    have db2 := World.block_lt_of_cell? wc _ d0
    simp only at db2
    have x1 := ho2.cellj (P - 1) (by omega) 0 (by rw [List.getElem?_replicate, if_pos (by omega)])
    have x2 := ho2.cellj (P / 2 - 1) (by omega) 0 (by rw [List.getElem?_replicate, if_pos (by omega)])
    have y1 := ho2.freej (P - 1)
    have y2 := ho2.freej (P / 2 - 1)
    have hN := Lib.hid ((ho2.set1 (P - 1) ((C : Int) / 2)).set1 (P / 2 - 1) ((C : Int) - (C : Int) / 2))
    have hPP := Lib.hid (put2 (a := P - 1) (b := P / 2 - 1) (u := .int .i64 ((C : Int) / 2)) (v := .int .i64 ((C : Int) - (C : Int) / 2)) (hp0.trans (hb1.trans hb2)) (show w.heap.size ≤ g from Nat.le_trans hp0.sz eg.1))
    clear ho ho2
    go_wp2
    go_ret
    rw [hn] at hN
    exact ⟨g, rfl, OwI.less hN.out hp0.sz, hPP.out⟩
def stL (p c h s : Int) : List Int := if (vOk p c h s && decide (4 ≤ p)) = true then (if p = 24 ∧ c = 15 ∧ h = 6 ∧ s = 6 then stF else stD p.toNat c.toNat) else []
def beginOk (p c h s : Int) : Bool := vOk p c h s && decide (4 ≤ p)
theorem stL_yes {p c h s : Int} (h1 : beginOk p c h s = true) : stL p c h s = if p = 24 ∧ c = 15 ∧ h = 6 ∧ s = 6 then stF else stD p.toNat c.toNat := if_pos h1
theorem stL_no {p c h s : Int} (h1 : beginOk p c h s = false) : stL p c h s = [] := if_neg (by show ¬ beginOk p c h s = true; rw [h1]; simp)
theorem stL_le (p c h s : Int) : (stL p c h s).length ≤ 1048576 := by
  unfold stL
  split
  · rename_i h1
    simp only [Bool.and_eq_true] at h1
    obtain ⟨_, _, _, _⟩ := vOk_yes h1.1
    split
    · simp [stF]
    · rw [stD_len]; omega
  · simp
theorem SideMade.to {w : World} {n m : Nat} {xs ys : List Int} {e : Ending} {w' : World} (h : SideMade w n xs e w') (hn : n = m) (hx : xs = ys) : SideMade w m ys e w' := by subst hn hx; exact h
theorem sStart (p c h s : Int) (w : World) (hv : vOk p c h s = true) (h4 : 4 ≤ p) : Calls Try.prog 118 #[.agg #[.int .i64 p, .int .i64 c, .int .i64 h, .int .i64 s]] w (SideMade w (stL p c h s).length (stL p c h s)) := by
  have hok : beginOk p c h s = true := by simp [beginOk, hv, h4]
  rw [stL_yes hok]
  by_cases hf : p = 24 ∧ c = 15 ∧ h = 6 ∧ s = 6
  · obtain ⟨rfl, rfl, rfl, rfl⟩ := hf
    exact (sStart_full w).mono fun _ _ h => h.to (by simp [stF]) (by simp)
  · rw [if_neg hf]
    obtain ⟨_, _, _, _⟩ := vOk_yes hv
    obtain ⟨P, rfl⟩ := Int.eq_ofNat_of_zero_le (show 0 ≤ p from by omega)
    obtain ⟨C, rfl⟩ := Int.eq_ofNat_of_zero_le (show 0 ≤ c from by omega)
    exact (sStart_other P C h s w (by omega) (by omega) (by omega) hf).mono fun _ _ h => h.to (by simp [stD_len]) (by simp)
theorem sStartBoard_no (p c h s : Int) (w : World) (ho : beginOk p c h s = false) : Calls Try.prog 113 #[.agg #[.int .i64 p, .int .i64 c, .int .i64 h, .int .i64 s]] w (BoardOk w [] [] false) := by
  cases hv : vOk p c h s
  · go_enter Try.func113, Try.ntmps113
    go_wp2_with (go_at_call 19; (with_reducible refine (sIsVar_any _ _ _ _ _).mono ?_); rintro e w1 ⟨rfl, hb1⟩; obtain ⟨hc1, hf1, _⟩ := hb1.cells; have hz1_0 : w.heap.size < w1.heap.size := Past.lt hb1 (by first | omega | (simp <;> omega)); have hz1_1 : w.heap.size + 1 < w1.heap.size := Past.lt hb1 (by first | omega | (simp <;> omega)))
    refine bodyPost_ret (v := .tuple #[.agg #[.slice none 0 0, .slice none 0 0], .bool false]) (by simp [*, results, Try.results113, go_sem]) rfl (BoardOk.empty (by repeat (first | exact Past.refl _ | assumption | refine Past.alloc ?_ _ | refine Past.drew ?_ | refine Past.drewN ?_ _ | refine Past.setCell ?_ (by first | (simp; done) | (simp <;> omega)) _ | refine Past.trans ?_ (past_over _ _) | refine Past.trans ?_ (by assumption))))
  · have h4 : p < 4 := by
      simp only [beginOk, hv, Bool.true_and, decide_eq_false_iff_not] at ho
      omega
    go_enter Try.func113, Try.ntmps113
    go_wp2_with (go_at_call 19; (with_reducible refine (sIsVar_any _ _ _ _ _).mono ?_); rintro e w1 ⟨rfl, hb1⟩; obtain ⟨hc1, hf1, _⟩ := hb1.cells; have hz1_0 : w.heap.size < w1.heap.size := Past.lt hb1 (by first | omega | (simp <;> omega)); have hz1_1 : w.heap.size + 1 < w1.heap.size := Past.lt hb1 (by first | omega | (simp <;> omega)))
    refine bodyPost_ret (v := .tuple #[.agg #[.slice none 0 0, .slice none 0 0], .bool false]) (by simp [*, results, Try.results113, go_sem]) rfl (BoardOk.empty (by repeat (first | exact Past.refl _ | assumption | refine Past.alloc ?_ _ | refine Past.drew ?_ | refine Past.drewN ?_ _ | refine Past.setCell ?_ (by first | (simp; done) | (simp <;> omega)) _ | refine Past.trans ?_ (past_over _ _) | refine Past.trans ?_ (by assumption))))
set_option maxHeartbeats 1000000 in
set_option maxRecDepth 100000 in
theorem sStartBoard_yes (p c h s : Int) (w : World) (hv : Hid (vOk p c h s = true)) (h4 : 4 ≤ p) : Calls Try.prog 113 #[.agg #[.int .i64 p, .int .i64 c, .int .i64 h, .int .i64 s]] w (BoardOk w (stL p c h s) (stL p c h s) true) := by
  obtain ⟨wv, hwv⟩ : ∃ wv : World, wv = w.alloc (.cells #[.int .i64 p, .int .i64 c, .int .i64 h, .int .i64 s] 25) := ⟨_, rfl⟩
  have hp0 : Past w wv := by rw [hwv]; exact (by repeat (first | exact Past.refl _ | assumption | refine Past.alloc ?_ _ | refine Past.drew ?_ | refine Past.drewN ?_ _ | refine Past.setCell ?_ (by first | (simp; done) | (simp <;> omega)) _ | refine Past.trans ?_ (past_over _ _) | refine Past.trans ?_ (by assumption)))
  have c0 : wv.cell? ⟨w.heap.size, 0, none⟩ = some (.int .i64 p) := by rw [hwv]; simp [go_sem]
  have c1 : wv.cell? ⟨w.heap.size, 1, none⟩ = some (.int .i64 c) := by rw [hwv]; simp [go_sem]
  have c2 : wv.cell? ⟨w.heap.size, 2, none⟩ = some (.int .i64 h) := by rw [hwv]; simp [go_sem]
  have c3 : wv.cell? ⟨w.heap.size, 3, none⟩ = some (.int .i64 s) := by rw [hwv]; simp [go_sem]
  have zv : wv.heap.size = w.heap.size + 1 := by rw [hwv]; simp [go_sem]
  obtain ⟨wr, hwr⟩ : ∃ wr : World, wr = wv.alloc (.cells #[.slice none 0 0, .slice none 0 0] 43) := ⟨_, rfl⟩
  have hpr : Past wv wr := by rw [hwr]; exact (by repeat (first | exact Past.refl _ | assumption | refine Past.alloc ?_ _ | refine Past.drew ?_ | refine Past.drewN ?_ _ | refine Past.setCell ?_ (by first | (simp; done) | (simp <;> omega)) _ | refine Past.trans ?_ (past_over _ _) | refine Past.trans ?_ (by assumption)))
  have hR : Blk wr (w.heap.size + 1) 43 #[.slice none 0 0, .slice none 0 0] := by rw [hwr]; exact Blk.at_ zv.symm
  have zr : wr.heap.size = w.heap.size + 2 := by rw [hwr]; simp [go_sem, zv]
  have hv' := hv.out
  have hS := fun w => sStart p c h s w hv.out h4
  generalize stL p c h s = L at hS ⊢
  obtain ⟨n, hn⟩ : ∃ n, L.length = n := ⟨_, rfl⟩
  rw [hn] at hS
  have HS := Lib.hid hS
  have HL := Lib.hid hn
  clear hS hn
  go_enter Try.func113, Try.ntmps113
  go_upto_region 1 with fail
  rw [← hwv, ← hwr]
  clear hwv hwr
  have d0 := hpr.keep c0
  have d1 := hpr.keep c1
  have d2 := hpr.keep c2
  have d3 := hpr.keep c3
  go_wp2_with fail
  (with_reducible refine (sIsVar_any _ _ _ _ _).mono ?_)
  rintro e w1 ⟨rfl, hb1⟩
  rw [hv']
  clear hv'
  replace d0 := hb1.keep d0
  replace d1 := hb1.keep d1
  replace d2 := hb1.keep d2
  replace d3 := hb1.keep d3
  have hR1 := hR.past hb1
  have hl := hR1.lt
  go_wp2_with fail
  go_region_held3 (fun w' => w'.cell? ⟨w.heap.size, 0, none⟩ = some (.int .i64 p) ∧ w'.cell? ⟨w.heap.size, 1, none⟩ = some (.int .i64 c) ∧ w'.cell? ⟨w.heap.size, 2, none⟩ = some (.int .i64 h) ∧ w'.cell? ⟨w.heap.size, 3, none⟩ = some (.int .i64 s) ∧ Past (wv) w') ((go_split_ands; refine keep_of (a := wv) (S := fun w' => w'.cell? ⟨w.heap.size, 0, none⟩ = some (.int .i64 p) ∧ w'.cell? ⟨w.heap.size, 1, none⟩ = some (.int .i64 c) ∧ w'.cell? ⟨w.heap.size, 2, none⟩ = some (.int .i64 h) ∧ w'.cell? ⟨w.heap.size, 3, none⟩ = some (.int .i64 s) ∧ Past (wv) w') (by repeat (first | exact Past.refl _ | assumption | refine Past.alloc ?_ _ | refine Past.drew ?_ | refine Past.drewN ?_ _ | refine Past.setCell ?_ (by first | (simp; done) | (simp <;> omega)) _ | refine Past.trans ?_ (past_over _ _) | refine Past.trans ?_ (by assumption))) (fun x hP => ⟨hP.keep (by assumption), hP.keep (by assumption), hP.keep (by assumption), hP.keep (by assumption), hP⟩))) (first | (go_at_call 118; (with_reducible refine ((have _ := ho1; HS.out _)).mono ?_); rintro e w2 ⟨g2, rfl, ho2, hb2⟩; (try (have nb := NewBox.past (by first | assumption | exact newBox_alloc _ _ | exact (newBox_alloc _ _).drew) hb2; have nb1 := nb; obtain ⟨nc0, nc1, nf0, nf1⟩ := nb1)); have hs := Past.sz hb2; (try simp only [size_drew] at hs); (try simp only [World.size_alloc] at hs); have hRk := hR1.past (show Past w1 w2 from (by repeat (first | exact Past.refl _ | assumption | refine Past.alloc ?_ _ | refine Past.drew ?_ | refine Past.drewN ?_ _ | refine Past.setCell ?_ (by first | (simp; done) | (simp <;> omega)) _ | refine Past.trans ?_ (past_over _ _) | refine Past.trans ?_ (by assumption)))); have r0 := hRk.cell 0 rfl; have r1 := hRk.cell 1 rfl; have r2 := hRk.free 0; have r3 := hRk.free 1) | (go_at_call 118; (with_reducible refine (HS.out _).mono ?_); rintro e w2 ⟨g1, rfl, ho1, hb2⟩; (try (have nb := NewBox.past (by first | assumption | exact newBox_alloc _ _ | exact (newBox_alloc _ _).drew) hb2; have nb1 := nb; obtain ⟨nc0, nc1, nf0, nf1⟩ := nb1)); have hs := Past.sz hb2; (try simp only [size_drew] at hs); (try simp only [World.size_alloc] at hs); have hRk := hR1.past (show Past w1 w2 from (by repeat (first | exact Past.refl _ | assumption | refine Past.alloc ?_ _ | refine Past.drew ?_ | refine Past.drewN ?_ _ | refine Past.setCell ?_ (by first | (simp; done) | (simp <;> omega)) _ | refine Past.trans ?_ (past_over _ _) | refine Past.trans ?_ (by assumption)))); have r0 := hRk.cell 0 rfl; have r1 := hRk.cell 1 rfl; have r2 := hRk.free 0; have r3 := hRk.free 1))
  have s1 := own_at ho1
  have s2 := own_at ho2
  simp only [size_drew] at s1
  have n1 : ¬ blk (some ⟨g1, 0, none⟩) (w.heap.size + 1) := fun hb => by have := blk_some.1 hb; omega
  have n2 : ¬ blk (some ⟨g2, 0, none⟩) (w.heap.size + 1) := fun hb => by have := blk_some.1 hb; omega
  have m1 := Lib.hid ((((ho1.past hb2).less (base' := w.heap.size) (by rw [size_drew]; omega)).mod1 (p := ⟨w.heap.size + 1, 0, none⟩) (.slice (some ⟨g1, 0, none⟩) n n) n1).mod1 (p := ⟨w.heap.size + 1, 1, none⟩) (.slice (some ⟨g2, 0, none⟩) n n) n1)
  have m2 := Lib.hid (((ho2.less (base' := w.heap.size) (by omega)).mod1 (p := ⟨w.heap.size + 1, 0, none⟩) (.slice (some ⟨g1, 0, none⟩) n n) n2).mod1 (p := ⟨w.heap.size + 1, 1, none⟩) (.slice (some ⟨g2, 0, none⟩) n n) n2)
  have hpp := Lib.hid (put2 (a := 0) (b := 1) (g := w.heap.size + 1) (u := .slice (some ⟨g1, 0, none⟩) n n) (v := .slice (some ⟨g2, 0, none⟩) n n) (show Past w w2 from (by repeat (first | exact Past.refl _ | assumption | refine Past.alloc ?_ _ | refine Past.drew ?_ | refine Past.drewN ?_ _ | refine Past.setCell ?_ (by first | (simp; done) | (simp <;> omega)) _ | refine Past.trans ?_ (past_over _ _) | refine Past.trans ?_ (by assumption)))) (by omega))
  go_wp2
  refine bodyPost_ret (v := .tuple #[.agg #[.slice (some ⟨g1, 0, none⟩) n n, .slice (some ⟨g2, 0, none⟩) n n], .bool true]) (by simp [*, results, Try.results113, go_sem]) rfl (BoardOk.mk m1.out m2.out (by omega) hpp.out)
theorem sStartBoard (p c h s : Int) (w : World) : Calls Try.prog 113 #[.agg #[.int .i64 p, .int .i64 c, .int .i64 h, .int .i64 s]] w (BoardOk w (stL p c h s) (stL p c h s) (beginOk p c h s)) := by
  cases ho : beginOk p c h s
  · rw [stL_no ho]
    exact sStartBoard_no p c h s w ho
  · have h2 := ho
    simp only [beginOk, Bool.and_eq_true, decide_eq_true_eq] at h2
    exact sStartBoard_yes p c h s w (Lib.hid h2.1) h2.2
end Go.Proofs.Ytapocfgajkkpdaa
