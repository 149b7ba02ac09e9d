/-
  Contracts: all legal steps with a die.
-/
import Derived.Test.YtapocfgajkkpdaaSStep
import Derived.Test.YtapocfgajkkpdaaRow
import Derived.Deep.AppendLies
import Derived.Deep.DeepCutAuto
import Derived.Outline
namespace Go.Proofs.Ytapocfgajkkpdaa
open Go.ChangeShapes Go.WideShapes Go.ChangeAt Go.RowKit Go.Joins

def StepsIn (w1 wr : World) (v : Value) (L : List Stp) : Prop := ∃ A k, v = .slice A L.length k ∧ OwS w1.heap.size wr A L.length k L ∧ Past w1 wr
theorem StepsIn.past {w1 a b : World} {v : Value} {L : List Stp} (h : StepsIn w1 a v L) (p : Past a b) : StepsIn w1 b v L := by
  obtain ⟨A, k, hv, ho, hp⟩ := h
  exact ⟨A, k, hv, OwE.past ho p, hp.trans p⟩
theorem StepsIn.nil (w1 : World) : StepsIn w1 w1 (.slice none 0 0) [] := ⟨none, 0, rfl, OwE.nil _ _ _ _ _, Past.refl _⟩
theorem StepsIn.empty (w1 : World) (t : TypeId) (ht : t = 66) : StepsIn w1 (w1.alloc (.cells #[] t)) (.slice (some ⟨w1.heap.size, 0, none⟩) 0 0) [] :=
  ⟨some ⟨w1.heap.size, 0, none⟩, 0, rfl, ⟨rfl, by subst ht; exact World.ownsRow_lit w1 #[] 0 (Nat.le_refl _) (Nat.zero_le _) rfl⟩, (Past.refl _).alloc _⟩
theorem past_grownE {W w w' : World} {base size n : Nat} {e : TypeId} {v : Value} {L : List Value} (h : Past W w) (ho : w.ownsRow base e size v n L) (hW : W.heap.size ≤ base) (hg : w.grownBy w' v.ownBlock) : Past W w' := past_grown h ho hW hg
theorem StepsIn.push {w1 w w' : World} {A : Option Addr} {k : Nat} {L : List Stp} {a : Stp} {v' : Value} (ho : OwS w1.heap.size w A L.length k L) (hp : Past w1 w)
    (h : w'.ownsRow w1.heap.size 66 4 v' (L.length + 1) (flat Stp.cells L ++ a.cells)) (hg : w.grownBy w' (Value.slice A L.length k).ownBlock) (hnil : v' ≠ .slice none 0 0) : StepsIn w1 w' v' (L ++ [a]) := by
  obtain ⟨A', k', rfl, ho'⟩ := OwE.push rfl h hnil
  exact ⟨A', k', rfl, ho', past_grown hp ho.2 (Nat.le_refl _) hg⟩
theorem stepFrom_b (P : Nat) (c h s f d : Int) (A D : Option Addr) (n k m l : Nat) (xs ys : List Int) (w : World) (v : Value) (hv : Hid (sfV P h xs ys f d = v)) (hx : RdI w A n xs) (hy : RdI w D m ys) (hn : n = P + 1) (hm : m = P + 1) (hP : P ≤ 24) (f0 : 0 ≤ f) (f1 : f ≤ P) (d0 : 1 ≤ d) (d1 : d ≤ 6) :
    Calls Try.prog 109 #[.agg #[.int .i64 (P : Int), .int .i64 c, .int .i64 h, .int .i64 s], .agg #[.slice A n k, .slice D m l], .int .i64 f, .int .i64 d] w fun e w' => e = .returned v ∧ Past w w' :=
  (stepFrom_any P c h s f d A D n k m l xs ys w hx hy hn hm hP f0 f1 d0 d1).mono fun _ _ ⟨he, hp⟩ => ⟨by rw [he, hv.out], hp⟩
set_option maxHeartbeats 4000000 in
set_option maxRecDepth 100000 in
theorem legalSteps_any (P : Nat) (c h s d : Int) (A D : Option Addr) (n k m l : Nat) (xs ys : List Int) (w : World) (hx : RdI w A n xs) (hy : RdI w D m ys) (hn : n = P + 1) (hm : m = P + 1) (hP : P ≤ 24) (d0 : 1 ≤ d) (d1 : d ≤ 6)
    (h0x : Hid (∀ x ∈ xs, 0 ≤ x)) (h0y : Hid (∀ x ∈ ys, 0 ≤ x)) (ux : xs.sum ≤ 1000000) (uy : ys.sum ≤ 1000000) :
    Calls Try.prog 89 #[.agg #[.int .i64 (P : Int), .int .i64 c, .int .i64 h, .int .i64 s], .agg #[.slice A n k, .slice D m l], .int .i64 d] w (StepsRet w (legL P h xs ys d)) := by
  have HN := Lib.hid hn
  have HM := Lib.hid hm
  have hn2 : n ≤ 1048576 := by omega
  have hm2 : m ≤ 1048576 := by omega
  obtain ⟨i0, hi, hz0, hz1, hz2⟩ := info_parts infoS
  clear hn hm
  cases ho : overF xs ys
  · have HO := Lib.hid ho
    clear ho
    go_enter Try.func89, Try.ntmps89
    go_wp2_with (go_at_call 81; (with_reducible refine (over_b _ _ _ _ _ _ _ _ _ _ HO (hx.past (by repeat (first | exact Past.refl _ | assumption | refine Past.alloc ?_ _ | refine Past.drew ?_ | refine Past.drewN ?_ _ | refine Past.setCell ?_ (by first | (simp; done) | (simp <;> omega)) _ | refine Past.trans ?_ (past_over _ _) | refine Past.trans ?_ (by assumption)))) (hy.past (by repeat (first | exact Past.refl _ | assumption | refine Past.alloc ?_ _ | refine Past.drew ?_ | refine Past.drewN ?_ _ | refine Past.setCell ?_ (by first | (simp; done) | (simp <;> omega)) _ | refine Past.trans ?_ (past_over _ _) | refine Past.trans ?_ (by assumption)))) hn2 hm2 h0x h0y ux uy).mono ?_); rintro e w1 ⟨rfl, hb1⟩; obtain ⟨hc1, hf1, _⟩ := hb1.cells; have hz1_0 : w.heap.size < w1.heap.size := Past.lt hb1 (by first | omega | (simp <;> omega)); have hz1_1 : w.heap.size + 1 < w1.heap.size := Past.lt hb1 (by first | omega | (simp <;> omega)))
    have hp1 : Past w w1 := (by repeat (first | exact Past.refl _ | assumption | refine Past.alloc ?_ _ | refine Past.drew ?_ | refine Past.drewN ?_ _ | refine Past.setCell ?_ (by first | (simp; done) | (simp <;> omega)) _ | refine Past.trans ?_ (past_over _ _) | refine Past.trans ?_ (by assumption)))
    go_loopw [7, 8] (fun v i wr => ∃ j : Nat, j ≤ P + 1 ∧ i = .int .i64 ((P : Int) - (j : Int)) ∧ StepsIn w1 wr v (legTo P h xs ys d j)) (fun _ i _ => (intOf i + 1).toNat)
    case atStart => exact ⟨0, Nat.zero_le _, by simp, StepsIn.nil w1⟩
    case round =>
      obtain ⟨j, hj, rfl, A', k', rfl, hown, hpast⟩ := hrel
      have hp0 : Past w wr := hp1.trans hpast
      obtain ⟨hcr, hfr, _⟩ := hpast.cells
      have hle := legTo_le P h xs ys d j
      by_cases hlt : j ≤ P
      · have hge : (0 : Int) ≤ (P : Int) - (j : Int) := by omega
        cases hs : stOk P h xs ys ((P : Int) - (j : Int)) d
        · have HS := Lib.hid (sfV_no hs)
          have E := Lib.hid (legTo_no hs)
          clear hs
          go_wp2_with (go_at_call 109; (with_reducible refine (stepFrom_b P c h s _ d _ _ _ _ _ _ _ _ _ _ HS (hx.past (by repeat (first | exact Past.refl _ | assumption | refine Past.alloc ?_ _ | refine Past.drew ?_ | refine Past.drewN ?_ _ | refine Past.setCell ?_ (by first | (simp; done) | (simp <;> omega)) _ | refine Past.trans ?_ (past_over _ _) | refine Past.trans ?_ (by assumption)))) (hy.past (by repeat (first | exact Past.refl _ | assumption | refine Past.alloc ?_ _ | refine Past.drew ?_ | refine Past.drewN ?_ _ | refine Past.setCell ?_ (by first | (simp; done) | (simp <;> omega)) _ | refine Past.trans ?_ (past_over _ _) | refine Past.trans ?_ (by assumption)))) HN.out HM.out hP (by omega) (by omega) d0 d1).mono ?_); rintro e w2 ⟨rfl, hb2⟩; obtain ⟨hc2, hf2, _⟩ := hb2.cells; have hz2_0 : w.heap.size < w2.heap.size := Past.lt hb2 (by first | omega | (simp <;> omega)); have hz2_1 : w.heap.size + 1 < w2.heap.size := Past.lt hb2 (by first | omega | (simp <;> omega)))
          go_roundw
          case rel => exact ⟨j + 1, by omega, by go_num, by rw [E.out]; exact ⟨A', k', rfl, OwE.past hown (by repeat (first | exact Past.refl _ | assumption | refine Past.alloc ?_ _ | refine Past.drew ?_ | refine Past.drewN ?_ _ | refine Past.setCell ?_ (by first | (simp; done) | (simp <;> omega)) _ | refine Past.trans ?_ (past_over _ _) | refine Past.trans ?_ (by assumption))), (by repeat (first | exact Past.refl _ | assumption | refine Past.alloc ?_ _ | refine Past.drew ?_ | refine Past.drewN ?_ _ | refine Past.setCell ?_ (by first | (simp; done) | (simp <;> omega)) _ | refine Past.trans ?_ (past_over _ _) | refine Past.trans ?_ (by assumption)))⟩⟩
          case measure => simp [intOf]; omega
        · have HS := Lib.hid (sfV_yes hs)
          have E := Lib.hid (legTo_yes HO.out hs)
          clear hs
          go_wp2_with (first | (go_at_call 109; (with_reducible refine (stepFrom_b P c h s _ d _ _ _ _ _ _ _ _ _ _ HS (hx.past (by repeat (first | exact Past.refl _ | assumption | refine Past.alloc ?_ _ | refine Past.drew ?_ | refine Past.drewN ?_ _ | refine Past.setCell ?_ (by first | (simp; done) | (simp <;> omega)) _ | refine Past.trans ?_ (past_over _ _) | refine Past.trans ?_ (by assumption)))) (hy.past (by repeat (first | exact Past.refl _ | assumption | refine Past.alloc ?_ _ | refine Past.drew ?_ | refine Past.drewN ?_ _ | refine Past.setCell ?_ (by first | (simp; done) | (simp <;> omega)) _ | refine Past.trans ?_ (past_over _ _) | refine Past.trans ?_ (by assumption)))) HN.out HM.out hP (by omega) (by omega) d0 d1).mono ?_); rintro e w2 ⟨rfl, hb2⟩; obtain ⟨hc2, hf2, _⟩ := hb2.cells; have hz2_0 : w.heap.size < w2.heap.size := Past.lt hb2 (by first | omega | (simp <;> omega)); have hz2_1 : w.heap.size + 1 < w2.heap.size := Past.lt hb2 (by first | omega | (simp <;> omega))) | (at_builtin; refine wpList_append_own _ rfl _ _ 61 rfl w1.heap.size 66 i0 (.agg #[.int .i64 0, .int .i64 0, .int .i64 0, .bool false]) 4 32 Try.underlying61 hi hz0 hz1 hz2 rfl (by decide) _ (legTo P h xs ys d j).length (flat Stp.cells (legTo P h xs ys d j)) rfl ((OwE.past hown hb2).alloc _ |>.alloc _).2 ⟨w2.heap.size + 1, 0, none⟩ 1 1 [.int .i64 ((P : Int) - (j : Int)), .int .i64 (toOf ((P : Int) - (j : Int)) d), .int .i64 d, .bool (stHit P ys ((P : Int) - (j : Int)) d)] rfl rfl (World.news_of_block (Blk.at_ (by simp))) (by intro u hu; simp at hu; rcases hu with rfl | rfl | rfl | rfl <;> rfl) (by unfold maxLen; omega) (by omega) (by have := hpast.sz; have := hb2.sz; simp; omega) ?_; intro v2 w3 hown3 hg3 hiff))
          go_roundw
          case rel => exact ⟨j + 1, by omega, by go_num, by rw [E.out]; exact StepsIn.push (OwE.alloc (OwE.alloc (OwE.past hown hb2) _) _) (by repeat (first | exact Past.refl _ | assumption | refine Past.alloc ?_ _ | refine Past.drew ?_ | refine Past.drewN ?_ _ | refine Past.setCell ?_ (by first | (simp; done) | (simp <;> omega)) _ | refine Past.trans ?_ (past_over _ _) | refine Past.trans ?_ (by assumption))) hown3 hg3 (fun h => absurd (hiff.1 h).2 (by decide))⟩
          case measure => simp [intOf]; omega
      · obtain rfl : j = P + 1 := by omega
        go_wp2
        go_ret
        rw [legL_eq]
        exact ⟨A', k', rfl, OwE.less hown hp1.sz, hp0⟩
  · have HO := Lib.hid ho
    clear ho
    go_enter Try.func89, Try.ntmps89
    go_wp2_with (go_at_call 81; (with_reducible refine (over_b _ _ _ _ _ _ _ _ _ _ HO (hx.past (by repeat (first | exact Past.refl _ | assumption | refine Past.alloc ?_ _ | refine Past.drew ?_ | refine Past.drewN ?_ _ | refine Past.setCell ?_ (by first | (simp; done) | (simp <;> omega)) _ | refine Past.trans ?_ (past_over _ _) | refine Past.trans ?_ (by assumption)))) (hy.past (by repeat (first | exact Past.refl _ | assumption | refine Past.alloc ?_ _ | refine Past.drew ?_ | refine Past.drewN ?_ _ | refine Past.setCell ?_ (by first | (simp; done) | (simp <;> omega)) _ | refine Past.trans ?_ (past_over _ _) | refine Past.trans ?_ (by assumption)))) hn2 hm2 h0x h0y ux uy).mono ?_); rintro e w1 ⟨rfl, hb1⟩; obtain ⟨hc1, hf1, _⟩ := hb1.cells; have hz1_0 : w.heap.size < w1.heap.size := Past.lt hb1 (by first | omega | (simp <;> omega)); have hz1_1 : w.heap.size + 1 < w1.heap.size := Past.lt hb1 (by first | omega | (simp <;> omega)))
    go_ret
    rw [legL, legTo_over HO.out]
    exact ⟨none, 0, rfl, OwE.nil _ _ _ _ _, (by repeat (first | exact Past.refl _ | assumption | refine Past.alloc ?_ _ | refine Past.drew ?_ | refine Past.drewN ?_ _ | refine Past.setCell ?_ (by first | (simp; done) | (simp <;> omega)) _ | refine Past.trans ?_ (past_over _ _) | refine Past.trans ?_ (by assumption)))⟩
theorem sStep_no (P : Nat) (c h s f d : Int) (A D : Option Addr) (n k m l : Nat) (xs ys : List Int) (w : World) (hv : Hid ((!overF xs ys && stOk P h xs ys f d) = false)) (hx : RdI w A n xs) (hy : RdI w D m ys) (hn : n = P + 1) (hm : m = P + 1) (hP : P ≤ 24) (f0 : 0 ≤ f) (f1 : f ≤ P) (d0 : 1 ≤ d) (d1 : d ≤ 6)
    (h0x : Hid (∀ x ∈ xs, 0 ≤ x)) (h0y : Hid (∀ x ∈ ys, 0 ≤ x)) (ux : xs.sum ≤ 1000000) (uy : ys.sum ≤ 1000000) :
    Calls Try.prog 110 #[.agg #[.int .i64 (P : Int), .int .i64 c, .int .i64 h, .int .i64 s], .agg #[.slice A n k, .slice D m l], .int .i64 f, .int .i64 d] w fun e w' => ∃ (a b g : Int) (x : Bool), e = .returned (.tuple #[.agg #[.int .i64 a, .int .i64 b, .int .i64 g, .bool x], .bool false]) ∧ Past w w' := by
  have h1 := sStep_any P c h s f d A D n k m l xs ys w hx hy hn hm hP f0 f1 d0 d1 h0x h0y ux uy
  rw [hv.out] at h1
  exact h1.mono fun _ _ ⟨a, b, g, x, he, _, hp⟩ => ⟨a, b, g, x, he, hp⟩
theorem sStep_yes (P : Nat) (c h s f d : Int) (A D : Option Addr) (n k m l : Nat) (xs ys : List Int) (w : World) (hv : Hid ((!overF xs ys && stOk P h xs ys f d) = true)) (hx : RdI w A n xs) (hy : RdI w D m ys) (hn : n = P + 1) (hm : m = P + 1) (hP : P ≤ 24) (f0 : 0 ≤ f) (f1 : f ≤ P) (d0 : 1 ≤ d) (d1 : d ≤ 6)
    (h0x : Hid (∀ x ∈ xs, 0 ≤ x)) (h0y : Hid (∀ x ∈ ys, 0 ≤ x)) (ux : xs.sum ≤ 1000000) (uy : ys.sum ≤ 1000000) :
    Calls Try.prog 110 #[.agg #[.int .i64 (P : Int), .int .i64 c, .int .i64 h, .int .i64 s], .agg #[.slice A n k, .slice D m l], .int .i64 f, .int .i64 d] w fun e w' => e = .returned (.tuple #[.agg #[.int .i64 f, .int .i64 (toOf f d), .int .i64 d, .bool (stHit P ys f d)], .bool true]) ∧ Past w w' := by
  have h1 := sStep_any P c h s f d A D n k m l xs ys w hx hy hn hm hP f0 f1 d0 d1 h0x h0y ux uy
  rw [hv.out] at h1
  refine h1.mono fun _ _ ⟨a, b, g, x, he, hs, hp⟩ => ⟨?_, hp⟩
  have h2 := hs rfl
  simp only [stp, Stp.mk.injEq] at h2
  obtain ⟨rfl, rfl, rfl, rfl⟩ := h2
  exact he
set_option maxHeartbeats 4000000 in
set_option maxRecDepth 100000 in
theorem sLegal_any (P : Nat) (c h s d : Int) (A D : Option Addr) (n k m l : Nat) (xs ys : List Int) (w : World) (hx : RdI w A n xs) (hy : RdI w D m ys) (hn : n = P + 1) (hm : m = P + 1) (hP : P ≤ 24) (d0 : 1 ≤ d) (d1 : d ≤ 6)
    (h0x : Hid (∀ x ∈ xs, 0 ≤ x)) (h0y : Hid (∀ x ∈ ys, 0 ≤ x)) (ux : xs.sum ≤ 1000000) (uy : ys.sum ≤ 1000000) :
    Calls Try.prog 90 #[.agg #[.int .i64 (P : Int), .int .i64 c, .int .i64 h, .int .i64 s], .agg #[.slice A n k, .slice D m l], .int .i64 d] w (StepsRet w (legL P h xs ys d)) := by
  have HN := Lib.hid hn
  have HM := Lib.hid hm
  obtain ⟨i0, hi, hz0, hz1, hz2⟩ := info_parts infoS
  clear hn hm
  obtain ⟨w1, hw1⟩ : ∃ w1 : World, w1 = ((w.alloc (.cells #[.int .i64 (P : Int), .int .i64 c, .int .i64 h, .int .i64 s] 25)).alloc (.cells #[.slice A n k, .slice D m l] 43)) := ⟨_, rfl⟩
  have hp1 : Past w w1 := by rw [hw1]; exact (by repeat (first | exact Past.refl _ | assumption | refine Past.alloc ?_ _ | refine Past.drew ?_ | refine Past.drewN ?_ _ | refine Past.setCell ?_ (by first | (simp; done) | (simp <;> omega)) _ | refine Past.trans ?_ (past_over _ _) | refine Past.trans ?_ (by assumption)))
  have c0 : w1.cell? ⟨w.heap.size, 0, none⟩ = some (.int .i64 (P : Int)) := by rw [hw1]; simp [go_sem]
  have c1 : w1.cell? ⟨w.heap.size, 1, none⟩ = some (.int .i64 c) := by rw [hw1]; simp [go_sem]
  have c2 : w1.cell? ⟨w.heap.size, 2, none⟩ = some (.int .i64 h) := by rw [hw1]; simp [go_sem]
  have c3 : w1.cell? ⟨w.heap.size, 3, none⟩ = some (.int .i64 s) := by rw [hw1]; simp [go_sem]
  have c4 : w1.cell? ⟨w.heap.size + 1, 0, none⟩ = some (.slice A n k) := by rw [hw1]; simp [go_sem]
  have c5 : w1.cell? ⟨w.heap.size + 1, 1, none⟩ = some (.slice D m l) := by rw [hw1]; simp [go_sem]
  have s1 : w.heap.size < w1.heap.size := by rw [hw1]; simp; omega
  have s2 : w.heap.size + 1 < w1.heap.size := by rw [hw1]; simp
  go_enter Try.func90, Try.ntmps90
  go_upto_region 1 with fail
  rw [← hw1]
  have HW := Lib.hid hw1
  clear hw1
  go_wp2_with fail
  go_loopw [7, 8] (fun v i wr => ∃ j : Nat, j ≤ P + 1 ∧ i = .int .i64 ((P : Int) - (j : Int)) ∧ StepsIn w1 wr v (legTo P h xs ys d j)) (fun _ i _ => (intOf i + 1).toNat)
  case atStart => exact ⟨0, Nat.zero_le _, by simp, StepsIn.empty w1 _ rfl⟩
  case round =>
    obtain ⟨j, hj, rfl, A', k', rfl, hown, hpast⟩ := hrel
    have hp0 : Past w wr := hp1.trans hpast
    obtain ⟨hcr, hfr, _⟩ := hpast.cells
    have hle := legTo_le P h xs ys d j
    by_cases hlt : j ≤ P
    · have hge : (0 : Int) ≤ (P : Int) - (j : Int) := by omega
      cases hs : (!overF xs ys && stOk P h xs ys ((P : Int) - (j : Int)) d)
      · have HS := Lib.hid hs
        have E := Lib.hid (show legTo P h xs ys d (j + 1) = legTo P h xs ys d j from by rw [legTo, if_neg (by rw [hs]; simp)])
        clear hs
        go_wp2_with (go_at_call 110; (with_reducible refine (sStep_no P c h s _ d _ _ _ _ _ _ _ _ _ HS (hx.past (by repeat (first | exact Past.refl _ | assumption | refine Past.alloc ?_ _ | refine Past.drew ?_ | refine Past.drewN ?_ _ | refine Past.setCell ?_ (by first | (simp; done) | (simp <;> omega)) _ | refine Past.trans ?_ (past_over _ _) | refine Past.trans ?_ (by assumption)))) (hy.past (by repeat (first | exact Past.refl _ | assumption | refine Past.alloc ?_ _ | refine Past.drew ?_ | refine Past.drewN ?_ _ | refine Past.setCell ?_ (by first | (simp; done) | (simp <;> omega)) _ | refine Past.trans ?_ (past_over _ _) | refine Past.trans ?_ (by assumption)))) HN.out HM.out hP (by omega) (by omega) d0 d1 h0x h0y ux uy).mono ?_); rintro e w2 ⟨a0, a1, a2, a3, rfl, hb2⟩; obtain ⟨hc2, hf2, _⟩ := hb2.cells; have hz2_0 : w.heap.size < w2.heap.size := Past.lt hb2 (by first | omega | (simp <;> omega)); have hz2_1 : w.heap.size + 1 < w2.heap.size := Past.lt hb2 (by first | omega | (simp <;> omega)))
        go_roundw
        case rel => exact ⟨j + 1, by omega, by go_num, by rw [E.out]; exact ⟨A', k', rfl, OwE.past hown (by repeat (first | exact Past.refl _ | assumption | refine Past.alloc ?_ _ | refine Past.drew ?_ | refine Past.drewN ?_ _ | refine Past.setCell ?_ (by first | (simp; done) | (simp <;> omega)) _ | refine Past.trans ?_ (past_over _ _) | refine Past.trans ?_ (by assumption))), (by repeat (first | exact Past.refl _ | assumption | refine Past.alloc ?_ _ | refine Past.drew ?_ | refine Past.drewN ?_ _ | refine Past.setCell ?_ (by first | (simp; done) | (simp <;> omega)) _ | refine Past.trans ?_ (past_over _ _) | refine Past.trans ?_ (by assumption)))⟩⟩
        case measure => simp [intOf]; omega
      · have HS := Lib.hid hs
        have E := Lib.hid (show legTo P h xs ys d (j + 1) = legTo P h xs ys d j ++ [stp P ys ((P : Int) - (j : Int)) d] from by rw [legTo, if_pos hs])
        clear hs
        go_wp2_with (first | (go_at_call 110; (with_reducible refine (sStep_yes P c h s _ d _ _ _ _ _ _ _ _ _ HS (hx.past (by repeat (first | exact Past.refl _ | assumption | refine Past.alloc ?_ _ | refine Past.drew ?_ | refine Past.drewN ?_ _ | refine Past.setCell ?_ (by first | (simp; done) | (simp <;> omega)) _ | refine Past.trans ?_ (past_over _ _) | refine Past.trans ?_ (by assumption)))) (hy.past (by repeat (first | exact Past.refl _ | assumption | refine Past.alloc ?_ _ | refine Past.drew ?_ | refine Past.drewN ?_ _ | refine Past.setCell ?_ (by first | (simp; done) | (simp <;> omega)) _ | refine Past.trans ?_ (past_over _ _) | refine Past.trans ?_ (by assumption)))) HN.out HM.out hP (by omega) (by omega) d0 d1 h0x h0y ux uy).mono ?_); rintro e w2 ⟨rfl, hb2⟩; obtain ⟨hc2, hf2, _⟩ := hb2.cells; have hz2_0 : w.heap.size < w2.heap.size := Past.lt hb2 (by first | omega | (simp <;> omega)); have hz2_1 : w.heap.size + 1 < w2.heap.size := Past.lt hb2 (by first | omega | (simp <;> omega))) | (at_builtin; refine wpList_append_own _ rfl _ _ 61 rfl w1.heap.size 66 i0 (.agg #[.int .i64 0, .int .i64 0, .int .i64 0, .bool false]) 4 32 Try.underlying61 hi hz0 hz1 hz2 rfl (by decide) _ (legTo P h xs ys d j).length (flat Stp.cells (legTo P h xs ys d j)) rfl ((OwE.past hown hb2).alloc _ |>.alloc _).2 ⟨w2.heap.size + 1, 0, none⟩ 1 1 [.int .i64 ((P : Int) - (j : Int)), .int .i64 (toOf ((P : Int) - (j : Int)) d), .int .i64 d, .bool (stHit P ys ((P : Int) - (j : Int)) d)] rfl rfl (World.news_of_block (Blk.at_ (by simp))) (by intro u hu; simp at hu; rcases hu with rfl | rfl | rfl | rfl <;> rfl) (by unfold maxLen; omega) (by omega) (by have := hpast.sz; have := hb2.sz; simp; omega) ?_; intro v2 w3 hown3 hg3 hiff))
        go_roundw
        case rel => exact ⟨j + 1, by omega, by go_num, by rw [E.out]; exact StepsIn.push (OwE.alloc (OwE.alloc (OwE.past hown hb2) _) _) (by repeat (first | exact Past.refl _ | assumption | refine Past.alloc ?_ _ | refine Past.drew ?_ | refine Past.drewN ?_ _ | refine Past.setCell ?_ (by first | (simp; done) | (simp <;> omega)) _ | refine Past.trans ?_ (past_over _ _) | refine Past.trans ?_ (by assumption))) hown3 hg3 (fun h => absurd (hiff.1 h).2 (by decide))⟩
        case measure => simp [intOf]; omega
    · obtain rfl : j = P + 1 := by omega
      go_wp2
      go_ret
      rw [legL_eq]
      exact ⟨A', k', rfl, OwE.less hown hp1.sz, hp0⟩
end Go.Proofs.Ytapocfgajkkpdaa
