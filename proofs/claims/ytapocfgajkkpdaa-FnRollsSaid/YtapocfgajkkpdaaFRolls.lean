/-
  The rolls of a variant are numbered in order: the plain law and the walk.
-/
import Derived.Test.YtapocfgajkkpdaaDrawV
import Derived.Test.YtapocfgajkkpdaaOpenC
import Derived.Test.YtapocfgajkkpdaaRowR
namespace Go.Proofs.Ytapocfgajkkpdaa
open Go.ChangeShapes Go.WideShapes Go.ChangeAt Go.RowKit Go.Joins

/-- Any variant that a draw hands back in a law. -/
def VarNew (w : World) (e : Ending) (w' : World) : Prop :=
  ∃ p c h s, e = .returned (.agg #[.int .i64 p, .int .i64 c, .int .i64 h, .int .i64 s]) ∧ vBd p c h s ∧ Past w w'
set_option maxHeartbeats 1000000 in
theorem drawAllRolls_any (A : Option Addr) (n k : Nat) (w : World) (hx : RdC w w.heap.size A n) (hn : n ≤ 5000) :
    Calls Try.prog 17 #[.slice A n k] w (VarNew w) := by
  obtain ⟨w0, hw0⟩ : ∃ w0, w0 = w.alloc (.cells #[.int .i64 0, .int .i64 0, .int .i64 0, .int .i64 0] 25) := ⟨_, rfl⟩
  have hR : Blk w0 w.heap.size 25 #[.int .i64 0, .int .i64 0, .int .i64 0, .int .i64 0] := by rw [hw0]; exact Blk.new _ _ _
  have hp0 : Past w w0 := by rw [hw0]; exact (by repeat (first | exact Past.refl _ | assumption | refine Past.alloc ?_ _ | refine Past.drew ?_ | refine Past.drewN ?_ _ | refine Past.setCell ?_ (by first | (simp; done) | (simp <;> omega)) _ | refine Past.trans ?_ (past_over _ _) | refine Past.trans ?_ (by assumption)))
  have hz0 := hR.lt
  go_enter Try.func17, Try.ntmps17
  go_upto_region 1 with fail
  rw [← hw0]
  clear hw0
  go_wp2_with fail
  (with_reducible refine (from_any _ _ _ _ (hx.past hp0 hp0.sz) hn).mono ?_)
  rintro e w1 ⟨g, rfl, hs1, hg1, hp1⟩
  have hR1 := hR.past hp1
  go_wp2_with fail
  (with_reducible refine (drawAny_any _ _ _ _ _ hs1).mono ?_)
  rintro e w2 ⟨P, C, H, S, rfl, hbd, h2⟩
  have hR2 := h2.blk hR1 (by omega)
  have hp2 : Past w w2 := h2.pastOf (hp0.trans hp1) (by omega)
  clear h2 hR hR1 hp1 hs1
  have r0 : w2.cell? ⟨w.heap.size, 0, none⟩ = some (.int .i64 0) := hR2.cell 0 rfl
  have r1 : w2.cell? ⟨w.heap.size, 1, none⟩ = some (.int .i64 0) := hR2.cell 1 rfl
  have r2 : w2.cell? ⟨w.heap.size, 2, none⟩ = some (.int .i64 0) := hR2.cell 2 rfl
  have r3 : w2.cell? ⟨w.heap.size, 3, none⟩ = some (.int .i64 0) := hR2.cell 3 rfl
  have f0 := hR2.free 0
  have f1 := hR2.free 1
  have f2 := hR2.free 2
  have f3 := hR2.free 3
  have hpE := (((hp2.setCell (p := ⟨w.heap.size, 0, none⟩) (Nat.le_refl _) (.int .i64 P)).setCell (p := ⟨w.heap.size, 1, none⟩) (Nat.le_refl _) (.int .i64 C)).setCell (p := ⟨w.heap.size, 2, none⟩) (Nat.le_refl _) (.int .i64 H)).setCell (p := ⟨w.heap.size, 3, none⟩) (Nat.le_refl _) (.int .i64 S)
  clear hR2 hp2 hp0
  go_wp2_with fail
  exact bodyPost_ret (v := .agg #[.int .i64 P, .int .i64 C, .int .i64 H, .int .i64 S]) (by simp [r0, r1, r2, r3, results, Try.results17, go_sem]) rfl ⟨_, _, _, _, rfl, hbd, hpE⟩
/-- The rolls' weights together. -/
def wsum : List Rol → Int
  | [] => 0
  | r :: rs => wgt r.a r.b + wsum rs
theorem wsum_append (xs ys : List Rol) : wsum (xs ++ ys) = wsum xs + wsum ys := by
  induction xs with
  | nil => simp [wsum]
  | cons x xs ih => simp only [List.cons_append, wsum, ih]; omega
theorem wsum_take {xs : List Rol} {j : Nat} {r : Rol} (h : xs[j]? = some r) : wsum (xs.take (j + 1)) = wsum (xs.take j) + wgt r.a r.b := by
  obtain ⟨hj, rfl⟩ := List.getElem?_eq_some_iff.1 h
  rw [List.take_succ_eq_append_getElem hj, wsum_append]
  simp [wsum]
theorem wsum_bd (xs : List Rol) : 0 ≤ wsum xs ∧ wsum xs ≤ 2 * xs.length := by
  induction xs with
  | nil => simp [wsum]
  | cons x xs ih =>
    simp only [wsum, wgt, List.length_cons]
    split <;> omega
/-- What the law asks of the rolls with s sides. -/
def rollsFit (s : Nat) : Bool :=
  (List.range (allTo s).length).all (fun j => match (allTo s)[j]? with
    | some r => rOk s r.a r.b && decide (r.a * (r.a - 1) / 2 + r.b - 1 = (j : Int))
    | none => true) && (decide (wsum (allTo s) = (s : Int) * s) && decide (((allTo s).length : Int) = (s : Int) * ((s : Int) + 1) / 2))
theorem rollsFit_all : ((List.range 7).all rollsFit) = true := by decide +kernel
theorem rolls_at {s j : Nat} {r : Rol} (hs : s ≤ 6) (h : (allTo s)[j]? = some r) : rOk s r.a r.b = true ∧ r.a * (r.a - 1) / 2 + r.b - 1 = (j : Int) := by
  have h1 := List.all_eq_true.1 rollsFit_all s (List.mem_range.2 (by omega))
  simp only [rollsFit, Bool.and_eq_true] at h1
  have h2 := List.all_eq_true.1 h1.1 j (List.mem_range.2 (List.getElem?_eq_some_iff.1 h).1)
  rw [h] at h2
  simp only [Bool.and_eq_true, decide_eq_true_eq] at h2
  exact h2
theorem rolls_end {s : Nat} (hs : s ≤ 6) : wsum (allTo s) = (s : Int) * s ∧ ((allTo s).length : Int) = (s : Int) * ((s : Int) + 1) / 2 := by
  have h1 := List.all_eq_true.1 rollsFit_all s (List.mem_range.2 (by omega))
  simp only [rollsFit, Bool.and_eq_true, decide_eq_true_eq] at h1
  exact h1.2
set_option maxHeartbeats 2000000 in
set_option maxRecDepth 100000 in
theorem FnRolls.walk (w : World) (A : Option Addr) (n k : Nat) (hx : RdC w w.heap.size A n) :
    Calls Try.prog 4 #[.slice A n k] w fun e w' => e = .returned (.bool true) ∧ Past w w' := by
  have hbig := fun w => big_any A n k w
  cases hd : decide (4096 < n)
  · rw [hd] at hbig
    have hn : n ≤ 5000 := by have := of_decide_eq_false hd; omega
    clear hd
    go_enter Try.func4, Try.ntmps4
    go_wp2_with (go_at_call 11; (with_reducible refine (hbig _).mono ?_); rintro e w9 ⟨rfl, rfl⟩)
    (with_reducible refine (drawAllRolls_any _ _ _ _ hx hn).mono ?_)
    rintro e w1 ⟨p, c, h, s, rfl, hbd, hp1⟩
    go_upto_region 4 with fail
    obtain ⟨w2, hw2⟩ : ∃ w2, w2 = w1.alloc (.cells #[.int .i64 p, .int .i64 c, .int .i64 h, .int .i64 s] 25) := ⟨_, rfl⟩
    rw [← hw2]
    have hV : Blk w2 w1.heap.size 25 #[.int .i64 p, .int .i64 c, .int .i64 h, .int .i64 s] := by rw [hw2]; exact Blk.new _ _ _
    have hp2 : Past w w2 := by rw [hw2]; exact hp1.alloc _
    clear hw2 hbig hx
    obtain ⟨b, hb⟩ : ∃ b, b = w1.heap.size := ⟨_, rfl⟩
    rw [← hb] at hV ⊢
    clear hb hp1
    have c0 : w2.cell? ⟨b, 0, none⟩ = some (.int .i64 p) := hV.cell 0 rfl
    have c1 : w2.cell? ⟨b, 1, none⟩ = some (.int .i64 c) := hV.cell 1 rfl
    have c2 : w2.cell? ⟨b, 2, none⟩ = some (.int .i64 h) := hV.cell 2 rfl
    have c3 : w2.cell? ⟨b, 3, none⟩ = some (.int .i64 s) := hV.cell 3 rfl
    have hbz := hV.lt
    go_wp2_with fail
    (with_reducible refine (allRolls _ _ _ _ _).mono ?_)
    rintro e w3 ⟨A', k', rfl, hown, hp3⟩
    have d0 := hp3.keep c0
    have d1 := hp3.keep c1
    have d2 := hp3.keep c2
    have d3 := hp3.keep c3
    cases hv : vOk p c h s
    · have hk := fun w => kinds p c h s w
      rw [show kindsF p c h s = -1 from by simp [kindsF, hv]] at hk
      have hiv := fun w => sIsVar_any p c h s w
      rw [hv] at hiv
      rw [show arL p c h s = [] from by simp [arL, hv]]
      go_wp2_with fail
      (with_reducible refine (hiv _).mono ?_)
      rintro e w4 ⟨rfl, hp4⟩
      have e0 := hp4.keep d0
      have e1 := hp4.keep d1
      have e2 := hp4.keep d2
      have e3 := hp4.keep d3
      go_wp2_with fail
      (with_reducible refine (hk _).mono ?_)
      rintro e w5 ⟨rfl, hp5⟩
      go_wp2
      go_ret
      exact ⟨rfl, hp2.trans (hp3.trans (hp4.trans hp5))⟩
    · obtain ⟨hv1, hv2, hv3, hv4⟩ := vOk_yes hv
      obtain ⟨S, rfl⟩ := Int.eq_ofNat_of_zero_le (show 0 ≤ s from by omega)
      have hk := fun w => kinds p c h (S : Int) w
      rw [show kindsF p c h (S : Int) = (S : Int) * ((S : Int) + 1) / 2 from by simp [kindsF, hv]] at hk
      have htot := fun w => total p c h (S : Int) w
      rw [show totalF p c h (S : Int) = (S : Int) * (S : Int) from by simp [totalF, hv]] at htot
      have hiv := fun w => sIsVar_any p c h (S : Int) w
      rw [hv] at hiv
      rw [show arL p c h (S : Int) = allTo S from by simp [arL, hv]] at hown ⊢
      have HE := Lib.hid (rolls_end (s := S) (by omega))
      have hlen := allTo_le (a := S) (by omega)
      have HR := Lib.hid (fun (j : Nat) (r : Rol) (h : (allTo S)[j]? = some r) => rolls_at (s := S) (by omega) h)
      generalize allTo S = L at hown hlen HE HR ⊢
      go_wp2_with fail
      (with_reducible refine (hiv _).mono ?_)
      rintro e w4 ⟨rfl, hp4⟩
      have e0 := hp4.keep d0
      have e1 := hp4.keep d1
      have e2 := hp4.keep d2
      have e3 := hp4.keep d3
      have hown4 := hown.past hp4
      clear d0 d1 d2 d3 c0 c1 c2 c3 hown hiv
      have hb4 := World.block_lt_of_cell? w4 _ e0
      simp only at hb4
      go_wp2_with fail
      go_loopw [5, 6] (fun u i wr => ∃ j : Nat, j ≤ L.length ∧ i = .int .i64 (j : Int) ∧ u = .int .i64 (wsum (L.take j)) ∧ Past w4 wr) (fun _ i _ => L.length - (intOf i).toNat)
      case atStart => exact ⟨0, Nat.zero_le _, rfl, rfl, Past.refl _⟩
      case round =>
        obtain ⟨j, hj, rfl, rfl, hp⟩ := hrel
        have q0 := hp.keep e0
        have q1 := hp.keep e1
        have q2 := hp.keep e2
        have q3 := hp.keep e3
        have qb := World.block_lt_of_cell? wr _ q0
        simp only at qb
        by_cases hlt : j < L.length
        · have hlt2 : (j : Int) < (L.length : Int) := by omega
          have hj0 : (0 : Int) ≤ (j : Int) := by omega
          obtain ⟨g, r, rfl, hr, x0, x1⟩ := (hown4.past hp).at_ hlt
          have gb := World.block_lt_of_cell? wr _ x0
          simp only at gb
          obtain ⟨hrk, hrn⟩ := HR.out j r hr
          have hir : isRollF p c h (S : Int) r.a r.b = true := by simp [isRollF, hv, hrk]
          have hnum := fun w => rollNum p c h (S : Int) r.a r.b w
          rw [show numF p c h (S : Int) r.a r.b = (j : Int) from by simp [numF, hir, hrn]] at hnum
          have his := fun w => isRoll p c h (S : Int) r.a r.b w
          rw [hir] at his
          have hwt := fun w => weight p c h (S : Int) r.a r.b w
          rw [show wgtF p c h (S : Int) r.a r.b = wgt r.a r.b from by simp [wgtF, hir]] at hwt
          have HWS := Lib.hid (wsum_take hr)
          have hwb := wsum_bd (L.take j)
          have hlj : (L.take j).length ≤ 36 := by rw [List.length_take]; omega
          have hwg : 0 ≤ wgt r.a r.b ∧ wgt r.a r.b ≤ 2 := by unfold wgt; split <;> omega
          have hbn : ((j : Int) != (j : Int)) = false := by simp
          clear hr hrk hrn hir
          generalize wsum (L.take j) = X at hwb HWS ⊢
          generalize wgt r.a r.b = Y at hwt HWS hwg
          obtain ⟨ra, rb⟩ := r
          simp only at x0 x1 hnum his hwt
          have HNUM := Lib.hid hnum
          have HIS := Lib.hid his
          have HWT := Lib.hid hwt
          clear hnum his hwt
          go_wp2_with fail
          refine wp_region_over (by kernel_rfl) (by kernel_rfl) ?_
          repeat (go_big_quiet_step ((first | (go_at_call 21; exact over_of (HNUM.out _)) | (go_at_call 22; exact over_of (HIS.out _)))))
          refine wpQuiet_nil ?_
          intro w5 hb5
          obtain ⟨hc5, hf5, _⟩ := hb5.cells
          replace q0 := hb5.keep q0
          replace q1 := hb5.keep q1
          replace q2 := hb5.keep q2
          replace q3 := hb5.keep q3
          replace x0 := hb5.keep x0
          replace x1 := hb5.keep x1
          replace hp := hp.trans hb5
          replace qb := hb5.lt qb
          replace gb := hb5.lt gb
          clear hc5 hf5 hb5
          go_wp2_with fail
          refine wp_region_over (by kernel_rfl) (by kernel_rfl) ?_
          repeat (go_big_quiet_step ((first | (go_at_call 23; exact over_of (HWT.out _)))))
          refine wpQuiet_nil ?_
          intro w6 hb6
          obtain ⟨hc6, hf6, _⟩ := hb6.cells
          go_wp2_with fail
          go_roundw
          case rel => exact ⟨j + 1, by omega, by go_num, by rw [HWS.out], hp.trans hb6⟩
          case measure => simp [intOf]; omega
        · obtain rfl : j = L.length := by omega
          have hlt2 : ¬ (L.length : Int) < (L.length : Int) := by omega
          rw [List.take_of_length_le (Nat.le_refl _)]
          obtain ⟨E1, E2⟩ := HE.out
          rw [E1]
          rw [← E2] at hk
          have hSb := mul_bd (s := (S : Int)) (t := (S : Int)) (n := 6) (m := 6) (by omega) (by omega) (by omega) (by omega)
          go_wp2_with fail
          (with_reducible refine (htot _).mono ?_)
          rintro e w5 ⟨rfl, hp5⟩
          have z0 := hp5.keep q0
          have z1 := hp5.keep q1
          have z2 := hp5.keep q2
          have z3 := hp5.keep q3
          go_wp2_with fail
          (with_reducible refine (hk _).mono ?_)
          rintro e w6 ⟨rfl, hp6⟩
          go_wp2
          go_ret
          exact ⟨rfl, hp2.trans (hp3.trans (hp4.trans (hp.trans (hp5.trans hp6))))⟩
  · rw [hd] at hbig
    go_enter Try.func4, Try.ntmps4
    go_wp2_with (go_at_call 11; (with_reducible refine (hbig _).mono ?_); rintro e w9 ⟨rfl, rfl⟩)
    go_ret
    exact ⟨rfl, Past.refl _⟩
end Go.Proofs.Ytapocfgajkkpdaa
