/-
  Contracts: the laws' comparison of rows of steps; their marks, and the look whether these are held.
-/
import Derived.Test.YtdcdjocjlicplaaDoorHits
import Derived.Test.YtdcdjocjlicplaaDoorSpan
namespace Go.Proofs.YtdcdjocjlicplaaDoor
open Go.ChangeShapes Go.WideShapes Go.ChangeAt Go.RowKit Go.Joins

theorem flat_set (X : List Stp) (j : Nat) (hj : j < X.length) (a : Stp) :
    (((((flat Stp.cells X).set (j * 4) (.int .i64 a.f)).set (j * 4 + 1) (.int .i64 a.t)).set (j * 4 + 2) (.int .i64 a.d)).set (j * 4 + 3) (.bool a.x)) = flat Stp.cells (X.set j a) := by
  induction X generalizing j with
  | nil => simp at hj
  | cons b l ih =>
    have h : ∀ y (m : List Stp), flat Stp.cells (y :: m) = y.cells ++ flat Stp.cells m := fun _ _ => rfl
    rw [h]
    cases j with
    | zero =>
      rw [List.set_cons_zero, h]
      rfl
    | succ j =>
      rw [List.set_cons_succ, h, ← ih j (by simpa using hj)]
      have hb : b.cells.length = 4 := rfl
      have e0 : (j + 1) * 4 = b.cells.length + j * 4 := by rw [hb]; omega
      rw [e0]
      rw [show b.cells.length + j * 4 + 1 = b.cells.length + (j * 4 + 1) from by omega, show b.cells.length + j * 4 + 2 = b.cells.length + (j * 4 + 2) from by omega, show b.cells.length + j * 4 + 3 = b.cells.length + (j * 4 + 3) from by omega]
      simp only [List.set_append_right _ _ (Nat.le_add_right _ _), Nat.add_sub_cancel_left]
/-- The steps with the marks from K on. -/
def markS (K : Int) (j : Nat) : Stp := ⟨K + 4 * (j : Int), K + 4 * (j : Int) + 1, K + 4 * (j : Int) + 1 + 1, (K + 4 * (j : Int) + 1 + 1 + 1) % 3 == 0⟩
def marksS (K : Int) (n : Nat) : List Stp := (List.range n).map (markS K)
theorem marksS_len (K : Int) (n : Nat) : (marksS K n).length = n := by simp [marksS]
theorem marksS_get {K : Int} {n j : Nat} (h : j < n) : (marksS K n)[j]? = some (markS K j) := by simp [marksS, h]
theorem marksS_step {L : List Stp} {K : Int} {n j : Nat} (hl : L.length = n) (hj : j < n) : (marksS K j ++ L.drop j).set j (markS K j) = marksS K (j + 1) ++ L.drop (j + 1) := by
  rw [List.set_append_right _ _ (by rw [marksS_len]; exact Nat.le_refl _), marksS_len, Nat.sub_self, List.drop_eq_getElem_cons (by omega), List.set_cons_zero]
  have e : marksS K (j + 1) = marksS K j ++ [markS K j] := by simp [marksS, List.range_succ]
  rw [e, List.append_assoc]
  rfl
theorem OwS.put {base : Nat} {w : World} {g n k : Nat} {L : List Stp} (h : OwS base w (some ⟨g, 0, none⟩) n k L) {j : Nat} (hj : j < n) (a : Stp) :
    OwS base ((((w.setCell ⟨g, j * 4, none⟩ (.int .i64 a.f)).setCell ⟨g, j * 4 + 1, none⟩ (.int .i64 a.t)).setCell ⟨g, j * 4 + 2, none⟩ (.int .i64 a.d)).setCell ⟨g, j * 4 + 3, none⟩ (.bool a.x)) (some ⟨g, 0, none⟩) n k (L.set j a) := by
  have h1 := (World.ownsRow.stored h.2 (j * 4) (.int .i64 a.f)).1
  have h2 := (World.ownsRow.stored h1 (j * 4 + 1) (.int .i64 a.t)).1
  have h3 := (World.ownsRow.stored h2 (j * 4 + 2) (.int .i64 a.d)).1
  have h4 := (World.ownsRow.stored h3 (j * 4 + 3) (.bool a.x)).1
  rw [flat_set _ _ (by rw [h.1]; exact hj)] at h4
  exact ⟨by rw [List.length_set]; exact h.1, h4⟩
set_option maxHeartbeats 2000000 in
theorem markSteps (base : Nat) (A : Option Addr) (n k : Nat) (L : List Stp) (K : Int) (w : World) (ho : OwS base w A n k L) (h0 : 0 ≤ K) (h1 : K ≤ 1000000) (hn : n ≤ 10000000) :
    Calls Tryd.prog 30 #[.slice A n k, .int .i64 K] w fun e w' => e = .returned (.int .i64 (K + 4 * (n : Int))) ∧ OwS base w' A n k (marksS K n) ∧ Mod (blk A) w w' := by
  have HL := Lib.hid ho.1
  go_enter Tryd.func30, Tryd.ntmps30
  go_wp2
  go_loopw [1, 5] (fun t i wr => ∃ j : Nat, j ≤ n ∧ i = .int .i64 j ∧ t = .int .i64 (K + 4 * (j : Int)) ∧ OwS base wr A n k (marksS K j ++ L.drop j) ∧ Mod (blk A) w wr) (fun _ i _ => n - (intOf i).toNat)
  case atStart => exact ⟨0, Nat.zero_le _, rfl, by simp, by simpa [marksS] using ho, Mod.refl _ _⟩
  case round =>
    obtain ⟨j, hj, rfl, rfl, hown, hmod⟩ := hrel
    clear ho
    by_cases hlt : j < n
    · obtain ⟨g, a, rfl, _, c0, c1, c2, c3⟩ := hown.at_ hlt
      have f0 : wr.frozen? ⟨g, j * 4, none⟩ = false := World.ownsRow.frozenAt hown.2 _
      have f1 : wr.frozen? ⟨g, j * 4 + 1, none⟩ = false := World.ownsRow.frozenAt hown.2 _
      have f2 : wr.frozen? ⟨g, j * 4 + 2, none⟩ = false := World.ownsRow.frozenAt hown.2 _
      have f3 : wr.frozen? ⟨g, j * 4 + 3, none⟩ = false := World.ownsRow.frozenAt hown.2 _
      have HN := Lib.hid ((marksS_step HL.out hlt) ▸ hown.put hlt (markS K j))
      have HM := Lib.hid (hmod.trans ((((Mod.setCell (S := blk (some ⟨g, 0, none⟩)) wr ⟨g, j * 4, none⟩ (.int .i64 (markS K j).f) ⟨_, rfl, rfl⟩).trans (Mod.setCell _ ⟨g, j * 4 + 1, none⟩ (.int .i64 (markS K j).t) ⟨_, rfl, rfl⟩)).trans (Mod.setCell _ ⟨g, j * 4 + 2, none⟩ (.int .i64 (markS K j).d) ⟨_, rfl, rfl⟩)).trans (Mod.setCell _ ⟨g, j * 4 + 3, none⟩ (.bool (markS K j).x) ⟨_, rfl, rfl⟩)))
      clear hown hmod
      go_wp2
      go_roundw
      case rel => exact ⟨j + 1, by omega, by go_num, by go_num, HN.out, HM.out⟩
      case measure => simp [intOf]; omega
    · obtain rfl : n = j := by omega
      rw [List.drop_of_length_le (by have := HL.out; omega), List.append_nil] at hown
      go_wp2
      go_ret
      exact ⟨rfl, hown, hmod⟩
theorem heldSteps (base : Nat) (A : Option Addr) (n k : Nat) (K : Int) (w : World) (hx : OwS base w A n k (marksS K n)) (h0 : 0 ≤ K) (h1 : K ≤ 1000000) (hn : n ≤ 10000000) :
    Calls Tryd.prog 31 #[.slice A n k, .int .i64 K] w fun e w' => e = .returned (.int .i64 (K + 4 * (n : Int))) ∧ w = w' := by
  go_enter Tryd.func31, Tryd.ntmps31
  go_wp2
  go_loop [1, 5] (fun t i => ∃ j : Nat, j ≤ n ∧ i = .int .i64 j ∧ t = .int .i64 (K + 4 * (j : Int))) (fun _ i => n - (intOf i).toNat)
  case atStart => exact ⟨0, Nat.zero_le _, rfl, by simp⟩
  case round =>
    obtain ⟨j, hj, rfl, rfl⟩ := hrel
    by_cases hlt : j < n
    · obtain ⟨g, a, rfl, ha, c0, c1, c2, c3⟩ := hx.at_ hlt
      rw [marksS_get hlt] at ha
      obtain rfl := Option.some.inj ha
      clear ha
      simp only [markS] at c0 c1 c2 c3
      go_wp2
      go_round
      case rel => exact ⟨j + 1, by omega, by go_num, by go_num⟩
      case measure => simp [intOf]; omega
    · obtain rfl : n = j := by omega
      go_wp2
      go_ret
      exact ⟨rfl, rfl⟩
theorem eqStep_same (a b c : Int) (x : Bool) (w : World) :
    Calls Tryd.prog 27 #[.agg #[.int .i64 a, .int .i64 b, .int .i64 c, .bool x], .agg #[.int .i64 a, .int .i64 b, .int .i64 c, .bool x]] w fun e w' => e = .returned (.bool true) ∧ Past w w' := by
  go_enter Tryd.func27, Tryd.ntmps27
  go_wp2
  go_ret
  exact ⟨rfl, (by repeat (first | exact Past.refl _ | assumption | refine Past.alloc ?_ _ | refine Past.drew ?_ | refine Past.drewN ?_ _ | refine Past.setCell ?_ (by first | (simp; done) | (simp <;> omega)) _ | refine Past.trans ?_ (past_over _ _) | refine Past.trans ?_ (by assumption)))⟩
theorem eqSteps (base base' : Nat) (A D : Option Addr) (n k l : Nat) (L : List Stp) (w : World) (hx : OwS base w A n k L) (hy : OwS base' w D n l L) (hn : n ≤ 1048576) :
    Calls Tryd.prog 21 #[.slice A n k, .slice D n l] w fun e w' => e = .returned (.bool true) ∧ Past w w' := by
  go_enter Tryd.func21, Tryd.ntmps21
  go_wp2
  go_loopw [5] (fun i wr => ∃ j : Nat, j ≤ n ∧ i = .int .i64 j ∧ Past w wr) (fun i _ => n - (intOf i).toNat)
  case atStart => exact ⟨0, Nat.zero_le _, rfl, Past.refl _⟩
  case round =>
    obtain ⟨j, hj, rfl, hp⟩ := hrel
    by_cases hlt : j < n
    · obtain ⟨g, a, rfl, ha, c0, c1, c2, c3⟩ := (hx.past hp).at_ hlt
      obtain ⟨g', a', rfl, ha', d0, d1, d2, d3⟩ := (hy.past hp).at_ hlt
      obtain rfl : a = a' := by rw [ha] at ha'; exact Option.some.inj ha'
      clear ha ha'
      have h0 : (0 : Int) ≤ (j : Int) := by omega
      have h1 : (j : Int) < (n : Int) := by omega
      have b1 := World.block_lt_of_cell? wr _ c0
      have b2 := World.block_lt_of_cell? wr _ d0
      simp only at b1 b2
      go_wp2
      refine wp_region_over (by kernel_rfl) (by kernel_rfl) ?_
      repeat (go_big_quiet_step ((first | (go_at_call 27; exact over_of (eqStep_same _ _ _ _ _)))))
      refine wpQuiet_nil ?_
      intro w1 hb1
      obtain ⟨hc1, hf1, _⟩ := hb1.cells
      go_wp2
      go_roundw
      case rel => exact ⟨j + 1, by omega, by go_num, (by repeat (first | exact Past.refl _ | assumption | refine Past.alloc ?_ _ | refine Past.drew ?_ | refine Past.drewN ?_ _ | refine Past.setCell ?_ (by first | (simp; done) | (simp <;> omega)) _ | refine Past.trans ?_ (past_over _ _) | refine Past.trans ?_ (by assumption)))⟩
      case measure => simp [intOf]; omega
    · go_wp2
      go_ret
      exact ⟨rfl, hp⟩
theorem OwS.mod {S : Nat → Prop} {base : Nat} {w w' : World} {A : Option Addr} {n k : Nat} {L : List Stp} (h : OwS base w A n k L) (hm : Mod S w w') (hs : ∀ b, A = some ⟨b, 0, none⟩ → ¬ S b) : OwS base w' A n k L := OwE.mod h hm hs
theorem OwS.blk_lt {base : Nat} {w : World} {A : Option Addr} {n k : Nat} {L : List Stp} (h : OwS base w A n k L) {b : Nat} (hb : blk A b) : base ≤ b ∧ b < w.heap.size := OwE.blk_lt h hb
theorem OwS.less {base base' : Nat} {w : World} {A : Option Addr} {n k : Nat} {L : List Stp} (h : OwS base w A n k L) (hb : base' ≤ base) : OwS base' w A n k L := OwE.less h hb
/-- A row of steps in a span. -/
def RowS (lo hi : Nat) (w : World) (A : Option Addr) (n k : Nat) (L : List Stp) : Prop := OwS lo w A n k L ∧ Sp lo hi A
section
variable {lo hi : Nat} {w w' : World} {A : Option Addr} {n k : Nat} {L : List Stp}
theorem RowS.mk (h : OwS lo w A n k L) (hs : w.heap.size ≤ hi) : RowS lo hi w A n k L := ⟨h, fun b hb => by have := h.blk_lt hb; omega⟩
theorem RowS.past (h : RowS lo hi w A n k L) (p : Past w w') : RowS lo hi w' A n k L := ⟨h.1.past p, h.2⟩
theorem RowS.turn {a b : Nat} (h : RowS lo hi w A n k L) (p : Turn a b w w') (hs : hi ≤ a ∨ b ≤ lo) : RowS lo hi w' A n k L := ⟨h.1.mod p (h.2.turn hs), h.2⟩
theorem markRowS (h : RowS lo hi w A n k L) (K : Int) (h0 : 0 ≤ K) (h1 : K ≤ 1000000) (hn : n ≤ 10000000) :
    Calls Tryd.prog 30 #[.slice A n k, .int .i64 K] w fun e w' => e = .returned (.int .i64 (K + 4 * (n : Int))) ∧ RowS lo hi w' A n k (marksS K n) ∧ Turn lo hi w w' :=
  (markSteps lo A n k L K w h.1 h0 h1 hn).mono fun _ _ ⟨he, h2, hM⟩ => ⟨he, ⟨h2, h.2⟩, hM.more h.2⟩
theorem heldRowS {K : Int} (h : RowS lo hi w A n k (marksS K n)) (h0 : 0 ≤ K) (h1 : K ≤ 1000000) (hn : n ≤ 10000000) :
    Calls Tryd.prog 31 #[.slice A n k, .int .i64 K] w fun e w' => e = .returned (.int .i64 (K + 4 * (n : Int))) ∧ w = w' := heldSteps lo A n k K w h.1 h0 h1 hn
theorem eqRowS {lo' hi' k' : Nat} {A' : Option Addr} (h : RowS lo hi w A n k L) (h' : RowS lo' hi' w A' n k' L) (hn : n ≤ 1048576) :
    Calls Tryd.prog 21 #[.slice A n k, .slice A' n k'] w fun e w' => e = .returned (.bool true) ∧ Past w w' := eqSteps _ _ _ _ _ _ _ _ _ h.1 h'.1 hn
end
end Go.Proofs.YtdcdjocjlicplaaDoor
