/-
  Contracts: the laws' copy of a slice of steps.
-/
import Derived.Test.YtdcdjocjlicplaaDoorMarkS
import Derived.Test.YtdcdjocjlicplaaDoorPut
namespace Go.Proofs.YtdcdjocjlicplaaDoor
open Go.ChangeShapes Go.WideShapes Go.ChangeAt Go.RowKit Go.Joins

def zStp : Stp := ⟨0, 0, 0, false⟩
theorem made_steps (n : Nat) : (madeCells (Value.agg #[.int .i64 0, .int .i64 0, .int .i64 0, .bool false]).cells (n * 4)).toList = flat Stp.cells (List.replicate n zStp) := by
  apply List.ext_getElem?
  intro i
  by_cases hi : i < n * 4
  · have hq : (List.replicate n zStp)[i / 4]? = some zStp := by rw [List.getElem?_replicate, if_pos (by omega)]
    have e : i = i / 4 * 4 + i % 4 := by omega
    have hr : i % 4 < 4 := Nat.mod_lt _ (by decide)
    have hc : ∃ v, zStp.cells[i % 4]? = some v ∧ (madeCells (Value.agg #[.int .i64 0, .int .i64 0, .int .i64 0, .bool false]).cells (n * 4)).toList[i]? = some v := by
      rcases (by omega : i % 4 = 0 ∨ i % 4 = 1 ∨ i % 4 = 2 ∨ i % 4 = 3) with h | h | h | h <;> simp [madeCells, Value.cells, Stp.cells, zStp, h, hi]
    obtain ⟨v, h1, h2⟩ := hc
    rw [h2]
    conv => rhs; rw [e]
    exact (flat_get Stp.cells_len hq h1).symm
  · have hl : (flat Stp.cells (List.replicate n zStp)).length = n * 4 := by rw [flat_len Stp.cells_len, List.length_replicate]
    rw [List.getElem?_eq_none (by rw [Array.length_toList, size_madeCells]; omega), List.getElem?_eq_none (by rw [hl]; omega)]
theorem copyS_step {L : List Stp} {j n : Nat} {a : Stp} (hl : L.length = n) (h : L[j]? = some a) : (L.take j ++ List.replicate (n - j) zStp).set j a = L.take (j + 1) ++ List.replicate (n - (j + 1)) zStp := by
  obtain ⟨hj, rfl⟩ := List.getElem?_eq_some_iff.1 h
  apply List.ext_getElem
  · simp; omega
  · intro i h1 h2
    simp only [List.getElem_set, List.getElem_append, List.getElem_take, List.getElem_replicate, List.length_take]
    by_cases e : j = i
    · subst e
      rw [if_pos rfl, dif_pos (by omega)]
    · rw [if_neg e]
      by_cases hi : i < j
      · rw [dif_pos (by omega), dif_pos (by omega)]
      · rw [dif_neg (by omega), dif_neg (by omega)]
set_option maxHeartbeats 2000000 in
set_option maxRecDepth 100000 in
theorem toSteps (A : Option Addr) (n k : Nat) (L : List Stp) (w : World) (hx : RdS w A n L) (hn : n ≤ 1048576) :
    Calls Tryd.prog 19 #[.slice A n k] w fun e w' => ∃ g, e = .returned (.slice (some ⟨g, 0, none⟩) n n) ∧ OwS w.heap.size w' (some ⟨g, 0, none⟩) n n L ∧ Past w w' := by
  obtain ⟨i0, hi, hz0, hz1, hz2⟩ := info_parts infoS
  have HL := Lib.hid hx.1
  go_enter Tryd.func19, Tryd.ntmps19
  go_wp2_with (at_make; refine wpList_make_full _ rfl _ _ 37 rfl w.heap.size 31 i0 (.agg #[.int .i64 0, .int .i64 0, .int .i64 0, .bool false]) 4 Tryd.underlying37 hi hz0 hz1 .i64 .i64 (n : Int) (n : Int) n rfl rfl rfl rfl (by rw [hz2]; omega) (by unfold maxLen; omega) (Nat.le_refl _) ?_; intro w1 hown1 hg1; rw [made_steps] at hown1)
  have hp1 : Past w w1 := Below.grown (Below.refl _ _) hg1 (Nat.le_refl _) (fun k hk => by cases hk)
  have ho1 : OwS w.heap.size w1 (some ⟨w.heap.size, 0, none⟩) n n (List.replicate n zStp) := ⟨List.length_replicate, hown1⟩
  clear hg1 hown1
  go_loopw [4] (fun i wr => ∃ j : Nat, j ≤ n ∧ i = .int .i64 j ∧ OwS w.heap.size wr (some ⟨w.heap.size, 0, none⟩) n n (L.take j ++ List.replicate (n - j) zStp) ∧ Past w wr) (fun i _ => n - (intOf i).toNat)
  case atStart => exact ⟨0, Nat.zero_le _, rfl, by simpa using ho1, hp1⟩
  case round =>
    obtain ⟨j, hj, rfl, hown, hp⟩ := hrel
    clear ho1 hp1 hi hz0 hz1 hz2
    by_cases hlt : j < n
    · have h0 : (0 : Int) ≤ (j : Int) := by omega
      have h1 : (j : Int) < (n : Int) := by omega
      obtain ⟨b, o, a, rfl, haj, c0, c1, c2, c3⟩ := (hx.past hp).at_ hlt
      obtain ⟨g, a', hg, _, d0, d1, d2, d3⟩ := hown.at_ hlt
      simp only [Option.some.injEq, Addr.mk.injEq, and_true] at hg
      subst hg
      have f0 : wr.frozen? ⟨w.heap.size, j * 4, none⟩ = false := World.ownsRow.frozenAt hown.2 _
      have f1 : wr.frozen? ⟨w.heap.size, j * 4 + 1, none⟩ = false := World.ownsRow.frozenAt hown.2 _
      have f2 : wr.frozen? ⟨w.heap.size, j * 4 + 2, none⟩ = false := World.ownsRow.frozenAt hown.2 _
      have f3 : wr.frozen? ⟨w.heap.size, j * 4 + 3, none⟩ = false := World.ownsRow.frozenAt hown.2 _
      have b2 := World.block_lt_of_cell? wr _ d0
      simp only at b2
      have E := Lib.hid (copyS_step HL.out haj)
      clear haj
      go_wp2_with (go_at_call 15; (with_reducible refine (toStep_any _ _ _ _ _).mono ?_); rintro e w2 ⟨rfl, hb2⟩; obtain ⟨hc2, hf2, _⟩ := hb2.cells; have hz2_0 : w.heap.size < w2.heap.size := Past.lt hb2 (by first | omega | (simp <;> omega)))
      go_roundw
      case rel => exact ⟨j + 1, by omega, by go_num, by rw [← E.out]; exact OwS.put (OwE.past hown hb2) hlt a, ((((hp.trans hb2).setCell (p := ⟨w.heap.size, j * 4, none⟩) (Nat.le_refl _) _).setCell (p := ⟨w.heap.size, j * 4 + 1, none⟩) (Nat.le_refl _) _).setCell (p := ⟨w.heap.size, j * 4 + 2, none⟩) (Nat.le_refl _) _).setCell (p := ⟨w.heap.size, j * 4 + 3, none⟩) (Nat.le_refl _) _⟩
      case measure => simp [intOf]; omega
    · have e : L.take j ++ List.replicate (n - j) zStp = L := by rw [List.take_of_length_le (by have := HL.out; omega), show n - j = 0 from by omega]; simp
      rw [e] at hown
      clear e
      go_wp2
      go_ret
      exact ⟨_, rfl, hown, hp⟩
theorem szSteps (A : Option Addr) (n k : Nat) (L : Int) (w : World) (h0 : 0 ≤ L) (h1 : L ≤ 1048576) (hn : (n : Int) ≤ 9223372036854775807) :
    Calls Tryd.prog 17 #[.slice A n k, .int .i64 L] w fun e w' => e = .returned (.int .i64 (if (n : Int) ≤ L then L - n else -1)) ∧ w = w' := by
  by_cases h : (n : Int) ≤ L
  · rw [if_pos h]
    go_enter Tryd.func17, Tryd.ntmps17
    go_wp2
    go_ret
    exact ⟨rfl, rfl⟩
  · rw [if_neg h]
    go_enter Tryd.func17, Tryd.ntmps17
    go_wp2
    go_ret
    exact ⟨rfl, rfl⟩
end Go.Proofs.YtdcdjocjlicplaaDoor
