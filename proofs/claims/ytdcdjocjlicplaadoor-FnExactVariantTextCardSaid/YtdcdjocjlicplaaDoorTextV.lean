/-
  Contracts: the program's text of a variant.
-/
import Derived.Test.YtdcdjocjlicplaaDoorTextW
import Derived.Deep.OwnRows
import Derived.Test.YtdcdjocjlicplaaDoorBox
namespace Go.Proofs.YtdcdjocjlicplaaDoor
open Go.ChangeShapes Go.WideShapes Go.ChangeAt Go.RowKit Go.Joins

theorem infoStr : (Tryd.prog.info? 9).map (fun i => (i.zero, i.size, i.bytes)) = some (some (.string ByteArray.empty), 1, 16) := by kernel_rfl
theorem dec_len {n : Int} (h : 0 ≤ n) (h2 : n < 100) : (dec n).length ≤ 2 := by
  rw [dec_eq h h2, decT]
  split <;> simp
theorem lens_dec : ∀ (xs : List Int), (∀ x ∈ xs, 0 ≤ x ∧ x < 100) → Lib.lens (xs.map dec) ≤ 2 * xs.length
  | [], _ => by simp [Lib.lens]
  | x :: r, h => by
    have h1 := lens_dec r fun y hy => h y (by simp [hy])
    have h2 := dec_len (h x (by simp)).1 (h x (by simp)).2
    simp only [Lib.lens, List.map_cons, List.sum_cons, List.length_cons] at h1 ⊢
    omega
theorem join_dec (xs : List Int) (sb : UInt8) (h : ∀ x ∈ xs, 0 ≤ x ∧ x < 100) : (Lib.join (xs.map dec) [sb]).length ≤ 3 * xs.length := by
  cases xs with
  | nil => simp [Lib.join]
  | cons x r =>
    have h1 := lens_dec (x :: r) h
    rw [List.map_cons, Lib.join_length]
    simp only [List.map_cons, List.length_map, List.length_cons, List.length_nil] at h1 ⊢
    omega
set_option maxHeartbeats 1000000 in
set_option maxRecDepth 100000 in
theorem joinNumbers_any (A : Option Addr) (n k : Nat) (xs : List Int) (sb : UInt8) (w : World) (hx : RdI w A n xs) (hn : n ≤ 100) (hd : ∀ x ∈ xs, 0 ≤ x ∧ x < 100) (hn1 : 1 ≤ n) :
    Calls Tryd.prog 41 #[.slice A n k, .string ⟨#[sb]⟩] w fun e w' => e = .returned (.string ⟨(Lib.join (xs.map dec) [sb]).toArray⟩) ∧ Past w w' := by
  have hmk := run_make_row' (P := Tryd.prog) 66 9 (.string ByteArray.empty) 16 Tryd.underlying66 infoStr rfl .i64 .i64 n (by omega) (by omega)
  go_enter Tryd.func41, Tryd.ntmps41
  go_wp2
  clear hmk
  obtain ⟨D, hD⟩ : ∃ D, D = xs.map decB := ⟨_, rfl⟩
  have hDl : D.length = n := by rw [hD, List.length_map, hx.1]
  go_loopw [13] (fun i wr => ∃ j : Nat, j ≤ n ∧ i = .int .i64 (j : Int) ∧ wr = w.alloc (.cells (Lib.cellsOf (D.take j) n) 9)) (fun i _ => n - (intOf i).toNat)
  case atStart => exact ⟨0, Nat.zero_le _, rfl, by rw [List.take_zero, Lib.cellsOf_nil]⟩
  case round =>
    obtain ⟨j, hj, rfl, rfl⟩ := hrel
    by_cases hlt : j < n
    · have hltz : (j : Int) < (n : Int) := by omega
      obtain ⟨b, o, x, rfl, hxj, hc⟩ := hx.at_ hlt
      have hxm : x ∈ xs := List.mem_of_getElem? hxj
      have hlj : (D.take j).length = j := by rw [List.length_take]; omega
      have hnext : (Lib.cellsOf (D.take j) n)[j]? = some (.string ByteArray.empty) := by
        have := Lib.cellsOf_next (done := D.take j) (N := n) (by omega)
        rw [hlj] at this
        exact this
      have hset : (Lib.cellsOf (D.take j) n).setIfInBounds j (.string (decB x)) = Lib.cellsOf (D.take (j + 1)) n := by
        have := Lib.cellsOf_set (done := D.take j) (N := n) (by omega) (decB x)
        rw [hlj] at this
        rw [this, List.take_add_one, hD, List.getElem?_map, hxj]
        rfl
      have hc2 : (w.alloc (.cells (Lib.cellsOf (D.take j) n) 9)).cell? ⟨b, o + j, none⟩ = some (.int .i64 x) := by
        rw [World.cell?_alloc_old _ _ _ (Nat.ne_of_lt (World.block_lt_of_cell? _ _ hc))]; exact hc
      have HS := Lib.hid hset
      clear hxj hset hlj hD hDl
      go_wp2_with (go_at_call 61; (with_reducible refine (decimal_small _ _ (hd x hxm).1 (hd x hxm).2).mono ?_); rintro e w2 ⟨rfl, rfl⟩)
      go_round
      case rel => exact ⟨j + 1, by omega, by go_num, by rw [HS.out]⟩
      case measure => simp [intOf]; omega
    · obtain rfl : j = n := by omega
      have hltz : ¬ (j : Int) < (j : Int) := by omega
      rw [List.take_of_length_le (by omega)]
      have hfull : Lib.cellsOf D j = (D.map Value.string).toArray := by rw [← hDl]; exact Lib.cellsOf_full _
      rw [hfull]
      have e : D.map (·.data.toList) = xs.map dec := by rw [hD, List.map_map]; rfl
      have hjn := Tryd.strings_Join w.heap.size 0 j D ⟨#[sb]⟩ (w.alloc (.cells (D.map Value.string).toArray 9)) (fun i y hi => by
        rw [Nat.zero_add]
        exact (Blk.new w 9 _).cell i (by simp [hi])) (by simp) (by omega) (by omega) (by
        rw [e]
        have := join_dec xs sb hd
        have := hx.1
        show (Lib.join (xs.map dec) [sb]).length ≤ _
        omega)
      rw [hDl, e] at hjn
      have HJ := Lib.hid hjn
      clear hjn hfull e hD hDl
      go_wp2_with (go_at_call 46; (with_reducible refine (HJ.out).mono ?_); rintro e w2 ⟨rfl, hb2⟩)
      go_ret
      exact ⟨rfl, ((Past.refl w).alloc _).trans hb2⟩
theorem rdI_four (w : World) (p c h s : Int) : RdI (w.alloc (.cells #[.int .i64 p, .int .i64 c, .int .i64 h, .int .i64 s] 2)) (some ⟨w.heap.size, 0, none⟩) 4 [p, c, h, s] :=
  ⟨rfl, fun _ => ⟨_, _, rfl, fun j x hj => by
    rw [Nat.zero_add]
    exact (Blk.new w 2 _).cell j (by
      match j, hj with
      | 0, hj => simpa using hj
      | 1, hj => simpa using hj
      | 2, hj => simpa using hj
      | 3, hj => simpa using hj
      | n + 4, hj => simp at hj)⟩⟩
theorem join_four (p c h s : Int) : Lib.join ([p, c, h, s].map dec) [47] = vTxt p c h s := by
  simp [Lib.join, List.intercalate, vTxt]
set_option maxHeartbeats 1000000 in
set_option maxRecDepth 100000 in
theorem variantText_any (p c h s : Int) (w : World) :
    Calls Tryd.prog 13 #[.agg #[.int .i64 p, .int .i64 c, .int .i64 h, .int .i64 s]] w fun e w' => e = .returned (.string (vtB p c h s)) ∧ Past w w' := by
  cases hv : vOk p c h s
  · have e : vtB p c h s = ⟨#[]⟩ := by rw [vtB, vText, hv]; rfl
    rw [e]
    go_enter Tryd.func13, Tryd.ntmps13
    go_wp2_with (go_at_call 34; (with_reducible refine (isVar_any _ _ _ _ _).mono ?_); rintro e w1 ⟨rfl, hb1⟩; obtain ⟨hc1, hf1, _⟩ := hb1.cells; have hz1_0 : w.heap.size < w1.heap.size := Past.lt hb1 (by first | omega | (simp <;> omega)))
    go_ret
    exact ⟨rfl, (by repeat (first | exact Past.refl _ | assumption | refine Past.alloc ?_ _ | refine Past.drew ?_ | refine Past.drewN ?_ _ | refine Past.setCell ?_ (by first | (simp; done) | (simp <;> omega)) _ | refine Past.trans ?_ (past_over _ _) | refine Past.trans ?_ (by assumption)))⟩
  · have h1 := vOk_yes hv
    have e : vtB p c h s = vB p c h s := by rw [vtB, vText, hv]; rfl
    rw [e, vB, ← join_four]
    have hall : ∀ x ∈ [p, c, h, s], 0 ≤ x ∧ x < 100 := by
      intro x hx
      simp only [List.mem_cons, List.mem_nil_iff, or_false] at hx
      rcases hx with rfl | rfl | rfl | rfl <;> omega
    go_enter Tryd.func13, Tryd.ntmps13
    go_wp2_with (first | (go_at_call 34; (with_reducible refine (isVar_any _ _ _ _ _).mono ?_); rintro e w1 ⟨rfl, hb1⟩; obtain ⟨hc1, hf1, _⟩ := hb1.cells; have hz1_0 : w.heap.size < w1.heap.size := Past.lt hb1 (by first | omega | (simp <;> omega))) | (go_at_call 41; (with_reducible refine (joinNumbers_any _ _ _ _ _ _ (rdI_four _ p c h s) (by omega) hall (by omega)).mono ?_); rintro e w2 ⟨rfl, hb2⟩))
    go_ret
    exact ⟨rfl, (by repeat (first | exact Past.refl _ | assumption | refine Past.alloc ?_ _ | refine Past.drew ?_ | refine Past.drewN ?_ _ | refine Past.setCell ?_ (by first | (simp; done) | (simp <;> omega)) _ | refine Past.trans ?_ (past_over _ _) | refine Past.trans ?_ (by assumption)))⟩
end Go.Proofs.YtdcdjocjlicplaaDoor
