/-
  Contracts: the reference's words of a text.
-/
import Derived.Test.YtdcdjocjlicplaaDoorReadV
import Derived.Test.YtdcdjocjlicplaaDoorRow
import Derived.Deep.AppendLies
namespace Go.Proofs.YtdcdjocjlicplaaDoor
open Go.ChangeShapes Go.WideShapes Go.ChangeAt Go.RowKit Go.Joins

/-! ### Words, one byte after the other -/
def byAt (tb : ByteArray) (j : Nat) : Int := ((tb.data.toList.getD j 0).toNat : Int)
def hitAt (b : UInt8) (s : ByteArray) (j : Nat) : Bool := decide (s.size ≤ j) || (byAt s j == (b.toNat : Int))
def fromTo (b : UInt8) (s : ByteArray) : Nat → Nat
  | 0 => 0
  | j + 1 => if hitAt b s j = true then j + 1 else fromTo b s j
def wordsTo (b : UInt8) (s : ByteArray) : Nat → List ByteArray
  | 0 => []
  | j + 1 => if hitAt b s j = true then wordsTo b s j ++ [s.extract (fromTo b s j) j] else wordsTo b s j
theorem fromTo_le (b : UInt8) (s : ByteArray) (j : Nat) : fromTo b s j ≤ j := by
  induction j with
  | zero => exact Nat.le_refl _
  | succ j ih =>
    unfold fromTo
    split <;> omega
theorem wordsTo_len (b : UInt8) (s : ByteArray) (j : Nat) : (wordsTo b s j).length ≤ j := by
  induction j with
  | zero => exact Nat.le_refl _
  | succ j ih =>
    unfold wordsTo
    split
    · rw [List.length_append, List.length_singleton]; omega
    · omega
theorem wordsTo_hit {b : UInt8} {s : ByteArray} {j : Nat} (h : hitAt b s j = true) : wordsTo b s (j + 1) = wordsTo b s j ++ [s.extract (fromTo b s j) j] := by rw [wordsTo, if_pos h]
theorem wordsTo_no {b : UInt8} {s : ByteArray} {j : Nat} (h : hitAt b s j = false) : wordsTo b s (j + 1) = wordsTo b s j := by rw [wordsTo, if_neg (by simp [h])]
theorem fromTo_hit {b : UInt8} {s : ByteArray} {j : Nat} (h : hitAt b s j = true) : fromTo b s (j + 1) = j + 1 := by rw [fromTo, if_pos h]
theorem fromTo_no {b : UInt8} {s : ByteArray} {j : Nat} (h : hitAt b s j = false) : fromTo b s (j + 1) = fromTo b s j := by rw [fromTo, if_neg (by simp [h])]
theorem cutAt_snoc_hit (b : UInt8) (x : List UInt8) : cutAt b (x ++ [b]) = cutAt b x ++ [[]] := by
  induction x with
  | nil => simp [cutAt]
  | cons c r ih =>
    have hne := cutAt_ne b r
    rw [List.cons_append, cutAt_cons_eq, cutAt_cons_eq, ih]
    cases h : cutAt b r with
    | nil => exact absurd h hne
    | cons y L => split <;> simp
theorem cutAt_snoc_no {b c : UInt8} (hc : c ≠ b) (x : List UInt8) : ∀ (D : List (List UInt8)) (y : List UInt8), cutAt b x = D ++ [y] → cutAt b (x ++ [c]) = D ++ [y ++ [c]] := by
  induction x with
  | nil =>
    intro D y h
    have e : cutAt b [] = [[]] := rfl
    rw [e] at h
    cases D with
    | nil => simp only [List.nil_append, List.cons.injEq, and_true] at h; subst h; simp [cutAt, hc]
    | cons z D => simp at h
  | cons a r ih =>
    intro D y h
    rw [cutAt_cons_eq] at h
    rw [List.cons_append, cutAt_cons_eq]
    split at h
    · rename_i e
      rw [if_pos e]
      cases D with
      | nil => simp only [List.nil_append, List.cons.injEq] at h; exact absurd h.2 (cutAt_ne _ _)
      | cons z D =>
        simp only [List.cons_append, List.cons.injEq] at h
        rw [ih D y h.2, List.cons_append, ← h.1]
    · rename_i e
      rw [if_neg e]
      cases hr : cutAt b r with
      | nil => exact absurd hr (cutAt_ne _ _)
      | cons u L =>
        rw [hr] at h
        simp only [List.headD_cons, List.tail_cons] at h
        cases D with
        | nil =>
          simp only [List.nil_append, List.cons.injEq] at h
          obtain ⟨h1, h2⟩ := h
          rw [ih [] u (by rw [hr, h2]; rfl), ← h1]
          simp
        | cons z D =>
          simp only [List.cons_append, List.cons.injEq] at h
          obtain ⟨h1, h2⟩ := h
          rw [ih (u :: D) y (by rw [hr, h2]; rfl), ← h1]
          simp
theorem ext_list (s : ByteArray) (i j : Nat) : (s.extract i j).data.toList = (s.data.toList.take j).drop i := by
  rw [ByteArray.data_extract, Array.toList_extract, List.extract_eq_take_drop, List.drop_take]
theorem byAt_eq {s : ByteArray} {j : Nat} (h : j < s.size) : ∃ c, s.data.toList.take (j + 1) = s.data.toList.take j ++ [c] ∧ byAt s j = (c.toNat : Int) := by
  have hl : j < s.data.toList.length := by rw [Array.length_toList]; exact h
  refine ⟨s.data.toList[j], ?_, ?_⟩
  · rw [List.take_add_one, List.getElem?_eq_getElem hl]; rfl
  · rw [byAt, List.getD_eq_getElem?_getD, List.getElem?_eq_getElem hl]; rfl
theorem wordsTo_cut (b : UInt8) (s : ByteArray) (j : Nat) (hj : j ≤ s.size) : cutAt b (s.data.toList.take j) = (wordsTo b s j).map (·.data.toList) ++ [(s.data.toList.take j).drop (fromTo b s j)] := by
  induction j with
  | zero => simp [cutAt, wordsTo]
  | succ j ih =>
    have ih := ih (by omega)
    obtain ⟨c, h1, h2⟩ := byAt_eq (s := s) (j := j) (by omega)
    have hl : (s.data.toList.take j).length = j := by
      have : s.data.toList.length = s.size := Array.length_toList
      rw [List.length_take]; omega
    by_cases hc : c = b
    · have hh : hitAt b s j = true := by rw [hitAt, h2, hc]; simp
      rw [h1, hc, cutAt_snoc_hit, ih, wordsTo_hit hh, fromTo_hit hh, List.map_append, List.map_singleton, ext_list]
      rw [List.drop_of_length_le (l := List.take j s.data.toList ++ [b]) (by rw [List.length_append, hl]; simp)]
    · have hh : hitAt b s j = false := by
        rw [hitAt, h2, Bool.or_eq_false_iff]
        exact ⟨decide_eq_false (by omega), by rw [beq_eq_false_iff_ne]; intro e; exact hc (UInt8.toNat_inj.1 (by omega))⟩
      rw [h1, cutAt_snoc_no hc _ _ _ ih, wordsTo_no hh, fromTo_no hh, List.drop_append_of_le_length (by rw [hl]; exact fromTo_le _ _ _)]
theorem wordsTo_all (b : UInt8) (s : ByteArray) : wordsTo b s (s.size + 1) = cutB b s := by
  have hl : s.data.toList.length = s.size := Array.length_toList
  have h := wordsTo_cut b s s.size (Nat.le_refl _)
  rw [List.take_of_length_le (by omega)] at h
  have hh : hitAt b s s.size = true := by rw [hitAt, decide_eq_true (Nat.le_refl _)]; rfl
  rw [wordsTo_hit hh, cutB, h, List.map_append, List.map_map, List.map_singleton]
  congr 1
  · conv => lhs; rw [← List.map_id (wordsTo b s s.size)]
    apply List.map_congr_left
    intro x _
    simp
  · congr 1
    apply ByteArray.ext
    apply Array.toList_inj.1
    rw [ext_list, List.take_of_length_le (by omega)]
theorem hitAt_end {b : UInt8} {s : ByteArray} : hitAt b s s.size = true := by rw [hitAt, decide_eq_true (Nat.le_refl _)]; rfl
theorem hitAt_yes {b : UInt8} {s : ByteArray} {j : Nat} (h : byAt s j = (b.toNat : Int)) : hitAt b s j = true := by rw [hitAt, h]; simp
theorem hitAt_not {b : UInt8} {s : ByteArray} {j : Nat} (hj : j < s.size) (h : ¬ byAt s j = (b.toNat : Int)) : hitAt b s j = false := by
  rw [hitAt, Bool.or_eq_false_iff]
  exact ⟨decide_eq_false (by omega), by rw [beq_eq_false_iff_ne]; exact h⟩
set_option maxRecDepth 100000 in
theorem by_ix {tb : ByteArray} {j : Nat} (h : j < tb.size) (w : World) : (Instr.index 9 (.string tb) (.int .i64 (j : Int))).run Tryd.prog w = .ok (.int .u8 (byAt tb j)) w := by
  rw [run_index_string w 9 tb .i64 (j : Int) (by rfl), dif_pos ⟨by omega, by omega⟩]
  have hl : j < tb.data.toList.length := by rw [Array.length_toList]; exact h
  congr 3
  rw [List.getD_eq_getElem?_getD, List.getElem?_eq_getElem hl]
  rfl
/-! ### A row of words that the call itself makes -/
def wCs (s : ByteArray) : List Value := [.string s]
theorem wCs_len (s : ByteArray) : (wCs s).length = 1 := rfl
def OwW (base : Nat) (w : World) (A : Option Addr) (n k : Nat) (L : List ByteArray) : Prop := OwE 9 wCs 1 base w A n k L
theorem OwW.rd {base : Nat} {w : World} {A : Option Addr} {n k : Nat} {L : List ByteArray} (h : OwW base w A n k L) : RdT w A n L := by
  have h2 := OwE.rd wCs_len h
  refine ⟨h2.1, fun hn => ?_⟩
  obtain ⟨b, o, hA, hc⟩ := h2.2 hn
  refine ⟨b, o, hA, fun j x hj => ?_⟩
  have := hc j x 0 _ hj rfl
  rwa [Nat.mul_one, Nat.add_zero] at this
def WdIn (w1 wr : World) (v : Value) (L : List ByteArray) : Prop := ∃ A k, v = .slice A L.length k ∧ OwW w1.heap.size wr A L.length k L ∧ Past w1 wr
theorem WdIn.past {w1 a b : World} {v : Value} {L : List ByteArray} (h : WdIn w1 a v L) (p : Past a b) : WdIn w1 b v L := by
  obtain ⟨A, k, hv, ho, hp⟩ := h
  exact ⟨A, k, hv, OwE.past ho p, hp.trans p⟩
theorem WdIn.empty (w1 : World) (t : TypeId) (ht : t = 9) : WdIn w1 (w1.alloc (.cells #[] t)) (.slice (some ⟨w1.heap.size, 0, none⟩) 0 0) [] :=
  ⟨some ⟨w1.heap.size, 0, none⟩, 0, rfl, ⟨rfl, by subst ht; exact World.ownsRow_lit w1 #[] 0 (Nat.le_refl _) (Nat.zero_le _) rfl⟩, (Past.refl _).alloc _⟩
theorem WdIn.push {w1 w w' : World} {A : Option Addr} {k : Nat} {L : List ByteArray} {a : ByteArray} {v' : Value} (ho : OwW w1.heap.size w A L.length k L) (hp : Past w1 w)
    (h : w'.ownsRow w1.heap.size 9 1 v' (L.length + 1) (flat wCs L ++ wCs a)) (hg : w.grownBy w' (Value.slice A L.length k).ownBlock) (hnil : v' ≠ .slice none 0 0) : WdIn w1 w' v' (L ++ [a]) := by
  obtain ⟨A', k', rfl, ho'⟩ := OwE.push rfl h hnil
  exact ⟨A', k', rfl, ho', past_grown hp ho.2 (Nat.le_refl _) hg⟩
theorem infoW : (Tryd.prog.info? 9).map (fun i => (i.zero, i.size, i.bytes)) = some (some (.string ByteArray.empty), 1, 16) := by kernel_rfl
set_option maxHeartbeats 2000000 in
set_option maxRecDepth 100000 in
theorem l01Split_any (s : ByteArray) (b : UInt8) (w : World) (hs : s.size ≤ 1048576) :
    Calls Tryd.prog 47 #[.string s, .int .u8 (b.toNat : Int)] w (WordsRet w (cutB b s)) := by
  obtain ⟨i0, hi, hz0, hz1, hz2⟩ := info_parts infoW
  go_enter Tryd.func47, Tryd.ntmps47
  go_wp2_with fail
  go_loopw [5, 6, 7] (fun v f i wr => ∃ j : Nat, j ≤ s.size + 1 ∧ i = .int .i64 (j : Int) ∧ f = .int .i64 (fromTo b s j : Int) ∧ WdIn w wr v (wordsTo b s j)) (fun _ _ i _ => s.size + 1 - (intOf i).toNat)
  case atStart => exact ⟨0, Nat.zero_le _, rfl, rfl, WdIn.empty w _ rfl⟩
  case round =>
    obtain ⟨j, hj, rfl, rfl, A', k', rfl, hown, hp⟩ := hrel
    have hle := wordsTo_len b s j
    have hfr := fromTo_le b s j
    have hfz : (fromTo b s j : Int) ≤ (j : Int) := by omega
    by_cases hlt : j ≤ s.size
    · have hltz : (j : Int) ≤ (s.size : Int) := by omega
      have sl := fun w => run_slice_string (P := Tryd.prog) w 9 s .i64 .i64 (fromTo b s j : Int) (j : Int) (by rfl) (by omega) hfz hltz
      simp only [Int.toNat_natCast] at sl
      by_cases he : j = s.size
      · have hez : (j : Int) = (s.size : Int) := by omega
        have hq : ((j : Int) == (s.size : Int)) = true := beq_iff_eq.2 hez
        have hh : hitAt b s j = true := by rw [he]; exact hitAt_end
        have E1 := Lib.hid (wordsTo_hit hh)
        have E2 := Lib.hid (fromTo_hit hh)
        have HE := Lib.hid he
        clear hh he hez
        go_wp2_with (at_builtin; refine wpList_append_own _ rfl _ _ 66 rfl w.heap.size 9 i0 (.string ByteArray.empty) 1 16 Tryd.underlying66 hi hz0 hz1 hz2 rfl (by decide) _ (wordsTo b s j).length (flat wCs (wordsTo b s j)) rfl (OwE.alloc hown _).2 ⟨wr.heap.size, 0, none⟩ 1 1 [.string (s.extract (fromTo b s j) j)] rfl rfl (cell_one_new _ _ _) (by intro u hu; simp at hu; subst hu; rfl) (by unfold maxLen; omega) (by omega) (Nat.le_trans hp.sz (by simp)) ?_; intro v2 w5 hown5 hg5 hiff)
        go_roundw
        case rel => exact ⟨j + 1, by omega, by go_num, by rw [E2.out]; go_num, by rw [E1.out]; exact WdIn.push (OwE.alloc hown _) (hp.alloc _) hown5 hg5 (fun h => absurd (hiff.1 h).2 (by decide))⟩
        case measure => simp [intOf]; omega
      · have hq : ((j : Int) == (s.size : Int)) = false := by rw [beq_eq_false_iff_ne]; omega
        have hne : ¬ (j : Int) = (s.size : Int) := by omega
        have hl2 : j < s.size := by omega
        have hix := fun w => by_ix hl2 w
        by_cases hb : byAt s j = (b.toNat : Int)
        · have hh : hitAt b s j = true := hitAt_yes hb
          have hq2 : (byAt s j == (b.toNat : Int)) = true := beq_iff_eq.2 hb
          have E1 := Lib.hid (wordsTo_hit hh)
          have E2 := Lib.hid (fromTo_hit hh)
          clear hh hb he
          go_wp2_with (at_builtin; refine wpList_append_own _ rfl _ _ 66 rfl w.heap.size 9 i0 (.string ByteArray.empty) 1 16 Tryd.underlying66 hi hz0 hz1 hz2 rfl (by decide) _ (wordsTo b s j).length (flat wCs (wordsTo b s j)) rfl (OwE.alloc hown _).2 ⟨wr.heap.size, 0, none⟩ 1 1 [.string (s.extract (fromTo b s j) j)] rfl rfl (cell_one_new _ _ _) (by intro u hu; simp at hu; subst hu; rfl) (by unfold maxLen; omega) (by omega) (Nat.le_trans hp.sz (by simp)) ?_; intro v2 w5 hown5 hg5 hiff)
          go_roundw
          case rel => exact ⟨j + 1, by omega, by go_num, by rw [E2.out]; go_num, by rw [E1.out]; exact WdIn.push (OwE.alloc hown _) (hp.alloc _) hown5 hg5 (fun h => absurd (hiff.1 h).2 (by decide))⟩
          case measure => simp [intOf]; omega
        · have hh : hitAt b s j = false := hitAt_not hl2 hb
          have hq2 : (byAt s j == (b.toNat : Int)) = false := beq_eq_false_iff_ne.2 hb
          have E1 := Lib.hid (wordsTo_no hh)
          have E2 := Lib.hid (fromTo_no hh)
          clear hh he
          go_wp2_with fail
          go_roundw
          case rel => exact ⟨j + 1, by omega, by go_num, by rw [E2.out], by rw [E1.out]; exact ⟨A', k', rfl, hown, hp⟩⟩
          case measure => simp [intOf]; omega
    · obtain rfl : j = s.size + 1 := by omega
      rw [wordsTo_all] at hown
      have hltz : ¬ ((s.size + 1 : Nat) : Int) ≤ (s.size : Int) := by omega
      have hpos : 0 < (cutB b s).length := by
        rw [cutB, List.length_map]
        exact List.length_pos_iff.2 (cutAt_ne _ _)
      obtain ⟨g, rfl⟩ := OwE.addr hown hpos
      have hrd := hown.rd
      rw [wordsTo_all]
      clear hle hfr hfz hj
      go_wp2
      go_ret
      exact ⟨g, k', rfl, hrd, hp⟩
theorem l01Split_47 (s : ByteArray) (w : World) (hs : s.size ≤ 1048576) : Calls Tryd.prog 47 #[.string s, .int .u8 47] w (WordsRet w (cutB 47 s)) := l01Split_any s 47 w hs
theorem l01Split_32 (s : ByteArray) (w : World) (hs : s.size ≤ 1048576) : Calls Tryd.prog 47 #[.string s, .int .u8 32] w (WordsRet w (cutB 32 s)) := l01Split_any s 32 w hs
end Go.Proofs.YtdcdjocjlicplaaDoor
