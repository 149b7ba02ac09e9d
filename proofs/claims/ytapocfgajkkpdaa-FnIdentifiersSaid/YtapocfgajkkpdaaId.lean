/-
  Contracts: the letters of a list of bits.
-/
import Derived.Test.YtapocfgajkkpdaaBits
import Derived.Test.YtapocfgajkkpdaaStart
import Derived.Laws.Concat
import Derived.Laws.Strings2
import Derived.Laws.Strings3
import Derived.Laws.BytesArg
import Derived.IntWalk
import Derived.Deep.AppendLies
namespace Go.Proofs.Ytapocfgajkkpdaa
open Go.ChangeShapes Go.WideShapes Go.ChangeAt Go.RowKit Go.Joins

def lettersL : List UInt8 := [65, 66, 67, 68, 69, 70, 71, 72, 73, 74, 75, 76, 77, 78, 79, 80, 81, 82, 83, 84, 85, 86, 87, 88, 89, 90, 97, 98, 99, 100, 101, 102, 103, 104, 105, 106, 107, 108, 109, 110, 111, 112, 113, 114, 115, 116, 117, 118, 119, 120, 121, 122, 48, 49, 50, 51, 52, 53, 54, 55, 56, 57, 43, 45]
def lettersB : ByteArray := ⟨lettersL.toArray⟩
theorem lettersL_len : lettersL.length = 64 := rfl
theorem lettersB_size : lettersB.size = 64 := rfl
def letU (v : Int) : UInt8 := lettersL.getD v.toNat 0
def bitI (L : List Int) (j : Nat) : Int := if L.getD j 0 = 1 then 1 else 0
theorem bitI_one {L : List Int} {j : Nat} (h : L[j]? = some 1) : bitI L j = 1 := by rw [bitI, List.getD_eq_getElem?_getD, h]; rfl
theorem bitI_off {L : List Int} {j : Nat} {x : Int} (h : L[j]? = some x) (hx : ¬ x = 1) : bitI L j = 0 := by rw [bitI, List.getD_eq_getElem?_getD, h, Option.getD_some, if_neg hx]
theorem bitI_past {L : List Int} {j : Nat} (h : L.length ≤ j) : bitI L j = 0 := by rw [bitI, List.getD_eq_getElem?_getD, List.getElem?_eq_none h]; rfl
theorem bitI_bd (L : List Int) (j : Nat) : 0 ≤ bitI L j ∧ bitI L j ≤ 1 := by unfold bitI; split <;> omega
/-- The number that the first e bits of the group t make. -/
def grp (L : List Int) (t : Nat) : Nat → Int
  | 0 => 0
  | e + 1 => 2 * grp L t e + bitI L (6 * t + e)
theorem grp_bd (L : List Int) (t e : Nat) : 0 ≤ grp L t e ∧ grp L t e + 1 ≤ (2 : Int) ^ e := by
  induction e with
  | zero => simp [grp]
  | succ e ih =>
    have := bitI_bd L (6 * t + e)
    rw [grp, Int.pow_succ]
    omega
theorem grp_64 (L : List Int) (t e : Nat) (he : e ≤ 6) : 0 ≤ grp L t e ∧ grp L t e ≤ 63 := by
  have h := grp_bd L t e
  rcases (by omega : e = 0 ∨ e = 1 ∨ e = 2 ∨ e = 3 ∨ e = 4 ∨ e = 5 ∨ e = 6) with rfl | rfl | rfl | rfl | rfl | rfl | rfl <;> (simp only [Int.reducePow] at h; omega)
def idB (L : List Int) : Nat → List UInt8
  | 0 => []
  | t + 1 => idB L t ++ [letU (grp L t 6)]
theorem idB_len (L : List Int) (t : Nat) : (idB L t).length = t := by
  induction t with
  | zero => rfl
  | succ t ih => simp [idB, ih]
def idS (L : List Int) (t : Nat) : ByteArray := ⟨(idB L t).toArray⟩
theorem idS_size (L : List Int) (t : Nat) : (idS L t).size = t := by
  show (idB L t).toArray.size = t
  rw [List.size_toArray, idB_len]
theorem letter_cut {v : Int} (h0 : 0 ≤ v) (h1 : v ≤ 63) : lettersB.extract v.toNat (v + 1).toNat = ⟨[letU v].toArray⟩ := by
  rw [lettersB, ByteArray.extract_mk]
  congr 2
  have hv : v.toNat < lettersL.length := by rw [lettersL_len]; omega
  rw [show (v + 1).toNat - v.toNat = 1 from by omega, List.drop_eq_getElem_cons hv, List.take_succ_cons, List.take_zero, letU, List.getD_eq_getElem?_getD, List.getElem?_eq_getElem hv]
  rfl
theorem idS_next (L : List Int) (t : Nat) : idS L t ++ ⟨[letU (grp L t 6)].toArray⟩ = idS L (t + 1) := by
  rw [idS, ByteArray.mk_append_mk]; rfl
/-- The letters of all bits. -/
def idOf (L : List Int) : ByteArray := idS L ((L.length + 5) / 6)
theorem l03Letters_any (w : World) : Calls Try.prog 87 #[] w fun e w' => e = .returned (.string lettersB) ∧ w = w' := by
  go_enter Try.func87, Try.ntmps87
  go_wp2
  go_ret
  exact ⟨rfl, rfl⟩
set_option maxHeartbeats 2000000 in
set_option maxRecDepth 100000 in
theorem l03Id_any (A : Option Addr) (n k : Nat) (L : List Int) (w : World) (hL : RdI w A n L) (hn : n ≤ 1000) :
    Calls Try.prog 83 #[.slice A n k] w fun e w' => e = .returned (.string (idOf L)) ∧ w = w' := by
  have hsz := lettersB_size
  go_enter Try.func83, Try.ntmps83
  go_wp2
  go_loop [3, 4] (fun v i => ∃ t : Nat, 6 * t ≤ n + 5 ∧ i = .int .i64 (6 * (t : Int)) ∧ v = .string (idS L t)) (fun _ i => n + 6 - (intOf i).toNat)
  case atStart => exact ⟨0, by omega, rfl, rfl⟩
  case round =>
    obtain ⟨t, ht, rfl, rfl⟩ := hrel
    by_cases hlt : 6 * t < n
    · have hlt2 : 6 * (t : Int) < (n : Int) := by omega
      go_wp2_with fail
      go_loop [5, 6] (fun v j => ∃ e : Nat, e ≤ 6 ∧ j = .int .i64 (6 * (t : Int) + (e : Int)) ∧ v = .int .i64 (grp L t e)) (fun _ j => 6 * t + 6 - (intOf j).toNat)
      case atStart => exact ⟨0, Nat.zero_le _, by simp, rfl⟩
      case round =>
        obtain ⟨e, he, rfl, rfl⟩ := hrel
        obtain ⟨g0, g1⟩ := grp_64 L t e he
        by_cases hlte : e < 6
        · have hlte2 : 6 * (t : Int) + (e : Int) < 6 * (t : Int) + 6 := by omega
          by_cases hin : 6 * t + e < n
          · obtain ⟨b1, o1, x, rfl, hxj, hcx⟩ := hL.at_ hin
            have hin2 : 6 * (t : Int) + (e : Int) < (n : Int) := by omega
            have j0 : (0 : Int) ≤ 6 * (t : Int) + (e : Int) := by omega
            have jn : (6 * (t : Int) + (e : Int)).toNat = 6 * t + e := by omega
            by_cases hx : x = 1
            · subst hx
              have HG := Lib.hid (show grp L t (e + 1) = 2 * grp L t e + 1 from by rw [grp, bitI_one hxj])
              clear hxj
              generalize grp L t e = G at g0 g1 HG ⊢
              go_wp2
              go_round
              case rel => exact ⟨e + 1, by omega, by go_num, by rw [HG.out]⟩
              case measure => simp [intOf]; omega
            · have HG := Lib.hid (show grp L t (e + 1) = 2 * grp L t e from by rw [grp, bitI_off hxj hx, Int.add_zero])
              clear hxj
              generalize grp L t e = G at g0 g1 HG ⊢
              go_wp2
              go_round
              case rel => exact ⟨e + 1, by omega, by go_num, by rw [HG.out]⟩
              case measure => simp [intOf]; omega
          · have HG := Lib.hid (show grp L t (e + 1) = 2 * grp L t e from by rw [grp, bitI_past (by have := hL.1; omega), Int.add_zero])
            have hin2 : ¬ 6 * (t : Int) + (e : Int) < (n : Int) := by omega
            generalize grp L t e = G at g0 g1 HG ⊢
            go_wp2
            go_round
            case rel => exact ⟨e + 1, by omega, by go_num, by rw [HG.out]⟩
            case measure => simp [intOf]; omega
        · obtain rfl : e = 6 := by omega
          have hadd : ∀ w : World, (Op.stringOp .add (idS L t) (lettersB.extract (grp L t 6).toNat (grp L t 6 + 1).toNat)).run Try.prog w = .ok (.string (idS L (t + 1))) w := fun w => by
            rw [letter_cut g0 g1, run_string_add_sum w _ _ (by rw [idS_size]; show t + 1 ≤ _; omega), idS_next]
          have hcut : ∀ w : World, (Instr.slice 9 (.string lettersB) (some (.int .i64 (grp L t 6))) (some (.int .i64 (grp L t 6 + 1))) none).run Try.prog w = .ok (.string (lettersB.extract (grp L t 6).toNat (grp L t 6 + 1).toNat)) w := fun w => run_slice_string w _ _ _ _ _ _ (by rfl) g0 (by omega) (by rw [lettersB_size]; omega)
          generalize grp L t 6 = G at g0 g1 hadd hcut ⊢
          go_wp2_with (go_at_call 87; (with_reducible refine (l03Letters_any _).mono ?_); rintro e w9 ⟨rfl, rfl⟩)
          go_round
          case rel => exact ⟨t + 1, by omega, by go_num, rfl⟩
          case measure => simp [intOf]; omega
    · have HI := Lib.hid (show idOf L = idS L t from by rw [idOf, hL.1]; congr 1; omega)
      have hlt2 : ¬ 6 * (t : Int) < (n : Int) := by omega
      go_wp2
      go_ret
      rw [HI.out]
      exact ⟨rfl, rfl⟩
theorem infoU : (Try.prog.info? 5).map (fun i => (i.zero, i.size, i.bytes)) = some (some (.int .u8 0), 1, 1) := by kernel_rfl
/-- Bytes collected in a row of the call's own. -/
def OwB (base : Nat) (w : World) (A : Option Addr) (n k : Nat) (xs : List Int) : Prop := w.ownsRow base 5 1 (.slice A n k) n (xs.map (Value.int .u8))
def BytesIn (w1 wr : World) (v : Value) (L : List Int) : Prop := ∃ A k, v = .slice A L.length k ∧ OwB w1.heap.size wr A L.length k L ∧ Past w1 wr
theorem OwB.past {base : Nat} {w w' : World} {A : Option Addr} {n k : Nat} {xs : List Int} (h : OwB base w A n k xs) (p : Past w w') : OwB base w' A n k xs := ownsRow_past h p
theorem OwB.alloc {base : Nat} {w : World} {A : Option Addr} {n k : Nat} {xs : List Int} (h : OwB base w A n k xs) (o : Obj) : OwB base (w.alloc o) A n k xs := h.past ((Past.refl _).alloc o)
theorem BytesIn.push {w1 w w' : World} {A : Option Addr} {k g k' : Nat} {L : List Int} {x : Int} (ho : OwB w1.heap.size w A L.length k L) (hp : Past w1 w)
    (h : w'.ownsRow w1.heap.size 5 1 (.slice (some ⟨g, 0, none⟩) (L.length + 1) k') (L.length + 1) (L.map (Value.int .u8) ++ [.int .u8 x])) (hg : w.grownBy w' (Value.slice A L.length k).ownBlock) : BytesIn w1 w' (.slice (some ⟨g, 0, none⟩) (L.length + 1) k') (L ++ [x]) := by
  refine ⟨some ⟨g, 0, none⟩, k', by rw [List.length_append]; rfl, ?_, past_grown hp ho (Nat.le_refl _) hg⟩
  rw [show (L ++ [x]).length = L.length + 1 from by simp]
  have h6 := h
  rw [show L.map (Value.int .u8) ++ [Value.int .u8 x] = (L ++ [x]).map (Value.int .u8) from by simp] at h6
  exact h6
theorem OwB.cell {base g n k : Nat} {w : World} {xs : List Int} (h : OwB base w (some ⟨g, 0, none⟩) n k xs) (j : Nat) (hj : j < n) : w.cell? ⟨g, 0 + j, none⟩ = some (.int .u8 (xs.getD j 0)) := by
  have hl : xs.length = n := by have := h.1; simpa using this
  rw [Nat.zero_add, World.ownsRow.cellAt h j (by omega), List.getElem?_map, List.getElem?_eq_getElem (by omega), List.getD_eq_getElem?_getD, List.getElem?_eq_getElem (by omega)]
  rfl
def idI (L : List Int) (t : Nat) : List Int := (idB L t).map fun b => (b.toNat : Int)
theorem idI_len (L : List Int) (t : Nat) : (idI L t).length = t := by rw [idI, List.length_map, idB_len]
theorem idI_next (L : List Int) (t : Nat) : idI L (t + 1) = idI L t ++ [((letU (grp L t 6)).toNat : Int)] := by simp [idI, idB]
theorem idI_str (L : List Int) (t : Nat) : strOfNums (idI L t) = idS L t := by
  rw [strOfNums, idI, idS, List.map_map]
  congr 2
  refine (List.map_congr_left fun b _ => ?_).trans (List.map_id _)
  simp
def padded (L : List Int) (e : Nat) : List Int := L ++ List.replicate e 0
theorem padded_len (L : List Int) (e : Nat) : (padded L e).length = L.length + e := by simp [padded]
theorem padded_next (L : List Int) (e : Nat) : padded L (e + 1) = padded L e ++ [0] := by simp only [padded, List.replicate_succ', List.append_assoc]
theorem padded_bit {L : List Int} {e j : Nat} {x : Int} (hb : ∀ y ∈ L, y = 0 ∨ y = 1) (h : (padded L e)[j]? = some x) : x = bitI L j := by
  rw [padded] at h
  rcases Nat.lt_or_ge j L.length with hj | hj
  · rw [List.getElem?_append_left hj] at h
    rcases hb x (List.mem_of_getElem? h) with rfl | rfl
    · exact (bitI_off h (by omega)).symm
    · exact (bitI_one h).symm
  · rw [List.getElem?_append_right hj] at h
    rw [bitI_past hj]
    have := List.mem_of_getElem? h
    exact List.eq_of_mem_replicate this
theorem bitsRow_01 (zs : List Int) : ∀ y ∈ bitsRow zs, y = 0 ∨ y = 1 := by
  intro y hy
  simp only [bitsRow, List.mem_flatMap, List.mem_append, List.mem_replicate, List.mem_cons, List.not_mem_nil, or_false] at hy
  obtain ⟨x, _, h | h⟩ := hy
  · exact Or.inr h.2
  · exact Or.inl h
theorem bitsRow_pos (zs : List Int) : zs.length ≤ (bitsRow zs).length := by
  induction zs with
  | nil => simp
  | cons x l ih =>
    rw [show x :: l = [x] ++ l from rfl, bitsRow_app, bitsRow_one]
    simp only [List.length_append, List.length_replicate, List.length_cons, List.length_nil]
    omega
set_option maxRecDepth 100000 in
theorem letter_lit {v : Int} (h0 : 0 ≤ v) (h1 : v ≤ 63) (w : World) : (Instr.index 9 (.string (⟨#[65, 66, 67, 68, 69, 70, 71, 72, 73, 74, 75, 76, 77, 78, 79, 80, 81, 82, 83, 84, 85, 86, 87, 88, 89, 90, 97, 98, 99, 100, 101, 102, 103, 104, 105, 106, 107, 108, 109, 110, 111, 112, 113, 114, 115, 116, 117, 118, 119, 120, 121, 122, 48, 49, 50, 51, 52, 53, 54, 55, 56, 57, 43, 45]⟩ : ByteArray)) (.int .i64 v)).run Try.prog w = .ok (.int .u8 ((letU v).toNat : Int)) w := by
  have e : (⟨#[65, 66, 67, 68, 69, 70, 71, 72, 73, 74, 75, 76, 77, 78, 79, 80, 81, 82, 83, 84, 85, 86, 87, 88, 89, 90, 97, 98, 99, 100, 101, 102, 103, 104, 105, 106, 107, 108, 109, 110, 111, 112, 113, 114, 115, 116, 117, 118, 119, 120, 121, 122, 48, 49, 50, 51, 52, 53, 54, 55, 56, 57, 43, 45]⟩ : ByteArray) = lettersB := rfl
  rw [e, run_index_string w 9 lettersB .i64 v (by rfl), dif_pos ⟨h0, by rw [lettersB_size]; omega⟩]
  congr 3
  have hv : v.toNat < lettersL.length := by rw [lettersL_len]; omega
  rw [letU, List.getD_eq_getElem?_getD, List.getElem?_eq_getElem hv]
  rfl
def idBd (p c h s : Int) (xs ys : List Int) : ByteArray := if bOk p c h s xs ys = true then idOf (bitsRow (xs ++ ys)) else ⟨#[]⟩
theorem sBoardId_any (p c h s : Int) (b o d q n k m l : Nat) (xs ys : List Int) (w : World) (hx : RdI w (some ⟨b, o, none⟩) n xs) (hy : RdI w (some ⟨d, q, none⟩) m ys) (hn : n ≤ 1048576) (hm : m ≤ 1048576) :
    Calls Try.prog 40 #[.agg #[.int .i64 p, .int .i64 c, .int .i64 h, .int .i64 s], .agg #[.slice (some ⟨b, o, none⟩) n k, .slice (some ⟨d, q, none⟩) m l]] w fun e w' => e = .returned (.string (idBd p c h s xs ys)) ∧ Past w w' := by
  cases hb : bOk p c h s xs ys
  · rw [show idBd p c h s xs ys = ⟨#[]⟩ from by simp [idBd, hb]]
    go_enter Try.func40, Try.ntmps40
    go_wp2_with (go_at_call 26; (with_reducible refine (sIsBoard_any _ _ _ _ _ _ _ _ _ _ _ _ _ (hx.past (by repeat (first | exact Past.refl _ | assumption | refine Past.alloc ?_ _ | refine Past.drew ?_ | refine Past.drewN ?_ _ | refine Past.setCell ?_ (by first | (simp; done) | (simp <;> omega)) _ | refine Past.trans ?_ (past_over _ _) | refine Past.trans ?_ (by assumption)))) (hy.past (by repeat (first | exact Past.refl _ | assumption | refine Past.alloc ?_ _ | refine Past.drew ?_ | refine Past.drewN ?_ _ | refine Past.setCell ?_ (by first | (simp; done) | (simp <;> omega)) _ | refine Past.trans ?_ (past_over _ _) | refine Past.trans ?_ (by assumption)))) hn hm).mono ?_); rintro e w1 ⟨rfl, hb1⟩; obtain ⟨hc1, hf1, _⟩ := hb1.cells; have hz1_0 : w.heap.size < w1.heap.size := Past.lt hb1 (by first | omega | (simp <;> omega)); have hz1_1 : w.heap.size + 1 < w1.heap.size := Past.lt hb1 (by first | omega | (simp <;> omega)))
    go_ret
    exact ⟨rfl, (by repeat (first | exact Past.refl _ | assumption | refine Past.alloc ?_ _ | refine Past.drew ?_ | refine Past.drewN ?_ _ | refine Past.setCell ?_ (by first | (simp; done) | (simp <;> omega)) _ | refine Past.trans ?_ (past_over _ _) | refine Past.trans ?_ (by assumption)))⟩
  · rw [show idBd p c h s xs ys = idOf (bitsRow (xs ++ ys)) from by simp [idBd, hb]]
    obtain ⟨l1, l2, l3, b1, b2⟩ := bits_bd hb
    have hlen : (bitsRow (xs ++ ys)).length ≤ 1000 := by
      have h1 := bitsRow_len b1
      have h2 := bitsRow_len b2
      rw [bitsRow_app, List.length_append]
      omega
    have e1 := hx.1
    have e2 := hy.1
    go_enter Try.func40, Try.ntmps40
    go_wp2_with (first | (go_at_call 26; (with_reducible refine (sIsBoard_any _ _ _ _ _ _ _ _ _ _ _ _ _ (hx.past (by repeat (first | exact Past.refl _ | assumption | refine Past.alloc ?_ _ | refine Past.drew ?_ | refine Past.drewN ?_ _ | refine Past.setCell ?_ (by first | (simp; done) | (simp <;> omega)) _ | refine Past.trans ?_ (past_over _ _) | refine Past.trans ?_ (by assumption)))) (hy.past (by repeat (first | exact Past.refl _ | assumption | refine Past.alloc ?_ _ | refine Past.drew ?_ | refine Past.drewN ?_ _ | refine Past.setCell ?_ (by first | (simp; done) | (simp <;> omega)) _ | refine Past.trans ?_ (past_over _ _) | refine Past.trans ?_ (by assumption)))) hn hm).mono ?_); rintro e w1 ⟨rfl, hb1⟩; obtain ⟨hc1, hf1, _⟩ := hb1.cells; have hz1_0 : w.heap.size < w1.heap.size := Past.lt hb1 (by first | omega | (simp <;> omega)); have hz1_1 : w.heap.size + 1 < w1.heap.size := Past.lt hb1 (by first | omega | (simp <;> omega))) | (go_at_call 84; (with_reducible refine (l03Bits_any _ _ _ _ _ _ _ _ _ _ _ (hx.past (by repeat (first | exact Past.refl _ | assumption | refine Past.alloc ?_ _ | refine Past.drew ?_ | refine Past.drewN ?_ _ | refine Past.setCell ?_ (by first | (simp; done) | (simp <;> omega)) _ | refine Past.trans ?_ (past_over _ _) | refine Past.trans ?_ (by assumption)))) (hy.past (by repeat (first | exact Past.refl _ | assumption | refine Past.alloc ?_ _ | refine Past.drew ?_ | refine Past.drewN ?_ _ | refine Past.setCell ?_ (by first | (simp; done) | (simp <;> omega)) _ | refine Past.trans ?_ (past_over _ _) | refine Past.trans ?_ (by assumption)))) (by omega) (by omega) (by omega) b1 b2).mono ?_); rintro e w2 ⟨A', k', rfl, hown, hb2⟩; obtain ⟨hc2, hf2, _⟩ := hb2.cells) | (go_at_call 83; (with_reducible refine (l03Id_any _ _ _ _ _ (hown.rd) hlen).mono ?_); rintro e w9 ⟨rfl, rfl⟩))
    go_ret
    exact ⟨rfl, (by repeat (first | exact Past.refl _ | assumption | refine Past.alloc ?_ _ | refine Past.drew ?_ | refine Past.drewN ?_ _ | refine Past.setCell ?_ (by first | (simp; done) | (simp <;> omega)) _ | refine Past.trans ?_ (past_over _ _) | refine Past.trans ?_ (by assumption)))⟩
end Go.Proofs.Ytapocfgajkkpdaa
