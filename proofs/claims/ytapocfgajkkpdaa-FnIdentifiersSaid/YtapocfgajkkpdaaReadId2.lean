/-
  Contracts: a board out of its letters: what is read, in plain terms.
-/
import Derived.Test.YtapocfgajkkpdaaReadId
namespace Go.Proofs.Ytapocfgajkkpdaa
open Go.ChangeShapes Go.WideShapes Go.ChangeAt Go.RowKit Go.Joins

def byteAt (tb : ByteArray) (j : Nat) : Int := ((tb.data.toList.getD j 0).toNat : Int)
set_option maxRecDepth 100000 in
theorem tx_ix {tb : ByteArray} {j : Nat} (h : j < tb.size) (w : World) : (Instr.index 9 (.string tb) (.int .i64 (j : Int))).run Try.prog w = .ok (.int .u8 (byteAt tb j)) w := by
  rw [run_index_string w 9 tb .i64 (j : Int) (by rfl), dif_pos ⟨by omega, by omega⟩]
  have hl : j < tb.data.toList.length := by rw [Array.length_toList]; exact h
  congr 3
  rw [List.getD_eq_getElem?_getD, List.getElem?_eq_getElem hl]
  rfl
def kAt (e : Nat) : Int := [32, 16, 8, 4, 2, 1].getD e 0
def bitsV (v : Int) : Nat → List Int
  | 0 => []
  | e + 1 => bitsV v e ++ [v / kAt e % 2]
theorem bitsV_len (v : Int) (e : Nat) : (bitsV v e).length = e := by
  induction e with
  | zero => rfl
  | succ e ih => simp [bitsV, ih]
theorem bitsV_01 (v : Int) (e : Nat) : ∀ x ∈ bitsV v e, x = 0 ∨ x = 1 := by
  induction e with
  | zero => simp [bitsV]
  | succ e ih =>
    intro x hx
    rw [bitsV, List.mem_append] at hx
    rcases hx with h | h
    · exact ih x h
    · simp only [List.mem_cons, List.not_mem_nil, or_false] at h
      omega
def bitsTo (tb : ByteArray) : Nat → List Int
  | 0 => []
  | j + 1 => bitsTo tb j ++ bitsV (letVal (byteAt tb j)) 6
theorem bitsTo_len (tb : ByteArray) (j : Nat) : (bitsTo tb j).length = 6 * j := by
  induction j with
  | zero => rfl
  | succ j ih => rw [bitsTo, List.length_append, ih, bitsV_len]; omega
theorem bitsTo_01 (tb : ByteArray) (j : Nat) : ∀ x ∈ bitsTo tb j, x = 0 ∨ x = 1 := by
  induction j with
  | zero => simp [bitsTo]
  | succ j ih =>
    intro x hx
    rw [bitsTo, List.mem_append] at hx
    rcases hx with h | h
    · exact ih x h
    · exact bitsV_01 _ _ x h
def rdB (tb : ByteArray) : List Int := bitsTo tb tb.size
theorem rdB_len (tb : ByteArray) : (rdB tb).length = 6 * tb.size := bitsTo_len tb _
theorem rdB_01 (tb : ByteArray) : ∀ x ∈ rdB tb, x = 0 ∨ x = 1 := bitsTo_01 tb _
def goodT (tb : ByteArray) : Prop := ∀ i, i < tb.size → 0 ≤ letVal (byteAt tb i)
theorem hitZ_one_only {B : List Int} {Z i j : Nat} (hi : hitZ B Z i) (hj : hitZ B Z j) : i = j := by
  have key : ∀ a b, hitZ B Z a → hitZ B Z b → ¬ a < b := fun a b ha hb hlt => by
    have h1 : (spl B (a + 1)).1.length = (spl B a).1.length + 1 := by
      rcases spl_succ B a with ⟨hx, _⟩ | ⟨_, e, _⟩
      · exact absurd hx ha.2.1
      · rw [e, List.length_append]; rfl
    have h2 := spl_mono B (show a + 1 ≤ b by omega)
    have := ha.2.2
    have := hb.2.2
    omega
  rcases Nat.lt_trichotomy i j with h | h | h
  · exact absurd h (key i j hi hj)
  · exact h
  · exact absurd h (key j i hj hi)
/-- What the letters hold: the board behind the last zero that it needs. -/
def isRd (p c h s : Int) (tb : ByteArray) (L M : List Int) : Prop :=
  ∃ j, hitZ (rdB tb) (2 * p.toNat + 2) j ∧ (spl (rdB tb) (j + 1)).1.take (p.toNat + 1) = L ∧ (spl (rdB tb) (j + 1)).1.drop (p.toNat + 1) = M ∧ bOk p c h s L M = true ∧ idOf (bitsRow (L ++ M)) = tb
theorem isRd_only {p c h s : Int} {tb : ByteArray} {L M L' M' : List Int} (h1 : isRd p c h s tb L M) (h2 : isRd p c h s tb L' M') : L = L' ∧ M = M' := by
  obtain ⟨i, hi, e1, e2, _⟩ := h1
  obtain ⟨j, hj, f1, f2, _⟩ := h2
  obtain rfl := hitZ_one_only hi hj
  exact ⟨e1.symm.trans f1, e2.symm.trans f2⟩
open Classical in
/-- The code and the board that the readers hand back. -/
noncomputable def rdC (p c h s : Int) (tb : ByteArray) : Int := if vOk p c h s = true then (if tb.size ≤ 14 then (if goodT tb then (if ∃ L M, isRd p c h s tb L M then 0 else 4) else 6) else 3) else 1
open Classical in
noncomputable def rdL (p c h s : Int) (tb : ByteArray) : List Int := if hh : rdC p c h s tb = 0 ∧ ∃ L M, isRd p c h s tb L M then hh.2.choose else []
open Classical in
noncomputable def rdM (p c h s : Int) (tb : ByteArray) : List Int := if hh : rdC p c h s tb = 0 ∧ ∃ L M, isRd p c h s tb L M then hh.2.choose_spec.choose else []
theorem rd_none {p c h s : Int} {tb : ByteArray} (hc : rdC p c h s tb ≠ 0) : rdL p c h s tb = [] ∧ rdM p c h s tb = [] := by
  constructor
  · rw [rdL, dif_neg (fun hh => hc hh.1)]
  · rw [rdM, dif_neg (fun hh => hc hh.1)]
theorem rd_v {p c h s : Int} {tb : ByteArray} (hv : vOk p c h s = false) : rdC p c h s tb = 1 ∧ rdL p c h s tb = [] ∧ rdM p c h s tb = [] := by
  have e : rdC p c h s tb = 1 := by simp [rdC, hv]
  exact ⟨e, rd_none (by rw [e]; omega)⟩
theorem rd_3 {p c h s : Int} {tb : ByteArray} (hv : vOk p c h s = true) (h1 : ¬ tb.size ≤ 14) : rdC p c h s tb = 3 ∧ rdL p c h s tb = [] ∧ rdM p c h s tb = [] := by
  have e : rdC p c h s tb = 3 := by rw [rdC, if_pos hv, if_neg h1]
  exact ⟨e, rd_none (by rw [e]; omega)⟩
theorem rd_6 {p c h s : Int} {tb : ByteArray} {j : Nat} (hv : vOk p c h s = true) (h1 : tb.size ≤ 14) (hj : j < tb.size) (hb : letVal (byteAt tb j) < 0) : rdC p c h s tb = 6 ∧ rdL p c h s tb = [] ∧ rdM p c h s tb = [] := by
  have e : rdC p c h s tb = 6 := by rw [rdC, if_pos hv, if_pos h1, if_neg (fun h => by have := h j hj; omega)]
  exact ⟨e, rd_none (by rw [e]; omega)⟩
theorem rd_4 {p c h s : Int} {tb : ByteArray} (hv : vOk p c h s = true) (h1 : tb.size ≤ 14) (hg : goodT tb) (hn : ∀ L M, ¬ isRd p c h s tb L M) : rdC p c h s tb = 4 ∧ rdL p c h s tb = [] ∧ rdM p c h s tb = [] := by
  have e : rdC p c h s tb = 4 := by rw [rdC, if_pos hv, if_pos h1, if_pos hg, if_neg (fun ⟨L, M, h⟩ => hn L M h)]
  exact ⟨e, rd_none (by rw [e]; omega)⟩
theorem rd_0 {p c h s : Int} {tb : ByteArray} {L M : List Int} (hv : vOk p c h s = true) (h1 : tb.size ≤ 14) (hg : goodT tb) (hn : isRd p c h s tb L M) : rdC p c h s tb = 0 ∧ rdL p c h s tb = L ∧ rdM p c h s tb = M := by
  have e : rdC p c h s tb = 0 := by rw [rdC, if_pos hv, if_pos h1, if_pos hg, if_pos ⟨L, M, hn⟩]
  have hh : rdC p c h s tb = 0 ∧ ∃ L M, isRd p c h s tb L M := ⟨e, L, M, hn⟩
  have k := isRd_only hh.2.choose_spec.choose_spec hn
  refine ⟨e, ?_, ?_⟩
  · rw [rdL, dif_pos hh]; exact k.1
  · rw [rdM, dif_pos hh]; exact k.2
theorem rd_le (p c h s : Int) (tb : ByteArray) : (rdL p c h s tb).length ≤ 1000 ∧ (rdM p c h s tb).length ≤ 1000 := by
  by_cases hc : rdC p c h s tb = 0 ∧ ∃ L M, isRd p c h s tb L M
  · obtain ⟨hc, L, M, hn⟩ := hc
    have e1 : rdL p c h s tb = L ∧ rdM p c h s tb = M := by
      have hh : rdC p c h s tb = 0 ∧ ∃ L M, isRd p c h s tb L M := ⟨hc, L, M, hn⟩
      have k := isRd_only hh.2.choose_spec.choose_spec hn
      exact ⟨by rw [rdL, dif_pos hh]; exact k.1, by rw [rdM, dif_pos hh]; exact k.2⟩
    obtain ⟨_, _, _, _, hb, _⟩ := hn
    have := bits_bd hb
    rw [e1.1, e1.2]
    omega
  · rw [rdL, dif_neg hc, rdM, dif_neg hc]; simp
theorem spl_take {B : List Int} {m i : Nat} (h : i ≤ m) : spl (B.take m) i = spl B i := by
  induction i with
  | zero => rfl
  | succ i ih =>
    have hg : (B.take m).getD i 0 = B.getD i 0 := by rw [List.getD_eq_getElem?_getD, List.getD_eq_getElem?_getD, List.getElem?_take, if_pos (show i < m by omega)]
    rw [spl, spl, ih (by omega), hg]
theorem lb_take {P j : Nat} {B : List Int} (hj : hitZ B (2 * P + 2) j) : lbL P (B.take (j + 1)) = (spl B (j + 1)).1.take (P + 1) ∧ lbM P (B.take (j + 1)) = (spl B (j + 1)).1.drop (P + 1) ∧ lbOk P (B.take (j + 1)) = true := by
  obtain ⟨h1, h2, h3⟩ := hj
  have hl : (B.take (j + 1)).length = j + 1 := by rw [List.length_take]; omega
  have e : spl (B.take (j + 1)) (B.take (j + 1)).length = spl B (j + 1) := by rw [hl, spl_take (Nat.le_refl _)]
  have hok : lbOk P (B.take (j + 1)) = true := by
    rw [lbOk, e, decide_eq_true_eq]
    rcases spl_succ B j with ⟨hx, _⟩ | ⟨_, e1, e2⟩
    · exact absurd hx h2
    · rw [e1, List.length_append]
      exact ⟨e2, h3⟩
  obtain ⟨e1, e2, _⟩ := lb_yes (p := 0) (c := 0) (h := 0) (s := 0) hok
  rw [e] at e1 e2
  exact ⟨e1, e2, hok⟩
theorem RdCode.nil {p c h s : Int} {tb : ByteArray} {w w' : World} {code : Int} (hu : rdC p c h s tb = code ∧ rdL p c h s tb = [] ∧ rdM p c h s tb = []) (hp : Past w w') :
    BoardCode w (rdL p c h s tb) (rdM p c h s tb) (rdC p c h s tb) (.returned (.tuple #[.agg #[.slice none 0 0, .slice none 0 0], .int .i64 code])) w' := by
  rw [hu.1, hu.2.1, hu.2.2]
  exact ⟨none, 0, none, 0, rfl, BoardVal.nil _ _, hp⟩
theorem RdCode.at_ {p c h s : Int} {tb : ByteArray} {L M : List Int} {n1 n2 k l : Nat} {A D : Option Addr} {w w' : World} (hu : rdC p c h s tb = 0 ∧ rdL p c h s tb = L ∧ rdM p c h s tb = M) (e1 : L.length = n1) (e2 : M.length = n2) (hv : BoardVal w w' A k D l L M) (hp : Past w w') :
    BoardCode w (rdL p c h s tb) (rdM p c h s tb) (rdC p c h s tb) (.returned (.tuple #[.agg #[.slice A n1 k, .slice D n2 l], .int .i64 0])) w' := by
  subst e1 e2
  rw [hu.1, hu.2.1, hu.2.2]
  exact ⟨A, k, D, l, rfl, hv, hp⟩
theorem readId_v (p c h s : Int) (tb : ByteArray) (w : World) (hv : vOk p c h s = false) :
    Calls Try.prog 41 #[.agg #[.int .i64 p, .int .i64 c, .int .i64 h, .int .i64 s], .string tb] w (BoardCode w (rdL p c h s tb) (rdM p c h s tb) (rdC p c h s tb)) := by
  have U := Lib.hid (rd_v (tb := tb) hv)
  go_enter Try.func41, Try.ntmps41
  go_wp2_with (go_at_call 66; (with_reducible refine (isVar_any _ _ _ _ _).mono ?_); rintro e w1 ⟨rfl, hb1⟩; obtain ⟨hc1, hf1, _⟩ := hb1.cells; have hz1_0 : w.heap.size < w1.heap.size := Past.lt hb1 (by first | omega | (simp <;> omega)); have hz1_1 : w.heap.size + 1 < w1.heap.size := Past.lt hb1 (by first | omega | (simp <;> omega)))
  refine bodyPost_ret (v := .tuple #[.agg #[.slice none 0 0, .slice none 0 0], .int .i64 1]) (by simp [*, results, Try.results41, go_sem]) rfl (RdCode.nil U.out (by repeat (first | exact Past.refl _ | assumption | refine Past.alloc ?_ _ | refine Past.drew ?_ | refine Past.drewN ?_ _ | refine Past.setCell ?_ (by first | (simp; done) | (simp <;> omega)) _ | refine Past.trans ?_ (past_over _ _) | refine Past.trans ?_ (by assumption))))
end Go.Proofs.Ytapocfgajkkpdaa
