/-
  Contracts: the dice with which the other player could hit a blot.
-/
import Derived.Test.YtapocfgajkkpdaaHits
import Derived.IntWalk
import Derived.BigQuiet
import Derived.Deep.QuietTactic
namespace Go.Proofs.Ytapocfgajkkpdaa
open Go.ChangeShapes Go.WideShapes Go.ChangeAt Go.RowKit Go.Joins

/-- A step to the point T that hits. -/
def hitsT (T : Int) (a : Stp) : Bool := a.x && (a.t == T)
def shB (p h : Int) (xs ys : List Int) (i d : Int) : Bool := (legL p h ys xs d).any (hitsT (p - 1 - i))
/-- The dice up to j with a shot. -/
def shotsTo (p h : Int) (xs ys : List Int) (i : Int) : Nat → List Int
  | 0 => []
  | j + 1 => if shB p h xs ys i ((j : Int) + 1) = true then shotsTo p h xs ys i j ++ [(j : Int) + 1] else shotsTo p h xs ys i j
theorem shotsTo_le (p h : Int) (xs ys : List Int) (i : Int) (j : Nat) : (shotsTo p h xs ys i j).length ≤ j := by
  induction j with
  | zero => simp [shotsTo]
  | succ j ih =>
    unfold shotsTo
    split
    · simp; omega
    · omega
def dsOk (p c h s : Int) (xs ys : List Int) (i : Int) : Bool := bOk p c h s xs ys && (win i 0 (p - 1) && (gAt xs i == 1))
def dsL (p c h s : Int) (xs ys : List Int) (i : Int) : List Int := if dsOk p c h s xs ys i = true then shotsTo p h xs ys i s.toNat else []
def dsC (p c h s : Int) (xs ys : List Int) (i : Int) : Int := if bOk p c h s xs ys = true then (if (win i 0 (p - 1) && (gAt xs i == 1)) = true then 0 else 4) else 1
theorem dsL_le (p c h s : Int) (xs ys : List Int) (i : Int) : (dsL p c h s xs ys i).length ≤ 1000 := by
  unfold dsL
  split
  · rename_i hb
    simp only [dsOk, Bool.and_eq_true] at hb
    have F := bFacts hb.1
    have := shotsTo_le p h xs ys i s.toNat
    omega
  · simp
/-- None of the first j steps hits the point. -/
def noneTo (T : Int) (L : List Stp) (j : Nat) : Prop := (L.take j).any (hitsT T) = false
theorem noneTo_zero (T : Int) (L : List Stp) : noneTo T L 0 := rfl
theorem noneTo_succ {T : Int} {L : List Stp} {j : Nat} {a : Stp} (h : noneTo T L j) (ha : L[j]? = some a) (hf : hitsT T a = false) : noneTo T L (j + 1) := by
  obtain ⟨hj, rfl⟩ := List.getElem?_eq_some_iff.1 ha
  unfold noneTo at *
  rw [List.take_succ_eq_append_getElem hj, List.any_append, h]
  simp [hf]
theorem noneTo_end {T : Int} {L : List Stp} (h : noneTo T L L.length) : L.any (hitsT T) = false := by
  unfold noneTo at h
  rwa [List.take_length] at h
theorem any_yes {T : Int} {L : List Stp} {j : Nat} {a : Stp} (ha : L[j]? = some a) (hf : hitsT T a = true) : L.any (hitsT T) = true :=
  List.any_eq_true.2 ⟨a, List.mem_of_getElem? ha, hf⟩
theorem any_hit (T : Int) (L : List Stp) : (hitL L).any (hitsT T) = L.any (hitsT T) := by
  unfold hitL
  rw [List.any_filter]
  congr 1
  funext a
  unfold hitsT
  cases a.x <;> simp
theorem hitL_x {L : List Stp} {j : Nat} {a : Stp} (ha : (hitL L)[j]? = some a) : a.x = true := (List.mem_filter.1 (List.mem_of_getElem? ha)).2
/-- Numbers collected in a row of the call's own. -/
def IntsIn (w1 wr : World) (v : Value) (L : List Int) : Prop := ∃ A k, v = .slice A L.length k ∧ OwI w1.heap.size wr A L.length k L ∧ Past w1 wr
theorem IntsIn.past {w1 a b : World} {v : Value} {L : List Int} (h : IntsIn w1 a v L) (p : Past a b) : IntsIn w1 b v L := by
  obtain ⟨A, k, hv, ho, hp⟩ := h
  exact ⟨A, k, hv, ho.past p, hp.trans p⟩
theorem IntsIn.nil (w1 : World) : IntsIn w1 w1 (.slice none 0 0) [] := ⟨none, 0, rfl, World.ownsRow_nil _ _ _ _, Past.refl _⟩
theorem IntsIn.empty (w1 : World) (t : TypeId) (ht : t = 2) : IntsIn w1 (w1.alloc (.cells #[] t)) (.slice (some ⟨w1.heap.size, 0, none⟩) 0 0) [] :=
  ⟨some ⟨w1.heap.size, 0, none⟩, 0, rfl, by subst ht; exact World.ownsRow_lit w1 #[] 0 (Nat.le_refl _) (Nat.zero_le _) rfl, (Past.refl _).alloc _⟩
theorem IntsIn.push {w1 w w' : World} {A : Option Addr} {k : Nat} {L : List Int} {x : Int} {v' : Value} (ho : OwI w1.heap.size w A L.length k L) (hp : Past w1 w)
    (h : w'.ownsRow w1.heap.size 2 1 v' (L.length + 1) (L.map (Value.int .i64) ++ [.int .i64 x])) (hg : w.grownBy w' (Value.slice A L.length k).ownBlock) (hnil : v' ≠ .slice none 0 0) : IntsIn w1 w' v' (L ++ [x]) := by
  obtain ⟨A', k', rfl, ho'⟩ := own_push rfl h hnil
  exact ⟨A', k', rfl, ho', past_grown hp ho (Nat.le_refl _) hg⟩
theorem RowCode.nil {w w' : World} {code : Int} (hp : Past w w') : RowCode w [] code (.returned (.tuple #[.slice none 0 0, .int .i64 code])) w' := ⟨none, 0, rfl, World.ownsRow_nil _ _ _ _, hp⟩
theorem RowCode.lit {w w1 : World} {code : Int} (hp : Past w w1) : RowCode w [] code (.returned (.tuple #[.slice (some ⟨w1.heap.size, 0, none⟩) 0 0, .int .i64 code])) (w1.alloc (.cells #[] 2)) :=
  ⟨some ⟨w1.heap.size, 0, none⟩, 0, rfl, World.ownsRow_lit w1 #[] 0 hp.sz (Nat.zero_le _) rfl, hp.alloc _⟩
theorem shots_no (p c h s i : Int) (A D : Option Addr) (n k m l : Nat) (xs ys : List Int) (w : World) (hx : RdI w A n xs) (hy : RdI w D m ys) (hn : n ≤ 1048576) (hm : m ≤ 1048576) (HB : Hid (bOk p c h s xs ys = false)) :
    Calls Try.prog 57 #[.agg #[.int .i64 p, .int .i64 c, .int .i64 h, .int .i64 s], .agg #[.slice A n k, .slice D m l], .int .i64 i] w (RowCode w [] 1) := by
  go_enter Try.func57, Try.ntmps57
  go_wp2_with (go_at_call 31; (with_reducible refine (isBoard_b _ _ _ _ _ _ _ _ _ _ _ _ _ _ HB (hx.past (by repeat (first | exact Past.refl _ | assumption | refine Past.alloc ?_ _ | refine Past.drew ?_ | refine Past.drewN ?_ _ | refine Past.setCell ?_ (by first | (simp; done) | (simp <;> omega)) _ | refine Past.trans ?_ (past_over _ _) | refine Past.trans ?_ (by assumption)))) (hy.past (by repeat (first | exact Past.refl _ | assumption | refine Past.alloc ?_ _ | refine Past.drew ?_ | refine Past.drewN ?_ _ | refine Past.setCell ?_ (by first | (simp; done) | (simp <;> omega)) _ | refine Past.trans ?_ (past_over _ _) | refine Past.trans ?_ (by assumption)))) hn hm).mono ?_); rintro e w1 ⟨rfl, hb1⟩; obtain ⟨hc1, hf1, _⟩ := hb1.cells; have hz1_0 : w.heap.size < w1.heap.size := Past.lt hb1 (by first | omega | (simp <;> omega)); have hz1_1 : w.heap.size + 1 < w1.heap.size := Past.lt hb1 (by first | omega | (simp <;> omega)))
  go_ret2
  first
  | exact RowCode.nil (by repeat (first | exact Past.refl _ | assumption | refine Past.alloc ?_ _ | refine Past.drew ?_ | refine Past.drewN ?_ _ | refine Past.setCell ?_ (by first | (simp; done) | (simp <;> omega)) _ | refine Past.trans ?_ (past_over _ _) | refine Past.trans ?_ (by assumption)))
  | exact RowCode.lit (by repeat (first | exact Past.refl _ | assumption | refine Past.alloc ?_ _ | refine Past.drew ?_ | refine Past.drewN ?_ _ | refine Past.setCell ?_ (by first | (simp; done) | (simp <;> omega)) _ | refine Past.trans ?_ (past_over _ _) | refine Past.trans ?_ (by assumption)))
theorem shots_bad (P : Nat) (c h s i : Int) (A D : Option Addr) (n k m l : Nat) (xs ys : List Int) (w : World) (hx : RdI w A n xs) (hy : RdI w D m ys) (hn : n = P + 1) (hm : m ≤ 1048576) (hP1 : 1 ≤ P) (hP : P ≤ 24) (HB : Hid (bOk P c h s xs ys = true)) (hc : (win i 0 ((P : Int) - 1) && (gAt xs i == 1)) = false) :
    Calls Try.prog 57 #[.agg #[.int .i64 (P : Int), .int .i64 c, .int .i64 h, .int .i64 s], .agg #[.slice A n k, .slice D m l], .int .i64 i] w (RowCode w [] 4) := by
  have hn2 : n ≤ 1048576 := by omega
  cases hw : win i 0 ((P : Int) - 1)
  · have HW := Lib.hid hw
    clear hw hc hn
    go_enter Try.func57, Try.ntmps57
    go_wp2_with (first | (go_at_call 31; (with_reducible refine (isBoard_b _ _ _ _ _ _ _ _ _ _ _ _ _ _ HB (hx.past (by repeat (first | exact Past.refl _ | assumption | refine Past.alloc ?_ _ | refine Past.drew ?_ | refine Past.drewN ?_ _ | refine Past.setCell ?_ (by first | (simp; done) | (simp <;> omega)) _ | refine Past.trans ?_ (past_over _ _) | refine Past.trans ?_ (by assumption)))) (hy.past (by repeat (first | exact Past.refl _ | assumption | refine Past.alloc ?_ _ | refine Past.drew ?_ | refine Past.drewN ?_ _ | refine Past.setCell ?_ (by first | (simp; done) | (simp <;> omega)) _ | refine Past.trans ?_ (past_over _ _) | refine Past.trans ?_ (by assumption)))) hn2 hm).mono ?_); rintro e w1 ⟨rfl, hb1⟩; obtain ⟨hc1, hf1, _⟩ := hb1.cells; have hz1_0 : w.heap.size < w1.heap.size := Past.lt hb1 (by first | omega | (simp <;> omega)); have hz1_1 : w.heap.size + 1 < w1.heap.size := Past.lt hb1 (by first | omega | (simp <;> omega))) | (go_at_call 71; (with_reducible refine (within_b _ _ _ _ HW _).mono ?_); rintro e w9 ⟨rfl, rfl⟩))
    go_ret2
    first
    | exact RowCode.nil (by repeat (first | exact Past.refl _ | assumption | refine Past.alloc ?_ _ | refine Past.drew ?_ | refine Past.drewN ?_ _ | refine Past.setCell ?_ (by first | (simp; done) | (simp <;> omega)) _ | refine Past.trans ?_ (past_over _ _) | refine Past.trans ?_ (by assumption)))
    | exact RowCode.lit (by repeat (first | exact Past.refl _ | assumption | refine Past.alloc ?_ _ | refine Past.drew ?_ | refine Past.drewN ?_ _ | refine Past.setCell ?_ (by first | (simp; done) | (simp <;> omega)) _ | refine Past.trans ?_ (past_over _ _) | refine Past.trans ?_ (by assumption)))
  · have HW := Lib.hid hw
    rw [hw, Bool.true_and] at hc
    obtain ⟨i0, i1⟩ := win_yes hw
    obtain ⟨I, rfl⟩ := Int.eq_ofNat_of_zero_le i0
    have g1 : (I : Int) < (n : Int) := by omega
    obtain ⟨b, o, x, rfl, hxj, hcx⟩ := hx.at_ (j := I) (by omega)
    have hx1 : (x == 1) = false := by rw [← hc, gAt_of hxj rfl]
    have hb2 : (x != 1) = true := by rw [bne, hx1]; rfl
    have ub := World.block_lt_of_cell? w _ hcx
    simp only at ub
    have fx := far2 hcx
    clear hw hc hxj hn
    go_enter Try.func57, Try.ntmps57
    go_wp2_with (first | (go_at_call 31; (with_reducible refine (isBoard_b _ _ _ _ _ _ _ _ _ _ _ _ _ _ HB (hx.past (by repeat (first | exact Past.refl _ | assumption | refine Past.alloc ?_ _ | refine Past.drew ?_ | refine Past.drewN ?_ _ | refine Past.setCell ?_ (by first | (simp; done) | (simp <;> omega)) _ | refine Past.trans ?_ (past_over _ _) | refine Past.trans ?_ (by assumption)))) (hy.past (by repeat (first | exact Past.refl _ | assumption | refine Past.alloc ?_ _ | refine Past.drew ?_ | refine Past.drewN ?_ _ | refine Past.setCell ?_ (by first | (simp; done) | (simp <;> omega)) _ | refine Past.trans ?_ (past_over _ _) | refine Past.trans ?_ (by assumption)))) hn2 hm).mono ?_); rintro e w1 ⟨rfl, hb1⟩; obtain ⟨hc1, hf1, _⟩ := hb1.cells; have hz1_0 : w.heap.size < w1.heap.size := Past.lt hb1 (by first | omega | (simp <;> omega)); have hz1_1 : w.heap.size + 1 < w1.heap.size := Past.lt hb1 (by first | omega | (simp <;> omega)); have gx := hb1.keep (far2 hcx _ _)) | (go_at_call 71; (with_reducible refine (within_b _ _ _ _ HW _).mono ?_); rintro e w9 ⟨rfl, rfl⟩))
    go_ret2
    first
    | exact RowCode.nil (by repeat (first | exact Past.refl _ | assumption | refine Past.alloc ?_ _ | refine Past.drew ?_ | refine Past.drewN ?_ _ | refine Past.setCell ?_ (by first | (simp; done) | (simp <;> omega)) _ | refine Past.trans ?_ (past_over _ _) | refine Past.trans ?_ (by assumption)))
    | exact RowCode.lit (by repeat (first | exact Past.refl _ | assumption | refine Past.alloc ?_ _ | refine Past.drew ?_ | refine Past.drewN ?_ _ | refine Past.setCell ?_ (by first | (simp; done) | (simp <;> omega)) _ | refine Past.trans ?_ (past_over _ _) | refine Past.trans ?_ (by assumption)))
theorem sShots_no (p c h s i : Int) (A D : Option Addr) (n k m l : Nat) (xs ys : List Int) (w : World) (hx : RdI w A n xs) (hy : RdI w D m ys) (hn : n ≤ 1048576) (hm : m ≤ 1048576) (HB : Hid (bOk p c h s xs ys = false)) :
    Calls Try.prog 58 #[.agg #[.int .i64 p, .int .i64 c, .int .i64 h, .int .i64 s], .agg #[.slice A n k, .slice D m l], .int .i64 i] w (RowCode w [] 1) := by
  go_enter Try.func58, Try.ntmps58
  go_wp2_with (go_at_call 26; (with_reducible refine (sIsBoard_b _ _ _ _ _ _ _ _ _ _ _ _ _ _ HB (hx.past (by repeat (first | exact Past.refl _ | assumption | refine Past.alloc ?_ _ | refine Past.drew ?_ | refine Past.drewN ?_ _ | refine Past.setCell ?_ (by first | (simp; done) | (simp <;> omega)) _ | refine Past.trans ?_ (past_over _ _) | refine Past.trans ?_ (by assumption)))) (hy.past (by repeat (first | exact Past.refl _ | assumption | refine Past.alloc ?_ _ | refine Past.drew ?_ | refine Past.drewN ?_ _ | refine Past.setCell ?_ (by first | (simp; done) | (simp <;> omega)) _ | refine Past.trans ?_ (past_over _ _) | refine Past.trans ?_ (by assumption)))) hn hm).mono ?_); rintro e w1 ⟨rfl, hb1⟩; obtain ⟨hc1, hf1, _⟩ := hb1.cells; have hz1_0 : w.heap.size < w1.heap.size := Past.lt hb1 (by first | omega | (simp <;> omega)); have hz1_1 : w.heap.size + 1 < w1.heap.size := Past.lt hb1 (by first | omega | (simp <;> omega)))
  go_ret2
  first
  | exact RowCode.nil (by repeat (first | exact Past.refl _ | assumption | refine Past.alloc ?_ _ | refine Past.drew ?_ | refine Past.drewN ?_ _ | refine Past.setCell ?_ (by first | (simp; done) | (simp <;> omega)) _ | refine Past.trans ?_ (past_over _ _) | refine Past.trans ?_ (by assumption)))
  | exact RowCode.lit (by repeat (first | exact Past.refl _ | assumption | refine Past.alloc ?_ _ | refine Past.drew ?_ | refine Past.drewN ?_ _ | refine Past.setCell ?_ (by first | (simp; done) | (simp <;> omega)) _ | refine Past.trans ?_ (past_over _ _) | refine Past.trans ?_ (by assumption)))
theorem sShots_bad (P : Nat) (c h s i : Int) (A D : Option Addr) (n k m l : Nat) (xs ys : List Int) (w : World) (hx : RdI w A n xs) (hy : RdI w D m ys) (hn : n = P + 1) (hm : m ≤ 1048576) (hP1 : 1 ≤ P) (hP : P ≤ 24) (HB : Hid (bOk P c h s xs ys = true)) (hc : (win i 0 ((P : Int) - 1) && (gAt xs i == 1)) = false) :
    Calls Try.prog 58 #[.agg #[.int .i64 (P : Int), .int .i64 c, .int .i64 h, .int .i64 s], .agg #[.slice A n k, .slice D m l], .int .i64 i] w (RowCode w [] 4) := by
  have hn2 : n ≤ 1048576 := by omega
  cases hw : win i 0 ((P : Int) - 1)
  · have HW := Lib.hid hw
    clear hw hc hn
    go_enter Try.func58, Try.ntmps58
    go_wp2_with (first | (go_at_call 26; (with_reducible refine (sIsBoard_b _ _ _ _ _ _ _ _ _ _ _ _ _ _ HB (hx.past (by repeat (first | exact Past.refl _ | assumption | refine Past.alloc ?_ _ | refine Past.drew ?_ | refine Past.drewN ?_ _ | refine Past.setCell ?_ (by first | (simp; done) | (simp <;> omega)) _ | refine Past.trans ?_ (past_over _ _) | refine Past.trans ?_ (by assumption)))) (hy.past (by repeat (first | exact Past.refl _ | assumption | refine Past.alloc ?_ _ | refine Past.drew ?_ | refine Past.drewN ?_ _ | refine Past.setCell ?_ (by first | (simp; done) | (simp <;> omega)) _ | refine Past.trans ?_ (past_over _ _) | refine Past.trans ?_ (by assumption)))) hn2 hm).mono ?_); rintro e w1 ⟨rfl, hb1⟩; obtain ⟨hc1, hf1, _⟩ := hb1.cells; have hz1_0 : w.heap.size < w1.heap.size := Past.lt hb1 (by first | omega | (simp <;> omega)); have hz1_1 : w.heap.size + 1 < w1.heap.size := Past.lt hb1 (by first | omega | (simp <;> omega))) | (go_at_call 68; (with_reducible refine (l01In_b _ _ _ _ HW _).mono ?_); rintro e w9 ⟨rfl, rfl⟩))
    go_ret2
    first
    | exact RowCode.nil (by repeat (first | exact Past.refl _ | assumption | refine Past.alloc ?_ _ | refine Past.drew ?_ | refine Past.drewN ?_ _ | refine Past.setCell ?_ (by first | (simp; done) | (simp <;> omega)) _ | refine Past.trans ?_ (past_over _ _) | refine Past.trans ?_ (by assumption)))
    | exact RowCode.lit (by repeat (first | exact Past.refl _ | assumption | refine Past.alloc ?_ _ | refine Past.drew ?_ | refine Past.drewN ?_ _ | refine Past.setCell ?_ (by first | (simp; done) | (simp <;> omega)) _ | refine Past.trans ?_ (past_over _ _) | refine Past.trans ?_ (by assumption)))
  · have HW := Lib.hid hw
    rw [hw, Bool.true_and] at hc
    obtain ⟨i0, i1⟩ := win_yes hw
    obtain ⟨I, rfl⟩ := Int.eq_ofNat_of_zero_le i0
    have g1 : (I : Int) < (n : Int) := by omega
    obtain ⟨b, o, x, rfl, hxj, hcx⟩ := hx.at_ (j := I) (by omega)
    have hx1 : (x == 1) = false := by rw [← hc, gAt_of hxj rfl]
    have hb2 : (x != 1) = true := by rw [bne, hx1]; rfl
    have ub := World.block_lt_of_cell? w _ hcx
    simp only at ub
    have fx := far2 hcx
    clear hw hc hxj hn
    go_enter Try.func58, Try.ntmps58
    go_wp2_with (first | (go_at_call 26; (with_reducible refine (sIsBoard_b _ _ _ _ _ _ _ _ _ _ _ _ _ _ HB (hx.past (by repeat (first | exact Past.refl _ | assumption | refine Past.alloc ?_ _ | refine Past.drew ?_ | refine Past.drewN ?_ _ | refine Past.setCell ?_ (by first | (simp; done) | (simp <;> omega)) _ | refine Past.trans ?_ (past_over _ _) | refine Past.trans ?_ (by assumption)))) (hy.past (by repeat (first | exact Past.refl _ | assumption | refine Past.alloc ?_ _ | refine Past.drew ?_ | refine Past.drewN ?_ _ | refine Past.setCell ?_ (by first | (simp; done) | (simp <;> omega)) _ | refine Past.trans ?_ (past_over _ _) | refine Past.trans ?_ (by assumption)))) hn2 hm).mono ?_); rintro e w1 ⟨rfl, hb1⟩; obtain ⟨hc1, hf1, _⟩ := hb1.cells; have hz1_0 : w.heap.size < w1.heap.size := Past.lt hb1 (by first | omega | (simp <;> omega)); have hz1_1 : w.heap.size + 1 < w1.heap.size := Past.lt hb1 (by first | omega | (simp <;> omega)); have gx := hb1.keep (far2 hcx _ _)) | (go_at_call 68; (with_reducible refine (l01In_b _ _ _ _ HW _).mono ?_); rintro e w9 ⟨rfl, rfl⟩))
    go_ret2
    first
    | exact RowCode.nil (by repeat (first | exact Past.refl _ | assumption | refine Past.alloc ?_ _ | refine Past.drew ?_ | refine Past.drewN ?_ _ | refine Past.setCell ?_ (by first | (simp; done) | (simp <;> omega)) _ | refine Past.trans ?_ (past_over _ _) | refine Past.trans ?_ (by assumption)))
    | exact RowCode.lit (by repeat (first | exact Past.refl _ | assumption | refine Past.alloc ?_ _ | refine Past.drew ?_ | refine Past.drewN ?_ _ | refine Past.setCell ?_ (by first | (simp; done) | (simp <;> omega)) _ | refine Past.trans ?_ (past_over _ _) | refine Past.trans ?_ (by assumption)))
set_option maxHeartbeats 4000000 in
set_option maxRecDepth 100000 in
theorem shots_yes (P I S : Nat) (c h : Int) (A D : Option Addr) (n k m l : Nat) (xs ys : List Int) (w : World) (hx : RdI w A n xs) (hy : RdI w D m ys) (hn : n = P + 1) (hm : m = P + 1) (hP : P ≤ 24) (hI : I < P) (HB : Hid (bOk P c h S xs ys = true)) (hc : Hid (gAt xs I = 1)) :
    Calls Try.prog 57 #[.agg #[.int .i64 (P : Int), .int .i64 c, .int .i64 h, .int .i64 (S : Int)], .agg #[.slice A n k, .slice D m l], .int .i64 (I : Int)] w (RowCode w (shotsTo P h xs ys I S) 0) := by
  have F := Lib.hid (bFacts HB.out)
  have h0x := Lib.hid F.out.2.2.2.2.1.2.1
  have h0y := Lib.hid F.out.2.2.2.2.2.2.1
  have ux : xs.sum ≤ 1000000 := by have := F.out; omega
  have uy : ys.sum ≤ 1000000 := by have := F.out; omega
  have hS : (S : Int) ≤ 6 := by have := F.out; omega
  have HN := Lib.hid hn
  have HM := Lib.hid hm
  have hn2 : n ≤ 1048576 := by omega
  have hm2 : m ≤ 1048576 := by omega
  have g1 : (I : Int) < (n : Int) := by omega
  have g2 : (I : Int) < (P : Int) := by omega
  obtain ⟨b, o, x, rfl, hxj, hcx⟩ := hx.at_ (j := I) (by omega)
  obtain ⟨d, q, y, rfl, _, _⟩ := hy.at_ (j := 0) (by omega)
  obtain rfl : x = 1 := by have h := hc.out; rw [gAt_of hxj rfl] at h; exact h
  have HW := Lib.hid (win_mk (x := (I : Int)) (lo := 0) (hi := (P : Int) - 1) (by omega))
  obtain ⟨i0, hi, hz0, hz1, hz2⟩ := info_parts infoI
  clear hn hm hxj
  go_enter Try.func57, Try.ntmps57
  go_wp2_with (first | (go_at_call 31; (with_reducible refine (isBoard_b _ _ _ _ _ _ _ _ _ _ _ _ _ _ HB (hx.past (by repeat (first | exact Past.refl _ | assumption | refine Past.alloc ?_ _ | refine Past.drew ?_ | refine Past.drewN ?_ _ | refine Past.setCell ?_ (by first | (simp; done) | (simp <;> omega)) _ | refine Past.trans ?_ (past_over _ _) | refine Past.trans ?_ (by assumption)))) (hy.past (by repeat (first | exact Past.refl _ | assumption | refine Past.alloc ?_ _ | refine Past.drew ?_ | refine Past.drewN ?_ _ | refine Past.setCell ?_ (by first | (simp; done) | (simp <;> omega)) _ | refine Past.trans ?_ (past_over _ _) | refine Past.trans ?_ (by assumption)))) hn2 hm2).mono ?_); rintro e w1 ⟨rfl, hb1⟩; obtain ⟨hc1, hf1, _⟩ := hb1.cells; have hz1_0 : w.heap.size < w1.heap.size := Past.lt hb1 (by first | omega | (simp <;> omega)); have hz1_1 : w.heap.size + 1 < w1.heap.size := Past.lt hb1 (by first | omega | (simp <;> omega)); have gx := hb1.keep (far2 hcx _ _)) | (go_at_call 71; (with_reducible refine (within_b _ _ _ _ HW _).mono ?_); rintro e w9 ⟨rfl, rfl⟩) | (go_at_call 76; (with_reducible refine (swapped_any _ _ _ _ _ _ _ _ _ _ _ (hx.past (by repeat (first | exact Past.refl _ | assumption | refine Past.alloc ?_ _ | refine Past.drew ?_ | refine Past.drewN ?_ _ | refine Past.setCell ?_ (by first | (simp; done) | (simp <;> omega)) _ | refine Past.trans ?_ (past_over _ _) | refine Past.trans ?_ (by assumption)))) (hy.past (by repeat (first | exact Past.refl _ | assumption | refine Past.alloc ?_ _ | refine Past.drew ?_ | refine Past.drewN ?_ _ | refine Past.setCell ?_ (by first | (simp; done) | (simp <;> omega)) _ | refine Past.trans ?_ (past_over _ _) | refine Past.trans ?_ (by assumption)))) hn2 hm2).mono ?_); rintro e w2 ⟨g, g', kg, kg', rfl, ho, ho', hne, hb2⟩; obtain ⟨hc2, hf2, _⟩ := hb2.cells; have hz2_0 : w.heap.size < w2.heap.size := Past.lt hb2 (by first | omega | (simp <;> omega)); have hz2_1 : w.heap.size + 1 < w2.heap.size := Past.lt hb2 (by first | omega | (simp <;> omega))))
  have hv0 : (w2.alloc (.cells #[.slice (some ⟨g, 0, none⟩) m kg, .slice (some ⟨g', 0, none⟩) n kg'] 43)).cell? ⟨w.heap.size, 0, none⟩ = some (.int .i64 (P : Int)) := by simp [go_sem, *]
  have hv1 : (w2.alloc (.cells #[.slice (some ⟨g, 0, none⟩) m kg, .slice (some ⟨g', 0, none⟩) n kg'] 43)).cell? ⟨w.heap.size, 1, none⟩ = some (.int .i64 c) := by simp [go_sem, *]
  have hv2 : (w2.alloc (.cells #[.slice (some ⟨g, 0, none⟩) m kg, .slice (some ⟨g', 0, none⟩) n kg'] 43)).cell? ⟨w.heap.size, 2, none⟩ = some (.int .i64 h) := by simp [go_sem, *]
  have hv3 : (w2.alloc (.cells #[.slice (some ⟨g, 0, none⟩) m kg, .slice (some ⟨g', 0, none⟩) n kg'] 43)).cell? ⟨w.heap.size, 3, none⟩ = some (.int .i64 (S : Int)) := by simp [go_sem, *]
  have hu0 : (w2.alloc (.cells #[.slice (some ⟨g, 0, none⟩) m kg, .slice (some ⟨g', 0, none⟩) n kg'] 43)).cell? ⟨w2.heap.size, 0, none⟩ = some (.slice (some ⟨g, 0, none⟩) m kg) := by simp
  have hu1 : (w2.alloc (.cells #[.slice (some ⟨g, 0, none⟩) m kg, .slice (some ⟨g', 0, none⟩) n kg'] 43)).cell? ⟨w2.heap.size, 1, none⟩ = some (.slice (some ⟨g', 0, none⟩) n kg') := by simp
  have hp3 : Past w (w2.alloc (.cells #[.slice (some ⟨g, 0, none⟩) m kg, .slice (some ⟨g', 0, none⟩) n kg'] 43)) := (by repeat (first | exact Past.refl _ | assumption | refine Past.alloc ?_ _ | refine Past.drew ?_ | refine Past.drewN ?_ _ | refine Past.setCell ?_ (by first | (simp; done) | (simp <;> omega)) _ | refine Past.trans ?_ (past_over _ _) | refine Past.trans ?_ (by assumption)))
  have hY := ho.rd.past ((Past.refl w2).alloc (.cells #[.slice (some ⟨g, 0, none⟩) m kg, .slice (some ⟨g', 0, none⟩) n kg'] 43))
  have hX := ho'.rd.past ((Past.refl w2).alloc (.cells #[.slice (some ⟨g, 0, none⟩) m kg, .slice (some ⟨g', 0, none⟩) n kg'] 43))
  generalize w2.alloc (.cells #[.slice (some ⟨g, 0, none⟩) m kg, .slice (some ⟨g', 0, none⟩) n kg'] 43) = w3 at hv0 hv1 hv2 hv3 hu0 hu1 hp3 hX hY ⊢
  clear hc1 hf1 hc2 hf2 ho ho'
  go_loopw [9, 10] (fun v i wr => ∃ j : Nat, j ≤ S ∧ i = .int .i64 ((j : Int) + 1) ∧ IntsIn w3 wr v (shotsTo P h xs ys I j)) (fun _ i _ => S + 1 - (intOf i).toNat)
  case atStart => exact ⟨0, Nat.zero_le _, by simp, IntsIn.nil w3⟩
  case round =>
    obtain ⟨j, hj, rfl, A', k', rfl, hown, hpast⟩ := hrel
    have hle := shotsTo_le P h xs ys I j
    by_cases hlt : j < S
    · have q0 := hpast.keep hv0
      have q1 := hpast.keep hv1
      have q2 := hpast.keep hv2
      have q3 := hpast.keep hv3
      have q4 := hpast.keep hu0
      have q5 := hpast.keep hu1
      have hlt2 : (j : Int) + 1 ≤ (S : Int) := by omega
      go_wp2_with fail
      (with_reducible refine (legalSteps_any P c h S ((j : Int) + 1) _ _ _ _ _ _ ys xs _ (hY.past hpast) (hX.past hpast) HM.out HN.out hP (by omega) (by omega) h0y h0x uy ux).mono ?_)
      rintro e w4 ⟨AL, kL, rfl, hL, hb4⟩
      have hlen : (legL P h ys xs ((j : Int) + 1)).length ≤ 1000 := by have := legTo_le P h ys xs ((j : Int) + 1) (P + 1); rw [legL_eq]; omega
      obtain ⟨L, hLd⟩ : ∃ L, legL P h ys xs ((j : Int) + 1) = L := ⟨_, rfl⟩
      have HLD := Lib.hid hLd
      rw [hLd] at hL hlen ⊢
      clear hLd
      have hp4 := hpast.trans hb4
      have v0 := hb4.keep q0
      have hown4 := hown.past hb4
      clear q0 q1 q2 q3 q4 q5
      go_wp2_with fail
      go_loopw [9, 44] (fun v i wi => ∃ jj : Nat, jj ≤ L.length ∧ i = .int .i64 jj ∧ v = .slice A' (shotsTo P h xs ys I j).length k' ∧ noneTo ((P : Int) - 1 - (I : Int)) L jj ∧ Past w4 wi) (fun _ i _ => L.length - (intOf i).toNat)
      case atStart => exact ⟨0, Nat.zero_le _, rfl, rfl, noneTo_zero _ _, Past.refl _⟩
      case round =>
        obtain ⟨jj, hjj, rfl, rfl, hnone, hpi⟩ := hrel
        have HNONE := Lib.hid hnone
        clear hnone
        have vi := hpi.keep v0
        have vb := World.block_lt_of_cell? wr _ vi
        simp only at vb
        by_cases hlt3 : jj < L.length
        · obtain ⟨gl, a, rfl, haj, d0, d1, d2, d3⟩ := (OwS.past hL hpi).at_ hlt3
          have HA := Lib.hid haj
          clear haj
          by_cases hax : a.x = true
          · rw [hax] at d3
            by_cases hat : a.t = (P : Int) - 1 - (I : Int)
            · have hh : hitsT ((P : Int) - 1 - (I : Int)) a = true := by simp [hitsT, hax, hat]
              have E := Lib.hid (show shotsTo P h xs ys I (j + 1) = shotsTo P h xs ys I j ++ [(j : Int) + 1] from by rw [shotsTo, if_pos (by rw [shB, HLD.out]; exact any_yes HA.out hh)])
              rw [hat] at d1
              clear hax hat hh
              go_wp2_with (at_builtin; refine wpList_append_own _ rfl _ _ 28 rfl w3.heap.size 2 i0 (.int .i64 0) 1 8 Try.underlying28 hi hz0 hz1 hz2 rfl (by decide) _ (shotsTo P h xs ys I j).length ((shotsTo P h xs ys I j).map (Value.int .i64)) rfl (((hown4.past hpi).alloc _).alloc _) ⟨wr.heap.size + 1, 0, none⟩ 1 1 [.int .i64 ((j : Int) + 1)] rfl rfl (World.news_of_block (Blk.at_ (by simp))) (by intro u hu; simp at hu; subst hu; rfl) (by unfold maxLen; omega) (by omega) (by have := hp4.sz; have := hpi.sz; simp; omega) ?_; intro v2 w5 hown5 hg5 hiff)
              go_roundw
              case rel => exact ⟨j + 1, by omega, by go_num, by rw [E.out]; exact IntsIn.push (((hown4.past hpi).alloc _).alloc _) (((hp4.trans hpi).alloc _).alloc _) hown5 hg5 (fun h => absurd (hiff.1 h).2 (by decide))⟩
              case measure => simp [intOf]; omega
            · have hh : hitsT ((P : Int) - 1 - (I : Int)) a = false := by simp [hitsT, hat]
              have N := Lib.hid (noneTo_succ HNONE.out HA.out hh)
              have hb5 : (a.t == (P : Int) - 1 - (I : Int)) = false := beq_eq_false_iff_ne.2 hat
              clear hax hat hh
              go_wp2
              go_roundw
              case rel => exact ⟨jj + 1, by omega, by go_num, rfl, N.out, (by repeat (first | exact Past.refl _ | assumption | refine Past.alloc ?_ _ | refine Past.drew ?_ | refine Past.drewN ?_ _ | refine Past.setCell ?_ (by first | (simp; done) | (simp <;> omega)) _ | refine Past.trans ?_ (past_over _ _) | refine Past.trans ?_ (by assumption)))⟩
              case measure => simp [intOf]; omega
          · have hax2 : a.x = false := by simpa using hax
            have hh : hitsT ((P : Int) - 1 - (I : Int)) a = false := by simp [hitsT, hax2]
            have N := Lib.hid (noneTo_succ HNONE.out HA.out hh)
            rw [hax2] at d3
            clear hax hax2 hh
            go_wp2
            go_roundw
            case rel => exact ⟨jj + 1, by omega, by go_num, rfl, N.out, (by repeat (first | exact Past.refl _ | assumption | refine Past.alloc ?_ _ | refine Past.drew ?_ | refine Past.drewN ?_ _ | refine Past.setCell ?_ (by first | (simp; done) | (simp <;> omega)) _ | refine Past.trans ?_ (past_over _ _) | refine Past.trans ?_ (by assumption)))⟩
            case measure => simp [intOf]; omega
        · obtain rfl : jj = L.length := by omega
          have E := Lib.hid (show shotsTo P h xs ys I (j + 1) = shotsTo P h xs ys I j from by rw [shotsTo, if_neg (by rw [shB, HLD.out, noneTo_end HNONE.out]; simp)])
          go_wp2
          go_roundw
          case rel => exact ⟨j + 1, by omega, by go_num, by rw [E.out]; exact ⟨A', k', rfl, hown4.past hpi, hp4.trans hpi⟩⟩
          case measure => simp [intOf]; omega
    · obtain rfl : j = S := by omega
      have q3 := hpast.keep hv3
      go_wp2
      go_ret2
      exact ⟨A', k', rfl, hown.less hp3.sz, hp3.trans hpast⟩
/-- Numbers collected in a row whose block is B, or lies from hi on. -/
def IntsBy (B hi : Nat) (w1 wr : World) (v : Value) (L : List Int) : Prop := ∃ A k, v = .slice A L.length k ∧ OwI w1.heap.size wr A L.length k L ∧ Past w1 wr ∧ ∀ b, blk A b → b = B ∨ hi ≤ b
theorem IntsBy.push {B hi : Nat} {w1 w w' : World} {A : Option Addr} {k : Nat} {L : List Int} {x : Int} {v' : Value} (ho : OwI w1.heap.size w A L.length k L) (hp : Past w1 w) (hs : ∀ b, blk A b → b = B ∨ hi ≤ b) (hz : hi ≤ w.heap.size)
    (h : w'.ownsRow w1.heap.size 2 1 v' (L.length + 1) (L.map (Value.int .i64) ++ [.int .i64 x])) (hg : w.grownBy w' (Value.slice A L.length k).ownBlock) (hnil : v' ≠ .slice none 0 0) (hat : v'.ownBlock = (Value.slice A L.length k).ownBlock ∨ v'.ownBlock = some w.heap.size) : IntsBy B hi w1 w' v' (L ++ [x]) := by
  obtain ⟨A', k', rfl, ho'⟩ := own_push rfl h hnil
  refine ⟨A', k', rfl, ho', past_grown hp ho (Nat.le_refl _) hg, ?_⟩
  rintro b ⟨a, rfl, rfl⟩
  rcases hat with h | h
  · cases A with
    | none => simp [Value.ownBlock] at h
    | some a' =>
      simp only [Value.ownBlock, Option.some.injEq] at h
      exact hs _ ⟨a', rfl, h.symm⟩
  · simp only [Value.ownBlock, Option.some.injEq] at h
    exact .inr (by omega)
theorem mod_push {B : Nat} {w3 wr w5 : World} {A : Option Addr} (h : Mod (fun b => b = B) w3 wr) (hg : Mod (blk A) wr w5) (hs : ∀ b, blk A b → b = B ∨ w3.heap.size ≤ b) : Mod (fun b => b = B) w3 w5 :=
  ⟨hg.1.trans h.1, hg.2.1.trans h.2.1, hg.2.2.1.trans h.2.2.1, Nat.le_trans h.2.2.2.1 hg.2.2.2.1, fun k hk hb => (hg.2.2.2.2 k (Nat.lt_of_lt_of_le hk h.2.2.2.1) (fun hA => by
    rcases hs k hA with h | h
    · exact hb h
    · omega)).trans (h.2.2.2.2 k hk hb)⟩
set_option maxHeartbeats 4000000 in
set_option maxRecDepth 100000 in
theorem sShots_yes (P I S : Nat) (c h : Int) (A D : Option Addr) (n k m l : Nat) (xs ys : List Int) (w : World) (hx : RdI w A n xs) (hy : RdI w D m ys) (hn : n = P + 1) (hm : m = P + 1) (hP : P ≤ 24) (hI : I < P) (HB : Hid (bOk P c h S xs ys = true)) (hc : Hid (gAt xs I = 1)) :
    Calls Try.prog 58 #[.agg #[.int .i64 (P : Int), .int .i64 c, .int .i64 h, .int .i64 (S : Int)], .agg #[.slice A n k, .slice D m l], .int .i64 (I : Int)] w (RowCode w (shotsTo P h xs ys I S) 0) := by
  have F := Lib.hid (bFacts HB.out)
  have h0x := Lib.hid F.out.2.2.2.2.1.2.1
  have h0y := Lib.hid F.out.2.2.2.2.2.2.1
  have ux : xs.sum ≤ 1000000 := by have := F.out; omega
  have uy : ys.sum ≤ 1000000 := by have := F.out; omega
  have hS : (S : Int) ≤ 6 := by have := F.out; omega
  have HN := Lib.hid hn
  have HM := Lib.hid hm
  have hn2 : n ≤ 1048576 := by omega
  have hm2 : m ≤ 1048576 := by omega
  have g1 : (I : Int) < (n : Int) := by omega
  have g2 : (I : Int) < (P : Int) := by omega
  obtain ⟨b, o, x, rfl, hxj, hcx⟩ := hx.at_ (j := I) (by omega)
  obtain ⟨d, q, y, rfl, _, _⟩ := hy.at_ (j := 0) (by omega)
  obtain rfl : x = 1 := by have h := hc.out; rw [gAt_of hxj rfl] at h; exact h
  have HW := Lib.hid (win_mk (x := (I : Int)) (lo := 0) (hi := (P : Int) - 1) (by omega))
  obtain ⟨i0, hi, hz0, hz1, hz2⟩ := info_parts infoI
  have ub := World.block_lt_of_cell? w _ hcx
  simp only at ub
  clear hn hm hxj
  obtain ⟨w0, hw0⟩ : ∃ w0 : World, w0 = ((w.alloc (.cells #[.int .i64 (P : Int), .int .i64 c, .int .i64 h, .int .i64 (S : Int)] 25)).alloc (.cells #[.slice (some ⟨b, o, none⟩) n k, .slice (some ⟨d, q, none⟩) m l] 43)) := ⟨_, rfl⟩
  have hp0 : Past w w0 := by rw [hw0]; exact (by repeat (first | exact Past.refl _ | assumption | refine Past.alloc ?_ _ | refine Past.drew ?_ | refine Past.drewN ?_ _ | refine Past.setCell ?_ (by first | (simp; done) | (simp <;> omega)) _ | refine Past.trans ?_ (past_over _ _) | refine Past.trans ?_ (by assumption)))
  have c0 : w0.cell? ⟨w.heap.size, 0, none⟩ = some (.int .i64 (P : Int)) := by rw [hw0]; simp [go_sem]
  have c1 : w0.cell? ⟨w.heap.size, 1, none⟩ = some (.int .i64 c) := by rw [hw0]; simp [go_sem]
  have c2 : w0.cell? ⟨w.heap.size, 2, none⟩ = some (.int .i64 h) := by rw [hw0]; simp [go_sem]
  have c3 : w0.cell? ⟨w.heap.size, 3, none⟩ = some (.int .i64 (S : Int)) := by rw [hw0]; simp [go_sem]
  have c4 : w0.cell? ⟨w.heap.size + 1, 0, none⟩ = some (.slice (some ⟨b, o, none⟩) n k) := by rw [hw0]; simp [go_sem]
  have c5 : w0.cell? ⟨w.heap.size + 1, 1, none⟩ = some (.slice (some ⟨d, q, none⟩) m l) := by rw [hw0]; simp [go_sem]
  go_enter Try.func58, Try.ntmps58
  go_upto_region 1 with fail
  rw [← hw0]
  clear hw0
  go_wp2_with fail
  (with_reducible refine (sIsBoard_b _ _ _ _ _ _ _ _ _ _ _ _ _ _ HB (hx.past hp0) (hy.past hp0) hn2 hm2).mono ?_)
  rintro e w1 ⟨rfl, hb1⟩
  have hp1 := hp0.trans hb1
  have e0 := hb1.keep c0
  have e1 := hb1.keep c1
  have e2 := hb1.keep c2
  have e3 := hb1.keep c3
  have e4 := hb1.keep c4
  have e5 := hb1.keep c5
  have gx := hp1.keep hcx
  have ve := World.block_lt_of_cell? w1 _ e0
  have ve2 := World.block_lt_of_cell? w1 _ e4
  simp only at ve ve2
  go_wp2_with (go_at_call 68; (with_reducible refine (l01In_b _ _ _ _ HW _).mono ?_); rintro e w9 ⟨rfl, rfl⟩)
  (with_reducible refine (l02Swap_any _ _ _ _ _ _ _ _ _ _ _ (hx.past (hp1.alloc _)) (hy.past (hp1.alloc _)) hn2 hm2).mono ?_)
  rintro e w2 ⟨g, g', kg, kg', rfl, ho, ho', hne, hb2⟩
  have hp12 : Past w1 w2 := ((Past.refl w1).alloc _).trans hb2
  have hI2 := (IntsIn.empty w1 2 rfl).past hb2
  have r0 := hp12.keep e0
  have r1 := hp12.keep e1
  have r2 := hp12.keep e2
  have r3 := hp12.keep e3
  clear hb2 c0 c1 c2 c3 c4 c5 gx e4 e5
  go_wp2_with fail
  have hv0 : (w2.alloc (.cells #[.slice (some ⟨g, 0, none⟩) m kg, .slice (some ⟨g', 0, none⟩) n kg'] 43)).cell? ⟨w.heap.size, 0, none⟩ = some (.int .i64 (P : Int)) := ((Past.refl w2).alloc _).keep r0
  have hv1 : (w2.alloc (.cells #[.slice (some ⟨g, 0, none⟩) m kg, .slice (some ⟨g', 0, none⟩) n kg'] 43)).cell? ⟨w.heap.size, 1, none⟩ = some (.int .i64 c) := ((Past.refl w2).alloc _).keep r1
  have hv2 : (w2.alloc (.cells #[.slice (some ⟨g, 0, none⟩) m kg, .slice (some ⟨g', 0, none⟩) n kg'] 43)).cell? ⟨w.heap.size, 2, none⟩ = some (.int .i64 h) := ((Past.refl w2).alloc _).keep r2
  have hv3 : (w2.alloc (.cells #[.slice (some ⟨g, 0, none⟩) m kg, .slice (some ⟨g', 0, none⟩) n kg'] 43)).cell? ⟨w.heap.size, 3, none⟩ = some (.int .i64 (S : Int)) := ((Past.refl w2).alloc _).keep r3
  have hu0 : (w2.alloc (.cells #[.slice (some ⟨g, 0, none⟩) m kg, .slice (some ⟨g', 0, none⟩) n kg'] 43)).cell? ⟨w2.heap.size, 0, none⟩ = some (.slice (some ⟨g, 0, none⟩) m kg) := by simp
  have hu1 : (w2.alloc (.cells #[.slice (some ⟨g, 0, none⟩) m kg, .slice (some ⟨g', 0, none⟩) n kg'] 43)).cell? ⟨w2.heap.size, 1, none⟩ = some (.slice (some ⟨g', 0, none⟩) n kg') := by simp
  have hI3 : IntsBy w1.heap.size (w2.alloc (.cells #[.slice (some ⟨g, 0, none⟩) m kg, .slice (some ⟨g', 0, none⟩) n kg'] 43)).heap.size w1 (w2.alloc (.cells #[.slice (some ⟨g, 0, none⟩) m kg, .slice (some ⟨g', 0, none⟩) n kg'] 43)) (.slice (some ⟨w1.heap.size, 0, none⟩) 0 0) [] := by
    obtain ⟨A', k', hv, h1, h2⟩ := hI2.past ((Past.refl w2).alloc (.cells #[.slice (some ⟨g, 0, none⟩) m kg, .slice (some ⟨g', 0, none⟩) n kg'] 43))
    simp only [List.length_nil, Value.slice.injEq, true_and] at hv
    obtain ⟨rfl, rfl⟩ := hv
    exact ⟨_, _, rfl, h1, h2, fun b hb => .inl (blk_some.1 hb)⟩
  have eg := own_at ho
  have eg' := own_at ho'
  simp only [World.size_alloc] at eg eg'
  have z12 : w1.heap.size < w2.heap.size := by omega
  have hY := ho.rd.past ((Past.refl w2).alloc (.cells #[.slice (some ⟨g, 0, none⟩) m kg, .slice (some ⟨g', 0, none⟩) n kg'] 43))
  have hX := ho'.rd.past ((Past.refl w2).alloc (.cells #[.slice (some ⟨g, 0, none⟩) m kg, .slice (some ⟨g', 0, none⟩) n kg'] 43))
  have z23 : w2.heap.size < (w2.alloc (.cells #[.slice (some ⟨g, 0, none⟩) m kg, .slice (some ⟨g', 0, none⟩) n kg'] 43)).heap.size := by simp
  generalize w2.alloc (.cells #[.slice (some ⟨g, 0, none⟩) m kg, .slice (some ⟨g', 0, none⟩) n kg'] 43) = w3 at z23 hv0 hv1 hv2 hv3 hu0 hu1 hI3 hX hY ⊢
  clear ho ho' hI2 e0 e1 e2 e3 r0 r1 r2 r3 ve2
  go_loopw [8, 10] (fun v i wr => ∃ j : Nat, j ≤ S ∧ i = .int .i64 ((j : Int) + 1) ∧ IntsBy w1.heap.size w3.heap.size w1 wr v (shotsTo P h xs ys I j) ∧ Mod (fun b => b = w1.heap.size) w3 wr) (fun _ i _ => S + 1 - (intOf i).toNat)
  case atStart => exact ⟨0, Nat.zero_le _, by simp, hI3, Mod.refl _ _⟩
  case round =>
    obtain ⟨j, hj, rfl, ⟨A', k', rfl, hown, hp1r, hsep⟩, hmod⟩ := hrel
    have HSEP := Lib.hid hsep
    have HMOD := Lib.hid hmod
    have z3r : w3.heap.size ≤ wr.heap.size := hmod.2.2.2.1
    clear hI3 hsep hmod
    have hle := shotsTo_le P h xs ys I j
    by_cases hlt : j < S
    · have q0 := HMOD.out.cell hv0 (by simp only; omega)
      have q1 := HMOD.out.cell hv1 (by simp only; omega)
      have q2 := HMOD.out.cell hv2 (by simp only; omega)
      have q3 := HMOD.out.cell hv3 (by simp only; omega)
      have q4 := HMOD.out.cell hu0 (by simp only; omega)
      have q5 := HMOD.out.cell hu1 (by simp only; omega)
      have hlt2 : (j : Int) + 1 ≤ (S : Int) := by omega
      go_wp2_with fail
      (with_reducible refine (sHits_any P c h S ((j : Int) + 1) _ _ _ _ _ _ ys xs _ (hY.mod HMOD.out (fun b o hb => by simp only [Option.some.injEq, Addr.mk.injEq, and_true] at hb; omega)) (hX.mod HMOD.out (fun b o hb => by simp only [Option.some.injEq, Addr.mk.injEq, and_true] at hb; omega)) HM.out HN.out hP (by omega) (by omega) h0y h0x uy ux).mono ?_)
      rintro e w4 ⟨AL, kL, rfl, hL, hb4⟩
      have hlen : (hitL (legL P h ys xs ((j : Int) + 1))).length ≤ 1000 := Nat.le_trans (List.length_filter_le _ _) (by have := legTo_le P h ys xs ((j : Int) + 1) (P + 1); rw [legL_eq]; omega)
      have hany : shB P h xs ys I ((j : Int) + 1) = (hitL (legL P h ys xs ((j : Int) + 1))).any (hitsT ((P : Int) - 1 - (I : Int))) := by rw [any_hit, shB]
      have hall : ∀ (jj : Nat) (a : Stp), (hitL (legL P h ys xs ((j : Int) + 1)))[jj]? = some a → a.x = true := fun jj a ha => hitL_x ha
      generalize hitL (legL P h ys xs ((j : Int) + 1)) = L at hL hlen hany hall ⊢
      have HANY := Lib.hid hany
      have HALL := Lib.hid hall
      have HM4 := Lib.hid (HMOD.out.trans (Mod.of_past hb4))
      have hp14 := hp1r.trans hb4
      have v0 := hb4.keep q0
      have hown4 := hown.past hb4
      clear q0 q1 q2 q3 q4 q5 hany hall
      go_wp2_with fail
      go_loopw [8, 12] (fun v i wi => ∃ jj : Nat, jj ≤ L.length ∧ i = .int .i64 jj ∧ v = .slice A' (shotsTo P h xs ys I j).length k' ∧ noneTo ((P : Int) - 1 - (I : Int)) L jj ∧ Past w4 wi) (fun _ i _ => L.length - (intOf i).toNat)
      case atStart => exact ⟨0, Nat.zero_le _, rfl, rfl, noneTo_zero _ _, Past.refl _⟩
      case round =>
        obtain ⟨jj, hjj, rfl, rfl, hnone, hpi⟩ := hrel
        have HNONE := Lib.hid hnone
        clear hnone
        have vi := hpi.keep v0
        have vb := World.block_lt_of_cell? wr _ vi
        simp only at vb
        by_cases hlt3 : jj < L.length
        · obtain ⟨gl, a, rfl, haj, d0, d1, d2, d3⟩ := (OwS.past hL hpi).at_ hlt3
          have HA := Lib.hid haj
          have hax := HALL.out jj a haj
          have hj0 : (0 : Int) ≤ (jj : Int) := by omega
          have hj1 : (jj : Int) < (L.length : Int) := by omega
          have W1 : IntKind.i64.wrap ((P : Int) - 1) = (P : Int) - 1 := IntWalk.i64_in _ (by omega)
          have W2 : IntKind.i64.wrap ((P : Int) - 1 - (I : Int)) = (P : Int) - 1 - (I : Int) := IntWalk.i64_in _ (by omega)
          clear haj
          by_cases hat : a.t = (P : Int) - 1 - (I : Int)
          · have hh : hitsT ((P : Int) - 1 - (I : Int)) a = true := by simp [hitsT, hax, hat]
            have E := Lib.hid (show shotsTo P h xs ys I (j + 1) = shotsTo P h xs ys I j ++ [(j : Int) + 1] from by rw [shotsTo, if_pos (by rw [HANY.out]; exact any_yes HA.out hh)])
            rw [hat] at d1
            clear hax hat hh d0 d2 d3
            go_wp2_with fail
            go_quiet (fail)
            have hpd : Past w4 (wr.drewN nq) := hpi.drewN _
            generalize wr.drewN nq = wd at hpd ⊢
            clear W1 W2
            go_wp2_with (at_builtin; refine wpList_append_own_at _ rfl _ _ 28 rfl w1.heap.size 2 i0 (.int .i64 0) 1 8 Try.underlying28 hi hz0 hz1 hz2 rfl (by decide) _ (shotsTo P h xs ys I j).length ((shotsTo P h xs ys I j).map (Value.int .i64)) rfl ((hown4.past hpd).alloc _) ⟨wd.heap.size, 0, none⟩ 1 1 [.int .i64 ((j : Int) + 1)] rfl rfl (World.news_of_block (Blk.at_ (by simp))) (by intro u hu; simp at hu; subst hu; rfl) (by unfold maxLen; omega) (by omega) (by have := hp14.sz; have := hpd.sz; simp; omega) ?_; intro v2 w5 hown5 hg5 hiff hat5)
            have HM5 := Lib.hid (mod_push (HM4.out.trans (Mod.of_past (hpd.alloc _))) (mod_grown hg5) HSEP.out)
            have HAT := Lib.hid hat5
            clear hat5
            go_roundw
            case rel => exact ⟨j + 1, by omega, by go_num, by rw [E.out]; exact IntsBy.push ((hown4.past hpd).alloc _) ((hp14.trans hpd).alloc _) HSEP.out (by have := hb4.sz; have := hpd.sz; simp; omega) hown5 hg5 (fun h => absurd (hiff.1 h).2 (by decide)) HAT.out, HM5.out⟩
            case measure => simp [intOf]; omega
          · have hh : hitsT ((P : Int) - 1 - (I : Int)) a = false := by simp [hitsT, hat]
            have N := Lib.hid (noneTo_succ HNONE.out HA.out hh)
            have hb5 : (a.t == (P : Int) - 1 - (I : Int)) = false := beq_eq_false_iff_ne.2 hat
            clear hax hat hh d0 d2 d3
            go_wp2_with fail
            go_quiet (fail)
            clear W1 W2
            go_wp2
            go_roundw
            case rel => exact ⟨jj + 1, by omega, by go_num, rfl, N.out, hpi.drewN _⟩
            case measure => simp [intOf]; omega
        · obtain rfl : jj = L.length := by omega
          have E := Lib.hid (show shotsTo P h xs ys I (j + 1) = shotsTo P h xs ys I j from by rw [shotsTo, if_neg (by rw [HANY.out, noneTo_end HNONE.out]; simp)])
          go_wp2
          go_roundw
          case rel => exact ⟨j + 1, by omega, by go_num, by rw [E.out]; exact ⟨A', k', rfl, hown4.past hpi, hp14.trans hpi, HSEP.out⟩, HM4.out.trans (Mod.of_past hpi)⟩
          case measure => simp [intOf]; omega
    · obtain rfl : j = S := by omega
      have q3 := HMOD.out.cell hv3 (by simp only; omega)
      go_wp2
      go_ret2
      exact ⟨A', k', rfl, hown.less hp1.sz, hp1.trans hp1r⟩
theorem gAt_beq {xs : List Int} {i : Int} (h : (gAt xs i == 1) = true) : gAt xs i = 1 := eq_of_beq h
theorem shots_any (p c h s i : Int) (A D : Option Addr) (n k m l : Nat) (xs ys : List Int) (w : World) (hx : RdI w A n xs) (hy : RdI w D m ys) (hn : n ≤ 1048576) (hm : m ≤ 1048576) :
    Calls Try.prog 57 #[.agg #[.int .i64 p, .int .i64 c, .int .i64 h, .int .i64 s], .agg #[.slice A n k, .slice D m l], .int .i64 i] w (RowCode w (dsL p c h s xs ys i) (dsC p c h s xs ys i)) := by
  cases hb : bOk p c h s xs ys
  · rw [show dsL p c h s xs ys i = [] from by simp [dsL, dsOk, hb], show dsC p c h s xs ys i = 1 from by simp [dsC, hb]]
    exact shots_no p c h s i A D n k m l xs ys w hx hy hn hm (Lib.hid hb)
  · have F := bFacts hb
    obtain ⟨P, rfl⟩ := Int.eq_ofNat_of_zero_le (show 0 ≤ p from by omega)
    obtain ⟨S, rfl⟩ := Int.eq_ofNat_of_zero_le (show 0 ≤ s from by omega)
    have ln : n = P + 1 := by have := hx.1; omega
    have lm : m = P + 1 := by have := hy.1; omega
    cases hc : (win i 0 ((P : Int) - 1) && (gAt xs i == 1))
    · rw [show dsL P c h S xs ys i = [] from by simp [dsL, dsOk, hc], show dsC P c h S xs ys i = 4 from by simp [dsC, hb, hc]]
      exact shots_bad P c h S i A D n k m l xs ys w hx hy ln hm (by omega) (by omega) (Lib.hid hb) hc
    · rw [show dsL P c h S xs ys i = shotsTo P h xs ys i S from by simp [dsL, dsOk, hb, hc], show dsC P c h S xs ys i = 0 from by simp [dsC, hb, hc]]
      rw [Bool.and_eq_true] at hc
      obtain ⟨i0, i1⟩ := win_yes hc.1
      obtain ⟨I, rfl⟩ := Int.eq_ofNat_of_zero_le i0
      exact shots_yes P I S c h A D n k m l xs ys w hx hy ln lm (by omega) (by omega) (Lib.hid hb) (Lib.hid (gAt_beq hc.2))
theorem sShots_any (p c h s i : Int) (A D : Option Addr) (n k m l : Nat) (xs ys : List Int) (w : World) (hx : RdI w A n xs) (hy : RdI w D m ys) (hn : n ≤ 1048576) (hm : m ≤ 1048576) :
    Calls Try.prog 58 #[.agg #[.int .i64 p, .int .i64 c, .int .i64 h, .int .i64 s], .agg #[.slice A n k, .slice D m l], .int .i64 i] w (RowCode w (dsL p c h s xs ys i) (dsC p c h s xs ys i)) := by
  cases hb : bOk p c h s xs ys
  · rw [show dsL p c h s xs ys i = [] from by simp [dsL, dsOk, hb], show dsC p c h s xs ys i = 1 from by simp [dsC, hb]]
    exact sShots_no p c h s i A D n k m l xs ys w hx hy hn hm (Lib.hid hb)
  · have F := bFacts hb
    obtain ⟨P, rfl⟩ := Int.eq_ofNat_of_zero_le (show 0 ≤ p from by omega)
    obtain ⟨S, rfl⟩ := Int.eq_ofNat_of_zero_le (show 0 ≤ s from by omega)
    have ln : n = P + 1 := by have := hx.1; omega
    have lm : m = P + 1 := by have := hy.1; omega
    cases hc : (win i 0 ((P : Int) - 1) && (gAt xs i == 1))
    · rw [show dsL P c h S xs ys i = [] from by simp [dsL, dsOk, hc], show dsC P c h S xs ys i = 4 from by simp [dsC, hb, hc]]
      exact sShots_bad P c h S i A D n k m l xs ys w hx hy ln hm (by omega) (by omega) (Lib.hid hb) hc
    · rw [show dsL P c h S xs ys i = shotsTo P h xs ys i S from by simp [dsL, dsOk, hb, hc], show dsC P c h S xs ys i = 0 from by simp [dsC, hb, hc]]
      rw [Bool.and_eq_true] at hc
      obtain ⟨i0, i1⟩ := win_yes hc.1
      obtain ⟨I, rfl⟩ := Int.eq_ofNat_of_zero_le i0
      exact sShots_yes P I S c h A D n k m l xs ys w hx hy ln lm (by omega) (by omega) (Lib.hid hb) (Lib.hid (gAt_beq hc.2))
end Go.Proofs.Ytapocfgajkkpdaa
