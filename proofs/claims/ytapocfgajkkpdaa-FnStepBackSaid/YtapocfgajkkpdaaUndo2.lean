/-
  Contracts: the board ahead of a step, and a code.
-/
import Derived.Test.YtapocfgajkkpdaaUndo
namespace Go.Proofs.Ytapocfgajkkpdaa
open Go.ChangeShapes Go.WideShapes Go.ChangeAt Go.RowKit Go.Joins

/-- A step that may be undone by its shape. -/
def unShape (p : Int) (a : Stp) : Bool := win a.f 0 p && (win a.t (-1) (p - 1) && !(a.x && decide (a.t < 0)))
def unB (p c h s : Int) (xs ys : List Int) (a : Stp) : Bool := bOk p c h s (unX xs a) (unY p ys a)
def unG (p h s : Int) (xs ys : List Int) (a : Stp) : Bool := legB p h s (unX xs a) (unY p ys a) a
def unOk (p c h s : Int) (xs ys : List Int) (a : Stp) : Bool := bOk p c h s xs ys && (unShape p a && (unB p c h s xs ys a && unG p h s xs ys a))
def unL (p c h s : Int) (xs ys : List Int) (a : Stp) : List Int := if unOk p c h s xs ys a = true then unX xs a else []
def unM (p c h s : Int) (xs ys : List Int) (a : Stp) : List Int := if unOk p c h s xs ys a = true then unY p ys a else []
def unC (p c h s : Int) (xs ys : List Int) (a : Stp) : Int := if bOk p c h s xs ys = true then (if unOk p c h s xs ys a = true then 0 else 4) else 1
theorem unL_le (p c h s : Int) (xs ys : List Int) (a : Stp) : (unL p c h s xs ys a).length ≤ 1000 ∧ (unM p c h s xs ys a).length ≤ 1000 := by
  unfold unL unM
  cases hb : unOk p c h s xs ys a
  · simp
  · simp only [unOk, Bool.and_eq_true] at hb
    have F := bFacts hb.1
    simp only [if_true, unX_len, unY_len]
    omega
/-- What a step of the right shape looks like. -/
theorem unShape_yes {P : Nat} {kf kt kd : Int} {kx : Bool} (hs : unShape P ⟨kf, kt, kd, kx⟩ = true) :
    ∃ F : Nat, kf = F ∧ (F : Int) ≤ P ∧ ((kt = -1 ∧ kx = false) ∨ ∃ T : Nat, kt = T ∧ (T : Int) < P) := by
  simp only [unShape, Bool.and_eq_true, Bool.not_eq_true'] at hs
  obtain ⟨h1, h2, h3⟩ := hs
  obtain ⟨f0, f1⟩ := win_yes h1
  obtain ⟨t0, t1⟩ := win_yes h2
  obtain ⟨F, rfl⟩ := Int.eq_ofNat_of_zero_le f0
  refine ⟨F, rfl, f1, ?_⟩
  by_cases ht : 0 ≤ kt
  · obtain ⟨T, rfl⟩ := Int.eq_ofNat_of_zero_le ht
    exact .inr ⟨T, rfl, by omega⟩
  · rw [decide_eq_true (by omega), Bool.and_true] at h3
    exact .inl ⟨by omega, h3⟩
theorem unL_not {p c h s : Int} {xs ys : List Int} {a : Stp} (hb : bOk p c h s xs ys = true) (hs : unShape p a = false) : unL p c h s xs ys a = [] ∧ unM p c h s xs ys a = [] ∧ unC p c h s xs ys a = 4 := by
  simp [unL, unM, unC, unOk, hb, hs]
theorem unL_res {p c h s : Int} {xs ys : List Int} {a : Stp} (hb : bOk p c h s xs ys = true) (hs : unShape p a = true) :
    unL p c h s xs ys a = unRes (unX xs a) (unB p c h s xs ys a) (unG p h s xs ys a) ∧ unM p c h s xs ys a = unRes (unY p ys a) (unB p c h s xs ys a) (unG p h s xs ys a) ∧ unC p c h s xs ys a = unCode (unB p c h s xs ys a) (unG p h s xs ys a) := by
  simp [unL, unM, unC, unOk, hb, hs, unRes, unCode]
theorem undoStep_not (P : Nat) (c h s kf kt kd : Int) (kx : Bool) (A D : Option Addr) (n k m l : Nat) (xs ys : List Int) (w : World) (hx : RdI w A n xs) (hy : RdI w D m ys) (hn : n ≤ 1048576) (hm : m ≤ 1048576) (hP1 : 1 ≤ P) (hP : P ≤ 24) (HB : Hid (bOk P c h s xs ys = true)) (hs : unShape P ⟨kf, kt, kd, kx⟩ = false) :
    Calls Try.prog 55 #[.agg #[.int .i64 (P : Int), .int .i64 c, .int .i64 h, .int .i64 s], .agg #[.slice A n k, .slice D m l], .agg #[.int .i64 kf, .int .i64 kt, .int .i64 kd, .bool kx]] w (BoardCode w [] [] 4) := by
  cases hf : win kf 0 P
  · have HF := Lib.hid hf
    clear hf hs
    go_enter Try.func55, Try.ntmps55
    go_wp2_with (first | (go_at_call 31; (with_reducible refine (isBoard_b _ _ _ _ _ _ _ _ _ _ _ _ _ _ HB (hx.past (by repeat (first | exact Past.refl _ | assumption | refine Past.alloc ?_ _ | refine Past.drew ?_ | refine Past.drewN ?_ _ | refine Past.setCell ?_ (by first | (simp; done) | (simp <;> omega)) _ | refine Past.trans ?_ (past_over _ _) | refine Past.trans ?_ (by assumption)))) (hy.past (by repeat (first | exact Past.refl _ | assumption | refine Past.alloc ?_ _ | refine Past.drew ?_ | refine Past.drewN ?_ _ | refine Past.setCell ?_ (by first | (simp; done) | (simp <;> omega)) _ | refine Past.trans ?_ (past_over _ _) | refine Past.trans ?_ (by assumption)))) hn hm).mono ?_); rintro e w1 ⟨rfl, hb1⟩; obtain ⟨hc1, hf1, _⟩ := hb1.cells; have hz1_0 : w.heap.size < w1.heap.size := Past.lt hb1 (by first | omega | (simp <;> omega)); have hz1_1 : w.heap.size + 1 < w1.heap.size := Past.lt hb1 (by first | omega | (simp <;> omega)); have hz1_2 : w.heap.size + 1 + 1 < w1.heap.size := Past.lt hb1 (by first | omega | (simp <;> omega)); have hz1_3 : w.heap.size + 1 + 1 + 1 < w1.heap.size := Past.lt hb1 (by first | omega | (simp <;> omega))) | (go_at_call 71; (with_reducible refine (within_b _ _ _ _ HF _).mono ?_); rintro e w9 ⟨rfl, rfl⟩))
    refine bodyPost_ret (v := .tuple #[.agg #[.slice none 0 0, .slice none 0 0], .int .i64 4]) (by simp [*, results, Try.results55, go_sem]) rfl (BoardCode.empty (by repeat (first | exact Past.refl _ | assumption | refine Past.alloc ?_ _ | refine Past.drew ?_ | refine Past.drewN ?_ _ | refine Past.setCell ?_ (by first | (simp; done) | (simp <;> omega)) _ | refine Past.trans ?_ (past_over _ _) | refine Past.trans ?_ (by assumption))))
  · have HF := Lib.hid hf
    cases ht : win kt (-1) ((P : Int) - 1)
    · have HT := Lib.hid ht
      clear hf ht hs
      go_enter Try.func55, Try.ntmps55
      go_wp2_with (first | (go_at_call 31; (with_reducible refine (isBoard_b _ _ _ _ _ _ _ _ _ _ _ _ _ _ HB (hx.past (by repeat (first | exact Past.refl _ | assumption | refine Past.alloc ?_ _ | refine Past.drew ?_ | refine Past.drewN ?_ _ | refine Past.setCell ?_ (by first | (simp; done) | (simp <;> omega)) _ | refine Past.trans ?_ (past_over _ _) | refine Past.trans ?_ (by assumption)))) (hy.past (by repeat (first | exact Past.refl _ | assumption | refine Past.alloc ?_ _ | refine Past.drew ?_ | refine Past.drewN ?_ _ | refine Past.setCell ?_ (by first | (simp; done) | (simp <;> omega)) _ | refine Past.trans ?_ (past_over _ _) | refine Past.trans ?_ (by assumption)))) hn hm).mono ?_); rintro e w1 ⟨rfl, hb1⟩; obtain ⟨hc1, hf1, _⟩ := hb1.cells; have hz1_0 : w.heap.size < w1.heap.size := Past.lt hb1 (by first | omega | (simp <;> omega)); have hz1_1 : w.heap.size + 1 < w1.heap.size := Past.lt hb1 (by first | omega | (simp <;> omega)); have hz1_2 : w.heap.size + 1 + 1 < w1.heap.size := Past.lt hb1 (by first | omega | (simp <;> omega)); have hz1_3 : w.heap.size + 1 + 1 + 1 < w1.heap.size := Past.lt hb1 (by first | omega | (simp <;> omega))) | (go_at_call 71; (with_reducible refine (within_b _ _ _ _ HF _).mono ?_); rintro e w9 ⟨rfl, rfl⟩) | (go_at_call 71; (with_reducible refine (within_b _ _ _ _ HT _).mono ?_); rintro e w9 ⟨rfl, rfl⟩))
      refine bodyPost_ret (v := .tuple #[.agg #[.slice none 0 0, .slice none 0 0], .int .i64 4]) (by simp [*, results, Try.results55, go_sem]) rfl (BoardCode.empty (by repeat (first | exact Past.refl _ | assumption | refine Past.alloc ?_ _ | refine Past.drew ?_ | refine Past.drewN ?_ _ | refine Past.setCell ?_ (by first | (simp; done) | (simp <;> omega)) _ | refine Past.trans ?_ (past_over _ _) | refine Past.trans ?_ (by assumption))))
    · have HT := Lib.hid ht
      simp only [unShape, hf, ht, Bool.true_and, Bool.not_eq_false', Bool.and_eq_true, decide_eq_true_eq] at hs
      obtain ⟨rfl, ht0⟩ := hs
      clear hf ht
      go_enter Try.func55, Try.ntmps55
      go_wp2_with (first | (go_at_call 31; (with_reducible refine (isBoard_b _ _ _ _ _ _ _ _ _ _ _ _ _ _ HB (hx.past (by repeat (first | exact Past.refl _ | assumption | refine Past.alloc ?_ _ | refine Past.drew ?_ | refine Past.drewN ?_ _ | refine Past.setCell ?_ (by first | (simp; done) | (simp <;> omega)) _ | refine Past.trans ?_ (past_over _ _) | refine Past.trans ?_ (by assumption)))) (hy.past (by repeat (first | exact Past.refl _ | assumption | refine Past.alloc ?_ _ | refine Past.drew ?_ | refine Past.drewN ?_ _ | refine Past.setCell ?_ (by first | (simp; done) | (simp <;> omega)) _ | refine Past.trans ?_ (past_over _ _) | refine Past.trans ?_ (by assumption)))) hn hm).mono ?_); rintro e w1 ⟨rfl, hb1⟩; obtain ⟨hc1, hf1, _⟩ := hb1.cells; have hz1_0 : w.heap.size < w1.heap.size := Past.lt hb1 (by first | omega | (simp <;> omega)); have hz1_1 : w.heap.size + 1 < w1.heap.size := Past.lt hb1 (by first | omega | (simp <;> omega)); have hz1_2 : w.heap.size + 1 + 1 < w1.heap.size := Past.lt hb1 (by first | omega | (simp <;> omega)); have hz1_3 : w.heap.size + 1 + 1 + 1 < w1.heap.size := Past.lt hb1 (by first | omega | (simp <;> omega))) | (go_at_call 71; (with_reducible refine (within_b _ _ _ _ HF _).mono ?_); rintro e w9 ⟨rfl, rfl⟩) | (go_at_call 71; (with_reducible refine (within_b _ _ _ _ HT _).mono ?_); rintro e w9 ⟨rfl, rfl⟩))
      refine bodyPost_ret (v := .tuple #[.agg #[.slice none 0 0, .slice none 0 0], .int .i64 4]) (by simp [*, results, Try.results55, go_sem]) rfl (BoardCode.empty (by repeat (first | exact Past.refl _ | assumption | refine Past.alloc ?_ _ | refine Past.drew ?_ | refine Past.drewN ?_ _ | refine Past.setCell ?_ (by first | (simp; done) | (simp <;> omega)) _ | refine Past.trans ?_ (past_over _ _) | refine Past.trans ?_ (by assumption))))
set_option maxHeartbeats 4000000 in
theorem undoStep_any (p c h s kf kt kd : Int) (kx : Bool) (b o d q n k m l : Nat) (xs ys : List Int) (w : World) (hx : RdI w (some ⟨b, o, none⟩) n xs) (hy : RdI w (some ⟨d, q, none⟩) m ys) (hn : n ≤ 1048576) (hm : m ≤ 1048576) :
    Calls Try.prog 55 #[.agg #[.int .i64 p, .int .i64 c, .int .i64 h, .int .i64 s], .agg #[.slice (some ⟨b, o, none⟩) n k, .slice (some ⟨d, q, none⟩) m l], .agg #[.int .i64 kf, .int .i64 kt, .int .i64 kd, .bool kx]] w (BoardCode w (unL p c h s xs ys ⟨kf, kt, kd, kx⟩) (unM p c h s xs ys ⟨kf, kt, kd, kx⟩) (unC p c h s xs ys ⟨kf, kt, kd, kx⟩)) := by
  cases hb : bOk p c h s xs ys
  · rw [show unL p c h s xs ys ⟨kf, kt, kd, kx⟩ = [] from by simp [unL, unOk, hb], show unM p c h s xs ys ⟨kf, kt, kd, kx⟩ = [] from by simp [unM, unOk, hb], show unC p c h s xs ys ⟨kf, kt, kd, kx⟩ = 1 from by simp [unC, hb]]
    have HB := Lib.hid hb
    clear hb
    go_enter Try.func55, Try.ntmps55
    go_wp2_with (go_at_call 31; (with_reducible refine (isBoard_b _ _ _ _ _ _ _ _ _ _ _ _ _ _ HB (hx.past (by repeat (first | exact Past.refl _ | assumption | refine Past.alloc ?_ _ | refine Past.drew ?_ | refine Past.drewN ?_ _ | refine Past.setCell ?_ (by first | (simp; done) | (simp <;> omega)) _ | refine Past.trans ?_ (past_over _ _) | refine Past.trans ?_ (by assumption)))) (hy.past (by repeat (first | exact Past.refl _ | assumption | refine Past.alloc ?_ _ | refine Past.drew ?_ | refine Past.drewN ?_ _ | refine Past.setCell ?_ (by first | (simp; done) | (simp <;> omega)) _ | refine Past.trans ?_ (past_over _ _) | refine Past.trans ?_ (by assumption)))) hn hm).mono ?_); rintro e w1 ⟨rfl, hb1⟩; obtain ⟨hc1, hf1, _⟩ := hb1.cells; have hz1_0 : w.heap.size < w1.heap.size := Past.lt hb1 (by first | omega | (simp <;> omega)); have hz1_1 : w.heap.size + 1 < w1.heap.size := Past.lt hb1 (by first | omega | (simp <;> omega)); have hz1_2 : w.heap.size + 1 + 1 < w1.heap.size := Past.lt hb1 (by first | omega | (simp <;> omega)); have hz1_3 : w.heap.size + 1 + 1 + 1 < w1.heap.size := Past.lt hb1 (by first | omega | (simp <;> omega)))
    refine bodyPost_ret (v := .tuple #[.agg #[.slice none 0 0, .slice none 0 0], .int .i64 1]) (by simp [*, results, Try.results55, go_sem]) rfl (BoardCode.empty (by repeat (first | exact Past.refl _ | assumption | refine Past.alloc ?_ _ | refine Past.drew ?_ | refine Past.drewN ?_ _ | refine Past.setCell ?_ (by first | (simp; done) | (simp <;> omega)) _ | refine Past.trans ?_ (past_over _ _) | refine Past.trans ?_ (by assumption))))
  · have HB := Lib.hid hb
    have F := bFacts hb
    obtain ⟨P, rfl⟩ := Int.eq_ofNat_of_zero_le (show 0 ≤ p from by omega)
    have hP : P ≤ 24 := by omega
    cases hs : unShape P ⟨kf, kt, kd, kx⟩
    · obtain ⟨e1, e2, e3⟩ := unL_not hb hs
      rw [e1, e2, e3]
      exact undoStep_not P c h s kf kt kd kx _ _ n k m l xs ys w hx hy hn hm (by omega) hP HB hs
    · obtain ⟨e1, e2, e3⟩ := unL_res hb hs
      rw [e1, e2, e3]
      have ln : n = P + 1 := by have := hx.1; omega
      have lm : m = P + 1 := by have := hy.1; omega
      have bdx := Lib.hid (Bd.of (c := 15) F.2.2.2.2.1.2.1 (by omega))
      have bdy := Lib.hid (Bd.of (c := 15) F.2.2.2.2.2.2.1 (by omega))
      obtain ⟨F', rfl, f1, hc⟩ := unShape_yes hs
      rcases hc with ⟨rfl, rfl⟩ | ⟨T, rfl, t1⟩
      · exact undo_off P F' c h s kd b o d q n k m l xs ys w hx hy ln lm hP f1 bdx bdy (by omega) HB _ _ (Lib.hid rfl) (Lib.hid rfl)
      · cases kx
        · have eX : unX xs ⟨(F' : Int), (T : Int), kd, false⟩ = upd (upd xs F' 1) T (-1) := if_pos (Int.natCast_nonneg T)
          have eY : unY P ys ⟨(F' : Int), (T : Int), kd, false⟩ = ys := rfl
          unfold unB unG
          rw [eX, eY]
          exact undo_in P F' T t1 c h s kd b o d q n k m l xs ys w hx hy ln lm hP f1 bdx bdy (by omega) HB _ _ (Lib.hid rfl) (Lib.hid rfl)
        · have eX : unX xs ⟨(F' : Int), (T : Int), kd, true⟩ = upd (upd xs F' 1) T (-1) := if_pos (Int.natCast_nonneg T)
          have eY : unY P ys ⟨(F' : Int), (T : Int), kd, true⟩ = upd (upd ys ((P : Int) - 1 - (T : Int)) 1) P (-1) := rfl
          unfold unB unG
          rw [eX, eY]
          exact undo_hit P F' T t1 c h s kd b o d q n k m l xs ys w hx hy ln lm hP f1 bdx bdy (by omega) HB _ _ (Lib.hid rfl) (Lib.hid rfl)
end Go.Proofs.Ytapocfgajkkpdaa
