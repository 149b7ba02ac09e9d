/-
  Contracts of the functions that look at a board: contact, open points, counts.
-/
import Derived.Test.YtapocfgajkkpdaaLook
namespace Go.Proofs.Ytapocfgajkkpdaa
open Go.ChangeShapes Go.WideShapes Go.ChangeAt Go.RowKit Go.Joins

def isContactF (p c h s : Int) (xs ys : List Int) : Bool := bOk p c h s xs ys && contactF p xs ys
theorem over_b (A D : Option Addr) (n k m l : Nat) (xs ys : List Int) (b : Bool) (w : World) (hb : Hid (overF xs ys = b)) (hx : RdI w A n xs) (hy : RdI w D m ys) (hn : n ≤ 1048576) (hm : m ≤ 1048576)
    (h0x : Hid (∀ x ∈ xs, 0 ≤ x)) (h0y : Hid (∀ x ∈ ys, 0 ≤ x)) (ux : xs.sum ≤ 1000000) (uy : ys.sum ≤ 1000000) :
    Calls Try.prog 81 #[.agg #[.slice A n k, .slice D m l]] w fun e w' => e = .returned (.bool b) ∧ Past w w' :=
  (over_any A D n k m l xs ys w hx hy hn hm h0x h0y ux uy).mono fun _ _ ⟨he, hp⟩ => ⟨he.trans (ret_bool hb.out), hp⟩
theorem hasContact_any (p c h s : Int) (A D : Option Addr) (n k m l : Nat) (xs ys : List Int) (w : World) (hx : RdI w A n xs) (hy : RdI w D m ys) (hn : n ≤ 1048576) (hm : m ≤ 1048576)
    (h0x : Hid (∀ x ∈ xs, 0 ≤ x)) (h0y : Hid (∀ x ∈ ys, 0 ≤ x)) (ux : xs.sum ≤ 1000000) (uy : ys.sum ≤ 1000000) :
    Calls Try.prog 79 #[.agg #[.int .i64 p, .int .i64 c, .int .i64 h, .int .i64 s], .agg #[.slice A n k, .slice D m l]] w fun e w' => e = .returned (.bool (contactF p xs ys)) ∧ Past w w' := by
  have bx := lastF_bd xs
  have b_y := lastF_bd ys
  rw [hx.1] at bx
  rw [hy.1] at b_y
  cases ho : overF xs ys
  · have HO := Lib.hid ho
    by_cases hl : p ≤ lastF xs + lastF ys
    all_goals
      have E : contactF p xs ys = decide (p ≤ lastF xs + lastF ys) := by simp [contactF, ho]
      rw [E]
      clear ho E
      go_enter Try.func79, Try.ntmps79
      go_wp2_with fail
      refine wp_region_over (by kernel_rfl) (by kernel_rfl) ?_
      repeat (go_big_quiet_step ((first | (go_at_call 81; exact over_of (over_b _ _ _ _ _ _ _ _ _ _ HO (hx.past (by repeat (first | exact Past.refl _ | assumption | refine Past.alloc ?_ _ | refine Past.drew ?_ | refine Past.drewN ?_ _ | refine Past.setCell ?_ (by first | (simp; done) | (simp <;> omega)) _ | refine Past.trans ?_ (past_over _ _) | refine Past.trans ?_ (by assumption)))) (hy.past (by repeat (first | exact Past.refl _ | assumption | refine Past.alloc ?_ _ | refine Past.drew ?_ | refine Past.drewN ?_ _ | refine Past.setCell ?_ (by first | (simp; done) | (simp <;> omega)) _ | refine Past.trans ?_ (past_over _ _) | refine Past.trans ?_ (by assumption)))) hn hm h0x h0y ux uy)) | (go_at_call 106; exact over_same (last_any _ _ _ _ _ (hx.past (by repeat (first | exact Past.refl _ | assumption | refine Past.alloc ?_ _ | refine Past.drew ?_ | refine Past.drewN ?_ _ | refine Past.setCell ?_ (by first | (simp; done) | (simp <;> omega)) _ | refine Past.trans ?_ (past_over _ _) | refine Past.trans ?_ (by assumption)))) hn)) | (go_at_call 106; exact over_same (last_any _ _ _ _ _ (hy.past (by repeat (first | exact Past.refl _ | assumption | refine Past.alloc ?_ _ | refine Past.drew ?_ | refine Past.drewN ?_ _ | refine Past.setCell ?_ (by first | (simp; done) | (simp <;> omega)) _ | refine Past.trans ?_ (past_over _ _) | refine Past.trans ?_ (by assumption)))) hm)))))
      refine wpQuiet_nil ?_
      intro w1 hb1
      obtain ⟨hc1, hf1, _⟩ := hb1.cells
      go_wp2
      go_ret
      exact ⟨ret_bool (by simp [hl]), (by repeat (first | exact Past.refl _ | assumption | refine Past.alloc ?_ _ | refine Past.drew ?_ | refine Past.drewN ?_ _ | refine Past.setCell ?_ (by first | (simp; done) | (simp <;> omega)) _ | refine Past.trans ?_ (past_over _ _) | refine Past.trans ?_ (by assumption)))⟩
  · have HO := Lib.hid ho
    rw [show contactF p xs ys = false from by simp [contactF, ho]]
    clear ho
    go_enter Try.func79, Try.ntmps79
    go_wp2_with fail
    refine wp_region_over (by kernel_rfl) (by kernel_rfl) ?_
    repeat (go_big_quiet_step ((first | (go_at_call 81; exact over_of (over_b _ _ _ _ _ _ _ _ _ _ HO (hx.past (by repeat (first | exact Past.refl _ | assumption | refine Past.alloc ?_ _ | refine Past.drew ?_ | refine Past.drewN ?_ _ | refine Past.setCell ?_ (by first | (simp; done) | (simp <;> omega)) _ | refine Past.trans ?_ (past_over _ _) | refine Past.trans ?_ (by assumption)))) (hy.past (by repeat (first | exact Past.refl _ | assumption | refine Past.alloc ?_ _ | refine Past.drew ?_ | refine Past.drewN ?_ _ | refine Past.setCell ?_ (by first | (simp; done) | (simp <;> omega)) _ | refine Past.trans ?_ (past_over _ _) | refine Past.trans ?_ (by assumption)))) hn hm h0x h0y ux uy)))))
    refine wpQuiet_nil ?_
    intro w1 hb1
    obtain ⟨hc1, hf1, _⟩ := hb1.cells
    go_wp2
    go_ret
    exact ⟨rfl, (by repeat (first | exact Past.refl _ | assumption | refine Past.alloc ?_ _ | refine Past.drew ?_ | refine Past.drewN ?_ _ | refine Past.setCell ?_ (by first | (simp; done) | (simp <;> omega)) _ | refine Past.trans ?_ (past_over _ _) | refine Past.trans ?_ (by assumption)))⟩
theorem l02Contact_any (p c h s : Int) (A D : Option Addr) (n k m l : Nat) (xs ys : List Int) (w : World) (hx : RdI w A n xs) (hy : RdI w D m ys) (hn : n ≤ 1048576) (hm : m ≤ 1048576)
    (h0x : Hid (∀ x ∈ xs, 0 ≤ x)) (h0y : Hid (∀ x ∈ ys, 0 ≤ x)) :
    Calls Try.prog 80 #[.agg #[.int .i64 p, .int .i64 c, .int .i64 h, .int .i64 s], .agg #[.slice A n k, .slice D m l]] w fun e w' => e = .returned (.bool (contactF p xs ys)) ∧ Past w w' := by
  have bx := lastF_bd xs
  have b_y := lastF_bd ys
  rw [hx.1] at bx
  rw [hy.1] at b_y
  by_cases h1 : 0 ≤ lastF xs
  · by_cases h2 : 0 ≤ lastF ys
    · rw [contact_pos h0x.out h0y.out h1 h2]
      by_cases hl : p ≤ lastF xs + lastF ys
      all_goals
        go_enter Try.func80, Try.ntmps80
        go_wp2_with fail
        refine wp_region_over (by kernel_rfl) (by kernel_rfl) ?_
        repeat (go_big_quiet_step ((first | (go_at_call 107; exact over_same (sLast_any _ _ _ _ _ (hx.past (by repeat (first | exact Past.refl _ | assumption | refine Past.alloc ?_ _ | refine Past.drew ?_ | refine Past.drewN ?_ _ | refine Past.setCell ?_ (by first | (simp; done) | (simp <;> omega)) _ | refine Past.trans ?_ (past_over _ _) | refine Past.trans ?_ (by assumption)))) hn)) | (go_at_call 107; exact over_same (sLast_any _ _ _ _ _ (hy.past (by repeat (first | exact Past.refl _ | assumption | refine Past.alloc ?_ _ | refine Past.drew ?_ | refine Past.drewN ?_ _ | refine Past.setCell ?_ (by first | (simp; done) | (simp <;> omega)) _ | refine Past.trans ?_ (past_over _ _) | refine Past.trans ?_ (by assumption)))) hm)))))
        refine wpQuiet_nil ?_
        intro w1 hb1
        obtain ⟨hc1, hf1, _⟩ := hb1.cells
        have hz : w.heap.size < w1.heap.size := Past.lt hb1 (by first | omega | (simp <;> omega))
        go_wp2
        go_ret
        exact ⟨ret_bool (by simp [hl]), (by repeat (first | exact Past.refl _ | assumption | refine Past.alloc ?_ _ | refine Past.drew ?_ | refine Past.drewN ?_ _ | refine Past.setCell ?_ (by first | (simp; done) | (simp <;> omega)) _ | refine Past.trans ?_ (past_over _ _) | refine Past.trans ?_ (by assumption)))⟩
    · rw [contact_neg h0x.out h0y.out (.inr (by omega))]
      go_enter Try.func80, Try.ntmps80
      go_wp2_with fail
      refine wp_region_over (by kernel_rfl) (by kernel_rfl) ?_
      repeat (go_big_quiet_step ((first | (go_at_call 107; exact over_same (sLast_any _ _ _ _ _ (hx.past (by repeat (first | exact Past.refl _ | assumption | refine Past.alloc ?_ _ | refine Past.drew ?_ | refine Past.drewN ?_ _ | refine Past.setCell ?_ (by first | (simp; done) | (simp <;> omega)) _ | refine Past.trans ?_ (past_over _ _) | refine Past.trans ?_ (by assumption)))) hn)) | (go_at_call 107; exact over_same (sLast_any _ _ _ _ _ (hy.past (by repeat (first | exact Past.refl _ | assumption | refine Past.alloc ?_ _ | refine Past.drew ?_ | refine Past.drewN ?_ _ | refine Past.setCell ?_ (by first | (simp; done) | (simp <;> omega)) _ | refine Past.trans ?_ (past_over _ _) | refine Past.trans ?_ (by assumption)))) hm)))))
      refine wpQuiet_nil ?_
      intro w1 hb1
      obtain ⟨hc1, hf1, _⟩ := hb1.cells
      go_wp2
      go_ret
      exact ⟨rfl, (by repeat (first | exact Past.refl _ | assumption | refine Past.alloc ?_ _ | refine Past.drew ?_ | refine Past.drewN ?_ _ | refine Past.setCell ?_ (by first | (simp; done) | (simp <;> omega)) _ | refine Past.trans ?_ (past_over _ _) | refine Past.trans ?_ (by assumption)))⟩
  · rw [contact_neg h0x.out h0y.out (.inl (by omega))]
    go_enter Try.func80, Try.ntmps80
    go_wp2_with fail
    refine wp_region_over (by kernel_rfl) (by kernel_rfl) ?_
    repeat (go_big_quiet_step ((first | (go_at_call 107; exact over_same (sLast_any _ _ _ _ _ (hx.past (by repeat (first | exact Past.refl _ | assumption | refine Past.alloc ?_ _ | refine Past.drew ?_ | refine Past.drewN ?_ _ | refine Past.setCell ?_ (by first | (simp; done) | (simp <;> omega)) _ | refine Past.trans ?_ (past_over _ _) | refine Past.trans ?_ (by assumption)))) hn)) | (go_at_call 107; exact over_same (sLast_any _ _ _ _ _ (hy.past (by repeat (first | exact Past.refl _ | assumption | refine Past.alloc ?_ _ | refine Past.drew ?_ | refine Past.drewN ?_ _ | refine Past.setCell ?_ (by first | (simp; done) | (simp <;> omega)) _ | refine Past.trans ?_ (past_over _ _) | refine Past.trans ?_ (by assumption)))) hm)))))
    refine wpQuiet_nil ?_
    intro w1 hb1
    obtain ⟨hc1, hf1, _⟩ := hb1.cells
    go_wp2
    go_ret
    exact ⟨rfl, (by repeat (first | exact Past.refl _ | assumption | refine Past.alloc ?_ _ | refine Past.drew ?_ | refine Past.drewN ?_ _ | refine Past.setCell ?_ (by first | (simp; done) | (simp <;> omega)) _ | refine Past.trans ?_ (past_over _ _) | refine Past.trans ?_ (by assumption)))⟩
theorem isContact (p c h s : Int) (A D : Option Addr) (n k m l : Nat) (xs ys : List Int) (w : World) (hx : RdI w A n xs) (hy : RdI w D m ys) (hn : n ≤ 1048576) (hm : m ≤ 1048576) :
    Calls Try.prog 35 #[.agg #[.int .i64 p, .int .i64 c, .int .i64 h, .int .i64 s], .agg #[.slice A n k, .slice D m l]] w fun e w' => e = .returned (.bool (isContactF p c h s xs ys)) ∧ Past w w' := by
  cases hb : bOk p c h s xs ys
  · rw [show isContactF p c h s xs ys = false from by simp [isContactF, hb]]
    go_enter Try.func35, Try.ntmps35
    go_wp2_with (go_at_call 31; (with_reducible refine (isBoard_any _ _ _ _ _ _ _ _ _ _ _ _ _ (hx.past (by repeat (first | exact Past.refl _ | assumption | refine Past.alloc ?_ _ | refine Past.drew ?_ | refine Past.drewN ?_ _ | refine Past.setCell ?_ (by first | (simp; done) | (simp <;> omega)) _ | refine Past.trans ?_ (past_over _ _) | refine Past.trans ?_ (by assumption)))) (hy.past (by repeat (first | exact Past.refl _ | assumption | refine Past.alloc ?_ _ | refine Past.drew ?_ | refine Past.drewN ?_ _ | refine Past.setCell ?_ (by first | (simp; done) | (simp <;> omega)) _ | refine Past.trans ?_ (past_over _ _) | refine Past.trans ?_ (by assumption)))) hn hm).mono ?_); rintro e w1 ⟨rfl, hb1⟩; obtain ⟨hc1, hf1, _⟩ := hb1.cells; have hz1_0 : w.heap.size < w1.heap.size := Past.lt hb1 (by first | omega | (simp <;> omega)); have hz1_1 : w.heap.size + 1 < w1.heap.size := Past.lt hb1 (by first | omega | (simp <;> omega)))
    go_ret
    exact ⟨rfl, (by repeat (first | exact Past.refl _ | assumption | refine Past.alloc ?_ _ | refine Past.drew ?_ | refine Past.drewN ?_ _ | refine Past.setCell ?_ (by first | (simp; done) | (simp <;> omega)) _ | refine Past.trans ?_ (past_over _ _) | refine Past.trans ?_ (by assumption)))⟩
  · have F := Lib.hid (bFacts hb)
    have h0x := Lib.hid F.out.2.2.2.2.1.2.1
    have h0y := Lib.hid F.out.2.2.2.2.2.2.1
    have ux : xs.sum ≤ 1000000 := by have := F.out; omega
    have uy : ys.sum ≤ 1000000 := by have := F.out; omega
    rw [show isContactF p c h s xs ys = contactF p xs ys from by simp [isContactF, hb]]
    go_enter Try.func35, Try.ntmps35
    go_wp2_with (first | (go_at_call 31; (with_reducible refine (isBoard_any _ _ _ _ _ _ _ _ _ _ _ _ _ (hx.past (by repeat (first | exact Past.refl _ | assumption | refine Past.alloc ?_ _ | refine Past.drew ?_ | refine Past.drewN ?_ _ | refine Past.setCell ?_ (by first | (simp; done) | (simp <;> omega)) _ | refine Past.trans ?_ (past_over _ _) | refine Past.trans ?_ (by assumption)))) (hy.past (by repeat (first | exact Past.refl _ | assumption | refine Past.alloc ?_ _ | refine Past.drew ?_ | refine Past.drewN ?_ _ | refine Past.setCell ?_ (by first | (simp; done) | (simp <;> omega)) _ | refine Past.trans ?_ (past_over _ _) | refine Past.trans ?_ (by assumption)))) hn hm).mono ?_); rintro e w1 ⟨rfl, hb1⟩; obtain ⟨hc1, hf1, _⟩ := hb1.cells; have hz1_0 : w.heap.size < w1.heap.size := Past.lt hb1 (by first | omega | (simp <;> omega)); have hz1_1 : w.heap.size + 1 < w1.heap.size := Past.lt hb1 (by first | omega | (simp <;> omega))) | (go_at_call 79; (with_reducible refine (hasContact_any _ _ _ _ _ _ _ _ _ _ _ _ _ (hx.past (by repeat (first | exact Past.refl _ | assumption | refine Past.alloc ?_ _ | refine Past.drew ?_ | refine Past.drewN ?_ _ | refine Past.setCell ?_ (by first | (simp; done) | (simp <;> omega)) _ | refine Past.trans ?_ (past_over _ _) | refine Past.trans ?_ (by assumption)))) (hy.past (by repeat (first | exact Past.refl _ | assumption | refine Past.alloc ?_ _ | refine Past.drew ?_ | refine Past.drewN ?_ _ | refine Past.setCell ?_ (by first | (simp; done) | (simp <;> omega)) _ | refine Past.trans ?_ (past_over _ _) | refine Past.trans ?_ (by assumption)))) hn hm h0x h0y ux uy).mono ?_); rintro e w2 ⟨rfl, hb2⟩; obtain ⟨hc2, hf2, _⟩ := hb2.cells))
    go_ret
    exact ⟨rfl, (by repeat (first | exact Past.refl _ | assumption | refine Past.alloc ?_ _ | refine Past.drew ?_ | refine Past.drewN ?_ _ | refine Past.setCell ?_ (by first | (simp; done) | (simp <;> omega)) _ | refine Past.trans ?_ (past_over _ _) | refine Past.trans ?_ (by assumption)))⟩
theorem sIsContact (p c h s : Int) (A D : Option Addr) (n k m l : Nat) (xs ys : List Int) (w : World) (hx : RdI w A n xs) (hy : RdI w D m ys) (hn : n ≤ 1048576) (hm : m ≤ 1048576) :
    Calls Try.prog 36 #[.agg #[.int .i64 p, .int .i64 c, .int .i64 h, .int .i64 s], .agg #[.slice A n k, .slice D m l]] w fun e w' => e = .returned (.bool (isContactF p c h s xs ys)) ∧ Past w w' := by
  cases hb : bOk p c h s xs ys
  · rw [show isContactF p c h s xs ys = false from by simp [isContactF, hb]]
    go_enter Try.func36, Try.ntmps36
    go_wp2_with (go_at_call 26; (with_reducible refine (sIsBoard_any _ _ _ _ _ _ _ _ _ _ _ _ _ (hx.past (by repeat (first | exact Past.refl _ | assumption | refine Past.alloc ?_ _ | refine Past.drew ?_ | refine Past.drewN ?_ _ | refine Past.setCell ?_ (by first | (simp; done) | (simp <;> omega)) _ | refine Past.trans ?_ (past_over _ _) | refine Past.trans ?_ (by assumption)))) (hy.past (by repeat (first | exact Past.refl _ | assumption | refine Past.alloc ?_ _ | refine Past.drew ?_ | refine Past.drewN ?_ _ | refine Past.setCell ?_ (by first | (simp; done) | (simp <;> omega)) _ | refine Past.trans ?_ (past_over _ _) | refine Past.trans ?_ (by assumption)))) hn hm).mono ?_); rintro e w1 ⟨rfl, hb1⟩; obtain ⟨hc1, hf1, _⟩ := hb1.cells; have hz1_0 : w.heap.size < w1.heap.size := Past.lt hb1 (by first | omega | (simp <;> omega)); have hz1_1 : w.heap.size + 1 < w1.heap.size := Past.lt hb1 (by first | omega | (simp <;> omega)))
    go_ret
    exact ⟨rfl, (by repeat (first | exact Past.refl _ | assumption | refine Past.alloc ?_ _ | refine Past.drew ?_ | refine Past.drewN ?_ _ | refine Past.setCell ?_ (by first | (simp; done) | (simp <;> omega)) _ | refine Past.trans ?_ (past_over _ _) | refine Past.trans ?_ (by assumption)))⟩
  · have F := Lib.hid (bFacts hb)
    have h0x := Lib.hid F.out.2.2.2.2.1.2.1
    have h0y := Lib.hid F.out.2.2.2.2.2.2.1
    have ux : xs.sum ≤ 1000000 := by have := F.out; omega
    have uy : ys.sum ≤ 1000000 := by have := F.out; omega
    rw [show isContactF p c h s xs ys = contactF p xs ys from by simp [isContactF, hb]]
    go_enter Try.func36, Try.ntmps36
    go_wp2_with (first | (go_at_call 26; (with_reducible refine (sIsBoard_any _ _ _ _ _ _ _ _ _ _ _ _ _ (hx.past (by repeat (first | exact Past.refl _ | assumption | refine Past.alloc ?_ _ | refine Past.drew ?_ | refine Past.drewN ?_ _ | refine Past.setCell ?_ (by first | (simp; done) | (simp <;> omega)) _ | refine Past.trans ?_ (past_over _ _) | refine Past.trans ?_ (by assumption)))) (hy.past (by repeat (first | exact Past.refl _ | assumption | refine Past.alloc ?_ _ | refine Past.drew ?_ | refine Past.drewN ?_ _ | refine Past.setCell ?_ (by first | (simp; done) | (simp <;> omega)) _ | refine Past.trans ?_ (past_over _ _) | refine Past.trans ?_ (by assumption)))) hn hm).mono ?_); rintro e w1 ⟨rfl, hb1⟩; obtain ⟨hc1, hf1, _⟩ := hb1.cells; have hz1_0 : w.heap.size < w1.heap.size := Past.lt hb1 (by first | omega | (simp <;> omega)); have hz1_1 : w.heap.size + 1 < w1.heap.size := Past.lt hb1 (by first | omega | (simp <;> omega))) | (go_at_call 80; (with_reducible refine (l02Contact_any _ _ _ _ _ _ _ _ _ _ _ _ _ (hx.past (by repeat (first | exact Past.refl _ | assumption | refine Past.alloc ?_ _ | refine Past.drew ?_ | refine Past.drewN ?_ _ | refine Past.setCell ?_ (by first | (simp; done) | (simp <;> omega)) _ | refine Past.trans ?_ (past_over _ _) | refine Past.trans ?_ (by assumption)))) (hy.past (by repeat (first | exact Past.refl _ | assumption | refine Past.alloc ?_ _ | refine Past.drew ?_ | refine Past.drewN ?_ _ | refine Past.setCell ?_ (by first | (simp; done) | (simp <;> omega)) _ | refine Past.trans ?_ (past_over _ _) | refine Past.trans ?_ (by assumption)))) hn hm h0x h0y).mono ?_); rintro e w2 ⟨rfl, hb2⟩; obtain ⟨hc2, hf2, _⟩ := hb2.cells))
    go_ret
    exact ⟨rfl, (by repeat (first | exact Past.refl _ | assumption | refine Past.alloc ?_ _ | refine Past.drew ?_ | refine Past.drewN ?_ _ | refine Past.setCell ?_ (by first | (simp; done) | (simp <;> omega)) _ | refine Past.trans ?_ (past_over _ _) | refine Past.trans ?_ (by assumption)))⟩
/-- A point is open. -/
def openF (P I : Nat) (ys : List Int) : Bool := decide (ys.getD (P - 1 - I) 0 ≤ 1)
theorem openPoint (P I : Nat) (c h s : Int) (A D : Option Addr) (n k m l : Nat) (ys : List Int) (w : World) (hy : RdI w D m ys) (hI : I < P) (hm : m = P + 1) (hP : P ≤ 24) :
    Calls Try.prog 115 #[.agg #[.int .i64 (P : Int), .int .i64 c, .int .i64 h, .int .i64 s], .agg #[.slice A n k, .slice D m l], .int .i64 (I : Int)] w fun e w' => e = .returned (.bool (openF P I ys)) ∧ Past w w' := by
  have p0 : Past w ((w.alloc (.cells #[.int .i64 (P : Int), .int .i64 c, .int .i64 h, .int .i64 s] 25)).alloc (.cells #[.slice A n k, .slice D m l] 43)) := (by repeat (first | exact Past.refl _ | assumption | refine Past.alloc ?_ _ | refine Past.drew ?_ | refine Past.drewN ?_ _ | refine Past.setCell ?_ (by first | (simp; done) | (simp <;> omega)) _ | refine Past.trans ?_ (past_over _ _) | refine Past.trans ?_ (by assumption)))
  obtain ⟨b, o, y, rfl, hyj, hc⟩ := (hy.past p0).at_ (j := P - 1 - I) (by omega)
  have g1 : (P : Int) < (m : Int) := by omega
  clear p0 hm
  have E : openF P I ys = decide (y ≤ 1) := by rw [openF, getD_of hyj]
  rw [E]
  clear hyj E
  by_cases hl : y ≤ 1
  all_goals
    go_enter Try.func115, Try.ntmps115
    go_wp2
    go_ret
    exact ⟨ret_bool (by simp [hl]), (by repeat (first | exact Past.refl _ | assumption | refine Past.alloc ?_ _ | refine Past.drew ?_ | refine Past.drewN ?_ _ | refine Past.setCell ?_ (by first | (simp; done) | (simp <;> omega)) _ | refine Past.trans ?_ (past_over _ _) | refine Past.trans ?_ (by assumption)))⟩
theorem sOpenPoint (P I : Nat) (c h s : Int) (A D : Option Addr) (n k m l : Nat) (ys : List Int) (w : World) (hy : RdI w D m ys) (hI : I < P) (hm : m = P + 1) (hP : P ≤ 24) :
    Calls Try.prog 117 #[.agg #[.int .i64 (P : Int), .int .i64 c, .int .i64 h, .int .i64 s], .agg #[.slice A n k, .slice D m l], .int .i64 (I : Int)] w fun e w' => e = .returned (.bool (openF P I ys)) ∧ Past w w' := by
  have p0 : Past w ((w.alloc (.cells #[.int .i64 (P : Int), .int .i64 c, .int .i64 h, .int .i64 s] 25)).alloc (.cells #[.slice A n k, .slice D m l] 43)) := (by repeat (first | exact Past.refl _ | assumption | refine Past.alloc ?_ _ | refine Past.drew ?_ | refine Past.drewN ?_ _ | refine Past.setCell ?_ (by first | (simp; done) | (simp <;> omega)) _ | refine Past.trans ?_ (past_over _ _) | refine Past.trans ?_ (by assumption)))
  obtain ⟨b, o, y, rfl, hyj, hc⟩ := (hy.past p0).at_ (j := P - 1 - I) (by omega)
  have g1 : (P : Int) < (m : Int) := by omega
  clear p0 hm
  have E : openF P I ys = decide (y ≤ 1) := by rw [openF, getD_of hyj]
  rw [E]
  clear hyj E
  by_cases hl : y ≤ 1
  all_goals
    go_enter Try.func117, Try.ntmps117
    go_wp2
    go_ret
    exact ⟨ret_bool (by simp [hl]), (by repeat (first | exact Past.refl _ | assumption | refine Past.alloc ?_ _ | refine Past.drew ?_ | refine Past.drewN ?_ _ | refine Past.setCell ?_ (by first | (simp; done) | (simp <;> omega)) _ | refine Past.trans ?_ (past_over _ _) | refine Past.trans ?_ (by assumption)))⟩
def isOpenF (p c h s : Int) (xs ys : List Int) (i : Int) : Bool := bOk p c h s xs ys && (win i 0 (p - 1) && openF p.toNat i.toNat ys)
end Go.Proofs.Ytapocfgajkkpdaa
