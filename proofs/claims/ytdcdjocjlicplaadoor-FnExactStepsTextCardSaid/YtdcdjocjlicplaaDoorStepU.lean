/-
  Contracts: the texts of plain steps.
-/
import Derived.Test.YtdcdjocjlicplaaDoorStepT
namespace Go.Proofs.YtdcdjocjlicplaaDoor
open Go.ChangeShapes Go.WideShapes Go.ChangeAt Go.RowKit Go.Joins

/-! ### The text of a plain step -/
def fromT (p f : Int) : List UInt8 := if f < p then dec (f + 1) else [98, 97, 114]
def toT (f t d : Int) (x : Bool) : List UInt8 := if 0 ≤ t then (if x = true then dec (t + 1) ++ [42] else dec (t + 1)) else (if d = f + 1 then [111, 102, 102] else [111, 102, 102] ++ 40 :: (dec d ++ [41]))
def stTxt (p f t d : Int) (x : Bool) : List UInt8 := fromT p f ++ 47 :: toT f t d x
def stB (p f t d : Int) (x : Bool) : ByteArray := ⟨(stTxt p f t d x).toArray⟩
theorem add_ok (A B : ByteArray) (w : World) (ha : A.size ≤ 1000) (hb : B.size ≤ 1000) : (Op.stringOp .add A B).run Tryd.prog w = .ok (.string (A ++ B)) w := run_string_add_sum w A B (by omega)
theorem app_sz {A B : ByteArray} {n m : Nat} (ha : A.size ≤ n) (hb : B.size ≤ m) : (A ++ B).size ≤ n + m := by
  rw [ByteArray.size_append]; omega
set_option maxHeartbeats 4000000 in
set_option maxRecDepth 100000 in
theorem stepText_any (p c h s f t d : Int) (x : Bool) (w : World) (hp : p ≤ 24) (hs : s ≤ 6) (hx : plS p s f t d x = true) :
    Calls Tryd.prog 45 #[.agg #[.int .i64 p, .int .i64 c, .int .i64 h, .int .i64 s], .agg #[.int .i64 f, .int .i64 t, .int .i64 d, .bool x]] w fun e w' => e = .returned (.string (stB p f t d x)) ∧ Past w w' := by
  obtain ⟨b1, b2, b3⟩ := plS_yes hx
  clear hx
  have W1 : IntKind.i64.wrap (f + 1) = f + 1 := IntWalk.i64_in _ (by omega)
  have W2 : IntKind.i64.wrap (t + 1) = t + 1 := IntWalk.i64_in _ (by omega)
  have zB : (⟨#[98, 97, 114]⟩ : ByteArray).size = 3 := rfl
  have zS : (⟨#[98, 97, 114, 47]⟩ : ByteArray).size = 4 := rfl
  have zSl : (⟨#[47]⟩ : ByteArray).size = 1 := rfl
  have zO : (⟨#[111, 102, 102]⟩ : ByteArray).size = 3 := rfl
  have zSO : (⟨#[47, 111, 102, 102]⟩ : ByteArray).size = 4 := rfl
  have zT : (⟨#[42]⟩ : ByteArray).size = 1 := rfl
  have zL : (⟨#[40]⟩ : ByteArray).size = 1 := rfl
  have zR : (⟨#[41]⟩ : ByteArray).size = 1 := rfl
  have u3 := decB_size (n := d) (by omega) (by omega)
  by_cases hf : f < p
  · have u1 := decB_size (n := f + 1) (by omega) (by omega)
    by_cases h0 : 0 ≤ t
    · have u2 := decB_size (n := t + 1) (by omega) (by omega)
      have e1 : ¬ t = -1 := by omega
      cases x
      · have a0 : ∀ w : World, (Op.stringOp .add (decB (f + 1)) (⟨#[47, 111, 102, 102]⟩ : ByteArray)).run Tryd.prog w = .ok (.string (decB (f + 1) ++ (⟨#[47, 111, 102, 102]⟩ : ByteArray))) w := fun w => add_ok _ _ w (by first | omega | (simp only [ByteArray.size_append]; omega)) (by first | omega | (simp only [ByteArray.size_append]; omega))
        have a1 : ∀ w : World, (Op.stringOp .add (decB (f + 1)) (⟨#[47]⟩ : ByteArray)).run Tryd.prog w = .ok (.string (decB (f + 1) ++ (⟨#[47]⟩ : ByteArray))) w := fun w => add_ok _ _ w (by first | omega | (simp only [ByteArray.size_append]; omega)) (by first | omega | (simp only [ByteArray.size_append]; omega))
        have a2 : ∀ w : World, (Op.stringOp .add (decB (f + 1) ++ (⟨#[47]⟩ : ByteArray)) (decB (t + 1))).run Tryd.prog w = .ok (.string ((decB (f + 1) ++ (⟨#[47]⟩ : ByteArray)) ++ decB (t + 1))) w := fun w => add_ok _ _ w (by first | omega | (simp only [ByteArray.size_append]; omega)) (by first | omega | (simp only [ByteArray.size_append]; omega))
        go_enter Tryd.func45, Tryd.ntmps45
        go_wp2_with (go_at_call 61; (with_reducible refine (decimal_small _ _ (by omega) (by omega)).mono ?_); rintro e w1 ⟨rfl, rfl⟩)
        go_ret
        refine ⟨congrArg (fun z => Ending.returned (.string z)) ?_, (by repeat (first | exact Past.refl _ | assumption | refine Past.alloc ?_ _ | refine Past.drew ?_ | refine Past.drewN ?_ _ | refine Past.setCell ?_ (by first | (simp; done) | (simp <;> omega)) _ | refine Past.trans ?_ (past_over _ _) | refine Past.trans ?_ (by assumption)))⟩
        rw [stB, stTxt, fromT, if_pos (by omega), toT, if_pos (by omega), if_neg (show ¬ false = true by decide)]
        simp [decB, ByteArray.mk_append_mk]
      · have a0 : ∀ w : World, (Op.stringOp .add (decB (f + 1)) (⟨#[47, 111, 102, 102]⟩ : ByteArray)).run Tryd.prog w = .ok (.string (decB (f + 1) ++ (⟨#[47, 111, 102, 102]⟩ : ByteArray))) w := fun w => add_ok _ _ w (by first | omega | (simp only [ByteArray.size_append]; omega)) (by first | omega | (simp only [ByteArray.size_append]; omega))
        have a1 : ∀ w : World, (Op.stringOp .add (decB (f + 1)) (⟨#[47]⟩ : ByteArray)).run Tryd.prog w = .ok (.string (decB (f + 1) ++ (⟨#[47]⟩ : ByteArray))) w := fun w => add_ok _ _ w (by first | omega | (simp only [ByteArray.size_append]; omega)) (by first | omega | (simp only [ByteArray.size_append]; omega))
        have a2 : ∀ w : World, (Op.stringOp .add (decB (f + 1) ++ (⟨#[47]⟩ : ByteArray)) (decB (t + 1))).run Tryd.prog w = .ok (.string ((decB (f + 1) ++ (⟨#[47]⟩ : ByteArray)) ++ decB (t + 1))) w := fun w => add_ok _ _ w (by first | omega | (simp only [ByteArray.size_append]; omega)) (by first | omega | (simp only [ByteArray.size_append]; omega))
        have a3 : ∀ w : World, (Op.stringOp .add ((decB (f + 1) ++ (⟨#[47]⟩ : ByteArray)) ++ decB (t + 1)) (⟨#[42]⟩ : ByteArray)).run Tryd.prog w = .ok (.string (((decB (f + 1) ++ (⟨#[47]⟩ : ByteArray)) ++ decB (t + 1)) ++ (⟨#[42]⟩ : ByteArray))) w := fun w => add_ok _ _ w (by first | omega | (simp only [ByteArray.size_append]; omega)) (by first | omega | (simp only [ByteArray.size_append]; omega))
        go_enter Tryd.func45, Tryd.ntmps45
        go_wp2_with (go_at_call 61; (with_reducible refine (decimal_small _ _ (by omega) (by omega)).mono ?_); rintro e w1 ⟨rfl, rfl⟩)
        go_ret
        refine ⟨congrArg (fun z => Ending.returned (.string z)) ?_, (by repeat (first | exact Past.refl _ | assumption | refine Past.alloc ?_ _ | refine Past.drew ?_ | refine Past.drewN ?_ _ | refine Past.setCell ?_ (by first | (simp; done) | (simp <;> omega)) _ | refine Past.trans ?_ (past_over _ _) | refine Past.trans ?_ (by assumption)))⟩
        rw [stB, stTxt, fromT, if_pos (by omega), toT, if_pos (by omega), if_pos rfl]
        simp [decB, ByteArray.mk_append_mk]
    · obtain rfl : t = -1 := by omega
      have hxf : x = false := by rcases b3 with b3 | b3 <;> first | exact b3.2.1 | omega
      subst hxf
      by_cases hd : d = f + 1
      · have a0 : ∀ w : World, (Op.stringOp .add (decB (f + 1)) (⟨#[47, 111, 102, 102]⟩ : ByteArray)).run Tryd.prog w = .ok (.string (decB (f + 1) ++ (⟨#[47, 111, 102, 102]⟩ : ByteArray))) w := fun w => add_ok _ _ w (by first | omega | (simp only [ByteArray.size_append]; omega)) (by first | omega | (simp only [ByteArray.size_append]; omega))
        go_enter Tryd.func45, Tryd.ntmps45
        go_wp2_with (go_at_call 61; (with_reducible refine (decimal_small _ _ (by omega) (by omega)).mono ?_); rintro e w1 ⟨rfl, rfl⟩)
        go_ret
        refine ⟨congrArg (fun z => Ending.returned (.string z)) ?_, (by repeat (first | exact Past.refl _ | assumption | refine Past.alloc ?_ _ | refine Past.drew ?_ | refine Past.drewN ?_ _ | refine Past.setCell ?_ (by first | (simp; done) | (simp <;> omega)) _ | refine Past.trans ?_ (past_over _ _) | refine Past.trans ?_ (by assumption)))⟩
        rw [stB, stTxt, fromT, if_pos (by omega), toT, if_neg (by omega), if_pos (by omega)]
        simp [decB, ByteArray.mk_append_mk]
      · have a0 : ∀ w : World, (Op.stringOp .add (decB (f + 1)) (⟨#[47, 111, 102, 102]⟩ : ByteArray)).run Tryd.prog w = .ok (.string (decB (f + 1) ++ (⟨#[47, 111, 102, 102]⟩ : ByteArray))) w := fun w => add_ok _ _ w (by first | omega | (simp only [ByteArray.size_append]; omega)) (by first | omega | (simp only [ByteArray.size_append]; omega))
        have a1 : ∀ w : World, (Op.stringOp .add (⟨#[40]⟩ : ByteArray) (decB d)).run Tryd.prog w = .ok (.string ((⟨#[40]⟩ : ByteArray) ++ decB d)) w := fun w => add_ok _ _ w (by first | omega | (simp only [ByteArray.size_append]; omega)) (by first | omega | (simp only [ByteArray.size_append]; omega))
        have a2 : ∀ w : World, (Op.stringOp .add ((⟨#[40]⟩ : ByteArray) ++ decB d) (⟨#[41]⟩ : ByteArray)).run Tryd.prog w = .ok (.string (((⟨#[40]⟩ : ByteArray) ++ decB d) ++ (⟨#[41]⟩ : ByteArray))) w := fun w => add_ok _ _ w (by first | omega | (simp only [ByteArray.size_append]; omega)) (by first | omega | (simp only [ByteArray.size_append]; omega))
        have a3 : ∀ w : World, (Op.stringOp .add (decB (f + 1) ++ (⟨#[47, 111, 102, 102]⟩ : ByteArray)) (((⟨#[40]⟩ : ByteArray) ++ decB d) ++ (⟨#[41]⟩ : ByteArray))).run Tryd.prog w = .ok (.string ((decB (f + 1) ++ (⟨#[47, 111, 102, 102]⟩ : ByteArray)) ++ (((⟨#[40]⟩ : ByteArray) ++ decB d) ++ (⟨#[41]⟩ : ByteArray)))) w := fun w => add_ok _ _ w (by first | omega | (simp only [ByteArray.size_append]; omega)) (by first | omega | (simp only [ByteArray.size_append]; omega))
        go_enter Tryd.func45, Tryd.ntmps45
        go_wp2_with (go_at_call 61; (with_reducible refine (decimal_small _ _ (by omega) (by omega)).mono ?_); rintro e w1 ⟨rfl, rfl⟩)
        go_ret
        refine ⟨congrArg (fun z => Ending.returned (.string z)) ?_, (by repeat (first | exact Past.refl _ | assumption | refine Past.alloc ?_ _ | refine Past.drew ?_ | refine Past.drewN ?_ _ | refine Past.setCell ?_ (by first | (simp; done) | (simp <;> omega)) _ | refine Past.trans ?_ (past_over _ _) | refine Past.trans ?_ (by assumption)))⟩
        rw [stB, stTxt, fromT, if_pos (by omega), toT, if_neg (by omega), if_neg (by omega)]
        simp [decB, ByteArray.mk_append_mk]
  · obtain rfl : f = p := by omega
    by_cases h0 : 0 ≤ t
    · have u2 := decB_size (n := t + 1) (by omega) (by omega)
      have e1 : ¬ t = -1 := by omega
      cases x
      · have a0 : ∀ w : World, (Op.stringOp .add (⟨#[98, 97, 114]⟩ : ByteArray) (⟨#[47, 111, 102, 102]⟩ : ByteArray)).run Tryd.prog w = .ok (.string ((⟨#[98, 97, 114]⟩ : ByteArray) ++ (⟨#[47, 111, 102, 102]⟩ : ByteArray))) w := fun w => add_ok _ _ w (by first | omega | (simp only [ByteArray.size_append]; omega)) (by first | omega | (simp only [ByteArray.size_append]; omega))
        have a1 : ∀ w : World, (Op.stringOp .add (⟨#[98, 97, 114]⟩ : ByteArray) (⟨#[47]⟩ : ByteArray)).run Tryd.prog w = .ok (.string ((⟨#[98, 97, 114]⟩ : ByteArray) ++ (⟨#[47]⟩ : ByteArray))) w := fun w => add_ok _ _ w (by first | omega | (simp only [ByteArray.size_append]; omega)) (by first | omega | (simp only [ByteArray.size_append]; omega))
        have a2 : ∀ w : World, (Op.stringOp .add ((⟨#[98, 97, 114]⟩ : ByteArray) ++ (⟨#[47]⟩ : ByteArray)) (decB (t + 1))).run Tryd.prog w = .ok (.string (((⟨#[98, 97, 114]⟩ : ByteArray) ++ (⟨#[47]⟩ : ByteArray)) ++ decB (t + 1))) w := fun w => add_ok _ _ w (by first | omega | (simp only [ByteArray.size_append]; omega)) (by first | omega | (simp only [ByteArray.size_append]; omega))
        go_enter Tryd.func45, Tryd.ntmps45
        go_wp2_with (go_at_call 61; (with_reducible refine (decimal_small _ _ (by omega) (by omega)).mono ?_); rintro e w1 ⟨rfl, rfl⟩)
        go_ret
        refine ⟨congrArg (fun z => Ending.returned (.string z)) ?_, (by repeat (first | exact Past.refl _ | assumption | refine Past.alloc ?_ _ | refine Past.drew ?_ | refine Past.drewN ?_ _ | refine Past.setCell ?_ (by first | (simp; done) | (simp <;> omega)) _ | refine Past.trans ?_ (past_over _ _) | refine Past.trans ?_ (by assumption)))⟩
        rw [stB, stTxt, fromT, if_neg (by omega), toT, if_pos (by omega), if_neg (show ¬ false = true by decide)]
        simp [decB, ByteArray.mk_append_mk]
      · have a0 : ∀ w : World, (Op.stringOp .add (⟨#[98, 97, 114]⟩ : ByteArray) (⟨#[47, 111, 102, 102]⟩ : ByteArray)).run Tryd.prog w = .ok (.string ((⟨#[98, 97, 114]⟩ : ByteArray) ++ (⟨#[47, 111, 102, 102]⟩ : ByteArray))) w := fun w => add_ok _ _ w (by first | omega | (simp only [ByteArray.size_append]; omega)) (by first | omega | (simp only [ByteArray.size_append]; omega))
        have a1 : ∀ w : World, (Op.stringOp .add (⟨#[98, 97, 114]⟩ : ByteArray) (⟨#[47]⟩ : ByteArray)).run Tryd.prog w = .ok (.string ((⟨#[98, 97, 114]⟩ : ByteArray) ++ (⟨#[47]⟩ : ByteArray))) w := fun w => add_ok _ _ w (by first | omega | (simp only [ByteArray.size_append]; omega)) (by first | omega | (simp only [ByteArray.size_append]; omega))
        have a2 : ∀ w : World, (Op.stringOp .add ((⟨#[98, 97, 114]⟩ : ByteArray) ++ (⟨#[47]⟩ : ByteArray)) (decB (t + 1))).run Tryd.prog w = .ok (.string (((⟨#[98, 97, 114]⟩ : ByteArray) ++ (⟨#[47]⟩ : ByteArray)) ++ decB (t + 1))) w := fun w => add_ok _ _ w (by first | omega | (simp only [ByteArray.size_append]; omega)) (by first | omega | (simp only [ByteArray.size_append]; omega))
        have a3 : ∀ w : World, (Op.stringOp .add (((⟨#[98, 97, 114]⟩ : ByteArray) ++ (⟨#[47]⟩ : ByteArray)) ++ decB (t + 1)) (⟨#[42]⟩ : ByteArray)).run Tryd.prog w = .ok (.string ((((⟨#[98, 97, 114]⟩ : ByteArray) ++ (⟨#[47]⟩ : ByteArray)) ++ decB (t + 1)) ++ (⟨#[42]⟩ : ByteArray))) w := fun w => add_ok _ _ w (by first | omega | (simp only [ByteArray.size_append]; omega)) (by first | omega | (simp only [ByteArray.size_append]; omega))
        go_enter Tryd.func45, Tryd.ntmps45
        go_wp2_with (go_at_call 61; (with_reducible refine (decimal_small _ _ (by omega) (by omega)).mono ?_); rintro e w1 ⟨rfl, rfl⟩)
        go_ret
        refine ⟨congrArg (fun z => Ending.returned (.string z)) ?_, (by repeat (first | exact Past.refl _ | assumption | refine Past.alloc ?_ _ | refine Past.drew ?_ | refine Past.drewN ?_ _ | refine Past.setCell ?_ (by first | (simp; done) | (simp <;> omega)) _ | refine Past.trans ?_ (past_over _ _) | refine Past.trans ?_ (by assumption)))⟩
        rw [stB, stTxt, fromT, if_neg (by omega), toT, if_pos (by omega), if_pos rfl]
        simp [decB, ByteArray.mk_append_mk]
    · omega
set_option maxHeartbeats 4000000 in
set_option maxRecDepth 100000 in
theorem l06Step_any (p c h s f t d : Int) (x : Bool) (w : World) (hp : p ≤ 24) (hs : s ≤ 6) (hx : plS p s f t d x = true) :
    Calls Tryd.prog 43 #[.agg #[.int .i64 p, .int .i64 c, .int .i64 h, .int .i64 s], .agg #[.int .i64 f, .int .i64 t, .int .i64 d, .bool x]] w fun e w' => e = .returned (.string (stB p f t d x)) ∧ Past w w' := by
  obtain ⟨b1, b2, b3⟩ := plS_yes hx
  clear hx
  have W1 : IntKind.i64.wrap (f + 1) = f + 1 := IntWalk.i64_in _ (by omega)
  have W2 : IntKind.i64.wrap (t + 1) = t + 1 := IntWalk.i64_in _ (by omega)
  have zB : (⟨#[98, 97, 114]⟩ : ByteArray).size = 3 := rfl
  have zS : (⟨#[98, 97, 114, 47]⟩ : ByteArray).size = 4 := rfl
  have zSl : (⟨#[47]⟩ : ByteArray).size = 1 := rfl
  have zO : (⟨#[111, 102, 102]⟩ : ByteArray).size = 3 := rfl
  have zSO : (⟨#[47, 111, 102, 102]⟩ : ByteArray).size = 4 := rfl
  have zT : (⟨#[42]⟩ : ByteArray).size = 1 := rfl
  have zL : (⟨#[40]⟩ : ByteArray).size = 1 := rfl
  have zR : (⟨#[41]⟩ : ByteArray).size = 1 := rfl
  have u3 := decB_size (n := d) (by omega) (by omega)
  by_cases hf : f < p
  · have u1 := decB_size (n := f + 1) (by omega) (by omega)
    by_cases h0 : 0 ≤ t
    · have u2 := decB_size (n := t + 1) (by omega) (by omega)
      have e1 : ¬ t = -1 := by omega
      cases x
      · have a0 : ∀ w : World, (Op.stringOp .add (decB (f + 1)) (⟨#[47]⟩ : ByteArray)).run Tryd.prog w = .ok (.string (decB (f + 1) ++ (⟨#[47]⟩ : ByteArray))) w := fun w => add_ok _ _ w (by first | omega | (simp only [ByteArray.size_append]; omega)) (by first | omega | (simp only [ByteArray.size_append]; omega))
        have a1 : ∀ w : World, (Op.stringOp .add (decB (f + 1) ++ (⟨#[47]⟩ : ByteArray)) (decB (t + 1))).run Tryd.prog w = .ok (.string ((decB (f + 1) ++ (⟨#[47]⟩ : ByteArray)) ++ decB (t + 1))) w := fun w => add_ok _ _ w (by first | omega | (simp only [ByteArray.size_append]; omega)) (by first | omega | (simp only [ByteArray.size_append]; omega))
        go_enter Tryd.func43, Tryd.ntmps43
        go_wp2_with (go_at_call 40; (with_reducible refine (l01Number_any _ _ (by omega) (by omega)).mono ?_); rintro e w1 ⟨rfl, hb1⟩; obtain ⟨hc1, hf1, _⟩ := hb1.cells; have hz1_0 : w.heap.size < w1.heap.size := Past.lt hb1 (by first | omega | (simp <;> omega)); have hz1_1 : w.heap.size + 1 < w1.heap.size := Past.lt hb1 (by first | omega | (simp <;> omega)))
        go_ret
        refine ⟨congrArg (fun z => Ending.returned (.string z)) ?_, (by repeat (first | exact Past.refl _ | assumption | refine Past.alloc ?_ _ | refine Past.drew ?_ | refine Past.drewN ?_ _ | refine Past.setCell ?_ (by first | (simp; done) | (simp <;> omega)) _ | refine Past.trans ?_ (past_over _ _) | refine Past.trans ?_ (by assumption)))⟩
        rw [stB, stTxt, fromT, if_pos (by omega), toT, if_pos (by omega), if_neg (show ¬ false = true by decide)]
        simp [decB, ByteArray.mk_append_mk]
      · have a0 : ∀ w : World, (Op.stringOp .add (decB (f + 1)) (⟨#[47]⟩ : ByteArray)).run Tryd.prog w = .ok (.string (decB (f + 1) ++ (⟨#[47]⟩ : ByteArray))) w := fun w => add_ok _ _ w (by first | omega | (simp only [ByteArray.size_append]; omega)) (by first | omega | (simp only [ByteArray.size_append]; omega))
        have a1 : ∀ w : World, (Op.stringOp .add (decB (f + 1) ++ (⟨#[47]⟩ : ByteArray)) (decB (t + 1))).run Tryd.prog w = .ok (.string ((decB (f + 1) ++ (⟨#[47]⟩ : ByteArray)) ++ decB (t + 1))) w := fun w => add_ok _ _ w (by first | omega | (simp only [ByteArray.size_append]; omega)) (by first | omega | (simp only [ByteArray.size_append]; omega))
        have a2 : ∀ w : World, (Op.stringOp .add ((decB (f + 1) ++ (⟨#[47]⟩ : ByteArray)) ++ decB (t + 1)) (⟨#[42]⟩ : ByteArray)).run Tryd.prog w = .ok (.string (((decB (f + 1) ++ (⟨#[47]⟩ : ByteArray)) ++ decB (t + 1)) ++ (⟨#[42]⟩ : ByteArray))) w := fun w => add_ok _ _ w (by first | omega | (simp only [ByteArray.size_append]; omega)) (by first | omega | (simp only [ByteArray.size_append]; omega))
        go_enter Tryd.func43, Tryd.ntmps43
        go_wp2_with (go_at_call 40; (with_reducible refine (l01Number_any _ _ (by omega) (by omega)).mono ?_); rintro e w1 ⟨rfl, hb1⟩; obtain ⟨hc1, hf1, _⟩ := hb1.cells; have hz1_0 : w.heap.size < w1.heap.size := Past.lt hb1 (by first | omega | (simp <;> omega)); have hz1_1 : w.heap.size + 1 < w1.heap.size := Past.lt hb1 (by first | omega | (simp <;> omega)))
        go_ret
        refine ⟨congrArg (fun z => Ending.returned (.string z)) ?_, (by repeat (first | exact Past.refl _ | assumption | refine Past.alloc ?_ _ | refine Past.drew ?_ | refine Past.drewN ?_ _ | refine Past.setCell ?_ (by first | (simp; done) | (simp <;> omega)) _ | refine Past.trans ?_ (past_over _ _) | refine Past.trans ?_ (by assumption)))⟩
        rw [stB, stTxt, fromT, if_pos (by omega), toT, if_pos (by omega), if_pos rfl]
        simp [decB, ByteArray.mk_append_mk]
    · obtain rfl : t = -1 := by omega
      have hxf : x = false := by rcases b3 with b3 | b3 <;> first | exact b3.2.1 | omega
      subst hxf
      by_cases hd : d = f + 1
      · have a0 : ∀ w : World, (Op.stringOp .add (decB (f + 1)) (⟨#[47]⟩ : ByteArray)).run Tryd.prog w = .ok (.string (decB (f + 1) ++ (⟨#[47]⟩ : ByteArray))) w := fun w => add_ok _ _ w (by first | omega | (simp only [ByteArray.size_append]; omega)) (by first | omega | (simp only [ByteArray.size_append]; omega))
        have a1 : ∀ w : World, (Op.stringOp .add (decB (f + 1) ++ (⟨#[47]⟩ : ByteArray)) (⟨#[111, 102, 102]⟩ : ByteArray)).run Tryd.prog w = .ok (.string ((decB (f + 1) ++ (⟨#[47]⟩ : ByteArray)) ++ (⟨#[111, 102, 102]⟩ : ByteArray))) w := fun w => add_ok _ _ w (by first | omega | (simp only [ByteArray.size_append]; omega)) (by first | omega | (simp only [ByteArray.size_append]; omega))
        go_enter Tryd.func43, Tryd.ntmps43
        go_wp2_with (go_at_call 40; (with_reducible refine (l01Number_any _ _ (by omega) (by omega)).mono ?_); rintro e w1 ⟨rfl, hb1⟩; obtain ⟨hc1, hf1, _⟩ := hb1.cells; have hz1_0 : w.heap.size < w1.heap.size := Past.lt hb1 (by first | omega | (simp <;> omega)); have hz1_1 : w.heap.size + 1 < w1.heap.size := Past.lt hb1 (by first | omega | (simp <;> omega)))
        go_ret
        refine ⟨congrArg (fun z => Ending.returned (.string z)) ?_, (by repeat (first | exact Past.refl _ | assumption | refine Past.alloc ?_ _ | refine Past.drew ?_ | refine Past.drewN ?_ _ | refine Past.setCell ?_ (by first | (simp; done) | (simp <;> omega)) _ | refine Past.trans ?_ (past_over _ _) | refine Past.trans ?_ (by assumption)))⟩
        rw [stB, stTxt, fromT, if_pos (by omega), toT, if_neg (by omega), if_pos (by omega)]
        simp [decB, ByteArray.mk_append_mk]
      · have a0 : ∀ w : World, (Op.stringOp .add (decB (f + 1)) (⟨#[47]⟩ : ByteArray)).run Tryd.prog w = .ok (.string (decB (f + 1) ++ (⟨#[47]⟩ : ByteArray))) w := fun w => add_ok _ _ w (by first | omega | (simp only [ByteArray.size_append]; omega)) (by first | omega | (simp only [ByteArray.size_append]; omega))
        have a1 : ∀ w : World, (Op.stringOp .add (decB (f + 1) ++ (⟨#[47]⟩ : ByteArray)) (⟨#[111, 102, 102]⟩ : ByteArray)).run Tryd.prog w = .ok (.string ((decB (f + 1) ++ (⟨#[47]⟩ : ByteArray)) ++ (⟨#[111, 102, 102]⟩ : ByteArray))) w := fun w => add_ok _ _ w (by first | omega | (simp only [ByteArray.size_append]; omega)) (by first | omega | (simp only [ByteArray.size_append]; omega))
        have a2 : ∀ w : World, (Op.stringOp .add ((decB (f + 1) ++ (⟨#[47]⟩ : ByteArray)) ++ (⟨#[111, 102, 102]⟩ : ByteArray)) (⟨#[40]⟩ : ByteArray)).run Tryd.prog w = .ok (.string (((decB (f + 1) ++ (⟨#[47]⟩ : ByteArray)) ++ (⟨#[111, 102, 102]⟩ : ByteArray)) ++ (⟨#[40]⟩ : ByteArray))) w := fun w => add_ok _ _ w (by first | omega | (simp only [ByteArray.size_append]; omega)) (by first | omega | (simp only [ByteArray.size_append]; omega))
        have a3 : ∀ w : World, (Op.stringOp .add (((decB (f + 1) ++ (⟨#[47]⟩ : ByteArray)) ++ (⟨#[111, 102, 102]⟩ : ByteArray)) ++ (⟨#[40]⟩ : ByteArray)) (decB d)).run Tryd.prog w = .ok (.string ((((decB (f + 1) ++ (⟨#[47]⟩ : ByteArray)) ++ (⟨#[111, 102, 102]⟩ : ByteArray)) ++ (⟨#[40]⟩ : ByteArray)) ++ decB d)) w := fun w => add_ok _ _ w (by first | omega | (simp only [ByteArray.size_append]; omega)) (by first | omega | (simp only [ByteArray.size_append]; omega))
        have a4 : ∀ w : World, (Op.stringOp .add ((((decB (f + 1) ++ (⟨#[47]⟩ : ByteArray)) ++ (⟨#[111, 102, 102]⟩ : ByteArray)) ++ (⟨#[40]⟩ : ByteArray)) ++ decB d) (⟨#[41]⟩ : ByteArray)).run Tryd.prog w = .ok (.string (((((decB (f + 1) ++ (⟨#[47]⟩ : ByteArray)) ++ (⟨#[111, 102, 102]⟩ : ByteArray)) ++ (⟨#[40]⟩ : ByteArray)) ++ decB d) ++ (⟨#[41]⟩ : ByteArray))) w := fun w => add_ok _ _ w (by first | omega | (simp only [ByteArray.size_append]; omega)) (by first | omega | (simp only [ByteArray.size_append]; omega))
        go_enter Tryd.func43, Tryd.ntmps43
        go_wp2_with (go_at_call 40; (with_reducible refine (l01Number_any _ _ (by omega) (by omega)).mono ?_); rintro e w1 ⟨rfl, hb1⟩; obtain ⟨hc1, hf1, _⟩ := hb1.cells; have hz1_0 : w.heap.size < w1.heap.size := Past.lt hb1 (by first | omega | (simp <;> omega)); have hz1_1 : w.heap.size + 1 < w1.heap.size := Past.lt hb1 (by first | omega | (simp <;> omega)))
        go_ret
        refine ⟨congrArg (fun z => Ending.returned (.string z)) ?_, (by repeat (first | exact Past.refl _ | assumption | refine Past.alloc ?_ _ | refine Past.drew ?_ | refine Past.drewN ?_ _ | refine Past.setCell ?_ (by first | (simp; done) | (simp <;> omega)) _ | refine Past.trans ?_ (past_over _ _) | refine Past.trans ?_ (by assumption)))⟩
        rw [stB, stTxt, fromT, if_pos (by omega), toT, if_neg (by omega), if_neg (by omega)]
        simp [decB, ByteArray.mk_append_mk]
  · obtain rfl : f = p := by omega
    by_cases h0 : 0 ≤ t
    · have u2 := decB_size (n := t + 1) (by omega) (by omega)
      have e1 : ¬ t = -1 := by omega
      cases x
      · have a0 : ∀ w : World, (Op.stringOp .add (⟨#[98, 97, 114, 47]⟩ : ByteArray) (decB (t + 1))).run Tryd.prog w = .ok (.string ((⟨#[98, 97, 114, 47]⟩ : ByteArray) ++ decB (t + 1))) w := fun w => add_ok _ _ w (by first | omega | (simp only [ByteArray.size_append]; omega)) (by first | omega | (simp only [ByteArray.size_append]; omega))
        go_enter Tryd.func43, Tryd.ntmps43
        go_wp2_with (go_at_call 40; (with_reducible refine (l01Number_any _ _ (by omega) (by omega)).mono ?_); rintro e w1 ⟨rfl, hb1⟩; obtain ⟨hc1, hf1, _⟩ := hb1.cells; have hz1_0 : w.heap.size < w1.heap.size := Past.lt hb1 (by first | omega | (simp <;> omega)); have hz1_1 : w.heap.size + 1 < w1.heap.size := Past.lt hb1 (by first | omega | (simp <;> omega)))
        go_ret
        refine ⟨congrArg (fun z => Ending.returned (.string z)) ?_, (by repeat (first | exact Past.refl _ | assumption | refine Past.alloc ?_ _ | refine Past.drew ?_ | refine Past.drewN ?_ _ | refine Past.setCell ?_ (by first | (simp; done) | (simp <;> omega)) _ | refine Past.trans ?_ (past_over _ _) | refine Past.trans ?_ (by assumption)))⟩
        rw [stB, stTxt, fromT, if_neg (by omega), toT, if_pos (by omega), if_neg (show ¬ false = true by decide)]
        simp [decB, ByteArray.mk_append_mk]
      · have a0 : ∀ w : World, (Op.stringOp .add (⟨#[98, 97, 114, 47]⟩ : ByteArray) (decB (t + 1))).run Tryd.prog w = .ok (.string ((⟨#[98, 97, 114, 47]⟩ : ByteArray) ++ decB (t + 1))) w := fun w => add_ok _ _ w (by first | omega | (simp only [ByteArray.size_append]; omega)) (by first | omega | (simp only [ByteArray.size_append]; omega))
        have a1 : ∀ w : World, (Op.stringOp .add ((⟨#[98, 97, 114, 47]⟩ : ByteArray) ++ decB (t + 1)) (⟨#[42]⟩ : ByteArray)).run Tryd.prog w = .ok (.string (((⟨#[98, 97, 114, 47]⟩ : ByteArray) ++ decB (t + 1)) ++ (⟨#[42]⟩ : ByteArray))) w := fun w => add_ok _ _ w (by first | omega | (simp only [ByteArray.size_append]; omega)) (by first | omega | (simp only [ByteArray.size_append]; omega))
        go_enter Tryd.func43, Tryd.ntmps43
        go_wp2_with (go_at_call 40; (with_reducible refine (l01Number_any _ _ (by omega) (by omega)).mono ?_); rintro e w1 ⟨rfl, hb1⟩; obtain ⟨hc1, hf1, _⟩ := hb1.cells; have hz1_0 : w.heap.size < w1.heap.size := Past.lt hb1 (by first | omega | (simp <;> omega)); have hz1_1 : w.heap.size + 1 < w1.heap.size := Past.lt hb1 (by first | omega | (simp <;> omega)))
        go_ret
        refine ⟨congrArg (fun z => Ending.returned (.string z)) ?_, (by repeat (first | exact Past.refl _ | assumption | refine Past.alloc ?_ _ | refine Past.drew ?_ | refine Past.drewN ?_ _ | refine Past.setCell ?_ (by first | (simp; done) | (simp <;> omega)) _ | refine Past.trans ?_ (past_over _ _) | refine Past.trans ?_ (by assumption)))⟩
        rw [stB, stTxt, fromT, if_neg (by omega), toT, if_pos (by omega), if_pos rfl]
        simp [decB, ByteArray.mk_append_mk]
    · omega
end Go.Proofs.YtdcdjocjlicplaaDoor
