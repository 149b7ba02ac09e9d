/-
  Contracts: the points with exactly one checker.
-/
import Derived.Test.YtapocfgajkkpdaaOwn
import Derived.Test.YtapocfgajkkpdaaLook
import Derived.Maps.AppendAt
namespace Go.Proofs.Ytapocfgajkkpdaa
open Go.ChangeShapes Go.WideShapes Go.ChangeAt Go.RowKit Go.Joins

/-- A list handed back in new memory (nil where it is empty), and a code. -/
def RowCode (w : World) (L : List Int) (code : Int) (e : Ending) (w' : World) : Prop :=
  ∃ A k, e = .returned (.tuple #[.slice A L.length k, .int .i64 code]) ∧ OwI w.heap.size w' A L.length k L ∧ Past w w'
/-- The points below j with exactly one checker. -/
def blotsTo (xs : List Int) : Nat → List Int
  | 0 => []
  | j + 1 => if xs.getD j 0 = 1 then blotsTo xs j ++ [(j : Int)] else blotsTo xs j
theorem blotsTo_yes {xs : List Int} {j : Nat} {x : Int} (hx : xs[j]? = some x) (h : x = 1) : blotsTo xs (j + 1) = blotsTo xs j ++ [(j : Int)] := by
  rw [blotsTo, getD_of hx, if_pos h]
theorem blotsTo_no {xs : List Int} {j : Nat} {x : Int} (hx : xs[j]? = some x) (h : ¬ x = 1) : blotsTo xs (j + 1) = blotsTo xs j := by
  rw [blotsTo, getD_of hx, if_neg h]
theorem blotsTo_le (xs : List Int) (j : Nat) : (blotsTo xs j).length ≤ j := by
  induction j with
  | zero => simp [blotsTo]
  | succ j ih =>
    unfold blotsTo
    split
    · simp; omega
    · omega
theorem past_grown {W w w' : World} {base size n : Nat} {e : TypeId} {v : Value} {L : List Value} (h : Past W w) (ho : w.ownsRow base e size v n L) (hW : W.heap.size ≤ base) (hg : w.grownBy w' v.ownBlock) : Past W w' := by
  refine Below.grown h hg h.size fun k hk => ?_
  rcases ho.2 with ⟨rfl, _⟩ | ⟨g, cap, cur, rfl, hb, _⟩
  · simp [Value.ownBlock] at hk
  · simp [Value.ownBlock] at hk
    omega
/-- One number more at the end of a row of the call's own. -/
theorem own_push {base : Nat} {w' : World} {n : Nat} {L : List Int} {v' : Value} {x : Int} (hn : L.length = n)
    (h : w'.ownsRow base 2 1 v' (n + 1) (L.map (Value.int .i64) ++ [.int .i64 x])) (hnil : v' ≠ .slice none 0 0) :
    ∃ A' k', v' = .slice A' (L ++ [x]).length k' ∧ OwI base w' A' (L ++ [x]).length k' (L ++ [x]) := by
  have e : (L ++ [x]).length = n + 1 := by simp [hn]
  rw [e]
  obtain ⟨g, k', rfl, ho⟩ := own_shape (xs := L ++ [x]) (by simpa using h) hnil
  exact ⟨_, _, rfl, ho⟩
theorem blots_no (p c h s : Int) (A D : Option Addr) (n k m l : Nat) (xs ys : List Int) (w : World) (hx : RdI w A n xs) (hy : RdI w D m ys) (hn : n ≤ 1048576) (hm : m ≤ 1048576) (hb : Hid (bOk p c h s xs ys = false)) :
    Calls Try.prog 60 #[.agg #[.int .i64 p, .int .i64 c, .int .i64 h, .int .i64 s], .agg #[.slice A n k, .slice D m l]] w (RowCode w [] 1) := by
  have hb' := hb.out
  go_enter Try.func60, Try.ntmps60
  go_wp2_with (go_at_call 31; (with_reducible refine (isBoard_any _ _ _ _ _ _ _ _ _ _ _ _ _ (hx.past (by repeat (first | exact Past.refl _ | assumption | refine Past.alloc ?_ _ | refine Past.drew ?_ | refine Past.drewN ?_ _ | refine Past.setCell ?_ (by first | (simp; done) | (simp <;> omega)) _ | refine Past.trans ?_ (past_over _ _) | refine Past.trans ?_ (by assumption)))) (hy.past (by repeat (first | exact Past.refl _ | assumption | refine Past.alloc ?_ _ | refine Past.drew ?_ | refine Past.drewN ?_ _ | refine Past.setCell ?_ (by first | (simp; done) | (simp <;> omega)) _ | refine Past.trans ?_ (past_over _ _) | refine Past.trans ?_ (by assumption)))) hn hm).mono ?_); rintro e w1 ⟨rfl, hb1⟩; obtain ⟨hc1, hf1, _⟩ := hb1.cells; have hz1_0 : w.heap.size < w1.heap.size := Past.lt hb1 (by first | omega | (simp <;> omega)); have hz1_1 : w.heap.size + 1 < w1.heap.size := Past.lt hb1 (by first | omega | (simp <;> omega)))
  go_ret2
  first
  | exact ⟨none, 0, rfl, World.ownsRow_nil _ _ _ _, (by repeat (first | exact Past.refl _ | assumption | refine Past.alloc ?_ _ | refine Past.drew ?_ | refine Past.drewN ?_ _ | refine Past.setCell ?_ (by first | (simp; done) | (simp <;> omega)) _ | refine Past.trans ?_ (past_over _ _) | refine Past.trans ?_ (by assumption)))⟩
  | exact ⟨some ⟨w1.heap.size, 0, none⟩, 0, rfl, World.ownsRow_lit w1 #[] 0 (Nat.le_trans (by first | omega | (simp <;> omega)) hb1.size) (Nat.zero_le _) rfl, (by repeat (first | exact Past.refl _ | assumption | refine Past.alloc ?_ _ | refine Past.drew ?_ | refine Past.drewN ?_ _ | refine Past.setCell ?_ (by first | (simp; done) | (simp <;> omega)) _ | refine Past.trans ?_ (past_over _ _) | refine Past.trans ?_ (by assumption)))⟩
theorem blots_yes (p c h s : Int) (A D : Option Addr) (n k m l : Nat) (xs ys : List Int) (w : World) (hx : RdI w A n xs) (hy : RdI w D m ys) (hn : n ≤ 1048576) (hm : m ≤ 1048576) (hb : Hid (bOk p c h s xs ys = true)) :
    Calls Try.prog 60 #[.agg #[.int .i64 p, .int .i64 c, .int .i64 h, .int .i64 s], .agg #[.slice A n k, .slice D m l]] w (RowCode w (blotsTo xs p.toNat) 0) := by
  have hb' := hb.out
  have F := Lib.hid (bFacts hb')
  obtain ⟨i0, hi, hz0, hz1, hz2⟩ := info_parts infoI
  have hp1 : 2 ≤ p := by have := F.out; omega
  have hp2 : p ≤ 24 := by have := F.out; omega
  obtain ⟨P, rfl⟩ := Int.eq_ofNat_of_zero_le (show 0 ≤ p from by omega)
  have g1 : (P : Int) < (n : Int) := by have := F.out.2.2.2.2.1.1; have := hx.1; omega
  rw [Int.toNat_natCast]
  go_enter Try.func60, Try.ntmps60
  go_wp2_with (go_at_call 31; (with_reducible refine (isBoard_any _ _ _ _ _ _ _ _ _ _ _ _ _ (hx.past (by repeat (first | exact Past.refl _ | assumption | refine Past.alloc ?_ _ | refine Past.drew ?_ | refine Past.drewN ?_ _ | refine Past.setCell ?_ (by first | (simp; done) | (simp <;> omega)) _ | refine Past.trans ?_ (past_over _ _) | refine Past.trans ?_ (by assumption)))) (hy.past (by repeat (first | exact Past.refl _ | assumption | refine Past.alloc ?_ _ | refine Past.drew ?_ | refine Past.drewN ?_ _ | refine Past.setCell ?_ (by first | (simp; done) | (simp <;> omega)) _ | refine Past.trans ?_ (past_over _ _) | refine Past.trans ?_ (by assumption)))) hn hm).mono ?_); rintro e w1 ⟨rfl, hb1⟩; obtain ⟨hc1, hf1, _⟩ := hb1.cells; have hz1_0 : w.heap.size < w1.heap.size := Past.lt hb1 (by first | omega | (simp <;> omega)); have hz1_1 : w.heap.size + 1 < w1.heap.size := Past.lt hb1 (by first | omega | (simp <;> omega)))
  go_loopw [6, 14] (fun v i wr => ∃ (j : Nat) (A' : Option Addr) (k' : Nat), j ≤ P ∧ i = .int .i64 j ∧ v = .slice A' (blotsTo xs j).length k' ∧ OwI w1.heap.size wr A' (blotsTo xs j).length k' (blotsTo xs j) ∧ Past w1 wr) (fun _ i _ => P - (intOf i).toNat)
  case atStart =>
    first
    | exact ⟨0, none, 0, Nat.zero_le _, rfl, rfl, World.ownsRow_nil _ _ _ _, Past.refl _⟩
    | exact ⟨0, some ⟨w1.heap.size, 0, none⟩, 0, Nat.zero_le _, rfl, rfl, World.ownsRow_lit w1 #[] 0 (Nat.le_refl _) (Nat.zero_le _) rfl, (Past.refl _).alloc _⟩
  case round =>
    obtain ⟨j, A', k', hj, rfl, rfl, hown, hpast⟩ := hrel
    have hp0 : Past w wr := (by repeat (first | exact Past.refl _ | assumption | refine Past.alloc ?_ _ | refine Past.drew ?_ | refine Past.drewN ?_ _ | refine Past.setCell ?_ (by first | (simp; done) | (simp <;> omega)) _ | refine Past.trans ?_ (past_over _ _) | refine Past.trans ?_ (by assumption)))
    have hxr := hx.past hp0
    obtain ⟨hcr, hfr, _⟩ := hpast.cells
    by_cases hlt : j < P
    · obtain ⟨b, o, x, rfl, hxj, hcell⟩ := hxr.at_ (j := j) (by omega)
      have HX := Lib.hid hxj
      clear hxj
      have hle := blotsTo_le xs j
      by_cases h1 : x = 1
      · have E := Lib.hid (blotsTo_yes HX.out h1)
        have hbeq : (x == 1) = true := beq_iff_eq.2 h1
        clear h1
        go_wp2_with (at_builtin; refine wpList_append_own _ rfl _ _ 28 rfl w1.heap.size 2 i0 (.int .i64 0) 1 8 Try.underlying28 hi hz0 hz1 hz2 rfl (by decide) _ (blotsTo xs j).length ((blotsTo xs j).map (Value.int .i64)) rfl (World.ownsRow.alloc hown _) ⟨wr.heap.size, 0, none⟩ 1 1 [.int .i64 (j : Int)] rfl rfl (cell_one_new _ _ _) (by intro u hu; simp at hu; subst hu; rfl) (by unfold maxLen; omega) (by omega) (Nat.le_trans hpast.size (by simp)) ?_; intro v2 w2 hown2 hg2 hiff)
        have hp2 : Past w1 w2 := past_grown (hpast.alloc _) (World.ownsRow.alloc hown _) (Nat.le_refl _) hg2
        obtain ⟨A2, k2, rfl, ho2⟩ := own_push rfl hown2 (fun h => absurd (hiff.1 h).2 (by decide))
        rw [← E.out] at ho2
        have e2 : (blotsTo xs j ++ [(j : Int)]).length = (blotsTo xs (j + 1)).length := by rw [E.out]
        rw [e2]
        clear e2 hown2 hg2 hiff hown
        go_wp2
        go_roundw
        case rel => exact ⟨j + 1, A2, k2, by omega, by go_num, rfl, ho2, hp2⟩
        case measure => simp [intOf]; omega
      · have E := Lib.hid (blotsTo_no HX.out h1)
        have hbeq : (x == 1) = false := beq_eq_false_iff_ne.2 h1
        clear h1
        go_wp2
        go_roundw
        case rel => exact ⟨j + 1, A', k', by omega, by go_num, by rw [E.out], by rw [E.out]; exact hown, hpast⟩
        case measure => simp [intOf]; omega
    · obtain rfl : j = P := by omega
      go_wp2
      go_ret2
      exact ⟨A', k', rfl, hown.less (by first | omega | (simp <;> omega)), (by repeat (first | exact Past.refl _ | assumption | refine Past.alloc ?_ _ | refine Past.drew ?_ | refine Past.drewN ?_ _ | refine Past.setCell ?_ (by first | (simp; done) | (simp <;> omega)) _ | refine Past.trans ?_ (past_over _ _) | refine Past.trans ?_ (by assumption)))⟩
theorem sBlots_no (p c h s : Int) (A D : Option Addr) (n k m l : Nat) (xs ys : List Int) (w : World) (hx : RdI w A n xs) (hy : RdI w D m ys) (hn : n ≤ 1048576) (hm : m ≤ 1048576) (hb : Hid (bOk p c h s xs ys = false)) :
    Calls Try.prog 97 #[.agg #[.int .i64 p, .int .i64 c, .int .i64 h, .int .i64 s], .agg #[.slice A n k, .slice D m l]] w (RowCode w [] 1) := by
  have hb' := hb.out
  go_enter Try.func97, Try.ntmps97
  go_wp2_with (go_at_call 26; (with_reducible refine (sIsBoard_any _ _ _ _ _ _ _ _ _ _ _ _ _ (hx.past (by repeat (first | exact Past.refl _ | assumption | refine Past.alloc ?_ _ | refine Past.drew ?_ | refine Past.drewN ?_ _ | refine Past.setCell ?_ (by first | (simp; done) | (simp <;> omega)) _ | refine Past.trans ?_ (past_over _ _) | refine Past.trans ?_ (by assumption)))) (hy.past (by repeat (first | exact Past.refl _ | assumption | refine Past.alloc ?_ _ | refine Past.drew ?_ | refine Past.drewN ?_ _ | refine Past.setCell ?_ (by first | (simp; done) | (simp <;> omega)) _ | refine Past.trans ?_ (past_over _ _) | refine Past.trans ?_ (by assumption)))) hn hm).mono ?_); rintro e w1 ⟨rfl, hb1⟩; obtain ⟨hc1, hf1, _⟩ := hb1.cells; have hz1_0 : w.heap.size < w1.heap.size := Past.lt hb1 (by first | omega | (simp <;> omega)); have hz1_1 : w.heap.size + 1 < w1.heap.size := Past.lt hb1 (by first | omega | (simp <;> omega)))
  go_ret2
  first
  | exact ⟨none, 0, rfl, World.ownsRow_nil _ _ _ _, (by repeat (first | exact Past.refl _ | assumption | refine Past.alloc ?_ _ | refine Past.drew ?_ | refine Past.drewN ?_ _ | refine Past.setCell ?_ (by first | (simp; done) | (simp <;> omega)) _ | refine Past.trans ?_ (past_over _ _) | refine Past.trans ?_ (by assumption)))⟩
  | exact ⟨some ⟨w1.heap.size, 0, none⟩, 0, rfl, World.ownsRow_lit w1 #[] 0 (Nat.le_trans (by first | omega | (simp <;> omega)) hb1.size) (Nat.zero_le _) rfl, (by repeat (first | exact Past.refl _ | assumption | refine Past.alloc ?_ _ | refine Past.drew ?_ | refine Past.drewN ?_ _ | refine Past.setCell ?_ (by first | (simp; done) | (simp <;> omega)) _ | refine Past.trans ?_ (past_over _ _) | refine Past.trans ?_ (by assumption)))⟩
theorem sBlots_yes (p c h s : Int) (A D : Option Addr) (n k m l : Nat) (xs ys : List Int) (w : World) (hx : RdI w A n xs) (hy : RdI w D m ys) (hn : n ≤ 1048576) (hm : m ≤ 1048576) (hb : Hid (bOk p c h s xs ys = true)) :
    Calls Try.prog 97 #[.agg #[.int .i64 p, .int .i64 c, .int .i64 h, .int .i64 s], .agg #[.slice A n k, .slice D m l]] w (RowCode w (blotsTo xs p.toNat) 0) := by
  have hb' := hb.out
  have F := Lib.hid (bFacts hb')
  obtain ⟨i0, hi, hz0, hz1, hz2⟩ := info_parts infoI
  have hp1 : 2 ≤ p := by have := F.out; omega
  have hp2 : p ≤ 24 := by have := F.out; omega
  obtain ⟨P, rfl⟩ := Int.eq_ofNat_of_zero_le (show 0 ≤ p from by omega)
  have g1 : (P : Int) < (n : Int) := by have := F.out.2.2.2.2.1.1; have := hx.1; omega
  rw [Int.toNat_natCast]
  go_enter Try.func97, Try.ntmps97
  go_wp2_with (go_at_call 26; (with_reducible refine (sIsBoard_any _ _ _ _ _ _ _ _ _ _ _ _ _ (hx.past (by repeat (first | exact Past.refl _ | assumption | refine Past.alloc ?_ _ | refine Past.drew ?_ | refine Past.drewN ?_ _ | refine Past.setCell ?_ (by first | (simp; done) | (simp <;> omega)) _ | refine Past.trans ?_ (past_over _ _) | refine Past.trans ?_ (by assumption)))) (hy.past (by repeat (first | exact Past.refl _ | assumption | refine Past.alloc ?_ _ | refine Past.drew ?_ | refine Past.drewN ?_ _ | refine Past.setCell ?_ (by first | (simp; done) | (simp <;> omega)) _ | refine Past.trans ?_ (past_over _ _) | refine Past.trans ?_ (by assumption)))) hn hm).mono ?_); rintro e w1 ⟨rfl, hb1⟩; obtain ⟨hc1, hf1, _⟩ := hb1.cells; have hz1_0 : w.heap.size < w1.heap.size := Past.lt hb1 (by first | omega | (simp <;> omega)); have hz1_1 : w.heap.size + 1 < w1.heap.size := Past.lt hb1 (by first | omega | (simp <;> omega)))
  go_loopw [6, 7] (fun v i wr => ∃ (j : Nat) (A' : Option Addr) (k' : Nat), j ≤ P ∧ i = .int .i64 j ∧ v = .slice A' (blotsTo xs j).length k' ∧ OwI w1.heap.size wr A' (blotsTo xs j).length k' (blotsTo xs j) ∧ Past w1 wr) (fun _ i _ => P - (intOf i).toNat)
  case atStart =>
    first
    | exact ⟨0, none, 0, Nat.zero_le _, rfl, rfl, World.ownsRow_nil _ _ _ _, Past.refl _⟩
    | exact ⟨0, some ⟨w1.heap.size, 0, none⟩, 0, Nat.zero_le _, rfl, rfl, World.ownsRow_lit w1 #[] 0 (Nat.le_refl _) (Nat.zero_le _) rfl, (Past.refl _).alloc _⟩
  case round =>
    obtain ⟨j, A', k', hj, rfl, rfl, hown, hpast⟩ := hrel
    have hp0 : Past w wr := (by repeat (first | exact Past.refl _ | assumption | refine Past.alloc ?_ _ | refine Past.drew ?_ | refine Past.drewN ?_ _ | refine Past.setCell ?_ (by first | (simp; done) | (simp <;> omega)) _ | refine Past.trans ?_ (past_over _ _) | refine Past.trans ?_ (by assumption)))
    have hxr := hx.past hp0
    obtain ⟨hcr, hfr, _⟩ := hpast.cells
    by_cases hlt : j < P
    · obtain ⟨b, o, x, rfl, hxj, hcell⟩ := hxr.at_ (j := j) (by omega)
      have HX := Lib.hid hxj
      clear hxj
      have hle := blotsTo_le xs j
      by_cases h1 : x = 1
      · have E := Lib.hid (blotsTo_yes HX.out h1)
        have hbeq : (x == 1) = true := beq_iff_eq.2 h1
        clear h1
        go_wp2_with (at_builtin; refine wpList_append_own _ rfl _ _ 28 rfl w1.heap.size 2 i0 (.int .i64 0) 1 8 Try.underlying28 hi hz0 hz1 hz2 rfl (by decide) _ (blotsTo xs j).length ((blotsTo xs j).map (Value.int .i64)) rfl (World.ownsRow.alloc hown _) ⟨wr.heap.size, 0, none⟩ 1 1 [.int .i64 (j : Int)] rfl rfl (cell_one_new _ _ _) (by intro u hu; simp at hu; subst hu; rfl) (by unfold maxLen; omega) (by omega) (Nat.le_trans hpast.size (by simp)) ?_; intro v2 w2 hown2 hg2 hiff)
        have hp2 : Past w1 w2 := past_grown (hpast.alloc _) (World.ownsRow.alloc hown _) (Nat.le_refl _) hg2
        obtain ⟨A2, k2, rfl, ho2⟩ := own_push rfl hown2 (fun h => absurd (hiff.1 h).2 (by decide))
        rw [← E.out] at ho2
        have e2 : (blotsTo xs j ++ [(j : Int)]).length = (blotsTo xs (j + 1)).length := by rw [E.out]
        rw [e2]
        clear e2 hown2 hg2 hiff hown
        go_wp2
        go_roundw
        case rel => exact ⟨j + 1, A2, k2, by omega, by go_num, rfl, ho2, hp2⟩
        case measure => simp [intOf]; omega
      · have E := Lib.hid (blotsTo_no HX.out h1)
        have hbeq : (x == 1) = false := beq_eq_false_iff_ne.2 h1
        clear h1
        go_wp2
        go_roundw
        case rel => exact ⟨j + 1, A', k', by omega, by go_num, by rw [E.out], by rw [E.out]; exact hown, hpast⟩
        case measure => simp [intOf]; omega
    · obtain rfl : j = P := by omega
      go_wp2
      go_ret2
      exact ⟨A', k', rfl, hown.less (by first | omega | (simp <;> omega)), (by repeat (first | exact Past.refl _ | assumption | refine Past.alloc ?_ _ | refine Past.drew ?_ | refine Past.drewN ?_ _ | refine Past.setCell ?_ (by first | (simp; done) | (simp <;> omega)) _ | refine Past.trans ?_ (past_over _ _) | refine Past.trans ?_ (by assumption)))⟩
def blotsL (p c h s : Int) (xs ys : List Int) : List Int := if bOk p c h s xs ys = true then blotsTo xs p.toNat else []
def codeB (p c h s : Int) (xs ys : List Int) : Int := if bOk p c h s xs ys = true then 0 else 1
theorem blotsL_le (p c h s : Int) (xs ys : List Int) : (blotsL p c h s xs ys).length ≤ 1000 := by
  unfold blotsL
  split
  · rename_i hb
    have F := bFacts hb
    have := blotsTo_le xs p.toNat
    omega
  · simp
theorem blots_any (p c h s : Int) (A D : Option Addr) (n k m l : Nat) (xs ys : List Int) (w : World) (hx : RdI w A n xs) (hy : RdI w D m ys) (hn : n ≤ 1048576) (hm : m ≤ 1048576) :
    Calls Try.prog 60 #[.agg #[.int .i64 p, .int .i64 c, .int .i64 h, .int .i64 s], .agg #[.slice A n k, .slice D m l]] w (RowCode w (blotsL p c h s xs ys) (codeB p c h s xs ys)) := by
  cases hb : bOk p c h s xs ys
  · rw [show blotsL p c h s xs ys = [] from by simp [blotsL, hb], show codeB p c h s xs ys = 1 from by simp [codeB, hb]]
    exact blots_no p c h s A D n k m l xs ys w hx hy hn hm hb
  · rw [show blotsL p c h s xs ys = blotsTo xs p.toNat from by simp [blotsL, hb], show codeB p c h s xs ys = 0 from by simp [codeB, hb]]
    exact blots_yes p c h s A D n k m l xs ys w hx hy hn hm hb
theorem sBlots_any (p c h s : Int) (A D : Option Addr) (n k m l : Nat) (xs ys : List Int) (w : World) (hx : RdI w A n xs) (hy : RdI w D m ys) (hn : n ≤ 1048576) (hm : m ≤ 1048576) :
    Calls Try.prog 97 #[.agg #[.int .i64 p, .int .i64 c, .int .i64 h, .int .i64 s], .agg #[.slice A n k, .slice D m l]] w (RowCode w (blotsL p c h s xs ys) (codeB p c h s xs ys)) := by
  cases hb : bOk p c h s xs ys
  · rw [show blotsL p c h s xs ys = [] from by simp [blotsL, hb], show codeB p c h s xs ys = 1 from by simp [codeB, hb]]
    exact sBlots_no p c h s A D n k m l xs ys w hx hy hn hm hb
  · rw [show blotsL p c h s xs ys = blotsTo xs p.toNat from by simp [blotsL, hb], show codeB p c h s xs ys = 0 from by simp [codeB, hb]]
    exact sBlots_yes p c h s A D n k m l xs ys w hx hy hn hm hb
end Go.Proofs.Ytapocfgajkkpdaa
