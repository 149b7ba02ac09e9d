/-
  Rows of rolls: all rolls; the laws' comparison, their marks, and the look whether these are held.
-/
import Derived.Test.YtapocfgajkkpdaaRoll
import Derived.Test.YtapocfgajkkpdaaRow
import Derived.Test.YtapocfgajkkpdaaSpan
import Derived.Deep.DeepCutAuto
import Derived.Deep.AppendLies
namespace Go.Proofs.Ytapocfgajkkpdaa
open Go.ChangeShapes Go.WideShapes Go.ChangeAt Go.RowKit Go.Joins

/-- A roll. -/
structure Rol where
  a : Int
  b : Int
def Rol.cells (r : Rol) : List Value := [.int .i64 r.a, .int .i64 r.b]
theorem Rol.cells_len (r : Rol) : r.cells.length = 2 := rfl
def OwR (base : Nat) (w : World) (A : Option Addr) (n k : Nat) (L : List Rol) : Prop := OwE 40 Rol.cells 2 base w A n k L
theorem infoR : (Try.prog.info? 40).map (fun i => (i.zero, i.size, i.bytes)) = some (some (.agg #[.int .i64 0, .int .i64 0]), 2, 16) := by kernel_rfl
theorem OwR.past {base : Nat} {w w' : World} {A : Option Addr} {n k : Nat} {L : List Rol} (h : OwR base w A n k L) (p : Past w w') : OwR base w' A n k L := OwE.past h p
theorem OwR.mod {S : Nat → Prop} {base : Nat} {w w' : World} {A : Option Addr} {n k : Nat} {L : List Rol} (h : OwR base w A n k L) (hm : Mod S w w') (hs : ∀ b, A = some ⟨b, 0, none⟩ → ¬ S b) : OwR base w' A n k L := OwE.mod h hm hs
theorem OwR.less {base base' : Nat} {w : World} {A : Option Addr} {n k : Nat} {L : List Rol} (h : OwR base w A n k L) (hb : base' ≤ base) : OwR base' w A n k L := OwE.less h hb
theorem OwR.blk_lt {base : Nat} {w : World} {A : Option Addr} {n k : Nat} {L : List Rol} (h : OwR base w A n k L) {b : Nat} (hb : blk A b) : base ≤ b ∧ b < w.heap.size := OwE.blk_lt h hb
/-- The element at j of a row of rolls of the call's own, and its cells. -/
theorem OwR.at_ {base : Nat} {w : World} {A : Option Addr} {n k : Nat} {L : List Rol} (h : OwR base w A n k L) {j : Nat} (hj : j < n) :
    ∃ g r, A = some ⟨g, 0, none⟩ ∧ L[j]? = some r ∧ w.cell? ⟨g, j * 2, none⟩ = some (.int .i64 r.a) ∧ w.cell? ⟨g, j * 2 + 1, none⟩ = some (.int .i64 r.b) := by
  obtain ⟨g, rfl⟩ := OwE.addr h (by omega)
  obtain ⟨b, o, r, hA, hj', hc⟩ := RdE.at_ (OwE.rd Rol.cells_len h) hj
  have c0 := hc 0 _ rfl
  have c1 := hc 1 _ rfl
  have e1 : b = g := by simp only [Option.some.injEq, Addr.mk.injEq] at hA; exact hA.1.symm
  have e2 : o = 0 := by simp only [Option.some.injEq, Addr.mk.injEq] at hA; exact hA.2.1.symm
  subst e1 e2
  rw [Nat.zero_add] at c0 c1
  exact ⟨b, r, rfl, hj', c0, c1⟩
theorem flat_set2 (X : List Rol) (j : Nat) (hj : j < X.length) (r : Rol) : ((flat Rol.cells X).set (j * 2) (.int .i64 r.a)).set (j * 2 + 1) (.int .i64 r.b) = flat Rol.cells (X.set j r) := by
  induction X generalizing j with
  | nil => simp at hj
  | cons b l ih =>
    have h : ∀ y (m : List Rol), flat Rol.cells (y :: m) = y.cells ++ flat Rol.cells m := fun _ _ => rfl
    rw [h]
    cases j with
    | zero =>
      rw [List.set_cons_zero, h]
      rfl
    | succ j =>
      rw [List.set_cons_succ, h, ← ih j (by simpa using hj)]
      have hb : b.cells.length = 2 := rfl
      have e0 : (j + 1) * 2 = b.cells.length + j * 2 := by rw [hb]; omega
      rw [e0, show b.cells.length + j * 2 + 1 = b.cells.length + (j * 2 + 1) from by omega]
      simp only [List.set_append_right _ _ (Nat.le_add_right _ _), Nat.add_sub_cancel_left]
/-- The rolls with the marks from K on. -/
def markR (K : Int) (j : Nat) : Rol := ⟨K + 2 * (j : Int), K + 2 * (j : Int) + 1⟩
def marksR (K : Int) (n : Nat) : List Rol := (List.range n).map (markR K)
theorem marksR_len (K : Int) (n : Nat) : (marksR K n).length = n := by simp [marksR]
theorem marksR_get {K : Int} {n j : Nat} (h : j < n) : (marksR K n)[j]? = some (markR K j) := by simp [marksR, h]
theorem marksR_step {L : List Rol} {K : Int} {n j : Nat} (hl : L.length = n) (hj : j < n) : (marksR K j ++ L.drop j).set j (markR K j) = marksR K (j + 1) ++ L.drop (j + 1) := by
  rw [List.set_append_right _ _ (by rw [marksR_len]; exact Nat.le_refl _), marksR_len, Nat.sub_self, List.drop_eq_getElem_cons (by omega), List.set_cons_zero]
  have e : marksR K (j + 1) = marksR K j ++ [markR K j] := by simp [marksR, List.range_succ]
  rw [e, List.append_assoc]
  rfl
theorem OwR.put {base : Nat} {w : World} {g n k : Nat} {L : List Rol} (h : OwR base w (some ⟨g, 0, none⟩) n k L) {j : Nat} (hj : j < n) (r : Rol) :
    OwR base ((w.setCell ⟨g, j * 2, none⟩ (.int .i64 r.a)).setCell ⟨g, j * 2 + 1, none⟩ (.int .i64 r.b)) (some ⟨g, 0, none⟩) n k (L.set j r) := by
  have h1 := (World.ownsRow.stored h.2 (j * 2) (.int .i64 r.a)).1
  have h2 := (World.ownsRow.stored h1 (j * 2 + 1) (.int .i64 r.b)).1
  rw [flat_set2 _ _ (by rw [h.1]; exact hj)] at h2
  exact ⟨by rw [List.length_set]; exact h.1, h2⟩
/-- A row of rolls in a span. -/
def RowR (lo hi : Nat) (w : World) (A : Option Addr) (n k : Nat) (L : List Rol) : Prop := OwR lo w A n k L ∧ Sp lo hi A
section
variable {lo hi : Nat} {w w' : World} {A : Option Addr} {n k : Nat} {L : List Rol}
theorem RowR.mk (h : OwR lo w A n k L) (hs : w.heap.size ≤ hi) : RowR lo hi w A n k L := ⟨h, fun b hb => by have := h.blk_lt hb; omega⟩
theorem RowR.past (h : RowR lo hi w A n k L) (p : Past w w') : RowR lo hi w' A n k L := ⟨h.1.past p, h.2⟩
theorem RowR.turn {a b : Nat} (h : RowR lo hi w A n k L) (p : Turn a b w w') (hs : hi ≤ a ∨ b ≤ lo) : RowR lo hi w' A n k L := ⟨h.1.mod p (h.2.turn hs), h.2⟩
end
/-- Rolls collected in a row of the call's own. -/
def RollsIn (w1 wr : World) (v : Value) (L : List Rol) : Prop := ∃ A k, v = .slice A L.length k ∧ OwR w1.heap.size wr A L.length k L ∧ Past w1 wr
theorem RollsIn.past {w1 a b : World} {v : Value} {L : List Rol} (h : RollsIn w1 a v L) (p : Past a b) : RollsIn w1 b v L := by
  obtain ⟨A, k, hv, ho, hp⟩ := h
  exact ⟨A, k, hv, ho.past p, hp.trans p⟩
theorem RollsIn.nil (w1 : World) : RollsIn w1 w1 (.slice none 0 0) [] := ⟨none, 0, rfl, OwE.nil _ _ _ _ _, Past.refl _⟩
theorem RollsIn.empty (w1 : World) (t : TypeId) (ht : t = 40) : RollsIn w1 (w1.alloc (.cells #[] t)) (.slice (some ⟨w1.heap.size, 0, none⟩) 0 0) [] :=
  ⟨some ⟨w1.heap.size, 0, none⟩, 0, rfl, ⟨rfl, by subst ht; exact World.ownsRow_lit w1 #[] 0 (Nat.le_refl _) (Nat.zero_le _) rfl⟩, (Past.refl _).alloc _⟩
theorem RollsIn.push {w1 w w' : World} {A : Option Addr} {k : Nat} {L : List Rol} {r : Rol} {v' : Value} (ho : OwR w1.heap.size w A L.length k L) (hp : Past w1 w)
    (h : w'.ownsRow w1.heap.size 40 2 v' (L.length + 1) (flat Rol.cells L ++ r.cells)) (hg : w.grownBy w' (Value.slice A L.length k).ownBlock) (hnil : v' ≠ .slice none 0 0) : RollsIn w1 w' v' (L ++ [r]) := by
  obtain ⟨A', k', rfl, ho'⟩ := OwE.push rfl h hnil
  exact ⟨A', k', rfl, ho', past_grown hp ho.2 (Nat.le_refl _) hg⟩
def RollsRet (w : World) (L : List Rol) (e : Ending) (w' : World) : Prop := ∃ A k, e = .returned (.slice A L.length k) ∧ OwR w.heap.size w' A L.length k L ∧ Past w w'
def RollsCode (w : World) (L : List Rol) (code : Int) (e : Ending) (w' : World) : Prop := ∃ A k, e = .returned (.tuple #[.slice A L.length k, .int .i64 code]) ∧ OwR w.heap.size w' A L.length k L ∧ Past w w'
/-- The first j rolls with the greater number a. -/
def rolTo (a : Int) : Nat → List Rol
  | 0 => []
  | j + 1 => rolTo a j ++ [⟨a, (j : Int) + 1⟩]
/-- The rolls with greater numbers up to a. -/
def allTo : Nat → List Rol
  | 0 => []
  | a + 1 => allTo a ++ rolTo ((a : Int) + 1) (a + 1)
theorem rolTo_len (a : Int) (j : Nat) : (rolTo a j).length = j := by
  induction j with
  | zero => rfl
  | succ j ih => simp [rolTo, ih]
theorem allTo_le {a : Nat} (h : a ≤ 6) : (allTo a).length ≤ 6 * a := by
  induction a with
  | zero => simp [allTo]
  | succ a ih =>
    have := ih (by omega)
    rw [allTo, List.length_append, rolTo_len]
    omega
def arL (p c h s : Int) : List Rol := if vOk p c h s = true then allTo s.toNat else []
theorem arL_le (p c h s : Int) : (arL p c h s).length ≤ 1000 := by
  unfold arL
  split
  · rename_i hv
    obtain ⟨_, _, _, s1, s2⟩ := vOk_yes hv
    have := allTo_le (a := s.toNat) (by omega)
    omega
  · simp
set_option maxHeartbeats 2000000 in
set_option maxRecDepth 100000 in
theorem allRolls_yes (p c h : Int) (S : Nat) (w : World) (hS : S ≤ 6) (hv : Hid (vOk p c h S = true)) :
    Calls Try.prog 18 #[.agg #[.int .i64 p, .int .i64 c, .int .i64 h, .int .i64 (S : Int)]] w (RollsRet w (allTo S)) := by
  obtain ⟨i0, hi, hz0, hz1, hz2⟩ := info_parts infoR
  obtain ⟨w0, hw0⟩ : ∃ w0 : World, w0 = w.alloc (.cells #[.int .i64 p, .int .i64 c, .int .i64 h, .int .i64 (S : Int)] 25) := ⟨_, rfl⟩
  have hp0 : Past w w0 := by rw [hw0]; exact (by repeat (first | exact Past.refl _ | assumption | refine Past.alloc ?_ _ | refine Past.drew ?_ | refine Past.drewN ?_ _ | refine Past.setCell ?_ (by first | (simp; done) | (simp <;> omega)) _ | refine Past.trans ?_ (past_over _ _) | refine Past.trans ?_ (by assumption)))
  have c0 : w0.cell? ⟨w.heap.size, 0, none⟩ = some (.int .i64 p) := by rw [hw0]; simp [go_sem]
  have c1 : w0.cell? ⟨w.heap.size, 1, none⟩ = some (.int .i64 c) := by rw [hw0]; simp [go_sem]
  have c2 : w0.cell? ⟨w.heap.size, 2, none⟩ = some (.int .i64 h) := by rw [hw0]; simp [go_sem]
  have c3 : w0.cell? ⟨w.heap.size, 3, none⟩ = some (.int .i64 (S : Int)) := by rw [hw0]; simp [go_sem]
  go_enter Try.func18, Try.ntmps18
  go_upto_region 1 with fail
  rw [← hw0]
  clear hw0
  have hv' := hv.out
  go_wp2_with fail
  (with_reducible refine (isVar_any _ _ _ _ _).mono ?_)
  rintro e w1 ⟨rfl, hp01⟩
  rw [hv']
  clear hv'
  go_wp2_with fail
  have d3 := hp01.keep c3
  go_loopw [3, 4] (fun v i wr => ∃ j : Nat, j ≤ S ∧ i = .int .i64 ((j : Int) + 1) ∧ RollsIn w1 wr v (allTo j)) (fun _ i _ => S + 1 - (intOf i).toNat)
  case atStart => first | exact ⟨0, Nat.zero_le _, by simp, RollsIn.nil w1⟩ | exact ⟨0, Nat.zero_le _, by simp, RollsIn.empty w1 _ rfl⟩
  case round =>
    obtain ⟨j, hj, rfl, A', k', rfl, hown, hp⟩ := hrel
    have q3 := hp.keep d3
    have qb := World.block_lt_of_cell? wr _ q3
    simp only at qb
    have hle := allTo_le (a := j) (by omega)
    by_cases hlt : j < S
    · have hlt2 : (j : Int) + 1 ≤ (S : Int) := by omega
      have HE := Lib.hid (show allTo (j + 1) = allTo j ++ rolTo ((j : Int) + 1) (j + 1) from rfl)
      go_wp2_with fail
      go_loopw [3, 5] (fun v i wi => ∃ e : Nat, e ≤ j + 1 ∧ i = .int .i64 ((e : Int) + 1) ∧ RollsIn w1 wi v (allTo j ++ rolTo ((j : Int) + 1) e)) (fun _ i _ => j + 2 - (intOf i).toNat)
      case atStart => exact ⟨0, Nat.zero_le _, by simp, by rw [rolTo, List.append_nil]; exact ⟨A', k', rfl, hown, hp⟩⟩
      case round =>
        obtain ⟨e, he, rfl, A2, k2, rfl, hown2, hp2⟩ := hrel
        clear hown q3 qb hp
        have hlen : (allTo j ++ rolTo ((j : Int) + 1) e).length ≤ 1000 := by rw [List.length_append, rolTo_len]; omega
        have q3 := hp2.keep d3
        have qb := World.block_lt_of_cell? wr _ q3
        simp only at qb
        by_cases hlt3 : e < j + 1
        · have hlt4 : (e : Int) + 1 ≤ (j : Int) + 1 := by omega
          have HN := Lib.hid (show allTo j ++ rolTo ((j : Int) + 1) (e + 1) = (allTo j ++ rolTo ((j : Int) + 1) e) ++ [⟨(j : Int) + 1, (e : Int) + 1⟩] from by rw [rolTo, List.append_assoc])
          generalize allTo j ++ rolTo ((j : Int) + 1) e = X at hown2 hlen HN ⊢
          go_wp2_with (at_builtin; refine wpList_append_own _ rfl _ _ 35 rfl w1.heap.size 40 i0 (.agg #[.int .i64 0, .int .i64 0]) 2 16 Try.underlying35 hi hz0 hz1 hz2 rfl (by decide) _ X.length (flat Rol.cells X) rfl (OwE.alloc hown2 _).2 ⟨wr.heap.size, 0, none⟩ 1 1 [.int .i64 ((j : Int) + 1), .int .i64 ((e : Int) + 1)] rfl rfl (World.news_of_block (Blk.at_ (by simp))) (by intro u hu; simp at hu; rcases hu with rfl | rfl <;> rfl) (by unfold maxLen; omega) (by omega) (Nat.le_trans hp2.size (by simp)) ?_; intro v2 w5 hown5 hg5 hiff)
          go_roundw
          case rel => exact ⟨e + 1, by omega, by go_num, by rw [HN.out]; exact RollsIn.push (OwE.alloc hown2 _) (hp2.alloc _) hown5 hg5 (fun h => absurd (hiff.1 h).2 (by decide))⟩
          case measure => simp [intOf]; omega
        · obtain rfl : e = j + 1 := by omega
          go_wp2
          go_roundw
          case rel => exact ⟨j + 1, by omega, by go_num, by rw [HE.out]; exact ⟨A2, k2, rfl, hown2, hp2⟩⟩
          case measure => simp [intOf]; omega
    · obtain rfl : j = S := by omega
      go_wp2
      go_ret
      exact ⟨A', k', rfl, OwE.less hown (hp0.trans hp01).sz, (hp0.trans hp01).trans hp⟩
theorem allRolls (p c h s : Int) (w : World) :
    Calls Try.prog 18 #[.agg #[.int .i64 p, .int .i64 c, .int .i64 h, .int .i64 s]] w (RollsRet w (arL p c h s)) := by
  cases hv : vOk p c h s
  · rw [show arL p c h s = [] from by simp [arL, hv]]
    go_enter Try.func18, Try.ntmps18
    go_wp2_with (go_at_call 66; (with_reducible refine (isVar_any _ _ _ _ _).mono ?_); rintro e w1 ⟨rfl, hb1⟩; obtain ⟨hc1, hf1, _⟩ := hb1.cells; have hz1_0 : w.heap.size < w1.heap.size := Past.lt hb1 (by first | omega | (simp <;> omega)))
    go_ret
    exact ⟨none, 0, rfl, OwE.nil _ _ _ _ _, (by repeat (first | exact Past.refl _ | assumption | refine Past.alloc ?_ _ | refine Past.drew ?_ | refine Past.drewN ?_ _ | refine Past.setCell ?_ (by first | (simp; done) | (simp <;> omega)) _ | refine Past.trans ?_ (past_over _ _) | refine Past.trans ?_ (by assumption)))⟩
  · obtain ⟨_, _, _, s1, s2⟩ := vOk_yes hv
    rw [show arL p c h s = allTo s.toNat from by simp [arL, hv]]
    obtain ⟨S, rfl⟩ := Int.eq_ofNat_of_zero_le (show 0 ≤ s from by omega)
    rw [Int.toNat_natCast]
    exact allRolls_yes p c h S w (by omega) (Lib.hid hv)
end Go.Proofs.Ytapocfgajkkpdaa
