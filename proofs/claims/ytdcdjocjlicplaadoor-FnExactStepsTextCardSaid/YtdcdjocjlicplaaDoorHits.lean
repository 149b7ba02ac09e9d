/-
  Contracts: the legal steps with a die, and those that hit; each with a code.
-/
import Derived.Test.YtdcdjocjlicplaaDoorLegal
import Derived.Test.YtdcdjocjlicplaaDoorPut
namespace Go.Proofs.YtdcdjocjlicplaaDoor
open Go.ChangeShapes Go.WideShapes Go.ChangeAt Go.RowKit Go.Joins

/-- The element at j of a row of steps of the call's own, and its cells. -/
theorem OwS.at_ {base : Nat} {w : World} {A : Option Addr} {n k : Nat} {L : List Stp} (h : OwS base w A n k L) {j : Nat} (hj : j < n) :
    ∃ g a, A = some ⟨g, 0, none⟩ ∧ L[j]? = some a ∧ w.cell? ⟨g, j * 4, none⟩ = some (.int .i64 a.f) ∧ w.cell? ⟨g, j * 4 + 1, none⟩ = some (.int .i64 a.t) ∧ w.cell? ⟨g, j * 4 + 2, none⟩ = some (.int .i64 a.d) ∧ w.cell? ⟨g, j * 4 + 3, none⟩ = some (.bool a.x) := by
  obtain ⟨g, rfl⟩ := OwE.addr h (by omega)
  obtain ⟨b, o, a, hA, hj', c0, c1, c2, c3⟩ := RdS.at_ (OwS.rd h) hj
  have e1 : b = g := by simp only [Option.some.injEq, Addr.mk.injEq] at hA; exact hA.1.symm
  have e2 : o = 0 := by simp only [Option.some.injEq, Addr.mk.injEq] at hA; exact hA.2.1.symm
  subst e1 e2
  rw [Nat.zero_add] at c0 c1 c2 c3
  exact ⟨b, a, rfl, hj', c0, c1, c2, c3⟩
theorem OwS.past {base : Nat} {w w' : World} {A : Option Addr} {n k : Nat} {L : List Stp} (h : OwS base w A n k L) (p : Past w w') : OwS base w' A n k L := OwE.past h p
def lsL (p c h s : Int) (xs ys : List Int) (d : Int) : List Stp := if (bOk p c h s xs ys && win d 1 s) = true then legL p h xs ys d else []
def lsC (p c h s : Int) (xs ys : List Int) (d : Int) : Int := if bOk p c h s xs ys = true then (if win d 1 s = true then 0 else 2) else 1
/-- The steps that hit, among the first j. -/
def hitTo (L : List Stp) (j : Nat) : List Stp := (L.take j).filter (·.x)
def hitL (L : List Stp) : List Stp := L.filter (·.x)
theorem hitTo_end (L : List Stp) : hitTo L L.length = hitL L := by rw [hitTo, List.take_length, hitL]
theorem hitTo_yes {L : List Stp} {j : Nat} {a : Stp} (h : L[j]? = some a) (hx : a.x = true) : hitTo L (j + 1) = hitTo L j ++ [a] := by
  obtain ⟨hj, rfl⟩ := List.getElem?_eq_some_iff.1 h
  rw [hitTo, List.take_succ_eq_append_getElem hj, List.filter_append]
  simp [hx, hitTo]
theorem hitTo_no {L : List Stp} {j : Nat} {a : Stp} (h : L[j]? = some a) (hx : a.x = false) : hitTo L (j + 1) = hitTo L j := by
  obtain ⟨hj, rfl⟩ := List.getElem?_eq_some_iff.1 h
  rw [hitTo, List.take_succ_eq_append_getElem hj, List.filter_append]
  simp [hx, hitTo]
theorem hitTo_le (L : List Stp) (j : Nat) : (hitTo L j).length ≤ L.length := Nat.le_trans (List.length_filter_le _ _) (by rw [List.length_take]; omega)
theorem lsL_le (p c h s : Int) (xs ys : List Int) (d : Int) : (lsL p c h s xs ys d).length ≤ 1000 := by
  unfold lsL
  split
  · rename_i hb
    simp only [Bool.and_eq_true] at hb
    have F := bFacts hb.1
    have := legTo_le p h xs ys d (p.toNat + 1)
    unfold legL
    omega
  · simp
theorem hitL_le (p c h s : Int) (xs ys : List Int) (d : Int) : (hitL (lsL p c h s xs ys d)).length ≤ 1000 := Nat.le_trans (List.length_filter_le _ _) (lsL_le p c h s xs ys d)
theorem StepsIn.put {w1 w : World} {A : Option Addr} {k : Nat} {L : List Stp} (ho : OwS w1.heap.size w A L.length k L) (hp : Past w1 w) : StepsIn w1 w (.slice A L.length k) L := ⟨A, k, rfl, ho, hp⟩
theorem StepsCode.nil {w w' : World} {code : Int} (hp : Past w w') : StepsCode w [] code (.returned (.tuple #[.slice none 0 0, .int .i64 code])) w' := ⟨none, 0, rfl, OwE.nil _ _ _ _ _, hp⟩
theorem StepsCode.lit {w w1 : World} {code : Int} (hp : Past w w1) : StepsCode w [] code (.returned (.tuple #[.slice (some ⟨w1.heap.size, 0, none⟩) 0 0, .int .i64 code])) (w1.alloc (.cells #[] 31)) :=
  ⟨some ⟨w1.heap.size, 0, none⟩, 0, rfl, ⟨rfl, World.ownsRow_lit w1 #[] 0 hp.sz (Nat.zero_le _) rfl⟩, hp.alloc _⟩
theorem mod_grown {w w' : World} {A : Option Addr} {n k : Nat} (hg : w.grownBy w' (Value.slice A n k).ownBlock) : Mod (blk A) w w' :=
  ⟨hg.os, hg.tape, hg.output, hg.size, fun i hi hs => hg.block i hi (fun e => hs (by
    cases A with
    | none => simp [Value.ownBlock] at e
    | some a => exact ⟨a, rfl, by simp [Value.ownBlock] at e; exact e.symm⟩))⟩
theorem sep_push {A AL A' : Option Addr} {n k n' k' H : Nat} (hsep : ∀ b, blk A b → ¬ blk AL b) (hlt : ∀ b, blk AL b → b < H)
    (h : (Value.slice A' n' k').ownBlock = (Value.slice A n k).ownBlock ∨ (Value.slice A' n' k').ownBlock = some H) : ∀ b, blk A' b → ¬ blk AL b := by
  rintro b ⟨a, rfl, rfl⟩ hb
  rcases h with h | h
  · cases A with
    | none => simp [Value.ownBlock] at h
    | some a' =>
      simp only [Value.ownBlock, Option.some.injEq] at h
      exact hsep _ ⟨a', rfl, h.symm⟩ hb
  · simp only [Value.ownBlock, Option.some.injEq] at h
    have := hlt _ hb
    omega
/-- Steps collected in a row apart from another. -/
def StepsBy (AL : Option Addr) (w1 wr : World) (v : Value) (L : List Stp) : Prop := ∃ A k, v = .slice A L.length k ∧ OwS w1.heap.size wr A L.length k L ∧ Past w1 wr ∧ ∀ b, blk A b → ¬ blk AL b
theorem StepsBy.push {AL : Option Addr} {w1 w w' : World} {A : Option Addr} {k : Nat} {L : List Stp} {a : Stp} {v' : Value} (ho : OwS w1.heap.size w A L.length k L) (hp : Past w1 w) (hs : ∀ b, blk A b → ¬ blk AL b) (hlt : ∀ b, blk AL b → b < w.heap.size)
    (h : w'.ownsRow w1.heap.size 31 4 v' (L.length + 1) (flat Stp.cells L ++ a.cells)) (hg : w.grownBy w' (Value.slice A L.length k).ownBlock) (hnil : v' ≠ .slice none 0 0) (hat : v'.ownBlock = (Value.slice A L.length k).ownBlock ∨ v'.ownBlock = some w.heap.size) : StepsBy AL w1 w' v' (L ++ [a]) := by
  obtain ⟨A', k', rfl, ho'⟩ := OwE.push rfl h hnil
  exact ⟨A', k', rfl, ho', past_grown hp ho.2 (Nat.le_refl _) hg, sep_push hs hlt hat⟩
end Go.Proofs.YtdcdjocjlicplaaDoor
