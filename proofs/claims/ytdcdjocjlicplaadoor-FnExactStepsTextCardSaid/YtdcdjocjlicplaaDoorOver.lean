/-
  A region that draws its order and whose operations only read, or call functions that answer one value in whatever world and leave old memory alone: one walk in the order of the text serves every order. The library's own theorem on quiet regions, at the class of all worlds in which old memory is as it was.
-/
import Derived.Test.YtdcdjocjlicplaaDoorBase
import Derived.BigQuiet
import Derived.Deep.QuietTactic
namespace Go.Proofs.YtdcdjocjlicplaaDoor
open Go.RowKit

open Classical in
/-- The world x where it leaves w's memory alone, else w. -/
noncomputable def over (w x : World) : World := if Past w x then x else w
theorem past_over (w x : World) : Past w (over w x) := by
  unfold over
  split
  · assumption
  · exact Past.refl w
theorem over_self {w x : World} (h : Past w x) : over w x = x := if_pos h
theorem over_cell (w x : World) (p : Addr) (h : p.block < w.heap.size) : (over w x).cell? p = w.cell? p := Below.cell (past_over w x) h
theorem over_frozen (w x : World) (p : Addr) (h : p.block < w.heap.size) : (over w x).frozen? p = w.frozen? p := Below.frozen (past_over w x) h
attribute [go_sem] over_cell over_frozen

section
variable {P : Program}
theorem wp_region_over {id : Nat} {Q : Exit → Act → World → Prop} {a : Act} {w : World} {l : List Oper} (hm : P.follows .mixedOrders = true) (hB : Region.lexB .any l.toArray = true)
    (h : wpQuiet P l.toArray (fun w' => ∃ x, w' = over w x) (fun a' => ∀ w', Past w w' → Q .normal a' w') l a) : (Code.region id l.toArray true).wp P Q a w := by
  simp only [Region.lexB, Bool.and_eq_true] at hB
  refine wp_region_any hm (wpAny_of_quiet (C := fun w' => ∃ x, w' = over w x) (Q := fun a' => ∀ w', Past w w' → Q .normal a' w')
    (fun _ w' hw' h => h w' (by obtain ⟨x, rfl⟩ := hw'; exact past_over _ _)) _ _ _ _ ⟨w.drew, (over_self ((Past.refl w).drew)).symm⟩ ?_)
  have := wpAnyQ_lex (C := fun w' => ∃ x, w' = over w x) (md := .any) hB.1 l 0 (Array.replicate l.toArray.size false) a (by simp) (by simpa using hB.2) h
  simpa using this
/-- A contract, met in a world of the class. -/
theorem over_of {f : FuncId} {args : Array Value} {w x : World} {v : Value} (h : Calls P f args (over w x) fun e w' => e = .returned v ∧ Past (over w x) w') :
    Calls P f args (over w x) fun e w'' => e = .returned v ∧ ∃ x', w'' = over w x' :=
  h.mono fun _ w' ⟨he, hp⟩ => ⟨he, w', (over_self ((past_over w x).trans hp)).symm⟩
theorem over_same {f : FuncId} {args : Array Value} {w x : World} {v : Value} (h : Calls P f args (over w x) fun e w' => e = .returned v ∧ over w x = w') :
    Calls P f args (over w x) fun e w'' => e = .returned v ∧ ∃ x', w'' = over w x' :=
  h.mono fun _ _ ⟨he, hp⟩ => ⟨he, x, hp.symm⟩
end
end Go.Proofs.YtdcdjocjlicplaaDoor
