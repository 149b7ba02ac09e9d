/-
  No cell of these rows narrows 'for every input' (looked for: loops, veiled, ifaces, maps, wideKeys, modest, calm, conditions, laid).
  DERIVED. THE GIVEN ROWS OF THIS SEAT. 8 by the template 'for every input the law returns true; each argument reads behind the call as it read before'; 0 by the template 'total and deterministic' (their statements: YtapocfgajkkpdaaTotals.lean).
  GIVEN WITH THE SEED: the statements are not yours to turn. If you find one false, say at which input.
  Laid BY PROGRAM, IN A SANDBOX (cutbox-rows.mjs): the forced cells as the released guide's own fill.sh prints them over the translation 97dfff94a32f928f… (all of the seat's roots in one cut). By AI agents, Wed Nov 11 2026. No macro, syntax, notation, axiom, sorry.
-/
import Derived.Test.YtapocfgajkkpdaaChecked
import GoSem.Claim
import GoSem.ClaimJoined
import GoSem.ClaimMapViews
import Derived.JoinedTies
import Derived.KernelRfl
namespace Go.Proofs.Ytapocfgajkkpdaa
/- THE CELL 'sum', in the pinned program and in every row, IS THE sha256 OF THE DUMP (.gsa) THAT YtapocfgajkkpdaaProg.lean LOADS. Nothing in Lean hashes anything: it is a label: what it is worth is what the hold of that sum in a sandbox is worth. -/
noncomputable def Try.pinned : Pinned := { name := "ytapocfgajkkpdaa", sum := "97dfff94a32f928f77e3c0d8478c50b4372e3c5a422117b1ae02f17794429a4f", checked := Try.checked }
namespace Rows
def none {H : Type} : Left H := { results := [], args := [] }

/-- 'laws.FnSideNumbers': WHATEVER THE INPUT: true; the input reads as it did. -/
def fnSideNumbersSpec : ChangeSpec := { name := "fnSideNumbers", fn := fun _ => fun
  | [d] => { results := [.lit (.bool true)], args := [d] }
  | _ => none }
def fnSideNumbersRow : OpenClaim := { program := "ytapocfgajkkpdaa", sum := "97dfff94a32f928f77e3c0d8478c50b4372e3c5a422117b1ae02f17794429a4f", func := "loop.example/g00885/laws.FnSideNumbers", spec := "fnSideNumbers", apart := false }
def FnSideNumbersSaid : Prop := fnSideNumbersRow.holds Try.pinned (OpenSpec.ofChange fnSideNumbersSpec)

/-- ITS FALSE NEIGHBOUR: 'it returns false'. Refute it at one input. -/
def fnSideNumbersWrong : ChangeSpec := { name := "fnSideNumbers", fn := fun _ => fun
  | [d] => { results := [.lit (.bool false)], args := [d] }
  | _ => none }
def FnSideNumbersWrongFalsely : Prop := fnSideNumbersRow.holds Try.pinned (OpenSpec.ofChange fnSideNumbersWrong)

/-- 'laws.FnRolls': WHATEVER THE INPUT: true; the input reads as it did. -/
def fnRollsSpec : ChangeSpec := { name := "fnRolls", fn := fun _ => fun
  | [d] => { results := [.lit (.bool true)], args := [d] }
  | _ => none }
def fnRollsRow : OpenClaim := { program := "ytapocfgajkkpdaa", sum := "97dfff94a32f928f77e3c0d8478c50b4372e3c5a422117b1ae02f17794429a4f", func := "loop.example/g00885/laws.FnRolls", spec := "fnRolls", apart := false }
def FnRollsSaid : Prop := fnRollsRow.holds Try.pinned (OpenSpec.ofChange fnRollsSpec)

/-- ITS FALSE NEIGHBOUR: 'it returns false'. Refute it at one input. -/
def fnRollsWrong : ChangeSpec := { name := "fnRolls", fn := fun _ => fun
  | [d] => { results := [.lit (.bool false)], args := [d] }
  | _ => none }
def FnRollsWrongFalsely : Prop := fnRollsRow.holds Try.pinned (OpenSpec.ofChange fnRollsWrong)

/-- 'laws.FnPoints': WHATEVER THE INPUT: true; the input reads as it did. -/
def fnPointsSpec : ChangeSpec := { name := "fnPoints", fn := fun _ => fun
  | [d] => { results := [.lit (.bool true)], args := [d] }
  | _ => none }
def fnPointsRow : OpenClaim := { program := "ytapocfgajkkpdaa", sum := "97dfff94a32f928f77e3c0d8478c50b4372e3c5a422117b1ae02f17794429a4f", func := "loop.example/g00885/laws.FnPoints", spec := "fnPoints", apart := false }
def FnPointsSaid : Prop := fnPointsRow.holds Try.pinned (OpenSpec.ofChange fnPointsSpec)

/-- ITS FALSE NEIGHBOUR: 'it returns false'. Refute it at one input. -/
def fnPointsWrong : ChangeSpec := { name := "fnPoints", fn := fun _ => fun
  | [d] => { results := [.lit (.bool false)], args := [d] }
  | _ => none }
def FnPointsWrongFalsely : Prop := fnPointsRow.holds Try.pinned (OpenSpec.ofChange fnPointsWrong)

/-- 'laws.FnSwap': WHATEVER THE INPUT: true; the input reads as it did. -/
def fnSwapSpec : ChangeSpec := { name := "fnSwap", fn := fun _ => fun
  | [d] => { results := [.lit (.bool true)], args := [d] }
  | _ => none }
def fnSwapRow : OpenClaim := { program := "ytapocfgajkkpdaa", sum := "97dfff94a32f928f77e3c0d8478c50b4372e3c5a422117b1ae02f17794429a4f", func := "loop.example/g00885/laws.FnSwap", spec := "fnSwap", apart := false }
def FnSwapSaid : Prop := fnSwapRow.holds Try.pinned (OpenSpec.ofChange fnSwapSpec)

/-- ITS FALSE NEIGHBOUR: 'it returns false'. Refute it at one input. -/
def fnSwapWrong : ChangeSpec := { name := "fnSwap", fn := fun _ => fun
  | [d] => { results := [.lit (.bool false)], args := [d] }
  | _ => none }
def FnSwapWrongFalsely : Prop := fnSwapRow.holds Try.pinned (OpenSpec.ofChange fnSwapWrong)

/-- 'laws.FnIdentifiers': WHATEVER THE INPUT: true; the input reads as it did. -/
def fnIdentifiersSpec : ChangeSpec := { name := "fnIdentifiers", fn := fun _ => fun
  | [d] => { results := [.lit (.bool true)], args := [d] }
  | _ => none }
def fnIdentifiersRow : OpenClaim := { program := "ytapocfgajkkpdaa", sum := "97dfff94a32f928f77e3c0d8478c50b4372e3c5a422117b1ae02f17794429a4f", func := "loop.example/g00885/laws.FnIdentifiers", spec := "fnIdentifiers", apart := false }
def FnIdentifiersSaid : Prop := fnIdentifiersRow.holds Try.pinned (OpenSpec.ofChange fnIdentifiersSpec)

/-- ITS FALSE NEIGHBOUR: 'it returns false'. Refute it at one input. -/
def fnIdentifiersWrong : ChangeSpec := { name := "fnIdentifiers", fn := fun _ => fun
  | [d] => { results := [.lit (.bool false)], args := [d] }
  | _ => none }
def FnIdentifiersWrongFalsely : Prop := fnIdentifiersRow.holds Try.pinned (OpenSpec.ofChange fnIdentifiersWrong)

/-- 'laws.FnLegalSteps': WHATEVER THE INPUT: true; the input reads as it did. -/
def fnLegalStepsSpec : ChangeSpec := { name := "fnLegalSteps", fn := fun _ => fun
  | [d] => { results := [.lit (.bool true)], args := [d] }
  | _ => none }
def fnLegalStepsRow : OpenClaim := { program := "ytapocfgajkkpdaa", sum := "97dfff94a32f928f77e3c0d8478c50b4372e3c5a422117b1ae02f17794429a4f", func := "loop.example/g00885/laws.FnLegalSteps", spec := "fnLegalSteps", apart := false }
def FnLegalStepsSaid : Prop := fnLegalStepsRow.holds Try.pinned (OpenSpec.ofChange fnLegalStepsSpec)

/-- ITS FALSE NEIGHBOUR: 'it returns false'. Refute it at one input. -/
def fnLegalStepsWrong : ChangeSpec := { name := "fnLegalSteps", fn := fun _ => fun
  | [d] => { results := [.lit (.bool false)], args := [d] }
  | _ => none }
def FnLegalStepsWrongFalsely : Prop := fnLegalStepsRow.holds Try.pinned (OpenSpec.ofChange fnLegalStepsWrong)

/-- 'laws.FnStepBack': WHATEVER THE INPUT: true; the input reads as it did. -/
def fnStepBackSpec : ChangeSpec := { name := "fnStepBack", fn := fun _ => fun
  | [d] => { results := [.lit (.bool true)], args := [d] }
  | _ => none }
def fnStepBackRow : OpenClaim := { program := "ytapocfgajkkpdaa", sum := "97dfff94a32f928f77e3c0d8478c50b4372e3c5a422117b1ae02f17794429a4f", func := "loop.example/g00885/laws.FnStepBack", spec := "fnStepBack", apart := false }
def FnStepBackSaid : Prop := fnStepBackRow.holds Try.pinned (OpenSpec.ofChange fnStepBackSpec)

/-- ITS FALSE NEIGHBOUR: 'it returns false'. Refute it at one input. -/
def fnStepBackWrong : ChangeSpec := { name := "fnStepBack", fn := fun _ => fun
  | [d] => { results := [.lit (.bool false)], args := [d] }
  | _ => none }
def FnStepBackWrongFalsely : Prop := fnStepBackRow.holds Try.pinned (OpenSpec.ofChange fnStepBackWrong)

/-- 'laws.FnShots': WHATEVER THE INPUT: true; the input reads as it did. -/
def fnShotsSpec : ChangeSpec := { name := "fnShots", fn := fun _ => fun
  | [d] => { results := [.lit (.bool true)], args := [d] }
  | _ => none }
def fnShotsRow : OpenClaim := { program := "ytapocfgajkkpdaa", sum := "97dfff94a32f928f77e3c0d8478c50b4372e3c5a422117b1ae02f17794429a4f", func := "loop.example/g00885/laws.FnShots", spec := "fnShots", apart := false }
def FnShotsSaid : Prop := fnShotsRow.holds Try.pinned (OpenSpec.ofChange fnShotsSpec)

/-- ITS FALSE NEIGHBOUR: 'it returns false'. Refute it at one input. -/
def fnShotsWrong : ChangeSpec := { name := "fnShots", fn := fun _ => fun
  | [d] => { results := [.lit (.bool false)], args := [d] }
  | _ => none }
def FnShotsWrongFalsely : Prop := fnShotsRow.holds Try.pinned (OpenSpec.ofChange fnShotsWrong)

/- THE SECOND FORM. 'bulk': how many values and letters a reading holds, each counted each time it is reached (what is shared counts as often as it is met; a slice's spare places count too). A statement '..UptoSaid' is the law's where the arguments, and the package variables that the reading takes, are together of bulk at most 1048576: NARROWER than '..Said'. Prove '..Said' where nothing that the law and all that it calls make is longer than what came in: it says more and counts as full. Else prove '..UptoSaid'. A law counts once. -/
mutual
def uptoBulk {H : Type} : DataW H → Nat
  | .lit (.string bytes) => bytes.length + 1
  | .lit _ => 1
  | .nil => 1
  | .ptr d => uptoBulk d + 1
  | .slice elems spare => uptoBulkAll elems + uptoBulkAll spare + 1
  | .agg parts => uptoBulkAll parts + 1
  | .iface _ d => uptoBulk d + 1
  | .map entries => uptoBulkEntries entries + 1
  | .held _ => 1
def uptoBulkAll {H : Type} : List (DataW H) → Nat
  | [] => 0
  | d :: r => uptoBulk d + uptoBulkAll r
def uptoBulkEntries {H : Type} : List (Lit × DataW H) → Nat
  | [] => 0
  | x :: r => uptoBulkEntry x + uptoBulkEntries r
def uptoBulkEntry {H : Type} : Lit × DataW H → Nat
  | (.string bytes, d) => bytes.length + uptoBulk d + 1
  | (_, d) => uptoBulk d + 1
 end
def uptoSmall : (H : Type) → List (DataW H) → Bool := fun _ ds => decide (uptoBulkAll ds ≤ 1048576)
def OpenSpec.upto (s : _root_.Go.ChangeSpec) : _root_.Go.OpenSpec := { _root_.Go.OpenSpec.ofChange s with cond := some uptoSmall }

/-- 'laws.FnSideNumbers', WHERE WHAT IT READS IS OF BULK AT MOST 1048576: true; the input reads as it did. -/
def fnSideNumbersUptoRow : OpenClaim := { program := "ytapocfgajkkpdaa", sum := "97dfff94a32f928f77e3c0d8478c50b4372e3c5a422117b1ae02f17794429a4f", func := "loop.example/g00885/laws.FnSideNumbers", spec := "fnSideNumbers", apart := false, narrowed := true }
def FnSideNumbersUptoSaid : Prop := fnSideNumbersUptoRow.holds Try.pinned (OpenSpec.upto fnSideNumbersSpec)

/-- 'laws.FnRolls', WHERE WHAT IT READS IS OF BULK AT MOST 1048576: true; the input reads as it did. -/
def fnRollsUptoRow : OpenClaim := { program := "ytapocfgajkkpdaa", sum := "97dfff94a32f928f77e3c0d8478c50b4372e3c5a422117b1ae02f17794429a4f", func := "loop.example/g00885/laws.FnRolls", spec := "fnRolls", apart := false, narrowed := true }
def FnRollsUptoSaid : Prop := fnRollsUptoRow.holds Try.pinned (OpenSpec.upto fnRollsSpec)

/-- 'laws.FnPoints', WHERE WHAT IT READS IS OF BULK AT MOST 1048576: true; the input reads as it did. -/
def fnPointsUptoRow : OpenClaim := { program := "ytapocfgajkkpdaa", sum := "97dfff94a32f928f77e3c0d8478c50b4372e3c5a422117b1ae02f17794429a4f", func := "loop.example/g00885/laws.FnPoints", spec := "fnPoints", apart := false, narrowed := true }
def FnPointsUptoSaid : Prop := fnPointsUptoRow.holds Try.pinned (OpenSpec.upto fnPointsSpec)

/-- 'laws.FnSwap', WHERE WHAT IT READS IS OF BULK AT MOST 1048576: true; the input reads as it did. -/
def fnSwapUptoRow : OpenClaim := { program := "ytapocfgajkkpdaa", sum := "97dfff94a32f928f77e3c0d8478c50b4372e3c5a422117b1ae02f17794429a4f", func := "loop.example/g00885/laws.FnSwap", spec := "fnSwap", apart := false, narrowed := true }
def FnSwapUptoSaid : Prop := fnSwapUptoRow.holds Try.pinned (OpenSpec.upto fnSwapSpec)

/-- 'laws.FnIdentifiers', WHERE WHAT IT READS IS OF BULK AT MOST 1048576: true; the input reads as it did. -/
def fnIdentifiersUptoRow : OpenClaim := { program := "ytapocfgajkkpdaa", sum := "97dfff94a32f928f77e3c0d8478c50b4372e3c5a422117b1ae02f17794429a4f", func := "loop.example/g00885/laws.FnIdentifiers", spec := "fnIdentifiers", apart := false, narrowed := true }
def FnIdentifiersUptoSaid : Prop := fnIdentifiersUptoRow.holds Try.pinned (OpenSpec.upto fnIdentifiersSpec)

/-- 'laws.FnLegalSteps', WHERE WHAT IT READS IS OF BULK AT MOST 1048576: true; the input reads as it did. -/
def fnLegalStepsUptoRow : OpenClaim := { program := "ytapocfgajkkpdaa", sum := "97dfff94a32f928f77e3c0d8478c50b4372e3c5a422117b1ae02f17794429a4f", func := "loop.example/g00885/laws.FnLegalSteps", spec := "fnLegalSteps", apart := false, narrowed := true }
def FnLegalStepsUptoSaid : Prop := fnLegalStepsUptoRow.holds Try.pinned (OpenSpec.upto fnLegalStepsSpec)

/-- 'laws.FnStepBack', WHERE WHAT IT READS IS OF BULK AT MOST 1048576: true; the input reads as it did. -/
def fnStepBackUptoRow : OpenClaim := { program := "ytapocfgajkkpdaa", sum := "97dfff94a32f928f77e3c0d8478c50b4372e3c5a422117b1ae02f17794429a4f", func := "loop.example/g00885/laws.FnStepBack", spec := "fnStepBack", apart := false, narrowed := true }
def FnStepBackUptoSaid : Prop := fnStepBackUptoRow.holds Try.pinned (OpenSpec.upto fnStepBackSpec)

/-- 'laws.FnShots', WHERE WHAT IT READS IS OF BULK AT MOST 1048576: true; the input reads as it did. -/
def fnShotsUptoRow : OpenClaim := { program := "ytapocfgajkkpdaa", sum := "97dfff94a32f928f77e3c0d8478c50b4372e3c5a422117b1ae02f17794429a4f", func := "loop.example/g00885/laws.FnShots", spec := "fnShots", apart := false, narrowed := true }
def FnShotsUptoSaid : Prop := fnShotsUptoRow.holds Try.pinned (OpenSpec.upto fnShotsSpec)

end Rows
end Go.Proofs.Ytapocfgajkkpdaa
