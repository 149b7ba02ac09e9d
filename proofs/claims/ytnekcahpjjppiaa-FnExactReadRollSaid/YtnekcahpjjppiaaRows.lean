/-
  No cell of these rows narrows 'for every input' (looked for: loops, veiled, ifaces, maps, wideKeys, modest, calm, conditions, laid).
  DERIVED. THE GIVEN ROWS OF THIS SEAT. 12 by the template 'for every input the law returns true; each argument reads behind the call as it read before'; 0 by the template 'total and deterministic' (their statements: YtnekcahpjjppiaaTotals.lean).
  GIVEN WITH THE SEED: the statements are not yours to turn. If you find one false, say at which input.
  Laid BY PROGRAM, IN A SANDBOX (cutbox-rows.mjs): the forced cells as the released guide's own fill.sh prints them over the translation eec7646d87c59337… (all of the seat's roots in one cut). By AI agents, Wed Nov 11 2026. No macro, syntax, notation, axiom, sorry.
-/
import Derived.Test.YtnekcahpjjppiaaChecked
import GoSem.Claim
import GoSem.ClaimJoined
import GoSem.ClaimMapViews
import Derived.JoinedTies
import Derived.KernelRfl
namespace Go.Proofs.Ytnekcahpjjppiaa
/- THE CELL 'sum', in the pinned program and in every row, IS THE sha256 OF THE DUMP (.gsa) THAT YtnekcahpjjppiaaProg.lean LOADS. Nothing in Lean hashes anything: it is a label: what it is worth is what the hold of that sum in a sandbox is worth. -/
noncomputable def Try.pinned : Pinned := { name := "ytnekcahpjjppiaa", sum := "eec7646d87c593378f921a674ad964e276d2b683a988138df81962631d025183", checked := Try.checked }
namespace Rows
def none {H : Type} : Left H := { results := [], args := [] }

/-- 'laws.FnExactConstants': WHATEVER THE INPUT: true; the input reads as it did. -/
def fnExactConstantsSpec : ChangeSpec := { name := "fnExactConstants", fn := fun _ => fun
  | [] => { results := [.lit (.bool true)], args := [] }
  | _ => none }
def fnExactConstantsRow : OpenClaim := { program := "ytnekcahpjjppiaa", sum := "eec7646d87c593378f921a674ad964e276d2b683a988138df81962631d025183", func := "loop.example/g00885/laws.FnExactConstants", spec := "fnExactConstants", apart := false }
def FnExactConstantsSaid : Prop := fnExactConstantsRow.holds Try.pinned (OpenSpec.ofChange fnExactConstantsSpec)

/-- ITS FALSE NEIGHBOUR: 'it returns false'. Refute it at one input. -/
def fnExactConstantsWrong : ChangeSpec := { name := "fnExactConstants", fn := fun _ => fun
  | [] => { results := [.lit (.bool false)], args := [] }
  | _ => none }
def FnExactConstantsWrongFalsely : Prop := fnExactConstantsRow.holds Try.pinned (OpenSpec.ofChange fnExactConstantsWrong)

/-- 'laws.FnExactIsVariant': WHATEVER THE INPUT: true; the input reads as it did. -/
def fnExactIsVariantSpec : ChangeSpec := { name := "fnExactIsVariant", fn := fun _ => fun
  | [d] => { results := [.lit (.bool true)], args := [d] }
  | _ => none }
def fnExactIsVariantRow : OpenClaim := { program := "ytnekcahpjjppiaa", sum := "eec7646d87c593378f921a674ad964e276d2b683a988138df81962631d025183", func := "loop.example/g00885/laws.FnExactIsVariant", spec := "fnExactIsVariant", apart := false }
def FnExactIsVariantSaid : Prop := fnExactIsVariantRow.holds Try.pinned (OpenSpec.ofChange fnExactIsVariantSpec)

/-- ITS FALSE NEIGHBOUR: 'it returns false'. Refute it at one input. -/
def fnExactIsVariantWrong : ChangeSpec := { name := "fnExactIsVariant", fn := fun _ => fun
  | [d] => { results := [.lit (.bool false)], args := [d] }
  | _ => none }
def FnExactIsVariantWrongFalsely : Prop := fnExactIsVariantRow.holds Try.pinned (OpenSpec.ofChange fnExactIsVariantWrong)

/-- 'laws.FnExactFullVariant': WHATEVER THE INPUT: true; the input reads as it did. -/
def fnExactFullVariantSpec : ChangeSpec := { name := "fnExactFullVariant", fn := fun _ => fun
  | [] => { results := [.lit (.bool true)], args := [] }
  | _ => none }
def fnExactFullVariantRow : OpenClaim := { program := "ytnekcahpjjppiaa", sum := "eec7646d87c593378f921a674ad964e276d2b683a988138df81962631d025183", func := "loop.example/g00885/laws.FnExactFullVariant", spec := "fnExactFullVariant", apart := false }
def FnExactFullVariantSaid : Prop := fnExactFullVariantRow.holds Try.pinned (OpenSpec.ofChange fnExactFullVariantSpec)

/-- ITS FALSE NEIGHBOUR: 'it returns false'. Refute it at one input. -/
def fnExactFullVariantWrong : ChangeSpec := { name := "fnExactFullVariant", fn := fun _ => fun
  | [] => { results := [.lit (.bool false)], args := [] }
  | _ => none }
def FnExactFullVariantWrongFalsely : Prop := fnExactFullVariantRow.holds Try.pinned (OpenSpec.ofChange fnExactFullVariantWrong)

/-- 'laws.FnExactHomesApart': WHATEVER THE INPUT: true; the input reads as it did. -/
def fnExactHomesApartSpec : ChangeSpec := { name := "fnExactHomesApart", fn := fun _ => fun
  | [d] => { results := [.lit (.bool true)], args := [d] }
  | _ => none }
def fnExactHomesApartRow : OpenClaim := { program := "ytnekcahpjjppiaa", sum := "eec7646d87c593378f921a674ad964e276d2b683a988138df81962631d025183", func := "loop.example/g00885/laws.FnExactHomesApart", spec := "fnExactHomesApart", apart := false }
def FnExactHomesApartSaid : Prop := fnExactHomesApartRow.holds Try.pinned (OpenSpec.ofChange fnExactHomesApartSpec)

/-- ITS FALSE NEIGHBOUR: 'it returns false'. Refute it at one input. -/
def fnExactHomesApartWrong : ChangeSpec := { name := "fnExactHomesApart", fn := fun _ => fun
  | [d] => { results := [.lit (.bool false)], args := [d] }
  | _ => none }
def FnExactHomesApartWrongFalsely : Prop := fnExactHomesApartRow.holds Try.pinned (OpenSpec.ofChange fnExactHomesApartWrong)

/-- 'laws.FnExactNextSeed': WHATEVER THE INPUT: true; the input reads as it did. -/
def fnExactNextSeedSpec : ChangeSpec := { name := "fnExactNextSeed", fn := fun _ => fun
  | [d] => { results := [.lit (.bool true)], args := [d] }
  | _ => none }
def fnExactNextSeedRow : OpenClaim := { program := "ytnekcahpjjppiaa", sum := "eec7646d87c593378f921a674ad964e276d2b683a988138df81962631d025183", func := "loop.example/g00885/laws.FnExactNextSeed", spec := "fnExactNextSeed", apart := false }
def FnExactNextSeedSaid : Prop := fnExactNextSeedRow.holds Try.pinned (OpenSpec.ofChange fnExactNextSeedSpec)

/-- ITS FALSE NEIGHBOUR: 'it returns false'. Refute it at one input. -/
def fnExactNextSeedWrong : ChangeSpec := { name := "fnExactNextSeed", fn := fun _ => fun
  | [d] => { results := [.lit (.bool false)], args := [d] }
  | _ => none }
def FnExactNextSeedWrongFalsely : Prop := fnExactNextSeedRow.holds Try.pinned (OpenSpec.ofChange fnExactNextSeedWrong)

/-- 'laws.FnExactIsSmallVariant': WHATEVER THE INPUT: true; the input reads as it did. -/
def fnExactIsSmallVariantSpec : ChangeSpec := { name := "fnExactIsSmallVariant", fn := fun _ => fun
  | [d] => { results := [.lit (.bool true)], args := [d] }
  | _ => none }
def fnExactIsSmallVariantRow : OpenClaim := { program := "ytnekcahpjjppiaa", sum := "eec7646d87c593378f921a674ad964e276d2b683a988138df81962631d025183", func := "loop.example/g00885/laws.FnExactIsSmallVariant", spec := "fnExactIsSmallVariant", apart := false }
def FnExactIsSmallVariantSaid : Prop := fnExactIsSmallVariantRow.holds Try.pinned (OpenSpec.ofChange fnExactIsSmallVariantSpec)

/-- ITS FALSE NEIGHBOUR: 'it returns false'. Refute it at one input. -/
def fnExactIsSmallVariantWrong : ChangeSpec := { name := "fnExactIsSmallVariant", fn := fun _ => fun
  | [d] => { results := [.lit (.bool false)], args := [d] }
  | _ => none }
def FnExactIsSmallVariantWrongFalsely : Prop := fnExactIsSmallVariantRow.holds Try.pinned (OpenSpec.ofChange fnExactIsSmallVariantWrong)

/-- 'laws.FnExactRollKinds': WHATEVER THE INPUT: true; the input reads as it did. -/
def fnExactRollKindsSpec : ChangeSpec := { name := "fnExactRollKinds", fn := fun _ => fun
  | [d] => { results := [.lit (.bool true)], args := [d] }
  | _ => none }
def fnExactRollKindsRow : OpenClaim := { program := "ytnekcahpjjppiaa", sum := "eec7646d87c593378f921a674ad964e276d2b683a988138df81962631d025183", func := "loop.example/g00885/laws.FnExactRollKinds", spec := "fnExactRollKinds", apart := false }
def FnExactRollKindsSaid : Prop := fnExactRollKindsRow.holds Try.pinned (OpenSpec.ofChange fnExactRollKindsSpec)

/-- ITS FALSE NEIGHBOUR: 'it returns false'. Refute it at one input. -/
def fnExactRollKindsWrong : ChangeSpec := { name := "fnExactRollKinds", fn := fun _ => fun
  | [d] => { results := [.lit (.bool false)], args := [d] }
  | _ => none }
def FnExactRollKindsWrongFalsely : Prop := fnExactRollKindsRow.holds Try.pinned (OpenSpec.ofChange fnExactRollKindsWrong)

/-- 'laws.FnExactRollTotal': WHATEVER THE INPUT: true; the input reads as it did. -/
def fnExactRollTotalSpec : ChangeSpec := { name := "fnExactRollTotal", fn := fun _ => fun
  | [d] => { results := [.lit (.bool true)], args := [d] }
  | _ => none }
def fnExactRollTotalRow : OpenClaim := { program := "ytnekcahpjjppiaa", sum := "eec7646d87c593378f921a674ad964e276d2b683a988138df81962631d025183", func := "loop.example/g00885/laws.FnExactRollTotal", spec := "fnExactRollTotal", apart := false }
def FnExactRollTotalSaid : Prop := fnExactRollTotalRow.holds Try.pinned (OpenSpec.ofChange fnExactRollTotalSpec)

/-- ITS FALSE NEIGHBOUR: 'it returns false'. Refute it at one input. -/
def fnExactRollTotalWrong : ChangeSpec := { name := "fnExactRollTotal", fn := fun _ => fun
  | [d] => { results := [.lit (.bool false)], args := [d] }
  | _ => none }
def FnExactRollTotalWrongFalsely : Prop := fnExactRollTotalRow.holds Try.pinned (OpenSpec.ofChange fnExactRollTotalWrong)

/-- 'laws.FnExactIsRoll': WHATEVER THE INPUT: true; the input reads as it did. -/
def fnExactIsRollSpec : ChangeSpec := { name := "fnExactIsRoll", fn := fun _ => fun
  | [d1, d2] => { results := [.lit (.bool true)], args := [d1, d2] }
  | _ => none }
def fnExactIsRollRow : OpenClaim := { program := "ytnekcahpjjppiaa", sum := "eec7646d87c593378f921a674ad964e276d2b683a988138df81962631d025183", func := "loop.example/g00885/laws.FnExactIsRoll", spec := "fnExactIsRoll", apart := false }
def FnExactIsRollSaid : Prop := fnExactIsRollRow.holds Try.pinned (OpenSpec.ofChange fnExactIsRollSpec)

/-- ITS FALSE NEIGHBOUR: 'it returns false'. Refute it at one input. -/
def fnExactIsRollWrong : ChangeSpec := { name := "fnExactIsRoll", fn := fun _ => fun
  | [d1, d2] => { results := [.lit (.bool false)], args := [d1, d2] }
  | _ => none }
def FnExactIsRollWrongFalsely : Prop := fnExactIsRollRow.holds Try.pinned (OpenSpec.ofChange fnExactIsRollWrong)

/-- 'laws.FnExactRollNumber': WHATEVER THE INPUT: true; the input reads as it did. -/
def fnExactRollNumberSpec : ChangeSpec := { name := "fnExactRollNumber", fn := fun _ => fun
  | [d1, d2] => { results := [.lit (.bool true)], args := [d1, d2] }
  | _ => none }
def fnExactRollNumberRow : OpenClaim := { program := "ytnekcahpjjppiaa", sum := "eec7646d87c593378f921a674ad964e276d2b683a988138df81962631d025183", func := "loop.example/g00885/laws.FnExactRollNumber", spec := "fnExactRollNumber", apart := false }
def FnExactRollNumberSaid : Prop := fnExactRollNumberRow.holds Try.pinned (OpenSpec.ofChange fnExactRollNumberSpec)

/-- ITS FALSE NEIGHBOUR: 'it returns false'. Refute it at one input. -/
def fnExactRollNumberWrong : ChangeSpec := { name := "fnExactRollNumber", fn := fun _ => fun
  | [d1, d2] => { results := [.lit (.bool false)], args := [d1, d2] }
  | _ => none }
def FnExactRollNumberWrongFalsely : Prop := fnExactRollNumberRow.holds Try.pinned (OpenSpec.ofChange fnExactRollNumberWrong)

/-- 'laws.FnExactRollWeight': WHATEVER THE INPUT: true; the input reads as it did. -/
def fnExactRollWeightSpec : ChangeSpec := { name := "fnExactRollWeight", fn := fun _ => fun
  | [d1, d2] => { results := [.lit (.bool true)], args := [d1, d2] }
  | _ => none }
def fnExactRollWeightRow : OpenClaim := { program := "ytnekcahpjjppiaa", sum := "eec7646d87c593378f921a674ad964e276d2b683a988138df81962631d025183", func := "loop.example/g00885/laws.FnExactRollWeight", spec := "fnExactRollWeight", apart := false }
def FnExactRollWeightSaid : Prop := fnExactRollWeightRow.holds Try.pinned (OpenSpec.ofChange fnExactRollWeightSpec)

/-- ITS FALSE NEIGHBOUR: 'it returns false'. Refute it at one input. -/
def fnExactRollWeightWrong : ChangeSpec := { name := "fnExactRollWeight", fn := fun _ => fun
  | [d1, d2] => { results := [.lit (.bool false)], args := [d1, d2] }
  | _ => none }
def FnExactRollWeightWrongFalsely : Prop := fnExactRollWeightRow.holds Try.pinned (OpenSpec.ofChange fnExactRollWeightWrong)

/-- 'laws.FnExactReadRoll': WHATEVER THE INPUT: true; the input reads as it did. -/
def fnExactReadRollSpec : ChangeSpec := { name := "fnExactReadRoll", fn := fun _ => fun
  | [d1, d2] => { results := [.lit (.bool true)], args := [d1, d2] }
  | _ => none }
def fnExactReadRollRow : OpenClaim := { program := "ytnekcahpjjppiaa", sum := "eec7646d87c593378f921a674ad964e276d2b683a988138df81962631d025183", func := "loop.example/g00885/laws.FnExactReadRoll", spec := "fnExactReadRoll", apart := false }
def FnExactReadRollSaid : Prop := fnExactReadRollRow.holds Try.pinned (OpenSpec.ofChange fnExactReadRollSpec)

/-- ITS FALSE NEIGHBOUR: 'it returns false'. Refute it at one input. -/
def fnExactReadRollWrong : ChangeSpec := { name := "fnExactReadRoll", fn := fun _ => fun
  | [d1, d2] => { results := [.lit (.bool false)], args := [d1, d2] }
  | _ => none }
def FnExactReadRollWrongFalsely : Prop := fnExactReadRollRow.holds Try.pinned (OpenSpec.ofChange fnExactReadRollWrong)

/- THE SECOND FORM. 'bulk': how many values and letters a reading holds, each counted each time it is reached (what is shared counts as often as it is met; a slice's spare places count too). A statement '..UptoSaid' is the law's where the arguments, and the package variables that the reading takes, are together of bulk at most 1048576: NARROWER than '..Said'. Prove '..Said' where nothing that the law and all that it calls make is longer than what came in: it says more and counts as full. Else prove '..UptoSaid'. A law counts once. -/
mutual
def uptoBulk {H : Type} : DataW H → Nat
  | .lit (.string bytes) => bytes.length + 1
  | .lit _ => 1
  | .nil => 1
  | .ptr d => uptoBulk d + 1
  | .slice elems spare => uptoBulkAll elems + uptoBulkAll spare + 1
  | .agg parts => uptoBulkAll parts + 1
  | .iface _ d => uptoBulk d + 1
  | .map entries => uptoBulkEntries entries + 1
  | .held _ => 1
def uptoBulkAll {H : Type} : List (DataW H) → Nat
  | [] => 0
  | d :: r => uptoBulk d + uptoBulkAll r
def uptoBulkEntries {H : Type} : List (Lit × DataW H) → Nat
  | [] => 0
  | x :: r => uptoBulkEntry x + uptoBulkEntries r
def uptoBulkEntry {H : Type} : Lit × DataW H → Nat
  | (.string bytes, d) => bytes.length + uptoBulk d + 1
  | (_, d) => uptoBulk d + 1
 end
def uptoSmall : (H : Type) → List (DataW H) → Bool := fun _ ds => decide (uptoBulkAll ds ≤ 1048576)
def OpenSpec.upto (s : _root_.Go.ChangeSpec) : _root_.Go.OpenSpec := { _root_.Go.OpenSpec.ofChange s with cond := some uptoSmall }

/-- 'laws.FnExactConstants', WHERE WHAT IT READS IS OF BULK AT MOST 1048576: true; the input reads as it did. -/
def fnExactConstantsUptoRow : OpenClaim := { program := "ytnekcahpjjppiaa", sum := "eec7646d87c593378f921a674ad964e276d2b683a988138df81962631d025183", func := "loop.example/g00885/laws.FnExactConstants", spec := "fnExactConstants", apart := false, narrowed := true }
def FnExactConstantsUptoSaid : Prop := fnExactConstantsUptoRow.holds Try.pinned (OpenSpec.upto fnExactConstantsSpec)

/-- 'laws.FnExactIsVariant', WHERE WHAT IT READS IS OF BULK AT MOST 1048576: true; the input reads as it did. -/
def fnExactIsVariantUptoRow : OpenClaim := { program := "ytnekcahpjjppiaa", sum := "eec7646d87c593378f921a674ad964e276d2b683a988138df81962631d025183", func := "loop.example/g00885/laws.FnExactIsVariant", spec := "fnExactIsVariant", apart := false, narrowed := true }
def FnExactIsVariantUptoSaid : Prop := fnExactIsVariantUptoRow.holds Try.pinned (OpenSpec.upto fnExactIsVariantSpec)

/-- 'laws.FnExactFullVariant', WHERE WHAT IT READS IS OF BULK AT MOST 1048576: true; the input reads as it did. -/
def fnExactFullVariantUptoRow : OpenClaim := { program := "ytnekcahpjjppiaa", sum := "eec7646d87c593378f921a674ad964e276d2b683a988138df81962631d025183", func := "loop.example/g00885/laws.FnExactFullVariant", spec := "fnExactFullVariant", apart := false, narrowed := true }
def FnExactFullVariantUptoSaid : Prop := fnExactFullVariantUptoRow.holds Try.pinned (OpenSpec.upto fnExactFullVariantSpec)

/-- 'laws.FnExactHomesApart', WHERE WHAT IT READS IS OF BULK AT MOST 1048576: true; the input reads as it did. -/
def fnExactHomesApartUptoRow : OpenClaim := { program := "ytnekcahpjjppiaa", sum := "eec7646d87c593378f921a674ad964e276d2b683a988138df81962631d025183", func := "loop.example/g00885/laws.FnExactHomesApart", spec := "fnExactHomesApart", apart := false, narrowed := true }
def FnExactHomesApartUptoSaid : Prop := fnExactHomesApartUptoRow.holds Try.pinned (OpenSpec.upto fnExactHomesApartSpec)

/-- 'laws.FnExactNextSeed', WHERE WHAT IT READS IS OF BULK AT MOST 1048576: true; the input reads as it did. -/
def fnExactNextSeedUptoRow : OpenClaim := { program := "ytnekcahpjjppiaa", sum := "eec7646d87c593378f921a674ad964e276d2b683a988138df81962631d025183", func := "loop.example/g00885/laws.FnExactNextSeed", spec := "fnExactNextSeed", apart := false, narrowed := true }
def FnExactNextSeedUptoSaid : Prop := fnExactNextSeedUptoRow.holds Try.pinned (OpenSpec.upto fnExactNextSeedSpec)

/-- 'laws.FnExactIsSmallVariant', WHERE WHAT IT READS IS OF BULK AT MOST 1048576: true; the input reads as it did. -/
def fnExactIsSmallVariantUptoRow : OpenClaim := { program := "ytnekcahpjjppiaa", sum := "eec7646d87c593378f921a674ad964e276d2b683a988138df81962631d025183", func := "loop.example/g00885/laws.FnExactIsSmallVariant", spec := "fnExactIsSmallVariant", apart := false, narrowed := true }
def FnExactIsSmallVariantUptoSaid : Prop := fnExactIsSmallVariantUptoRow.holds Try.pinned (OpenSpec.upto fnExactIsSmallVariantSpec)

/-- 'laws.FnExactRollKinds', WHERE WHAT IT READS IS OF BULK AT MOST 1048576: true; the input reads as it did. -/
def fnExactRollKindsUptoRow : OpenClaim := { program := "ytnekcahpjjppiaa", sum := "eec7646d87c593378f921a674ad964e276d2b683a988138df81962631d025183", func := "loop.example/g00885/laws.FnExactRollKinds", spec := "fnExactRollKinds", apart := false, narrowed := true }
def FnExactRollKindsUptoSaid : Prop := fnExactRollKindsUptoRow.holds Try.pinned (OpenSpec.upto fnExactRollKindsSpec)

/-- 'laws.FnExactRollTotal', WHERE WHAT IT READS IS OF BULK AT MOST 1048576: true; the input reads as it did. -/
def fnExactRollTotalUptoRow : OpenClaim := { program := "ytnekcahpjjppiaa", sum := "eec7646d87c593378f921a674ad964e276d2b683a988138df81962631d025183", func := "loop.example/g00885/laws.FnExactRollTotal", spec := "fnExactRollTotal", apart := false, narrowed := true }
def FnExactRollTotalUptoSaid : Prop := fnExactRollTotalUptoRow.holds Try.pinned (OpenSpec.upto fnExactRollTotalSpec)

/-- 'laws.FnExactIsRoll', WHERE WHAT IT READS IS OF BULK AT MOST 1048576: true; the input reads as it did. -/
def fnExactIsRollUptoRow : OpenClaim := { program := "ytnekcahpjjppiaa", sum := "eec7646d87c593378f921a674ad964e276d2b683a988138df81962631d025183", func := "loop.example/g00885/laws.FnExactIsRoll", spec := "fnExactIsRoll", apart := false, narrowed := true }
def FnExactIsRollUptoSaid : Prop := fnExactIsRollUptoRow.holds Try.pinned (OpenSpec.upto fnExactIsRollSpec)

/-- 'laws.FnExactRollNumber', WHERE WHAT IT READS IS OF BULK AT MOST 1048576: true; the input reads as it did. -/
def fnExactRollNumberUptoRow : OpenClaim := { program := "ytnekcahpjjppiaa", sum := "eec7646d87c593378f921a674ad964e276d2b683a988138df81962631d025183", func := "loop.example/g00885/laws.FnExactRollNumber", spec := "fnExactRollNumber", apart := false, narrowed := true }
def FnExactRollNumberUptoSaid : Prop := fnExactRollNumberUptoRow.holds Try.pinned (OpenSpec.upto fnExactRollNumberSpec)

/-- 'laws.FnExactRollWeight', WHERE WHAT IT READS IS OF BULK AT MOST 1048576: true; the input reads as it did. -/
def fnExactRollWeightUptoRow : OpenClaim := { program := "ytnekcahpjjppiaa", sum := "eec7646d87c593378f921a674ad964e276d2b683a988138df81962631d025183", func := "loop.example/g00885/laws.FnExactRollWeight", spec := "fnExactRollWeight", apart := false, narrowed := true }
def FnExactRollWeightUptoSaid : Prop := fnExactRollWeightUptoRow.holds Try.pinned (OpenSpec.upto fnExactRollWeightSpec)

/-- 'laws.FnExactReadRoll', WHERE WHAT IT READS IS OF BULK AT MOST 1048576: true; the input reads as it did. -/
def fnExactReadRollUptoRow : OpenClaim := { program := "ytnekcahpjjppiaa", sum := "eec7646d87c593378f921a674ad964e276d2b683a988138df81962631d025183", func := "loop.example/g00885/laws.FnExactReadRoll", spec := "fnExactReadRoll", apart := false, narrowed := true }
def FnExactReadRollUptoSaid : Prop := fnExactReadRollUptoRow.holds Try.pinned (OpenSpec.upto fnExactReadRollSpec)

end Rows
end Go.Proofs.Ytnekcahpjjppiaa
