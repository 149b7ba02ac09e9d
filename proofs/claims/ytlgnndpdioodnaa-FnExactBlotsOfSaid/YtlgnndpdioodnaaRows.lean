/-
  No cell of these rows narrows 'for every input' (looked for: loops, veiled, ifaces, maps, wideKeys, modest, calm, conditions, laid).
  DERIVED. THE GIVEN ROWS OF THIS SEAT. 12 by the template 'for every input the law returns true; each argument reads behind the call as it read before'; 0 by the template 'total and deterministic' (their statements: YtlgnndpdioodnaaTotals.lean).
  GIVEN WITH THE SEED: the statements are not yours to turn. If you find one false, say at which input.
  Laid BY PROGRAM, IN A SANDBOX (cutbox-rows.mjs): the forced cells as the released guide's own fill.sh prints them over the translation 6e6ceb2383cff1de… (all of the seat's roots in one cut). By AI agents, Wed Nov 11 2026. No macro, syntax, notation, axiom, sorry.
-/
import Derived.Test.YtlgnndpdioodnaaChecked
import GoSem.Claim
import GoSem.ClaimJoined
import GoSem.ClaimMapViews
import Derived.JoinedTies
import Derived.KernelRfl
namespace Go.Proofs.Ytlgnndpdioodnaa
/- THE CELL 'sum', in the pinned program and in every row, IS THE sha256 OF THE DUMP (.gsa) THAT YtlgnndpdioodnaaProg.lean LOADS. Nothing in Lean hashes anything: it is a label: what it is worth is what the hold of that sum in a sandbox is worth. -/
noncomputable def Try.pinned : Pinned := { name := "ytlgnndpdioodnaa", sum := "6e6ceb2383cff1de773a87fd1876f6e8924cf44871b91ddd4a73f2161bd80edb", checked := Try.checked }
namespace Rows
def none {H : Type} : Left H := { results := [], args := [] }

/-- 'laws.FnExactIsBoard': WHATEVER THE INPUT: true; the input reads as it did. -/
def fnExactIsBoardSpec : ChangeSpec := { name := "fnExactIsBoard", fn := fun _ => fun
  | [d1, d2] => { results := [.lit (.bool true)], args := [d1, d2] }
  | _ => none }
def fnExactIsBoardRow : OpenClaim := { program := "ytlgnndpdioodnaa", sum := "6e6ceb2383cff1de773a87fd1876f6e8924cf44871b91ddd4a73f2161bd80edb", func := "loop.example/g00885/laws.FnExactIsBoard", spec := "fnExactIsBoard", apart := false }
def FnExactIsBoardSaid : Prop := fnExactIsBoardRow.holds Try.pinned (OpenSpec.ofChange fnExactIsBoardSpec)

/-- ITS FALSE NEIGHBOUR: 'it returns false'. Refute it at one input. -/
def fnExactIsBoardWrong : ChangeSpec := { name := "fnExactIsBoard", fn := fun _ => fun
  | [d1, d2] => { results := [.lit (.bool false)], args := [d1, d2] }
  | _ => none }
def FnExactIsBoardWrongFalsely : Prop := fnExactIsBoardRow.holds Try.pinned (OpenSpec.ofChange fnExactIsBoardWrong)

/-- 'laws.FnExactIsOver': WHATEVER THE INPUT: true; the input reads as it did. -/
def fnExactIsOverSpec : ChangeSpec := { name := "fnExactIsOver", fn := fun _ => fun
  | [d1, d2] => { results := [.lit (.bool true)], args := [d1, d2] }
  | _ => none }
def fnExactIsOverRow : OpenClaim := { program := "ytlgnndpdioodnaa", sum := "6e6ceb2383cff1de773a87fd1876f6e8924cf44871b91ddd4a73f2161bd80edb", func := "loop.example/g00885/laws.FnExactIsOver", spec := "fnExactIsOver", apart := false }
def FnExactIsOverSaid : Prop := fnExactIsOverRow.holds Try.pinned (OpenSpec.ofChange fnExactIsOverSpec)

/-- ITS FALSE NEIGHBOUR: 'it returns false'. Refute it at one input. -/
def fnExactIsOverWrong : ChangeSpec := { name := "fnExactIsOver", fn := fun _ => fun
  | [d1, d2] => { results := [.lit (.bool false)], args := [d1, d2] }
  | _ => none }
def FnExactIsOverWrongFalsely : Prop := fnExactIsOverRow.holds Try.pinned (OpenSpec.ofChange fnExactIsOverWrong)

/-- 'laws.FnExactIsOpenPoint': WHATEVER THE INPUT: true; the input reads as it did. -/
def fnExactIsOpenPointSpec : ChangeSpec := { name := "fnExactIsOpenPoint", fn := fun _ => fun
  | [d1, d2, d3] => { results := [.lit (.bool true)], args := [d1, d2, d3] }
  | _ => none }
def fnExactIsOpenPointRow : OpenClaim := { program := "ytlgnndpdioodnaa", sum := "6e6ceb2383cff1de773a87fd1876f6e8924cf44871b91ddd4a73f2161bd80edb", func := "loop.example/g00885/laws.FnExactIsOpenPoint", spec := "fnExactIsOpenPoint", apart := false }
def FnExactIsOpenPointSaid : Prop := fnExactIsOpenPointRow.holds Try.pinned (OpenSpec.ofChange fnExactIsOpenPointSpec)

/-- ITS FALSE NEIGHBOUR: 'it returns false'. Refute it at one input. -/
def fnExactIsOpenPointWrong : ChangeSpec := { name := "fnExactIsOpenPoint", fn := fun _ => fun
  | [d1, d2, d3] => { results := [.lit (.bool false)], args := [d1, d2, d3] }
  | _ => none }
def FnExactIsOpenPointWrongFalsely : Prop := fnExactIsOpenPointRow.holds Try.pinned (OpenSpec.ofChange fnExactIsOpenPointWrong)

/-- 'laws.FnExactBorneOff': WHATEVER THE INPUT: true; the input reads as it did. -/
def fnExactBorneOffSpec : ChangeSpec := { name := "fnExactBorneOff", fn := fun _ => fun
  | [d1, d2] => { results := [.lit (.bool true)], args := [d1, d2] }
  | _ => none }
def fnExactBorneOffRow : OpenClaim := { program := "ytlgnndpdioodnaa", sum := "6e6ceb2383cff1de773a87fd1876f6e8924cf44871b91ddd4a73f2161bd80edb", func := "loop.example/g00885/laws.FnExactBorneOff", spec := "fnExactBorneOff", apart := false }
def FnExactBorneOffSaid : Prop := fnExactBorneOffRow.holds Try.pinned (OpenSpec.ofChange fnExactBorneOffSpec)

/-- ITS FALSE NEIGHBOUR: 'it returns false'. Refute it at one input. -/
def fnExactBorneOffWrong : ChangeSpec := { name := "fnExactBorneOff", fn := fun _ => fun
  | [d1, d2] => { results := [.lit (.bool false)], args := [d1, d2] }
  | _ => none }
def FnExactBorneOffWrongFalsely : Prop := fnExactBorneOffRow.holds Try.pinned (OpenSpec.ofChange fnExactBorneOffWrong)

/-- 'laws.FnExactPointCount': WHATEVER THE INPUT: true; the input reads as it did. -/
def fnExactPointCountSpec : ChangeSpec := { name := "fnExactPointCount", fn := fun _ => fun
  | [d1, d2, d3] => { results := [.lit (.bool true)], args := [d1, d2, d3] }
  | _ => none }
def fnExactPointCountRow : OpenClaim := { program := "ytlgnndpdioodnaa", sum := "6e6ceb2383cff1de773a87fd1876f6e8924cf44871b91ddd4a73f2161bd80edb", func := "loop.example/g00885/laws.FnExactPointCount", spec := "fnExactPointCount", apart := false }
def FnExactPointCountSaid : Prop := fnExactPointCountRow.holds Try.pinned (OpenSpec.ofChange fnExactPointCountSpec)

/-- ITS FALSE NEIGHBOUR: 'it returns false'. Refute it at one input. -/
def fnExactPointCountWrong : ChangeSpec := { name := "fnExactPointCount", fn := fun _ => fun
  | [d1, d2, d3] => { results := [.lit (.bool false)], args := [d1, d2, d3] }
  | _ => none }
def FnExactPointCountWrongFalsely : Prop := fnExactPointCountRow.holds Try.pinned (OpenSpec.ofChange fnExactPointCountWrong)

/-- 'laws.FnExactAllHome': WHATEVER THE INPUT: true; the input reads as it did. -/
def fnExactAllHomeSpec : ChangeSpec := { name := "fnExactAllHome", fn := fun _ => fun
  | [d1, d2] => { results := [.lit (.bool true)], args := [d1, d2] }
  | _ => none }
def fnExactAllHomeRow : OpenClaim := { program := "ytlgnndpdioodnaa", sum := "6e6ceb2383cff1de773a87fd1876f6e8924cf44871b91ddd4a73f2161bd80edb", func := "loop.example/g00885/laws.FnExactAllHome", spec := "fnExactAllHome", apart := false }
def FnExactAllHomeSaid : Prop := fnExactAllHomeRow.holds Try.pinned (OpenSpec.ofChange fnExactAllHomeSpec)

/-- ITS FALSE NEIGHBOUR: 'it returns false'. Refute it at one input. -/
def fnExactAllHomeWrong : ChangeSpec := { name := "fnExactAllHome", fn := fun _ => fun
  | [d1, d2] => { results := [.lit (.bool false)], args := [d1, d2] }
  | _ => none }
def FnExactAllHomeWrongFalsely : Prop := fnExactAllHomeRow.holds Try.pinned (OpenSpec.ofChange fnExactAllHomeWrong)

/-- 'laws.FnExactPipCounts': WHATEVER THE INPUT: true; the input reads as it did. -/
def fnExactPipCountsSpec : ChangeSpec := { name := "fnExactPipCounts", fn := fun _ => fun
  | [d1, d2] => { results := [.lit (.bool true)], args := [d1, d2] }
  | _ => none }
def fnExactPipCountsRow : OpenClaim := { program := "ytlgnndpdioodnaa", sum := "6e6ceb2383cff1de773a87fd1876f6e8924cf44871b91ddd4a73f2161bd80edb", func := "loop.example/g00885/laws.FnExactPipCounts", spec := "fnExactPipCounts", apart := false }
def FnExactPipCountsSaid : Prop := fnExactPipCountsRow.holds Try.pinned (OpenSpec.ofChange fnExactPipCountsSpec)

/-- ITS FALSE NEIGHBOUR: 'it returns false'. Refute it at one input. -/
def fnExactPipCountsWrong : ChangeSpec := { name := "fnExactPipCounts", fn := fun _ => fun
  | [d1, d2] => { results := [.lit (.bool false)], args := [d1, d2] }
  | _ => none }
def FnExactPipCountsWrongFalsely : Prop := fnExactPipCountsRow.holds Try.pinned (OpenSpec.ofChange fnExactPipCountsWrong)

/-- 'laws.FnExactIsContact': WHATEVER THE INPUT: true; the input reads as it did. -/
def fnExactIsContactSpec : ChangeSpec := { name := "fnExactIsContact", fn := fun _ => fun
  | [d1, d2] => { results := [.lit (.bool true)], args := [d1, d2] }
  | _ => none }
def fnExactIsContactRow : OpenClaim := { program := "ytlgnndpdioodnaa", sum := "6e6ceb2383cff1de773a87fd1876f6e8924cf44871b91ddd4a73f2161bd80edb", func := "loop.example/g00885/laws.FnExactIsContact", spec := "fnExactIsContact", apart := false }
def FnExactIsContactSaid : Prop := fnExactIsContactRow.holds Try.pinned (OpenSpec.ofChange fnExactIsContactSpec)

/-- ITS FALSE NEIGHBOUR: 'it returns false'. Refute it at one input. -/
def fnExactIsContactWrong : ChangeSpec := { name := "fnExactIsContact", fn := fun _ => fun
  | [d1, d2] => { results := [.lit (.bool false)], args := [d1, d2] }
  | _ => none }
def FnExactIsContactWrongFalsely : Prop := fnExactIsContactRow.holds Try.pinned (OpenSpec.ofChange fnExactIsContactWrong)

/-- 'laws.FnExactSwapBoard': WHATEVER THE INPUT: true; the input reads as it did. -/
def fnExactSwapBoardSpec : ChangeSpec := { name := "fnExactSwapBoard", fn := fun _ => fun
  | [d1, d2] => { results := [.lit (.bool true)], args := [d1, d2] }
  | _ => none }
def fnExactSwapBoardRow : OpenClaim := { program := "ytlgnndpdioodnaa", sum := "6e6ceb2383cff1de773a87fd1876f6e8924cf44871b91ddd4a73f2161bd80edb", func := "loop.example/g00885/laws.FnExactSwapBoard", spec := "fnExactSwapBoard", apart := false }
def FnExactSwapBoardSaid : Prop := fnExactSwapBoardRow.holds Try.pinned (OpenSpec.ofChange fnExactSwapBoardSpec)

/-- ITS FALSE NEIGHBOUR: 'it returns false'. Refute it at one input. -/
def fnExactSwapBoardWrong : ChangeSpec := { name := "fnExactSwapBoard", fn := fun _ => fun
  | [d1, d2] => { results := [.lit (.bool false)], args := [d1, d2] }
  | _ => none }
def FnExactSwapBoardWrongFalsely : Prop := fnExactSwapBoardRow.holds Try.pinned (OpenSpec.ofChange fnExactSwapBoardWrong)

/-- 'laws.FnExactBlotsOf': WHATEVER THE INPUT: true; the input reads as it did. -/
def fnExactBlotsOfSpec : ChangeSpec := { name := "fnExactBlotsOf", fn := fun _ => fun
  | [d1, d2] => { results := [.lit (.bool true)], args := [d1, d2] }
  | _ => none }
def fnExactBlotsOfRow : OpenClaim := { program := "ytlgnndpdioodnaa", sum := "6e6ceb2383cff1de773a87fd1876f6e8924cf44871b91ddd4a73f2161bd80edb", func := "loop.example/g00885/laws.FnExactBlotsOf", spec := "fnExactBlotsOf", apart := false }
def FnExactBlotsOfSaid : Prop := fnExactBlotsOfRow.holds Try.pinned (OpenSpec.ofChange fnExactBlotsOfSpec)

/-- ITS FALSE NEIGHBOUR: 'it returns false'. Refute it at one input. -/
def fnExactBlotsOfWrong : ChangeSpec := { name := "fnExactBlotsOf", fn := fun _ => fun
  | [d1, d2] => { results := [.lit (.bool false)], args := [d1, d2] }
  | _ => none }
def FnExactBlotsOfWrongFalsely : Prop := fnExactBlotsOfRow.holds Try.pinned (OpenSpec.ofChange fnExactBlotsOfWrong)

/-- 'laws.FnExactStartBoard': WHATEVER THE INPUT: true; the input reads as it did. -/
def fnExactStartBoardSpec : ChangeSpec := { name := "fnExactStartBoard", fn := fun _ => fun
  | [d] => { results := [.lit (.bool true)], args := [d] }
  | _ => none }
def fnExactStartBoardRow : OpenClaim := { program := "ytlgnndpdioodnaa", sum := "6e6ceb2383cff1de773a87fd1876f6e8924cf44871b91ddd4a73f2161bd80edb", func := "loop.example/g00885/laws.FnExactStartBoard", spec := "fnExactStartBoard", apart := false }
def FnExactStartBoardSaid : Prop := fnExactStartBoardRow.holds Try.pinned (OpenSpec.ofChange fnExactStartBoardSpec)

/-- ITS FALSE NEIGHBOUR: 'it returns false'. Refute it at one input. -/
def fnExactStartBoardWrong : ChangeSpec := { name := "fnExactStartBoard", fn := fun _ => fun
  | [d] => { results := [.lit (.bool false)], args := [d] }
  | _ => none }
def FnExactStartBoardWrongFalsely : Prop := fnExactStartBoardRow.holds Try.pinned (OpenSpec.ofChange fnExactStartBoardWrong)

/-- 'laws.FnExactSideNumber': WHATEVER THE INPUT: true; the input reads as it did. -/
def fnExactSideNumberSpec : ChangeSpec := { name := "fnExactSideNumber", fn := fun _ => fun
  | [d1, d2] => { results := [.lit (.bool true)], args := [d1, d2] }
  | _ => none }
def fnExactSideNumberRow : OpenClaim := { program := "ytlgnndpdioodnaa", sum := "6e6ceb2383cff1de773a87fd1876f6e8924cf44871b91ddd4a73f2161bd80edb", func := "loop.example/g00885/laws.FnExactSideNumber", spec := "fnExactSideNumber", apart := false }
def FnExactSideNumberSaid : Prop := fnExactSideNumberRow.holds Try.pinned (OpenSpec.ofChange fnExactSideNumberSpec)

/-- ITS FALSE NEIGHBOUR: 'it returns false'. Refute it at one input. -/
def fnExactSideNumberWrong : ChangeSpec := { name := "fnExactSideNumber", fn := fun _ => fun
  | [d1, d2] => { results := [.lit (.bool false)], args := [d1, d2] }
  | _ => none }
def FnExactSideNumberWrongFalsely : Prop := fnExactSideNumberRow.holds Try.pinned (OpenSpec.ofChange fnExactSideNumberWrong)

/- THE SECOND FORM. 'bulk': how many values and letters a reading holds, each counted each time it is reached (what is shared counts as often as it is met; a slice's spare places count too). A statement '..UptoSaid' is the law's where the arguments, and the package variables that the reading takes, are together of bulk at most 1048576: NARROWER than '..Said'. Prove '..Said' where nothing that the law and all that it calls make is longer than what came in: it says more and counts as full. Else prove '..UptoSaid'. A law counts once. -/
mutual
def uptoBulk {H : Type} : DataW H → Nat
  | .lit (.string bytes) => bytes.length + 1
  | .lit _ => 1
  | .nil => 1
  | .ptr d => uptoBulk d + 1
  | .slice elems spare => uptoBulkAll elems + uptoBulkAll spare + 1
  | .agg parts => uptoBulkAll parts + 1
  | .iface _ d => uptoBulk d + 1
  | .map entries => uptoBulkEntries entries + 1
  | .held _ => 1
def uptoBulkAll {H : Type} : List (DataW H) → Nat
  | [] => 0
  | d :: r => uptoBulk d + uptoBulkAll r
def uptoBulkEntries {H : Type} : List (Lit × DataW H) → Nat
  | [] => 0
  | x :: r => uptoBulkEntry x + uptoBulkEntries r
def uptoBulkEntry {H : Type} : Lit × DataW H → Nat
  | (.string bytes, d) => bytes.length + uptoBulk d + 1
  | (_, d) => uptoBulk d + 1
 end
def uptoSmall : (H : Type) → List (DataW H) → Bool := fun _ ds => decide (uptoBulkAll ds ≤ 1048576)
def OpenSpec.upto (s : _root_.Go.ChangeSpec) : _root_.Go.OpenSpec := { _root_.Go.OpenSpec.ofChange s with cond := some uptoSmall }

/-- 'laws.FnExactIsBoard', WHERE WHAT IT READS IS OF BULK AT MOST 1048576: true; the input reads as it did. -/
def fnExactIsBoardUptoRow : OpenClaim := { program := "ytlgnndpdioodnaa", sum := "6e6ceb2383cff1de773a87fd1876f6e8924cf44871b91ddd4a73f2161bd80edb", func := "loop.example/g00885/laws.FnExactIsBoard", spec := "fnExactIsBoard", apart := false, narrowed := true }
def FnExactIsBoardUptoSaid : Prop := fnExactIsBoardUptoRow.holds Try.pinned (OpenSpec.upto fnExactIsBoardSpec)

/-- 'laws.FnExactIsOver', WHERE WHAT IT READS IS OF BULK AT MOST 1048576: true; the input reads as it did. -/
def fnExactIsOverUptoRow : OpenClaim := { program := "ytlgnndpdioodnaa", sum := "6e6ceb2383cff1de773a87fd1876f6e8924cf44871b91ddd4a73f2161bd80edb", func := "loop.example/g00885/laws.FnExactIsOver", spec := "fnExactIsOver", apart := false, narrowed := true }
def FnExactIsOverUptoSaid : Prop := fnExactIsOverUptoRow.holds Try.pinned (OpenSpec.upto fnExactIsOverSpec)

/-- 'laws.FnExactIsOpenPoint', WHERE WHAT IT READS IS OF BULK AT MOST 1048576: true; the input reads as it did. -/
def fnExactIsOpenPointUptoRow : OpenClaim := { program := "ytlgnndpdioodnaa", sum := "6e6ceb2383cff1de773a87fd1876f6e8924cf44871b91ddd4a73f2161bd80edb", func := "loop.example/g00885/laws.FnExactIsOpenPoint", spec := "fnExactIsOpenPoint", apart := false, narrowed := true }
def FnExactIsOpenPointUptoSaid : Prop := fnExactIsOpenPointUptoRow.holds Try.pinned (OpenSpec.upto fnExactIsOpenPointSpec)

/-- 'laws.FnExactBorneOff', WHERE WHAT IT READS IS OF BULK AT MOST 1048576: true; the input reads as it did. -/
def fnExactBorneOffUptoRow : OpenClaim := { program := "ytlgnndpdioodnaa", sum := "6e6ceb2383cff1de773a87fd1876f6e8924cf44871b91ddd4a73f2161bd80edb", func := "loop.example/g00885/laws.FnExactBorneOff", spec := "fnExactBorneOff", apart := false, narrowed := true }
def FnExactBorneOffUptoSaid : Prop := fnExactBorneOffUptoRow.holds Try.pinned (OpenSpec.upto fnExactBorneOffSpec)

/-- 'laws.FnExactPointCount', WHERE WHAT IT READS IS OF BULK AT MOST 1048576: true; the input reads as it did. -/
def fnExactPointCountUptoRow : OpenClaim := { program := "ytlgnndpdioodnaa", sum := "6e6ceb2383cff1de773a87fd1876f6e8924cf44871b91ddd4a73f2161bd80edb", func := "loop.example/g00885/laws.FnExactPointCount", spec := "fnExactPointCount", apart := false, narrowed := true }
def FnExactPointCountUptoSaid : Prop := fnExactPointCountUptoRow.holds Try.pinned (OpenSpec.upto fnExactPointCountSpec)

/-- 'laws.FnExactAllHome', WHERE WHAT IT READS IS OF BULK AT MOST 1048576: true; the input reads as it did. -/
def fnExactAllHomeUptoRow : OpenClaim := { program := "ytlgnndpdioodnaa", sum := "6e6ceb2383cff1de773a87fd1876f6e8924cf44871b91ddd4a73f2161bd80edb", func := "loop.example/g00885/laws.FnExactAllHome", spec := "fnExactAllHome", apart := false, narrowed := true }
def FnExactAllHomeUptoSaid : Prop := fnExactAllHomeUptoRow.holds Try.pinned (OpenSpec.upto fnExactAllHomeSpec)

/-- 'laws.FnExactPipCounts', WHERE WHAT IT READS IS OF BULK AT MOST 1048576: true; the input reads as it did. -/
def fnExactPipCountsUptoRow : OpenClaim := { program := "ytlgnndpdioodnaa", sum := "6e6ceb2383cff1de773a87fd1876f6e8924cf44871b91ddd4a73f2161bd80edb", func := "loop.example/g00885/laws.FnExactPipCounts", spec := "fnExactPipCounts", apart := false, narrowed := true }
def FnExactPipCountsUptoSaid : Prop := fnExactPipCountsUptoRow.holds Try.pinned (OpenSpec.upto fnExactPipCountsSpec)

/-- 'laws.FnExactIsContact', WHERE WHAT IT READS IS OF BULK AT MOST 1048576: true; the input reads as it did. -/
def fnExactIsContactUptoRow : OpenClaim := { program := "ytlgnndpdioodnaa", sum := "6e6ceb2383cff1de773a87fd1876f6e8924cf44871b91ddd4a73f2161bd80edb", func := "loop.example/g00885/laws.FnExactIsContact", spec := "fnExactIsContact", apart := false, narrowed := true }
def FnExactIsContactUptoSaid : Prop := fnExactIsContactUptoRow.holds Try.pinned (OpenSpec.upto fnExactIsContactSpec)

/-- 'laws.FnExactSwapBoard', WHERE WHAT IT READS IS OF BULK AT MOST 1048576: true; the input reads as it did. -/
def fnExactSwapBoardUptoRow : OpenClaim := { program := "ytlgnndpdioodnaa", sum := "6e6ceb2383cff1de773a87fd1876f6e8924cf44871b91ddd4a73f2161bd80edb", func := "loop.example/g00885/laws.FnExactSwapBoard", spec := "fnExactSwapBoard", apart := false, narrowed := true }
def FnExactSwapBoardUptoSaid : Prop := fnExactSwapBoardUptoRow.holds Try.pinned (OpenSpec.upto fnExactSwapBoardSpec)

/-- 'laws.FnExactBlotsOf', WHERE WHAT IT READS IS OF BULK AT MOST 1048576: true; the input reads as it did. -/
def fnExactBlotsOfUptoRow : OpenClaim := { program := "ytlgnndpdioodnaa", sum := "6e6ceb2383cff1de773a87fd1876f6e8924cf44871b91ddd4a73f2161bd80edb", func := "loop.example/g00885/laws.FnExactBlotsOf", spec := "fnExactBlotsOf", apart := false, narrowed := true }
def FnExactBlotsOfUptoSaid : Prop := fnExactBlotsOfUptoRow.holds Try.pinned (OpenSpec.upto fnExactBlotsOfSpec)

/-- 'laws.FnExactStartBoard', WHERE WHAT IT READS IS OF BULK AT MOST 1048576: true; the input reads as it did. -/
def fnExactStartBoardUptoRow : OpenClaim := { program := "ytlgnndpdioodnaa", sum := "6e6ceb2383cff1de773a87fd1876f6e8924cf44871b91ddd4a73f2161bd80edb", func := "loop.example/g00885/laws.FnExactStartBoard", spec := "fnExactStartBoard", apart := false, narrowed := true }
def FnExactStartBoardUptoSaid : Prop := fnExactStartBoardUptoRow.holds Try.pinned (OpenSpec.upto fnExactStartBoardSpec)

/-- 'laws.FnExactSideNumber', WHERE WHAT IT READS IS OF BULK AT MOST 1048576: true; the input reads as it did. -/
def fnExactSideNumberUptoRow : OpenClaim := { program := "ytlgnndpdioodnaa", sum := "6e6ceb2383cff1de773a87fd1876f6e8924cf44871b91ddd4a73f2161bd80edb", func := "loop.example/g00885/laws.FnExactSideNumber", spec := "fnExactSideNumber", apart := false, narrowed := true }
def FnExactSideNumberUptoSaid : Prop := fnExactSideNumberUptoRow.holds Try.pinned (OpenSpec.upto fnExactSideNumberSpec)

end Rows
end Go.Proofs.Ytlgnndpdioodnaa
