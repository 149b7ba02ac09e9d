/-
  No cell of these rows narrows 'for every input' (looked for: loops, veiled, ifaces, maps, wideKeys, modest, calm, conditions, laid).
  DERIVED. THE GIVEN ROWS OF THIS SEAT. 12 by the template 'for every input the law returns true; each argument reads behind the call as it read before'; 0 by the template 'total and deterministic' (their statements: YtmpfjnjlocfhdaaTotals.lean).
  GIVEN WITH THE SEED: the statements are not yours to turn. If you find one false, say at which input.
  Laid BY PROGRAM, IN A SANDBOX (cutbox-rows.mjs): the forced cells as the released guide's own fill.sh prints them over the translation 133b4ea258b642ec… (all of the seat's roots in one cut). By AI agents, Wed Nov 11 2026. No macro, syntax, notation, axiom, sorry.
-/
import Derived.Test.YtmpfjnjlocfhdaaChecked
import GoSem.Claim
import GoSem.ClaimJoined
import GoSem.ClaimMapViews
import Derived.JoinedTies
import Derived.KernelRfl
namespace Go.Proofs.Ytmpfjnjlocfhdaa
/- THE CELL 'sum', in the pinned program and in every row, IS THE sha256 OF THE DUMP (.gsa) THAT YtmpfjnjlocfhdaaProg.lean LOADS. Nothing in Lean hashes anything: it is a label: what it is worth is what the hold of that sum in a sandbox is worth. -/
noncomputable def Try.pinned : Pinned := { name := "ytmpfjnjlocfhdaa", sum := "133b4ea258b642ec45197a9350c51dab69c2509c9150865fb40a1a6815dcdee3", checked := Try.checked }
namespace Rows
def none {H : Type} : Left H := { results := [], args := [] }

/-- 'laws.FnExactStartBoard': WHATEVER THE INPUT: true; the input reads as it did. -/
def fnExactStartBoardSpec : ChangeSpec := { name := "fnExactStartBoard", fn := fun _ => fun
  | [d] => { results := [.lit (.bool true)], args := [d] }
  | _ => none }
def fnExactStartBoardRow : OpenClaim := { program := "ytmpfjnjlocfhdaa", sum := "133b4ea258b642ec45197a9350c51dab69c2509c9150865fb40a1a6815dcdee3", func := "loop.example/g00885/laws.FnExactStartBoard", spec := "fnExactStartBoard", apart := false }
def FnExactStartBoardSaid : Prop := fnExactStartBoardRow.holds Try.pinned (OpenSpec.ofChange fnExactStartBoardSpec)

/-- ITS FALSE NEIGHBOUR: 'it returns false'. Refute it at one input. -/
def fnExactStartBoardWrong : ChangeSpec := { name := "fnExactStartBoard", fn := fun _ => fun
  | [d] => { results := [.lit (.bool false)], args := [d] }
  | _ => none }
def FnExactStartBoardWrongFalsely : Prop := fnExactStartBoardRow.holds Try.pinned (OpenSpec.ofChange fnExactStartBoardWrong)

/-- 'laws.FnExactSideNumber': WHATEVER THE INPUT: true; the input reads as it did. -/
def fnExactSideNumberSpec : ChangeSpec := { name := "fnExactSideNumber", fn := fun _ => fun
  | [d1, d2] => { results := [.lit (.bool true)], args := [d1, d2] }
  | _ => none }
def fnExactSideNumberRow : OpenClaim := { program := "ytmpfjnjlocfhdaa", sum := "133b4ea258b642ec45197a9350c51dab69c2509c9150865fb40a1a6815dcdee3", func := "loop.example/g00885/laws.FnExactSideNumber", spec := "fnExactSideNumber", apart := false }
def FnExactSideNumberSaid : Prop := fnExactSideNumberRow.holds Try.pinned (OpenSpec.ofChange fnExactSideNumberSpec)

/-- ITS FALSE NEIGHBOUR: 'it returns false'. Refute it at one input. -/
def fnExactSideNumberWrong : ChangeSpec := { name := "fnExactSideNumber", fn := fun _ => fun
  | [d1, d2] => { results := [.lit (.bool false)], args := [d1, d2] }
  | _ => none }
def FnExactSideNumberWrongFalsely : Prop := fnExactSideNumberRow.holds Try.pinned (OpenSpec.ofChange fnExactSideNumberWrong)

/-- 'laws.FnExactSideCount': WHATEVER THE INPUT: true; the input reads as it did. -/
def fnExactSideCountSpec : ChangeSpec := { name := "fnExactSideCount", fn := fun _ => fun
  | [d] => { results := [.lit (.bool true)], args := [d] }
  | _ => none }
def fnExactSideCountRow : OpenClaim := { program := "ytmpfjnjlocfhdaa", sum := "133b4ea258b642ec45197a9350c51dab69c2509c9150865fb40a1a6815dcdee3", func := "loop.example/g00885/laws.FnExactSideCount", spec := "fnExactSideCount", apart := false }
def FnExactSideCountSaid : Prop := fnExactSideCountRow.holds Try.pinned (OpenSpec.ofChange fnExactSideCountSpec)

/-- ITS FALSE NEIGHBOUR: 'it returns false'. Refute it at one input. -/
def fnExactSideCountWrong : ChangeSpec := { name := "fnExactSideCount", fn := fun _ => fun
  | [d] => { results := [.lit (.bool false)], args := [d] }
  | _ => none }
def FnExactSideCountWrongFalsely : Prop := fnExactSideCountRow.holds Try.pinned (OpenSpec.ofChange fnExactSideCountWrong)

/-- 'laws.FnExactSideOfNumber': WHATEVER THE INPUT: true; the input reads as it did. -/
def fnExactSideOfNumberSpec : ChangeSpec := { name := "fnExactSideOfNumber", fn := fun _ => fun
  | [d1, d2] => { results := [.lit (.bool true)], args := [d1, d2] }
  | _ => none }
def fnExactSideOfNumberRow : OpenClaim := { program := "ytmpfjnjlocfhdaa", sum := "133b4ea258b642ec45197a9350c51dab69c2509c9150865fb40a1a6815dcdee3", func := "loop.example/g00885/laws.FnExactSideOfNumber", spec := "fnExactSideOfNumber", apart := false }
def FnExactSideOfNumberSaid : Prop := fnExactSideOfNumberRow.holds Try.pinned (OpenSpec.ofChange fnExactSideOfNumberSpec)

/-- ITS FALSE NEIGHBOUR: 'it returns false'. Refute it at one input. -/
def fnExactSideOfNumberWrong : ChangeSpec := { name := "fnExactSideOfNumber", fn := fun _ => fun
  | [d1, d2] => { results := [.lit (.bool false)], args := [d1, d2] }
  | _ => none }
def FnExactSideOfNumberWrongFalsely : Prop := fnExactSideOfNumberRow.holds Try.pinned (OpenSpec.ofChange fnExactSideOfNumberWrong)

/-- 'laws.FnExactBoardBits': WHATEVER THE INPUT: true; the input reads as it did. -/
def fnExactBoardBitsSpec : ChangeSpec := { name := "fnExactBoardBits", fn := fun _ => fun
  | [d1, d2] => { results := [.lit (.bool true)], args := [d1, d2] }
  | _ => none }
def fnExactBoardBitsRow : OpenClaim := { program := "ytmpfjnjlocfhdaa", sum := "133b4ea258b642ec45197a9350c51dab69c2509c9150865fb40a1a6815dcdee3", func := "loop.example/g00885/laws.FnExactBoardBits", spec := "fnExactBoardBits", apart := false }
def FnExactBoardBitsSaid : Prop := fnExactBoardBitsRow.holds Try.pinned (OpenSpec.ofChange fnExactBoardBitsSpec)

/-- ITS FALSE NEIGHBOUR: 'it returns false'. Refute it at one input. -/
def fnExactBoardBitsWrong : ChangeSpec := { name := "fnExactBoardBits", fn := fun _ => fun
  | [d1, d2] => { results := [.lit (.bool false)], args := [d1, d2] }
  | _ => none }
def FnExactBoardBitsWrongFalsely : Prop := fnExactBoardBitsRow.holds Try.pinned (OpenSpec.ofChange fnExactBoardBitsWrong)

/-- 'laws.FnExactBoardId': WHATEVER THE INPUT: true; the input reads as it did. -/
def fnExactBoardIdSpec : ChangeSpec := { name := "fnExactBoardId", fn := fun _ => fun
  | [d1, d2] => { results := [.lit (.bool true)], args := [d1, d2] }
  | _ => none }
def fnExactBoardIdRow : OpenClaim := { program := "ytmpfjnjlocfhdaa", sum := "133b4ea258b642ec45197a9350c51dab69c2509c9150865fb40a1a6815dcdee3", func := "loop.example/g00885/laws.FnExactBoardId", spec := "fnExactBoardId", apart := false }
def FnExactBoardIdSaid : Prop := fnExactBoardIdRow.holds Try.pinned (OpenSpec.ofChange fnExactBoardIdSpec)

/-- ITS FALSE NEIGHBOUR: 'it returns false'. Refute it at one input. -/
def fnExactBoardIdWrong : ChangeSpec := { name := "fnExactBoardId", fn := fun _ => fun
  | [d1, d2] => { results := [.lit (.bool false)], args := [d1, d2] }
  | _ => none }
def FnExactBoardIdWrongFalsely : Prop := fnExactBoardIdRow.holds Try.pinned (OpenSpec.ofChange fnExactBoardIdWrong)

/-- 'laws.FnExactBoardOfBits': WHATEVER THE INPUT: true; the input reads as it did. -/
def fnExactBoardOfBitsSpec : ChangeSpec := { name := "fnExactBoardOfBits", fn := fun _ => fun
  | [d1, d2] => { results := [.lit (.bool true)], args := [d1, d2] }
  | _ => none }
def fnExactBoardOfBitsRow : OpenClaim := { program := "ytmpfjnjlocfhdaa", sum := "133b4ea258b642ec45197a9350c51dab69c2509c9150865fb40a1a6815dcdee3", func := "loop.example/g00885/laws.FnExactBoardOfBits", spec := "fnExactBoardOfBits", apart := false }
def FnExactBoardOfBitsSaid : Prop := fnExactBoardOfBitsRow.holds Try.pinned (OpenSpec.ofChange fnExactBoardOfBitsSpec)

/-- ITS FALSE NEIGHBOUR: 'it returns false'. Refute it at one input. -/
def fnExactBoardOfBitsWrong : ChangeSpec := { name := "fnExactBoardOfBits", fn := fun _ => fun
  | [d1, d2] => { results := [.lit (.bool false)], args := [d1, d2] }
  | _ => none }
def FnExactBoardOfBitsWrongFalsely : Prop := fnExactBoardOfBitsRow.holds Try.pinned (OpenSpec.ofChange fnExactBoardOfBitsWrong)

/-- 'laws.FnExactReadBoardId': WHATEVER THE INPUT: true; the input reads as it did. -/
def fnExactReadBoardIdSpec : ChangeSpec := { name := "fnExactReadBoardId", fn := fun _ => fun
  | [d1, d2] => { results := [.lit (.bool true)], args := [d1, d2] }
  | _ => none }
def fnExactReadBoardIdRow : OpenClaim := { program := "ytmpfjnjlocfhdaa", sum := "133b4ea258b642ec45197a9350c51dab69c2509c9150865fb40a1a6815dcdee3", func := "loop.example/g00885/laws.FnExactReadBoardId", spec := "fnExactReadBoardId", apart := false }
def FnExactReadBoardIdSaid : Prop := fnExactReadBoardIdRow.holds Try.pinned (OpenSpec.ofChange fnExactReadBoardIdSpec)

/-- ITS FALSE NEIGHBOUR: 'it returns false'. Refute it at one input. -/
def fnExactReadBoardIdWrong : ChangeSpec := { name := "fnExactReadBoardId", fn := fun _ => fun
  | [d1, d2] => { results := [.lit (.bool false)], args := [d1, d2] }
  | _ => none }
def FnExactReadBoardIdWrongFalsely : Prop := fnExactReadBoardIdRow.holds Try.pinned (OpenSpec.ofChange fnExactReadBoardIdWrong)

/-- 'laws.FnSideNumbers': WHATEVER THE INPUT: true; the input reads as it did. -/
def fnSideNumbersSpec : ChangeSpec := { name := "fnSideNumbers", fn := fun _ => fun
  | [d] => { results := [.lit (.bool true)], args := [d] }
  | _ => none }
def fnSideNumbersRow : OpenClaim := { program := "ytmpfjnjlocfhdaa", sum := "133b4ea258b642ec45197a9350c51dab69c2509c9150865fb40a1a6815dcdee3", func := "loop.example/g00885/laws.FnSideNumbers", spec := "fnSideNumbers", apart := false }
def FnSideNumbersSaid : Prop := fnSideNumbersRow.holds Try.pinned (OpenSpec.ofChange fnSideNumbersSpec)

/-- ITS FALSE NEIGHBOUR: 'it returns false'. Refute it at one input. -/
def fnSideNumbersWrong : ChangeSpec := { name := "fnSideNumbers", fn := fun _ => fun
  | [d] => { results := [.lit (.bool false)], args := [d] }
  | _ => none }
def FnSideNumbersWrongFalsely : Prop := fnSideNumbersRow.holds Try.pinned (OpenSpec.ofChange fnSideNumbersWrong)

/-- 'laws.FnIdentifiers': WHATEVER THE INPUT: true; the input reads as it did. -/
def fnIdentifiersSpec : ChangeSpec := { name := "fnIdentifiers", fn := fun _ => fun
  | [d] => { results := [.lit (.bool true)], args := [d] }
  | _ => none }
def fnIdentifiersRow : OpenClaim := { program := "ytmpfjnjlocfhdaa", sum := "133b4ea258b642ec45197a9350c51dab69c2509c9150865fb40a1a6815dcdee3", func := "loop.example/g00885/laws.FnIdentifiers", spec := "fnIdentifiers", apart := false }
def FnIdentifiersSaid : Prop := fnIdentifiersRow.holds Try.pinned (OpenSpec.ofChange fnIdentifiersSpec)

/-- ITS FALSE NEIGHBOUR: 'it returns false'. Refute it at one input. -/
def fnIdentifiersWrong : ChangeSpec := { name := "fnIdentifiers", fn := fun _ => fun
  | [d] => { results := [.lit (.bool false)], args := [d] }
  | _ => none }
def FnIdentifiersWrongFalsely : Prop := fnIdentifiersRow.holds Try.pinned (OpenSpec.ofChange fnIdentifiersWrong)

/-- 'laws.FnExactRollFrom': WHATEVER THE INPUT: true; the input reads as it did. -/
def fnExactRollFromSpec : ChangeSpec := { name := "fnExactRollFrom", fn := fun _ => fun
  | [d1, d2] => { results := [.lit (.bool true)], args := [d1, d2] }
  | _ => none }
def fnExactRollFromRow : OpenClaim := { program := "ytmpfjnjlocfhdaa", sum := "133b4ea258b642ec45197a9350c51dab69c2509c9150865fb40a1a6815dcdee3", func := "loop.example/g00885/laws.FnExactRollFrom", spec := "fnExactRollFrom", apart := false }
def FnExactRollFromSaid : Prop := fnExactRollFromRow.holds Try.pinned (OpenSpec.ofChange fnExactRollFromSpec)

/-- ITS FALSE NEIGHBOUR: 'it returns false'. Refute it at one input. -/
def fnExactRollFromWrong : ChangeSpec := { name := "fnExactRollFrom", fn := fun _ => fun
  | [d1, d2] => { results := [.lit (.bool false)], args := [d1, d2] }
  | _ => none }
def FnExactRollFromWrongFalsely : Prop := fnExactRollFromRow.holds Try.pinned (OpenSpec.ofChange fnExactRollFromWrong)

/-- 'laws.FnExactAllRolls': WHATEVER THE INPUT: true; the input reads as it did. -/
def fnExactAllRollsSpec : ChangeSpec := { name := "fnExactAllRolls", fn := fun _ => fun
  | [d] => { results := [.lit (.bool true)], args := [d] }
  | _ => none }
def fnExactAllRollsRow : OpenClaim := { program := "ytmpfjnjlocfhdaa", sum := "133b4ea258b642ec45197a9350c51dab69c2509c9150865fb40a1a6815dcdee3", func := "loop.example/g00885/laws.FnExactAllRolls", spec := "fnExactAllRolls", apart := false }
def FnExactAllRollsSaid : Prop := fnExactAllRollsRow.holds Try.pinned (OpenSpec.ofChange fnExactAllRollsSpec)

/-- ITS FALSE NEIGHBOUR: 'it returns false'. Refute it at one input. -/
def fnExactAllRollsWrong : ChangeSpec := { name := "fnExactAllRolls", fn := fun _ => fun
  | [d] => { results := [.lit (.bool false)], args := [d] }
  | _ => none }
def FnExactAllRollsWrongFalsely : Prop := fnExactAllRollsRow.holds Try.pinned (OpenSpec.ofChange fnExactAllRollsWrong)

/- THE SECOND FORM. 'bulk': how many values and letters a reading holds, each counted each time it is reached (what is shared counts as often as it is met; a slice's spare places count too). A statement '..UptoSaid' is the law's where the arguments, and the package variables that the reading takes, are together of bulk at most 1048576: NARROWER than '..Said'. Prove '..Said' where nothing that the law and all that it calls make is longer than what came in: it says more and counts as full. Else prove '..UptoSaid'. A law counts once. -/
mutual
def uptoBulk {H : Type} : DataW H → Nat
  | .lit (.string bytes) => bytes.length + 1
  | .lit _ => 1
  | .nil => 1
  | .ptr d => uptoBulk d + 1
  | .slice elems spare => uptoBulkAll elems + uptoBulkAll spare + 1
  | .agg parts => uptoBulkAll parts + 1
  | .iface _ d => uptoBulk d + 1
  | .map entries => uptoBulkEntries entries + 1
  | .held _ => 1
def uptoBulkAll {H : Type} : List (DataW H) → Nat
  | [] => 0
  | d :: r => uptoBulk d + uptoBulkAll r
def uptoBulkEntries {H : Type} : List (Lit × DataW H) → Nat
  | [] => 0
  | x :: r => uptoBulkEntry x + uptoBulkEntries r
def uptoBulkEntry {H : Type} : Lit × DataW H → Nat
  | (.string bytes, d) => bytes.length + uptoBulk d + 1
  | (_, d) => uptoBulk d + 1
 end
def uptoSmall : (H : Type) → List (DataW H) → Bool := fun _ ds => decide (uptoBulkAll ds ≤ 1048576)
def OpenSpec.upto (s : _root_.Go.ChangeSpec) : _root_.Go.OpenSpec := { _root_.Go.OpenSpec.ofChange s with cond := some uptoSmall }

/-- 'laws.FnExactStartBoard', WHERE WHAT IT READS IS OF BULK AT MOST 1048576: true; the input reads as it did. -/
def fnExactStartBoardUptoRow : OpenClaim := { program := "ytmpfjnjlocfhdaa", sum := "133b4ea258b642ec45197a9350c51dab69c2509c9150865fb40a1a6815dcdee3", func := "loop.example/g00885/laws.FnExactStartBoard", spec := "fnExactStartBoard", apart := false, narrowed := true }
def FnExactStartBoardUptoSaid : Prop := fnExactStartBoardUptoRow.holds Try.pinned (OpenSpec.upto fnExactStartBoardSpec)

/-- 'laws.FnExactSideNumber', WHERE WHAT IT READS IS OF BULK AT MOST 1048576: true; the input reads as it did. -/
def fnExactSideNumberUptoRow : OpenClaim := { program := "ytmpfjnjlocfhdaa", sum := "133b4ea258b642ec45197a9350c51dab69c2509c9150865fb40a1a6815dcdee3", func := "loop.example/g00885/laws.FnExactSideNumber", spec := "fnExactSideNumber", apart := false, narrowed := true }
def FnExactSideNumberUptoSaid : Prop := fnExactSideNumberUptoRow.holds Try.pinned (OpenSpec.upto fnExactSideNumberSpec)

/-- 'laws.FnExactSideCount', WHERE WHAT IT READS IS OF BULK AT MOST 1048576: true; the input reads as it did. -/
def fnExactSideCountUptoRow : OpenClaim := { program := "ytmpfjnjlocfhdaa", sum := "133b4ea258b642ec45197a9350c51dab69c2509c9150865fb40a1a6815dcdee3", func := "loop.example/g00885/laws.FnExactSideCount", spec := "fnExactSideCount", apart := false, narrowed := true }
def FnExactSideCountUptoSaid : Prop := fnExactSideCountUptoRow.holds Try.pinned (OpenSpec.upto fnExactSideCountSpec)

/-- 'laws.FnExactSideOfNumber', WHERE WHAT IT READS IS OF BULK AT MOST 1048576: true; the input reads as it did. -/
def fnExactSideOfNumberUptoRow : OpenClaim := { program := "ytmpfjnjlocfhdaa", sum := "133b4ea258b642ec45197a9350c51dab69c2509c9150865fb40a1a6815dcdee3", func := "loop.example/g00885/laws.FnExactSideOfNumber", spec := "fnExactSideOfNumber", apart := false, narrowed := true }
def FnExactSideOfNumberUptoSaid : Prop := fnExactSideOfNumberUptoRow.holds Try.pinned (OpenSpec.upto fnExactSideOfNumberSpec)

/-- 'laws.FnExactBoardBits', WHERE WHAT IT READS IS OF BULK AT MOST 1048576: true; the input reads as it did. -/
def fnExactBoardBitsUptoRow : OpenClaim := { program := "ytmpfjnjlocfhdaa", sum := "133b4ea258b642ec45197a9350c51dab69c2509c9150865fb40a1a6815dcdee3", func := "loop.example/g00885/laws.FnExactBoardBits", spec := "fnExactBoardBits", apart := false, narrowed := true }
def FnExactBoardBitsUptoSaid : Prop := fnExactBoardBitsUptoRow.holds Try.pinned (OpenSpec.upto fnExactBoardBitsSpec)

/-- 'laws.FnExactBoardId', WHERE WHAT IT READS IS OF BULK AT MOST 1048576: true; the input reads as it did. -/
def fnExactBoardIdUptoRow : OpenClaim := { program := "ytmpfjnjlocfhdaa", sum := "133b4ea258b642ec45197a9350c51dab69c2509c9150865fb40a1a6815dcdee3", func := "loop.example/g00885/laws.FnExactBoardId", spec := "fnExactBoardId", apart := false, narrowed := true }
def FnExactBoardIdUptoSaid : Prop := fnExactBoardIdUptoRow.holds Try.pinned (OpenSpec.upto fnExactBoardIdSpec)

/-- 'laws.FnExactBoardOfBits', WHERE WHAT IT READS IS OF BULK AT MOST 1048576: true; the input reads as it did. -/
def fnExactBoardOfBitsUptoRow : OpenClaim := { program := "ytmpfjnjlocfhdaa", sum := "133b4ea258b642ec45197a9350c51dab69c2509c9150865fb40a1a6815dcdee3", func := "loop.example/g00885/laws.FnExactBoardOfBits", spec := "fnExactBoardOfBits", apart := false, narrowed := true }
def FnExactBoardOfBitsUptoSaid : Prop := fnExactBoardOfBitsUptoRow.holds Try.pinned (OpenSpec.upto fnExactBoardOfBitsSpec)

/-- 'laws.FnExactReadBoardId', WHERE WHAT IT READS IS OF BULK AT MOST 1048576: true; the input reads as it did. -/
def fnExactReadBoardIdUptoRow : OpenClaim := { program := "ytmpfjnjlocfhdaa", sum := "133b4ea258b642ec45197a9350c51dab69c2509c9150865fb40a1a6815dcdee3", func := "loop.example/g00885/laws.FnExactReadBoardId", spec := "fnExactReadBoardId", apart := false, narrowed := true }
def FnExactReadBoardIdUptoSaid : Prop := fnExactReadBoardIdUptoRow.holds Try.pinned (OpenSpec.upto fnExactReadBoardIdSpec)

/-- 'laws.FnSideNumbers', WHERE WHAT IT READS IS OF BULK AT MOST 1048576: true; the input reads as it did. -/
def fnSideNumbersUptoRow : OpenClaim := { program := "ytmpfjnjlocfhdaa", sum := "133b4ea258b642ec45197a9350c51dab69c2509c9150865fb40a1a6815dcdee3", func := "loop.example/g00885/laws.FnSideNumbers", spec := "fnSideNumbers", apart := false, narrowed := true }
def FnSideNumbersUptoSaid : Prop := fnSideNumbersUptoRow.holds Try.pinned (OpenSpec.upto fnSideNumbersSpec)

/-- 'laws.FnIdentifiers', WHERE WHAT IT READS IS OF BULK AT MOST 1048576: true; the input reads as it did. -/
def fnIdentifiersUptoRow : OpenClaim := { program := "ytmpfjnjlocfhdaa", sum := "133b4ea258b642ec45197a9350c51dab69c2509c9150865fb40a1a6815dcdee3", func := "loop.example/g00885/laws.FnIdentifiers", spec := "fnIdentifiers", apart := false, narrowed := true }
def FnIdentifiersUptoSaid : Prop := fnIdentifiersUptoRow.holds Try.pinned (OpenSpec.upto fnIdentifiersSpec)

/-- 'laws.FnExactRollFrom', WHERE WHAT IT READS IS OF BULK AT MOST 1048576: true; the input reads as it did. -/
def fnExactRollFromUptoRow : OpenClaim := { program := "ytmpfjnjlocfhdaa", sum := "133b4ea258b642ec45197a9350c51dab69c2509c9150865fb40a1a6815dcdee3", func := "loop.example/g00885/laws.FnExactRollFrom", spec := "fnExactRollFrom", apart := false, narrowed := true }
def FnExactRollFromUptoSaid : Prop := fnExactRollFromUptoRow.holds Try.pinned (OpenSpec.upto fnExactRollFromSpec)

/-- 'laws.FnExactAllRolls', WHERE WHAT IT READS IS OF BULK AT MOST 1048576: true; the input reads as it did. -/
def fnExactAllRollsUptoRow : OpenClaim := { program := "ytmpfjnjlocfhdaa", sum := "133b4ea258b642ec45197a9350c51dab69c2509c9150865fb40a1a6815dcdee3", func := "loop.example/g00885/laws.FnExactAllRolls", spec := "fnExactAllRolls", apart := false, narrowed := true }
def FnExactAllRollsUptoSaid : Prop := fnExactAllRollsUptoRow.holds Try.pinned (OpenSpec.upto fnExactAllRollsSpec)

end Rows
end Go.Proofs.Ytmpfjnjlocfhdaa
