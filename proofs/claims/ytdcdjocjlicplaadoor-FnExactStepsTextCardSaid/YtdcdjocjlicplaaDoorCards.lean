/-
  DERIVED. GIVEN WITH THE SEED: THE CARDS: each row of YtdcdjocjlicplaaDoorRows.lean that lists a variable, with what it lists TIED to the program's text (the seventh form; the later family's looks); each row that meets fmt, with fmt's text TOLD by the authors' own Lean function (tested against real Go, not proved from fmt's source: count such statements apart). THE CARD IS WHAT COUNTS. Prove the row's statement (the work); the ties are given (YtdcdjocjlicplaaDoorTie.lean); close each card by the builder's one call (the guide's Derived/Test/ToyasCard.lean, 'card_holds'). Laid BY PROGRAM, IN A SANDBOX (cutbox-door.mjs). By AI agents, Wed Nov 11 2026. No macro, syntax, notation, axiom, sorry.
-/
import Derived.Test.YtdcdjocjlicplaaDoorRows
import GoSem.ClaimSeven
namespace Go.Proofs.YtdcdjocjlicplaaDoor
namespace Rows

/-- THE TIED CARD OF 'laws.FnExactVariantText'. -/
def fnExactVariantTextCard : Claim7 := { stood := { row := fnExactVariantTextRow, standIns := [], harness := (true, "497b156641f54b57bbfda258e0546b0d51292d9ded3255fff36498ca6f7fd64c"), looks := true }, kinds := [], alts := [], laidByText := true, laidKinds := [.data, .data, .data], laidTests := true, laidLooks := .later }
def FnExactVariantTextCardSaid : Prop := Claim7.holds Tryd.pinned (.plain (OpenSpec.ofChange fnExactVariantTextSpec)) fnExactVariantTextCard

/-- THE TIED CARD OF 'laws.FnExactStepText'. -/
def fnExactStepTextCard : Claim7 := { stood := { row := fnExactStepTextRow, standIns := [], harness := (true, "497b156641f54b57bbfda258e0546b0d51292d9ded3255fff36498ca6f7fd64c"), looks := true }, kinds := [], alts := [], laidByText := true, laidKinds := [.data, .data, .data], laidTests := true, laidLooks := .later }
def FnExactStepTextCardSaid : Prop := Claim7.holds Tryd.pinned (.plain (OpenSpec.ofChange fnExactStepTextSpec)) fnExactStepTextCard

/-- THE TIED CARD OF 'laws.FnExactStepsText'. -/
def fnExactStepsTextCard : Claim7 := { stood := { row := fnExactStepsTextRow, standIns := [], harness := (true, "497b156641f54b57bbfda258e0546b0d51292d9ded3255fff36498ca6f7fd64c"), looks := true }, kinds := [], alts := [], laidByText := true, laidKinds := [.data, .data, .data], laidTests := true, laidLooks := .later }
def FnExactStepsTextCardSaid : Prop := Claim7.holds Tryd.pinned (.plain (OpenSpec.ofChange fnExactStepsTextSpec)) fnExactStepsTextCard

/-- THE TIED CARD OF 'laws.FnExactReadVariant'. -/
def fnExactReadVariantCard : Claim7 := { stood := { row := fnExactReadVariantRow, standIns := [], harness := (true, "497b156641f54b57bbfda258e0546b0d51292d9ded3255fff36498ca6f7fd64c"), looks := true }, kinds := [], alts := [], laidByText := true, laidKinds := [.data, .data, .data, .data, .sentinel, .sentinel, .pinned], laidTests := true, laidLooks := .later }
def FnExactReadVariantCardSaid : Prop := Claim7.holds Tryd.pinned (.plain (OpenSpec.ofChange fnExactReadVariantSpec)) fnExactReadVariantCard

/-- THE TIED CARD OF 'laws.FnExactReadStep'. -/
def fnExactReadStepCard : Claim7 := { stood := { row := fnExactReadStepRow, standIns := [], harness := (true, "497b156641f54b57bbfda258e0546b0d51292d9ded3255fff36498ca6f7fd64c"), looks := true }, kinds := [], alts := [], laidByText := true, laidKinds := [.data, .data, .data, .sentinel, .sentinel], laidTests := true, laidLooks := .later }
def FnExactReadStepCardSaid : Prop := Claim7.holds Tryd.pinned (.plain (OpenSpec.ofChange fnExactReadStepSpec)) fnExactReadStepCard

/-- THE TIED CARD OF 'laws.FnExactReadSteps'. -/
def fnExactReadStepsCard : Claim7 := { stood := { row := fnExactReadStepsRow, standIns := [], harness := (true, "497b156641f54b57bbfda258e0546b0d51292d9ded3255fff36498ca6f7fd64c"), looks := true }, kinds := [], alts := [], laidByText := true, laidKinds := [.data, .data, .data, .data, .sentinel, .sentinel, .pinned], laidTests := true, laidLooks := .later }
def FnExactReadStepsCardSaid : Prop := Claim7.holds Tryd.pinned (.plain (OpenSpec.ofChange fnExactReadStepsSpec)) fnExactReadStepsCard

/-- THE TIED CARD OF 'laws.FnVariantText'. -/
def fnVariantTextCard : Claim7 := { stood := { row := fnVariantTextRow, standIns := [], harness := (true, "497b156641f54b57bbfda258e0546b0d51292d9ded3255fff36498ca6f7fd64c"), looks := true }, kinds := [], alts := [], laidByText := true, laidKinds := [.data, .data, .data, .data, .sentinel, .sentinel, .pinned], laidTests := true, laidLooks := .later }
def FnVariantTextCardSaid : Prop := Claim7.holds Tryd.pinned (.plain (OpenSpec.ofChange fnVariantTextSpec)) fnVariantTextCard

/-- THE TIED CARD OF 'laws.FnStepTexts'. -/
def fnStepTextsCard : Claim7 := { stood := { row := fnStepTextsRow, standIns := [], harness := (true, "497b156641f54b57bbfda258e0546b0d51292d9ded3255fff36498ca6f7fd64c"), looks := true }, kinds := [], alts := [], laidByText := true, laidKinds := [.data, .data, .data, .sentinel, .sentinel], laidTests := true, laidLooks := .later }
def FnStepTextsCardSaid : Prop := Claim7.holds Tryd.pinned (.plain (OpenSpec.ofChange fnStepTextsSpec)) fnStepTextsCard

/-- THE SECOND FORM's CARD OF 'laws.FnExactVariantText'. -/
def fnExactVariantTextUptoCard : Claim7 := { stood := { row := fnExactVariantTextUptoRow, standIns := [], harness := (true, "497b156641f54b57bbfda258e0546b0d51292d9ded3255fff36498ca6f7fd64c"), looks := true }, kinds := [], alts := [], laidByText := true, laidKinds := [.data, .data, .data], laidTests := true, laidLooks := .later }
def FnExactVariantTextUptoCardSaid : Prop := Claim7.holds Tryd.pinned (.plain (OpenSpec.upto fnExactVariantTextSpec)) fnExactVariantTextUptoCard

/-- THE SECOND FORM's CARD OF 'laws.FnExactStepText'. -/
def fnExactStepTextUptoCard : Claim7 := { stood := { row := fnExactStepTextUptoRow, standIns := [], harness := (true, "497b156641f54b57bbfda258e0546b0d51292d9ded3255fff36498ca6f7fd64c"), looks := true }, kinds := [], alts := [], laidByText := true, laidKinds := [.data, .data, .data], laidTests := true, laidLooks := .later }
def FnExactStepTextUptoCardSaid : Prop := Claim7.holds Tryd.pinned (.plain (OpenSpec.upto fnExactStepTextSpec)) fnExactStepTextUptoCard

/-- THE SECOND FORM's CARD OF 'laws.FnExactStepsText'. -/
def fnExactStepsTextUptoCard : Claim7 := { stood := { row := fnExactStepsTextUptoRow, standIns := [], harness := (true, "497b156641f54b57bbfda258e0546b0d51292d9ded3255fff36498ca6f7fd64c"), looks := true }, kinds := [], alts := [], laidByText := true, laidKinds := [.data, .data, .data], laidTests := true, laidLooks := .later }
def FnExactStepsTextUptoCardSaid : Prop := Claim7.holds Tryd.pinned (.plain (OpenSpec.upto fnExactStepsTextSpec)) fnExactStepsTextUptoCard

/-- THE SECOND FORM's CARD OF 'laws.FnExactReadVariant'. -/
def fnExactReadVariantUptoCard : Claim7 := { stood := { row := fnExactReadVariantUptoRow, standIns := [], harness := (true, "497b156641f54b57bbfda258e0546b0d51292d9ded3255fff36498ca6f7fd64c"), looks := true }, kinds := [], alts := [], laidByText := true, laidKinds := [.data, .data, .data, .data, .sentinel, .sentinel, .pinned], laidTests := true, laidLooks := .later }
def FnExactReadVariantUptoCardSaid : Prop := Claim7.holds Tryd.pinned (.plain (OpenSpec.upto fnExactReadVariantSpec)) fnExactReadVariantUptoCard

/-- THE SECOND FORM's CARD OF 'laws.FnExactReadStep'. -/
def fnExactReadStepUptoCard : Claim7 := { stood := { row := fnExactReadStepUptoRow, standIns := [], harness := (true, "497b156641f54b57bbfda258e0546b0d51292d9ded3255fff36498ca6f7fd64c"), looks := true }, kinds := [], alts := [], laidByText := true, laidKinds := [.data, .data, .data, .sentinel, .sentinel], laidTests := true, laidLooks := .later }
def FnExactReadStepUptoCardSaid : Prop := Claim7.holds Tryd.pinned (.plain (OpenSpec.upto fnExactReadStepSpec)) fnExactReadStepUptoCard

/-- THE SECOND FORM's CARD OF 'laws.FnExactReadSteps'. -/
def fnExactReadStepsUptoCard : Claim7 := { stood := { row := fnExactReadStepsUptoRow, standIns := [], harness := (true, "497b156641f54b57bbfda258e0546b0d51292d9ded3255fff36498ca6f7fd64c"), looks := true }, kinds := [], alts := [], laidByText := true, laidKinds := [.data, .data, .data, .data, .sentinel, .sentinel, .pinned], laidTests := true, laidLooks := .later }
def FnExactReadStepsUptoCardSaid : Prop := Claim7.holds Tryd.pinned (.plain (OpenSpec.upto fnExactReadStepsSpec)) fnExactReadStepsUptoCard

/-- THE SECOND FORM's CARD OF 'laws.FnVariantText'. -/
def fnVariantTextUptoCard : Claim7 := { stood := { row := fnVariantTextUptoRow, standIns := [], harness := (true, "497b156641f54b57bbfda258e0546b0d51292d9ded3255fff36498ca6f7fd64c"), looks := true }, kinds := [], alts := [], laidByText := true, laidKinds := [.data, .data, .data, .data, .sentinel, .sentinel, .pinned], laidTests := true, laidLooks := .later }
def FnVariantTextUptoCardSaid : Prop := Claim7.holds Tryd.pinned (.plain (OpenSpec.upto fnVariantTextSpec)) fnVariantTextUptoCard

/-- THE SECOND FORM's CARD OF 'laws.FnStepTexts'. -/
def fnStepTextsUptoCard : Claim7 := { stood := { row := fnStepTextsUptoRow, standIns := [], harness := (true, "497b156641f54b57bbfda258e0546b0d51292d9ded3255fff36498ca6f7fd64c"), looks := true }, kinds := [], alts := [], laidByText := true, laidKinds := [.data, .data, .data, .sentinel, .sentinel], laidTests := true, laidLooks := .later }
def FnStepTextsUptoCardSaid : Prop := Claim7.holds Tryd.pinned (.plain (OpenSpec.upto fnStepTextsSpec)) fnStepTextsUptoCard
end Rows
end Go.Proofs.YtdcdjocjlicplaaDoor
