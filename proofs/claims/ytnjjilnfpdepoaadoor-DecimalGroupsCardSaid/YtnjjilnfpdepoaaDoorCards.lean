/-
  DERIVED. GIVEN WITH THE SEED: THE CARDS: each row of YtnjjilnfpdepoaaDoorRows.lean that lists a variable, with what it lists TIED to the program's text (the seventh form; the later family's looks); each row that meets fmt, with fmt's text TOLD by the authors' own Lean function (tested against real Go, not proved from fmt's source: count such statements apart). THE CARD IS WHAT COUNTS. Prove the row's statement (the work); the ties are given (YtnjjilnfpdepoaaDoorTie.lean); close each card by the builder's one call (the guide's Derived/Test/ToyasCard.lean, 'card_holds'). Laid BY PROGRAM, IN A SANDBOX (cutbox-door.mjs). By AI agents, Wed Nov 11 2026. No macro, syntax, notation, axiom, sorry.
-/
import Derived.Test.YtnjjilnfpdepoaaDoorRows
import GoSem.ClaimSeven
namespace Go.Proofs.YtnjjilnfpdepoaaDoor
namespace Rows

/-- THE TIED CARD OF 'claplaw2.CsvParses'. -/
def csvParsesCard : Claim7 := { stood := { row := csvParsesRow, standIns := [], harness := (true, "41a53549daf25a398cce661ace717612d09e5e40f6dad06ed4b3d3a3df24413a"), looks := true }, kinds := [], alts := [], laidByText := true, laidKinds := [.data, .pinned], laidTests := true, laidLooks := .later }
def CsvParsesCardSaid : Prop := Claim7.holds Tryd.pinned (.plain (OpenSpec.ofChange csvParsesSpec)) csvParsesCard

/-- THE TIED CARD OF 'claplaw1.DecimalPoints'. -/
def decimalPointsCard : Claim7 := { stood := { row := decimalPointsRow, standIns := [], harness := (true, "41a53549daf25a398cce661ace717612d09e5e40f6dad06ed4b3d3a3df24413a"), looks := true }, kinds := [], alts := [], laidByText := true, laidKinds := [.data, .pinned], laidTests := true, laidLooks := .later }
def DecimalPointsCardSaid : Prop := Claim7.holds Tryd.pinned (.plain (OpenSpec.ofChange decimalPointsSpec)) decimalPointsCard

/-- THE TIED CARD OF 'claplaw1.DecimalGroups'. -/
def decimalGroupsCard : Claim7 := { stood := { row := decimalGroupsRow, standIns := [], harness := (true, "41a53549daf25a398cce661ace717612d09e5e40f6dad06ed4b3d3a3df24413a"), looks := true }, kinds := [], alts := [], laidByText := true, laidKinds := [.data, .pinned], laidTests := true, laidLooks := .later }
def DecimalGroupsCardSaid : Prop := Claim7.holds Tryd.pinned (.plain (OpenSpec.ofChange decimalGroupsSpec)) decimalGroupsCard

/-- THE TIED CARD OF 'claplaw2.CsvTables'. -/
def csvTablesCard : Claim7 := { stood := { row := csvTablesRow, standIns := [], harness := (true, "41a53549daf25a398cce661ace717612d09e5e40f6dad06ed4b3d3a3df24413a"), looks := true }, kinds := [], alts := [], laidByText := true, laidKinds := [.data, .pinned], laidTests := true, laidLooks := .later }
def CsvTablesCardSaid : Prop := Claim7.holds Tryd.pinned (.plain (OpenSpec.ofChange csvTablesSpec)) csvTablesCard

/-- THE TIED CARD OF 'claplaw1.DayTexts'. -/
def dayTextsCard : Claim7 := { stood := { row := dayTextsRow, standIns := [], harness := (true, "41a53549daf25a398cce661ace717612d09e5e40f6dad06ed4b3d3a3df24413a"), looks := true }, kinds := [], alts := [], laidByText := true, laidKinds := [.data, .data, .data, .data, .sentinel, .sentinel, .pinned], laidTests := true, laidLooks := .later }
def DayTextsCardSaid : Prop := Claim7.holds Tryd.pinned (.plain (OpenSpec.ofChange dayTextsSpec)) dayTextsCard

/-- THE SECOND FORM's CARD OF 'claplaw2.CsvParses'. -/
def csvParsesUptoCard : Claim7 := { stood := { row := csvParsesUptoRow, standIns := [], harness := (true, "41a53549daf25a398cce661ace717612d09e5e40f6dad06ed4b3d3a3df24413a"), looks := true }, kinds := [], alts := [], laidByText := true, laidKinds := [.data, .pinned], laidTests := true, laidLooks := .later }
def CsvParsesUptoCardSaid : Prop := Claim7.holds Tryd.pinned (.plain (OpenSpec.upto csvParsesSpec)) csvParsesUptoCard

/-- THE SECOND FORM's CARD OF 'claplaw1.DecimalPoints'. -/
def decimalPointsUptoCard : Claim7 := { stood := { row := decimalPointsUptoRow, standIns := [], harness := (true, "41a53549daf25a398cce661ace717612d09e5e40f6dad06ed4b3d3a3df24413a"), looks := true }, kinds := [], alts := [], laidByText := true, laidKinds := [.data, .pinned], laidTests := true, laidLooks := .later }
def DecimalPointsUptoCardSaid : Prop := Claim7.holds Tryd.pinned (.plain (OpenSpec.upto decimalPointsSpec)) decimalPointsUptoCard

/-- THE SECOND FORM's CARD OF 'claplaw1.DecimalGroups'. -/
def decimalGroupsUptoCard : Claim7 := { stood := { row := decimalGroupsUptoRow, standIns := [], harness := (true, "41a53549daf25a398cce661ace717612d09e5e40f6dad06ed4b3d3a3df24413a"), looks := true }, kinds := [], alts := [], laidByText := true, laidKinds := [.data, .pinned], laidTests := true, laidLooks := .later }
def DecimalGroupsUptoCardSaid : Prop := Claim7.holds Tryd.pinned (.plain (OpenSpec.upto decimalGroupsSpec)) decimalGroupsUptoCard

/-- THE SECOND FORM's CARD OF 'claplaw2.CsvTables'. -/
def csvTablesUptoCard : Claim7 := { stood := { row := csvTablesUptoRow, standIns := [], harness := (true, "41a53549daf25a398cce661ace717612d09e5e40f6dad06ed4b3d3a3df24413a"), looks := true }, kinds := [], alts := [], laidByText := true, laidKinds := [.data, .pinned], laidTests := true, laidLooks := .later }
def CsvTablesUptoCardSaid : Prop := Claim7.holds Tryd.pinned (.plain (OpenSpec.upto csvTablesSpec)) csvTablesUptoCard

/-- THE SECOND FORM's CARD OF 'claplaw1.DayTexts'. -/
def dayTextsUptoCard : Claim7 := { stood := { row := dayTextsUptoRow, standIns := [], harness := (true, "41a53549daf25a398cce661ace717612d09e5e40f6dad06ed4b3d3a3df24413a"), looks := true }, kinds := [], alts := [], laidByText := true, laidKinds := [.data, .data, .data, .data, .sentinel, .sentinel, .pinned], laidTests := true, laidLooks := .later }
def DayTextsUptoCardSaid : Prop := Claim7.holds Tryd.pinned (.plain (OpenSpec.upto dayTextsSpec)) dayTextsUptoCard
end Rows
end Go.Proofs.YtnjjilnfpdepoaaDoor
