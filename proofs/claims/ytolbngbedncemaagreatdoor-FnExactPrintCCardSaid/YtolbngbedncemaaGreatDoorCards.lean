/-
  DERIVED. GIVEN WITH THE SEED: THE CARDS: each row of YtolbngbedncemaaGreatDoorRows.lean that lists a variable, with what it lists TIED to the program's text (the seventh form; the later family's looks); each row that meets fmt, with fmt's text TOLD by the authors' own Lean function (tested against real Go, not proved from fmt's source: count such statements apart). THE CARD IS WHAT COUNTS. Prove the row's statement (the work); the ties are given (YtolbngbedncemaaGreatDoorTie.lean); close each card by the builder's one call (the guide's Derived/Test/ToyasCard.lean, 'card_holds'). Laid BY PROGRAM, IN A SANDBOX (cutbox-door.mjs). By AI agents, Wed Nov 11 2026. No macro, syntax, notation, axiom, sorry.
-/
import Derived.Test.YtolbngbedncemaaGreatDoorRows
import GoSem.ClaimSeven
namespace Go.Proofs.YtolbngbedncemaaGreatDoor
namespace Rows

/-- THE TIED CARD OF 'laws.FnExactPrintC'. -/
def fnExactPrintCCard : Claim7 := { stood := { row := fnExactPrintCRow, standIns := [], harness := (true, "ee526d83d0689be17ce22003026a232261740dcdf15b06b840eb52c9c9212224"), looks := true }, kinds := [], alts := [], laidByText := true, laidKinds := [.data, .data, .data, .sentinel, .widerDeep, .widerDeep, .widerDeep], laidTests := true, laidLooks := .later }
def FnExactPrintCCardSaid : Prop := Claim7.holds Tryz.pinned (.plain (OpenSpec.ofChange fnExactPrintCSpec)) fnExactPrintCCard

/-- THE TIED CARD OF 'laws.FnExactParseC'. -/
def fnExactParseCCard : Claim7 := { stood := { row := fnExactParseCRow, standIns := [], harness := (true, "ee526d83d0689be17ce22003026a232261740dcdf15b06b840eb52c9c9212224"), looks := true }, kinds := [], alts := [], laidByText := true, laidKinds := [.data, .data, .data, .sentinel, .sentinel, .widerDeep, .widerDeep, .widerDeep], laidTests := true, laidLooks := .later }
def FnExactParseCCardSaid : Prop := Claim7.holds Tryz.pinned (.plain (OpenSpec.ofChange fnExactParseCSpec)) fnExactParseCCard

/-- THE TIED CARD OF 'laws.FnReparse'. -/
def fnReparseCard : Claim7 := { stood := { row := fnReparseRow, standIns := [], harness := (true, "ee526d83d0689be17ce22003026a232261740dcdf15b06b840eb52c9c9212224"), looks := true }, kinds := [], alts := [], laidByText := true, laidKinds := [.data, .data, .data, .sentinel, .sentinel, .sentinel, .widerDeep, .widerDeep, .widerDeep], laidTests := true, laidLooks := .later }
def FnReparseCardSaid : Prop := Claim7.holds Tryz.pinned (.plain (OpenSpec.ofChange fnReparseSpec)) fnReparseCard

/-- THE TIED CARD OF 'laws.FnPrintParse'. -/
def fnPrintParseCard : Claim7 := { stood := { row := fnPrintParseRow, standIns := [], harness := (true, "ee526d83d0689be17ce22003026a232261740dcdf15b06b840eb52c9c9212224"), looks := true }, kinds := [], alts := [], laidByText := true, laidKinds := [.data, .data, .data, .sentinel, .sentinel, .sentinel, .widerDeep, .widerDeep, .widerDeep], laidTests := true, laidLooks := .later }
def FnPrintParseCardSaid : Prop := Claim7.holds Tryz.pinned (.plain (OpenSpec.ofChange fnPrintParseSpec)) fnPrintParseCard

/-- THE SECOND FORM's CARD OF 'laws.FnExactPrintC'. -/
def fnExactPrintCUptoCard : Claim7 := { stood := { row := fnExactPrintCUptoRow, standIns := [], harness := (true, "ee526d83d0689be17ce22003026a232261740dcdf15b06b840eb52c9c9212224"), looks := true }, kinds := [], alts := [], laidByText := true, laidKinds := [.data, .data, .data, .sentinel, .widerDeep, .widerDeep, .widerDeep], laidTests := true, laidLooks := .later }
def FnExactPrintCUptoCardSaid : Prop := Claim7.holds Tryz.pinned (.plain (OpenSpec.upto fnExactPrintCSpec)) fnExactPrintCUptoCard

/-- THE SECOND FORM's CARD OF 'laws.FnExactParseC'. -/
def fnExactParseCUptoCard : Claim7 := { stood := { row := fnExactParseCUptoRow, standIns := [], harness := (true, "ee526d83d0689be17ce22003026a232261740dcdf15b06b840eb52c9c9212224"), looks := true }, kinds := [], alts := [], laidByText := true, laidKinds := [.data, .data, .data, .sentinel, .sentinel, .widerDeep, .widerDeep, .widerDeep], laidTests := true, laidLooks := .later }
def FnExactParseCUptoCardSaid : Prop := Claim7.holds Tryz.pinned (.plain (OpenSpec.upto fnExactParseCSpec)) fnExactParseCUptoCard

/-- THE SECOND FORM's CARD OF 'laws.FnReparse'. -/
def fnReparseUptoCard : Claim7 := { stood := { row := fnReparseUptoRow, standIns := [], harness := (true, "ee526d83d0689be17ce22003026a232261740dcdf15b06b840eb52c9c9212224"), looks := true }, kinds := [], alts := [], laidByText := true, laidKinds := [.data, .data, .data, .sentinel, .sentinel, .sentinel, .widerDeep, .widerDeep, .widerDeep], laidTests := true, laidLooks := .later }
def FnReparseUptoCardSaid : Prop := Claim7.holds Tryz.pinned (.plain (OpenSpec.upto fnReparseSpec)) fnReparseUptoCard

/-- THE SECOND FORM's CARD OF 'laws.FnPrintParse'. -/
def fnPrintParseUptoCard : Claim7 := { stood := { row := fnPrintParseUptoRow, standIns := [], harness := (true, "ee526d83d0689be17ce22003026a232261740dcdf15b06b840eb52c9c9212224"), looks := true }, kinds := [], alts := [], laidByText := true, laidKinds := [.data, .data, .data, .sentinel, .sentinel, .sentinel, .widerDeep, .widerDeep, .widerDeep], laidTests := true, laidLooks := .later }
def FnPrintParseUptoCardSaid : Prop := Claim7.holds Tryz.pinned (.plain (OpenSpec.upto fnPrintParseSpec)) fnPrintParseUptoCard
end Rows
end Go.Proofs.YtolbngbedncemaaGreatDoor
