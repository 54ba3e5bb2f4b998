/-
  DERIVED. GIVEN WITH THE SEED: THE CARDS: each row of YtcfggjmdcaoecaaGreatDoorRows.lean that lists a variable, with what it lists TIED to the program's text (the seventh form; the later family's looks); each row that meets fmt, with fmt's text TOLD by the authors' own Lean function (tested against real Go, not proved from fmt's source: count such statements apart). THE CARD IS WHAT COUNTS. Prove the row's statement (the work); the ties are given (YtcfggjmdcaoecaaGreatDoorTie.lean); close each card by the builder's one call (the guide's Derived/Test/ToyasCard.lean, 'card_holds'). Laid BY PROGRAM, IN A SANDBOX (cutbox-door.mjs). By AI agents, Wed Nov 11 2026. No macro, syntax, notation, axiom, sorry.
-/
import Derived.Test.YtcfggjmdcaoecaaGreatDoorRows
import GoSem.ClaimSeven
namespace Go.Proofs.YtcfggjmdcaoecaaGreatDoor
namespace Rows

/-- THE TIED CARD OF 'laws.FnExactCalls'. -/
def fnExactCallsCard : Claim7 := { stood := { row := fnExactCallsRow, standIns := [], harness := (true, "ee61f58ff54a97cd568d7787bc3a54e7e07294c39a5009cf40d38f49397ede8a"), looks := true }, kinds := [], alts := [], laidByText := true, laidKinds := [.widerDeep], laidTests := true, laidLooks := .later }
def FnExactCallsCardSaid : Prop := Claim7.holds Tryz.pinned (.plain (OpenSpec.ofChange fnExactCallsSpec)) fnExactCallsCard

/-- THE TIED CARD OF 'laws.FnExactCheckC'. -/
def fnExactCheckCCard : Claim7 := { stood := { row := fnExactCheckCRow, standIns := [], harness := (true, "ee61f58ff54a97cd568d7787bc3a54e7e07294c39a5009cf40d38f49397ede8a"), looks := true }, kinds := [], alts := [], laidByText := true, laidKinds := [.handle, .widerDeep], laidTests := true, laidLooks := .later }
def FnExactCheckCCardSaid : Prop := Claim7.holds Tryz.pinned (.plain (OpenSpec.ofChange fnExactCheckCSpec)) fnExactCheckCCard

/-- THE TIED CARD OF 'laws.FnCheck'. -/
def fnCheckCard : Claim7 := { stood := { row := fnCheckRow, standIns := [], harness := (true, "ee61f58ff54a97cd568d7787bc3a54e7e07294c39a5009cf40d38f49397ede8a"), looks := true }, kinds := [], alts := [], laidByText := true, laidKinds := [.handle, .widerDeep], laidTests := true, laidLooks := .later }
def FnCheckCardSaid : Prop := Claim7.holds Tryz.pinned (.plain (OpenSpec.ofChange fnCheckSpec)) fnCheckCard

/-- THE TIED CARD OF 'laws.FnExactBound'. -/
def fnExactBoundCard : Claim7 := { stood := { row := fnExactBoundRow, standIns := [], harness := (true, "ee61f58ff54a97cd568d7787bc3a54e7e07294c39a5009cf40d38f49397ede8a"), looks := true }, kinds := [], alts := [], laidByText := true, laidKinds := [.widerDeep], laidTests := true, laidLooks := .later }
def FnExactBoundCardSaid : Prop := Claim7.holds Tryz.pinned (.plain (OpenSpec.ofChange fnExactBoundSpec)) fnExactBoundCard

/-- THE TIED CARD OF 'laws.FnExactFrames'. -/
def fnExactFramesCard : Claim7 := { stood := { row := fnExactFramesRow, standIns := [], harness := (true, "ee61f58ff54a97cd568d7787bc3a54e7e07294c39a5009cf40d38f49397ede8a"), looks := true }, kinds := [], alts := [], laidByText := true, laidKinds := [.widerDeep], laidTests := true, laidLooks := .later }
def FnExactFramesCardSaid : Prop := Claim7.holds Tryz.pinned (.plain (OpenSpec.ofChange fnExactFramesSpec)) fnExactFramesCard

/-- THE TIED CARD OF 'laws.FnBound'. -/
def fnBoundCard : Claim7 := { stood := { row := fnBoundRow, standIns := [], harness := (true, "ee61f58ff54a97cd568d7787bc3a54e7e07294c39a5009cf40d38f49397ede8a"), looks := true }, kinds := [], alts := [], laidByText := true, laidKinds := [.widerDeep], laidTests := true, laidLooks := .later }
def FnBoundCardSaid : Prop := Claim7.holds Tryz.pinned (.plain (OpenSpec.ofChange fnBoundSpec)) fnBoundCard

/-- THE SECOND FORM's CARD OF 'laws.FnExactCalls'. -/
def fnExactCallsUptoCard : Claim7 := { stood := { row := fnExactCallsUptoRow, standIns := [], harness := (true, "ee61f58ff54a97cd568d7787bc3a54e7e07294c39a5009cf40d38f49397ede8a"), looks := true }, kinds := [], alts := [], laidByText := true, laidKinds := [.widerDeep], laidTests := true, laidLooks := .later }
def FnExactCallsUptoCardSaid : Prop := Claim7.holds Tryz.pinned (.plain (OpenSpec.upto fnExactCallsSpec)) fnExactCallsUptoCard

/-- THE SECOND FORM's CARD OF 'laws.FnExactCheckC'. -/
def fnExactCheckCUptoCard : Claim7 := { stood := { row := fnExactCheckCUptoRow, standIns := [], harness := (true, "ee61f58ff54a97cd568d7787bc3a54e7e07294c39a5009cf40d38f49397ede8a"), looks := true }, kinds := [], alts := [], laidByText := true, laidKinds := [.handle, .widerDeep], laidTests := true, laidLooks := .later }
def FnExactCheckCUptoCardSaid : Prop := Claim7.holds Tryz.pinned (.plain (OpenSpec.upto fnExactCheckCSpec)) fnExactCheckCUptoCard

/-- THE SECOND FORM's CARD OF 'laws.FnCheck'. -/
def fnCheckUptoCard : Claim7 := { stood := { row := fnCheckUptoRow, standIns := [], harness := (true, "ee61f58ff54a97cd568d7787bc3a54e7e07294c39a5009cf40d38f49397ede8a"), looks := true }, kinds := [], alts := [], laidByText := true, laidKinds := [.handle, .widerDeep], laidTests := true, laidLooks := .later }
def FnCheckUptoCardSaid : Prop := Claim7.holds Tryz.pinned (.plain (OpenSpec.upto fnCheckSpec)) fnCheckUptoCard

/-- THE SECOND FORM's CARD OF 'laws.FnExactBound'. -/
def fnExactBoundUptoCard : Claim7 := { stood := { row := fnExactBoundUptoRow, standIns := [], harness := (true, "ee61f58ff54a97cd568d7787bc3a54e7e07294c39a5009cf40d38f49397ede8a"), looks := true }, kinds := [], alts := [], laidByText := true, laidKinds := [.widerDeep], laidTests := true, laidLooks := .later }
def FnExactBoundUptoCardSaid : Prop := Claim7.holds Tryz.pinned (.plain (OpenSpec.upto fnExactBoundSpec)) fnExactBoundUptoCard

/-- THE SECOND FORM's CARD OF 'laws.FnExactFrames'. -/
def fnExactFramesUptoCard : Claim7 := { stood := { row := fnExactFramesUptoRow, standIns := [], harness := (true, "ee61f58ff54a97cd568d7787bc3a54e7e07294c39a5009cf40d38f49397ede8a"), looks := true }, kinds := [], alts := [], laidByText := true, laidKinds := [.widerDeep], laidTests := true, laidLooks := .later }
def FnExactFramesUptoCardSaid : Prop := Claim7.holds Tryz.pinned (.plain (OpenSpec.upto fnExactFramesSpec)) fnExactFramesUptoCard

/-- THE SECOND FORM's CARD OF 'laws.FnBound'. -/
def fnBoundUptoCard : Claim7 := { stood := { row := fnBoundUptoRow, standIns := [], harness := (true, "ee61f58ff54a97cd568d7787bc3a54e7e07294c39a5009cf40d38f49397ede8a"), looks := true }, kinds := [], alts := [], laidByText := true, laidKinds := [.widerDeep], laidTests := true, laidLooks := .later }
def FnBoundUptoCardSaid : Prop := Claim7.holds Tryz.pinned (.plain (OpenSpec.upto fnBoundSpec)) fnBoundUptoCard
end Rows
end Go.Proofs.YtcfggjmdcaoecaaGreatDoor
