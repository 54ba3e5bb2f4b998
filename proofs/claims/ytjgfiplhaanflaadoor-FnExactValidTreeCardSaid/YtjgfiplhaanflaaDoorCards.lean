/-
  DERIVED. GIVEN WITH THE SEED: THE CARDS: each row of YtjgfiplhaanflaaDoorRows.lean that lists a variable, with what it lists TIED to the program's text (the seventh form; the later family's looks); each row that meets fmt, with fmt's text TOLD by the authors' own Lean function (tested against real Go, not proved from fmt's source: count such statements apart). THE CARD IS WHAT COUNTS. Prove the row's statement (the work); the ties are given (YtjgfiplhaanflaaDoorTie.lean); close each card by the builder's one call (the guide's Derived/Test/ToyasCard.lean, 'card_holds'). Laid BY PROGRAM, IN A SANDBOX (cutbox-door.mjs). By AI agents, Wed Nov 11 2026. No macro, syntax, notation, axiom, sorry.
-/
import Derived.Test.YtjgfiplhaanflaaDoorRows
import GoSem.ClaimSeven
namespace Go.Proofs.YtjgfiplhaanflaaDoor
namespace Rows

/-- THE TIED CARD OF 'laws.FnExactValidTree'. -/
def fnExactValidTreeCard : Claim7 := { stood := { row := fnExactValidTreeRow, standIns := [], harness := (true, "bc0890e0fa9b861638ebd1bd9cc223f1e83a921a5a764a140beee27810354496"), looks := false }, kinds := [], alts := [], laidByText := true, laidKinds := [.widerDeep], laidTests := true, laidLooks := .later }
def FnExactValidTreeCardSaid : Prop := Claim7.holds Tryd.pinned (.plain (OpenSpec.ofChange fnExactValidTreeSpec)) fnExactValidTreeCard

/-- THE TIED CARD OF 'laws.FnFold'. -/
def fnFoldCard : Claim7 := { stood := { row := fnFoldRow, standIns := [], harness := (true, "bc0890e0fa9b861638ebd1bd9cc223f1e83a921a5a764a140beee27810354496"), looks := false }, kinds := [], alts := [], laidByText := true, laidKinds := [.widerDeep, .mapped], laidTests := true, laidLooks := .later }
def FnFoldCardSaid : Prop := Claim7.holds Tryd.pinned (.plain (OpenSpec.ofChange fnFoldSpec)) fnFoldCard

/-- THE SECOND FORM's CARD OF 'laws.FnExactValidTree'. -/
def fnExactValidTreeUptoCard : Claim7 := { stood := { row := fnExactValidTreeUptoRow, standIns := [], harness := (true, "bc0890e0fa9b861638ebd1bd9cc223f1e83a921a5a764a140beee27810354496"), looks := false }, kinds := [], alts := [], laidByText := true, laidKinds := [.widerDeep], laidTests := true, laidLooks := .later }
def FnExactValidTreeUptoCardSaid : Prop := Claim7.holds Tryd.pinned (.plain (OpenSpec.upto fnExactValidTreeSpec)) fnExactValidTreeUptoCard

/-- THE SECOND FORM's CARD OF 'laws.FnFold'. -/
def fnFoldUptoCard : Claim7 := { stood := { row := fnFoldUptoRow, standIns := [], harness := (true, "bc0890e0fa9b861638ebd1bd9cc223f1e83a921a5a764a140beee27810354496"), looks := false }, kinds := [], alts := [], laidByText := true, laidKinds := [.widerDeep, .mapped], laidTests := true, laidLooks := .later }
def FnFoldUptoCardSaid : Prop := Claim7.holds Tryd.pinned (.plain (OpenSpec.upto fnFoldSpec)) fnFoldUptoCard
end Rows
end Go.Proofs.YtjgfiplhaanflaaDoor
