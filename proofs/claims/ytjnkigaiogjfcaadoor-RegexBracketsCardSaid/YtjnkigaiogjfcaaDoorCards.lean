/-
  DERIVED. GIVEN WITH THE SEED: THE CARDS: each row of YtjnkigaiogjfcaaDoorRows.lean that lists a variable, with what it lists TIED to the program's text (the seventh form; the later family's looks); each row that meets fmt, with fmt's text TOLD by the authors' own Lean function (tested against real Go, not proved from fmt's source: count such statements apart). THE CARD IS WHAT COUNTS. Prove the row's statement (the work); the ties are given (YtjnkigaiogjfcaaDoorTie.lean); close each card by the builder's one call (the guide's Derived/Test/ToyasCard.lean, 'card_holds'). Laid BY PROGRAM, IN A SANDBOX (cutbox-door.mjs). By AI agents, Wed Nov 11 2026. No macro, syntax, notation, axiom, sorry.
-/
import Derived.Test.YtjnkigaiogjfcaaDoorRows
import GoSem.ClaimSeven
namespace Go.Proofs.YtjnkigaiogjfcaaDoor
namespace Rows

/-- THE TIED CARD OF 'regletlaw07.RegexAny'. -/
def regexAnyCard : Claim7 := { stood := { row := regexAnyRow, standIns := [], harness := (true, "88a04098776cf739d2db432b8677f198c4acb9b1be1f05a675302ffb6712d079"), looks := false }, kinds := [], alts := [], laidByText := true, laidKinds := [.data, .data, .data], laidTests := true, laidLooks := .later }
def RegexAnyCardSaid : Prop := Claim7.holds Tryd.pinned (.plain (OpenSpec.ofChange regexAnySpec)) regexAnyCard

/-- THE TIED CARD OF 'regletlaw07.RegexMade'. -/
def regexMadeCard : Claim7 := { stood := { row := regexMadeRow, standIns := [], harness := (true, "88a04098776cf739d2db432b8677f198c4acb9b1be1f05a675302ffb6712d079"), looks := false }, kinds := [], alts := [], laidByText := true, laidKinds := [.data, .data, .data], laidTests := true, laidLooks := .later }
def RegexMadeCardSaid : Prop := Claim7.holds Tryd.pinned (.plain (OpenSpec.ofChange regexMadeSpec)) regexMadeCard

/-- THE TIED CARD OF 'regletlaw07.RegexRight'. -/
def regexRightCard : Claim7 := { stood := { row := regexRightRow, standIns := [], harness := (true, "88a04098776cf739d2db432b8677f198c4acb9b1be1f05a675302ffb6712d079"), looks := false }, kinds := [], alts := [], laidByText := true, laidKinds := [.data, .data, .data], laidTests := true, laidLooks := .later }
def RegexRightCardSaid : Prop := Claim7.holds Tryd.pinned (.plain (OpenSpec.ofChange regexRightSpec)) regexRightCard

/-- THE TIED CARD OF 'regletlaw07.RegexBrackets'. -/
def regexBracketsCard : Claim7 := { stood := { row := regexBracketsRow, standIns := [], harness := (true, "88a04098776cf739d2db432b8677f198c4acb9b1be1f05a675302ffb6712d079"), looks := false }, kinds := [], alts := [], laidByText := true, laidKinds := [.data, .data, .data], laidTests := true, laidLooks := .later }
def RegexBracketsCardSaid : Prop := Claim7.holds Tryd.pinned (.plain (OpenSpec.ofChange regexBracketsSpec)) regexBracketsCard

/-- THE TIED CARD OF 'regletlaw07.RegexUnits'. -/
def regexUnitsCard : Claim7 := { stood := { row := regexUnitsRow, standIns := [], harness := (true, "88a04098776cf739d2db432b8677f198c4acb9b1be1f05a675302ffb6712d079"), looks := false }, kinds := [], alts := [], laidByText := true, laidKinds := [.data, .data, .data], laidTests := true, laidLooks := .later }
def RegexUnitsCardSaid : Prop := Claim7.holds Tryd.pinned (.plain (OpenSpec.ofChange regexUnitsSpec)) regexUnitsCard

/-- THE SECOND FORM's CARD OF 'regletlaw07.RegexAny'. -/
def regexAnyUptoCard : Claim7 := { stood := { row := regexAnyUptoRow, standIns := [], harness := (true, "88a04098776cf739d2db432b8677f198c4acb9b1be1f05a675302ffb6712d079"), looks := false }, kinds := [], alts := [], laidByText := true, laidKinds := [.data, .data, .data], laidTests := true, laidLooks := .later }
def RegexAnyUptoCardSaid : Prop := Claim7.holds Tryd.pinned (.plain (OpenSpec.upto regexAnySpec)) regexAnyUptoCard

/-- THE SECOND FORM's CARD OF 'regletlaw07.RegexMade'. -/
def regexMadeUptoCard : Claim7 := { stood := { row := regexMadeUptoRow, standIns := [], harness := (true, "88a04098776cf739d2db432b8677f198c4acb9b1be1f05a675302ffb6712d079"), looks := false }, kinds := [], alts := [], laidByText := true, laidKinds := [.data, .data, .data], laidTests := true, laidLooks := .later }
def RegexMadeUptoCardSaid : Prop := Claim7.holds Tryd.pinned (.plain (OpenSpec.upto regexMadeSpec)) regexMadeUptoCard

/-- THE SECOND FORM's CARD OF 'regletlaw07.RegexRight'. -/
def regexRightUptoCard : Claim7 := { stood := { row := regexRightUptoRow, standIns := [], harness := (true, "88a04098776cf739d2db432b8677f198c4acb9b1be1f05a675302ffb6712d079"), looks := false }, kinds := [], alts := [], laidByText := true, laidKinds := [.data, .data, .data], laidTests := true, laidLooks := .later }
def RegexRightUptoCardSaid : Prop := Claim7.holds Tryd.pinned (.plain (OpenSpec.upto regexRightSpec)) regexRightUptoCard

/-- THE SECOND FORM's CARD OF 'regletlaw07.RegexBrackets'. -/
def regexBracketsUptoCard : Claim7 := { stood := { row := regexBracketsUptoRow, standIns := [], harness := (true, "88a04098776cf739d2db432b8677f198c4acb9b1be1f05a675302ffb6712d079"), looks := false }, kinds := [], alts := [], laidByText := true, laidKinds := [.data, .data, .data], laidTests := true, laidLooks := .later }
def RegexBracketsUptoCardSaid : Prop := Claim7.holds Tryd.pinned (.plain (OpenSpec.upto regexBracketsSpec)) regexBracketsUptoCard

/-- THE SECOND FORM's CARD OF 'regletlaw07.RegexUnits'. -/
def regexUnitsUptoCard : Claim7 := { stood := { row := regexUnitsUptoRow, standIns := [], harness := (true, "88a04098776cf739d2db432b8677f198c4acb9b1be1f05a675302ffb6712d079"), looks := false }, kinds := [], alts := [], laidByText := true, laidKinds := [.data, .data, .data], laidTests := true, laidLooks := .later }
def RegexUnitsUptoCardSaid : Prop := Claim7.holds Tryd.pinned (.plain (OpenSpec.upto regexUnitsSpec)) regexUnitsUptoCard
end Rows
end Go.Proofs.YtjnkigaiogjfcaaDoor
