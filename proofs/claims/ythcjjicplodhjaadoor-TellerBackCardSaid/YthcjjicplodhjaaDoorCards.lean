/-
  DERIVED. GIVEN WITH THE SEED: THE CARDS: each row of YthcjjicplodhjaaDoorRows.lean that lists a variable, with what it lists TIED to the program's text (the seventh form; the later family's looks); each row that meets fmt, with fmt's text TOLD by the authors' own Lean function (tested against real Go, not proved from fmt's source: count such statements apart). THE CARD IS WHAT COUNTS. Prove the row's statement (the work); the ties are given (YthcjjicplodhjaaDoorTie.lean); close each card by the builder's one call (the guide's Derived/Test/ToyasCard.lean, 'card_holds'). Laid BY PROGRAM, IN A SANDBOX (cutbox-door.mjs). By AI agents, Wed Nov 11 2026. No macro, syntax, notation, axiom, sorry.
-/
import Derived.Test.YthcjjicplodhjaaDoorRows
import GoSem.ClaimSeven
namespace Go.Proofs.YthcjjicplodhjaaDoor
namespace Rows

/-- THE TIED CARD OF 'regletlaw04.TellerAny'. -/
def tellerAnyCard : Claim7 := { stood := { row := tellerAnyRow, standIns := [], harness := (true, "5e0f8725b9aad670e8ffb72a21b12599b5a4260e6d4bdaa766608b5682b0f264"), looks := false }, kinds := [], alts := [], laidByText := true, laidKinds := [.data, .data, .data, .data, .pinned, .pinned], laidTests := true, laidLooks := .later }
def TellerAnyCardSaid : Prop := Claim7.holds Tryd.pinned (.plain (OpenSpec.ofChange tellerAnySpec)) tellerAnyCard

/-- THE TIED CARD OF 'regletlaw04.TellerMade'. -/
def tellerMadeCard : Claim7 := { stood := { row := tellerMadeRow, standIns := [], harness := (true, "5e0f8725b9aad670e8ffb72a21b12599b5a4260e6d4bdaa766608b5682b0f264"), looks := false }, kinds := [], alts := [], laidByText := true, laidKinds := [.data, .data, .data, .data, .pinned, .pinned], laidTests := true, laidLooks := .later }
def TellerMadeCardSaid : Prop := Claim7.holds Tryd.pinned (.plain (OpenSpec.ofChange tellerMadeSpec)) tellerMadeCard

/-- THE TIED CARD OF 'regletlaw04.TellerDeep'. -/
def tellerDeepCard : Claim7 := { stood := { row := tellerDeepRow, standIns := [], harness := (true, "5e0f8725b9aad670e8ffb72a21b12599b5a4260e6d4bdaa766608b5682b0f264"), looks := false }, kinds := [], alts := [], laidByText := true, laidKinds := [.data, .data, .data, .data, .pinned, .pinned], laidTests := true, laidLooks := .later }
def TellerDeepCardSaid : Prop := Claim7.holds Tryd.pinned (.plain (OpenSpec.ofChange tellerDeepSpec)) tellerDeepCard

/-- THE TIED CARD OF 'regletlaw04.TellerBack'. -/
def tellerBackCard : Claim7 := { stood := { row := tellerBackRow, standIns := [], harness := (true, "5e0f8725b9aad670e8ffb72a21b12599b5a4260e6d4bdaa766608b5682b0f264"), looks := false }, kinds := [], alts := [], laidByText := true, laidKinds := [.data, .data, .data, .data, .pinned, .pinned], laidTests := true, laidLooks := .later }
def TellerBackCardSaid : Prop := Claim7.holds Tryd.pinned (.plain (OpenSpec.ofChange tellerBackSpec)) tellerBackCard

/-- THE TIED CARD OF 'regletlaw04.TellerNames'. -/
def tellerNamesCard : Claim7 := { stood := { row := tellerNamesRow, standIns := [], harness := (true, "5e0f8725b9aad670e8ffb72a21b12599b5a4260e6d4bdaa766608b5682b0f264"), looks := false }, kinds := [], alts := [], laidByText := true, laidKinds := [.data, .data, .data, .data, .pinned, .pinned], laidTests := true, laidLooks := .later }
def TellerNamesCardSaid : Prop := Claim7.holds Tryd.pinned (.plain (OpenSpec.ofChange tellerNamesSpec)) tellerNamesCard

/-- THE TIED CARD OF 'regletlaw04.TellerRepeats'. -/
def tellerRepeatsCard : Claim7 := { stood := { row := tellerRepeatsRow, standIns := [], harness := (true, "5e0f8725b9aad670e8ffb72a21b12599b5a4260e6d4bdaa766608b5682b0f264"), looks := false }, kinds := [], alts := [], laidByText := true, laidKinds := [.data, .data, .data, .data, .pinned, .pinned], laidTests := true, laidLooks := .later }
def TellerRepeatsCardSaid : Prop := Claim7.holds Tryd.pinned (.plain (OpenSpec.ofChange tellerRepeatsSpec)) tellerRepeatsCard

/-- THE SECOND FORM's CARD OF 'regletlaw04.TellerAny'. -/
def tellerAnyUptoCard : Claim7 := { stood := { row := tellerAnyUptoRow, standIns := [], harness := (true, "5e0f8725b9aad670e8ffb72a21b12599b5a4260e6d4bdaa766608b5682b0f264"), looks := false }, kinds := [], alts := [], laidByText := true, laidKinds := [.data, .data, .data, .data, .pinned, .pinned], laidTests := true, laidLooks := .later }
def TellerAnyUptoCardSaid : Prop := Claim7.holds Tryd.pinned (.plain (OpenSpec.upto tellerAnySpec)) tellerAnyUptoCard

/-- THE SECOND FORM's CARD OF 'regletlaw04.TellerMade'. -/
def tellerMadeUptoCard : Claim7 := { stood := { row := tellerMadeUptoRow, standIns := [], harness := (true, "5e0f8725b9aad670e8ffb72a21b12599b5a4260e6d4bdaa766608b5682b0f264"), looks := false }, kinds := [], alts := [], laidByText := true, laidKinds := [.data, .data, .data, .data, .pinned, .pinned], laidTests := true, laidLooks := .later }
def TellerMadeUptoCardSaid : Prop := Claim7.holds Tryd.pinned (.plain (OpenSpec.upto tellerMadeSpec)) tellerMadeUptoCard

/-- THE SECOND FORM's CARD OF 'regletlaw04.TellerDeep'. -/
def tellerDeepUptoCard : Claim7 := { stood := { row := tellerDeepUptoRow, standIns := [], harness := (true, "5e0f8725b9aad670e8ffb72a21b12599b5a4260e6d4bdaa766608b5682b0f264"), looks := false }, kinds := [], alts := [], laidByText := true, laidKinds := [.data, .data, .data, .data, .pinned, .pinned], laidTests := true, laidLooks := .later }
def TellerDeepUptoCardSaid : Prop := Claim7.holds Tryd.pinned (.plain (OpenSpec.upto tellerDeepSpec)) tellerDeepUptoCard

/-- THE SECOND FORM's CARD OF 'regletlaw04.TellerBack'. -/
def tellerBackUptoCard : Claim7 := { stood := { row := tellerBackUptoRow, standIns := [], harness := (true, "5e0f8725b9aad670e8ffb72a21b12599b5a4260e6d4bdaa766608b5682b0f264"), looks := false }, kinds := [], alts := [], laidByText := true, laidKinds := [.data, .data, .data, .data, .pinned, .pinned], laidTests := true, laidLooks := .later }
def TellerBackUptoCardSaid : Prop := Claim7.holds Tryd.pinned (.plain (OpenSpec.upto tellerBackSpec)) tellerBackUptoCard

/-- THE SECOND FORM's CARD OF 'regletlaw04.TellerNames'. -/
def tellerNamesUptoCard : Claim7 := { stood := { row := tellerNamesUptoRow, standIns := [], harness := (true, "5e0f8725b9aad670e8ffb72a21b12599b5a4260e6d4bdaa766608b5682b0f264"), looks := false }, kinds := [], alts := [], laidByText := true, laidKinds := [.data, .data, .data, .data, .pinned, .pinned], laidTests := true, laidLooks := .later }
def TellerNamesUptoCardSaid : Prop := Claim7.holds Tryd.pinned (.plain (OpenSpec.upto tellerNamesSpec)) tellerNamesUptoCard

/-- THE SECOND FORM's CARD OF 'regletlaw04.TellerRepeats'. -/
def tellerRepeatsUptoCard : Claim7 := { stood := { row := tellerRepeatsUptoRow, standIns := [], harness := (true, "5e0f8725b9aad670e8ffb72a21b12599b5a4260e6d4bdaa766608b5682b0f264"), looks := false }, kinds := [], alts := [], laidByText := true, laidKinds := [.data, .data, .data, .data, .pinned, .pinned], laidTests := true, laidLooks := .later }
def TellerRepeatsUptoCardSaid : Prop := Claim7.holds Tryd.pinned (.plain (OpenSpec.upto tellerRepeatsSpec)) tellerRepeatsUptoCard
end Rows
end Go.Proofs.YthcjjicplodhjaaDoor
