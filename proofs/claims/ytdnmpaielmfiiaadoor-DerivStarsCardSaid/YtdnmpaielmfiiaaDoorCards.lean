/-
  DERIVED. GIVEN WITH THE SEED: THE CARDS: each row of YtdnmpaielmfiiaaDoorRows.lean that lists a variable, with what it lists TIED to the program's text (the seventh form; the later family's looks); each row that meets fmt, with fmt's text TOLD by the authors' own Lean function (tested against real Go, not proved from fmt's source: count such statements apart). THE CARD IS WHAT COUNTS. Prove the row's statement (the work); the ties are given (YtdnmpaielmfiiaaDoorTie.lean); close each card by the builder's one call (the guide's Derived/Test/ToyasCard.lean, 'card_holds'). Laid BY PROGRAM, IN A SANDBOX (cutbox-door.mjs). By AI agents, Wed Nov 11 2026. No macro, syntax, notation, axiom, sorry.
-/
import Derived.Test.YtdnmpaielmfiiaaDoorRows
import GoSem.ClaimSeven
namespace Go.Proofs.YtdnmpaielmfiiaaDoor
namespace Rows

/-- THE TIED CARD OF 'regletlaw08.DerivAny'. -/
def derivAnyCard : Claim7 := { stood := { row := derivAnyRow, standIns := [], harness := (true, "7d3c5c9de60de2c1f8b09a7d8b979cad08f857817cf40a866882a419ceee08d5"), looks := false }, kinds := [], alts := [], laidByText := true, laidKinds := [.data, .data, .data], laidTests := true, laidLooks := .later }
def DerivAnyCardSaid : Prop := Claim7.holds Tryd.pinned (.plain (OpenSpec.ofChange derivAnySpec)) derivAnyCard

/-- THE TIED CARD OF 'regletlaw08.DerivMade'. -/
def derivMadeCard : Claim7 := { stood := { row := derivMadeRow, standIns := [], harness := (true, "7d3c5c9de60de2c1f8b09a7d8b979cad08f857817cf40a866882a419ceee08d5"), looks := false }, kinds := [], alts := [], laidByText := true, laidKinds := [.data, .data, .data], laidTests := true, laidLooks := .later }
def DerivMadeCardSaid : Prop := Claim7.holds Tryd.pinned (.plain (OpenSpec.ofChange derivMadeSpec)) derivMadeCard

/-- THE TIED CARD OF 'regletlaw08.DerivMatch'. -/
def derivMatchCard : Claim7 := { stood := { row := derivMatchRow, standIns := [], harness := (true, "7d3c5c9de60de2c1f8b09a7d8b979cad08f857817cf40a866882a419ceee08d5"), looks := false }, kinds := [], alts := [], laidByText := true, laidKinds := [.data, .data, .data], laidTests := true, laidLooks := .later }
def DerivMatchCardSaid : Prop := Claim7.holds Tryd.pinned (.plain (OpenSpec.ofChange derivMatchSpec)) derivMatchCard

/-- THE TIED CARD OF 'regletlaw08.DerivText'. -/
def derivTextCard : Claim7 := { stood := { row := derivTextRow, standIns := [], harness := (true, "7d3c5c9de60de2c1f8b09a7d8b979cad08f857817cf40a866882a419ceee08d5"), looks := false }, kinds := [], alts := [], laidByText := true, laidKinds := [.data, .data, .data], laidTests := true, laidLooks := .later }
def DerivTextCardSaid : Prop := Claim7.holds Tryd.pinned (.plain (OpenSpec.ofChange derivTextSpec)) derivTextCard

/-- THE TIED CARD OF 'regletlaw08.DerivAhead'. -/
def derivAheadCard : Claim7 := { stood := { row := derivAheadRow, standIns := [], harness := (true, "7d3c5c9de60de2c1f8b09a7d8b979cad08f857817cf40a866882a419ceee08d5"), looks := false }, kinds := [], alts := [], laidByText := true, laidKinds := [.data, .data, .data], laidTests := true, laidLooks := .later }
def DerivAheadCardSaid : Prop := Claim7.holds Tryd.pinned (.plain (OpenSpec.ofChange derivAheadSpec)) derivAheadCard

/-- THE TIED CARD OF 'regletlaw08.DerivRight'. -/
def derivRightCard : Claim7 := { stood := { row := derivRightRow, standIns := [], harness := (true, "7d3c5c9de60de2c1f8b09a7d8b979cad08f857817cf40a866882a419ceee08d5"), looks := false }, kinds := [], alts := [], laidByText := true, laidKinds := [.data, .data, .data], laidTests := true, laidLooks := .later }
def DerivRightCardSaid : Prop := Claim7.holds Tryd.pinned (.plain (OpenSpec.ofChange derivRightSpec)) derivRightCard

/-- THE TIED CARD OF 'regletlaw08.DerivJoins'. -/
def derivJoinsCard : Claim7 := { stood := { row := derivJoinsRow, standIns := [], harness := (true, "7d3c5c9de60de2c1f8b09a7d8b979cad08f857817cf40a866882a419ceee08d5"), looks := false }, kinds := [], alts := [], laidByText := true, laidKinds := [.data, .data, .data], laidTests := true, laidLooks := .later }
def DerivJoinsCardSaid : Prop := Claim7.holds Tryd.pinned (.plain (OpenSpec.ofChange derivJoinsSpec)) derivJoinsCard

/-- THE TIED CARD OF 'regletlaw08.DerivStars'. -/
def derivStarsCard : Claim7 := { stood := { row := derivStarsRow, standIns := [], harness := (true, "7d3c5c9de60de2c1f8b09a7d8b979cad08f857817cf40a866882a419ceee08d5"), looks := false }, kinds := [], alts := [], laidByText := true, laidKinds := [.data, .data, .data], laidTests := true, laidLooks := .later }
def DerivStarsCardSaid : Prop := Claim7.holds Tryd.pinned (.plain (OpenSpec.ofChange derivStarsSpec)) derivStarsCard

/-- THE SECOND FORM's CARD OF 'regletlaw08.DerivAny'. -/
def derivAnyUptoCard : Claim7 := { stood := { row := derivAnyUptoRow, standIns := [], harness := (true, "7d3c5c9de60de2c1f8b09a7d8b979cad08f857817cf40a866882a419ceee08d5"), looks := false }, kinds := [], alts := [], laidByText := true, laidKinds := [.data, .data, .data], laidTests := true, laidLooks := .later }
def DerivAnyUptoCardSaid : Prop := Claim7.holds Tryd.pinned (.plain (OpenSpec.upto derivAnySpec)) derivAnyUptoCard

/-- THE SECOND FORM's CARD OF 'regletlaw08.DerivMade'. -/
def derivMadeUptoCard : Claim7 := { stood := { row := derivMadeUptoRow, standIns := [], harness := (true, "7d3c5c9de60de2c1f8b09a7d8b979cad08f857817cf40a866882a419ceee08d5"), looks := false }, kinds := [], alts := [], laidByText := true, laidKinds := [.data, .data, .data], laidTests := true, laidLooks := .later }
def DerivMadeUptoCardSaid : Prop := Claim7.holds Tryd.pinned (.plain (OpenSpec.upto derivMadeSpec)) derivMadeUptoCard

/-- THE SECOND FORM's CARD OF 'regletlaw08.DerivMatch'. -/
def derivMatchUptoCard : Claim7 := { stood := { row := derivMatchUptoRow, standIns := [], harness := (true, "7d3c5c9de60de2c1f8b09a7d8b979cad08f857817cf40a866882a419ceee08d5"), looks := false }, kinds := [], alts := [], laidByText := true, laidKinds := [.data, .data, .data], laidTests := true, laidLooks := .later }
def DerivMatchUptoCardSaid : Prop := Claim7.holds Tryd.pinned (.plain (OpenSpec.upto derivMatchSpec)) derivMatchUptoCard

/-- THE SECOND FORM's CARD OF 'regletlaw08.DerivText'. -/
def derivTextUptoCard : Claim7 := { stood := { row := derivTextUptoRow, standIns := [], harness := (true, "7d3c5c9de60de2c1f8b09a7d8b979cad08f857817cf40a866882a419ceee08d5"), looks := false }, kinds := [], alts := [], laidByText := true, laidKinds := [.data, .data, .data], laidTests := true, laidLooks := .later }
def DerivTextUptoCardSaid : Prop := Claim7.holds Tryd.pinned (.plain (OpenSpec.upto derivTextSpec)) derivTextUptoCard

/-- THE SECOND FORM's CARD OF 'regletlaw08.DerivAhead'. -/
def derivAheadUptoCard : Claim7 := { stood := { row := derivAheadUptoRow, standIns := [], harness := (true, "7d3c5c9de60de2c1f8b09a7d8b979cad08f857817cf40a866882a419ceee08d5"), looks := false }, kinds := [], alts := [], laidByText := true, laidKinds := [.data, .data, .data], laidTests := true, laidLooks := .later }
def DerivAheadUptoCardSaid : Prop := Claim7.holds Tryd.pinned (.plain (OpenSpec.upto derivAheadSpec)) derivAheadUptoCard

/-- THE SECOND FORM's CARD OF 'regletlaw08.DerivRight'. -/
def derivRightUptoCard : Claim7 := { stood := { row := derivRightUptoRow, standIns := [], harness := (true, "7d3c5c9de60de2c1f8b09a7d8b979cad08f857817cf40a866882a419ceee08d5"), looks := false }, kinds := [], alts := [], laidByText := true, laidKinds := [.data, .data, .data], laidTests := true, laidLooks := .later }
def DerivRightUptoCardSaid : Prop := Claim7.holds Tryd.pinned (.plain (OpenSpec.upto derivRightSpec)) derivRightUptoCard

/-- THE SECOND FORM's CARD OF 'regletlaw08.DerivJoins'. -/
def derivJoinsUptoCard : Claim7 := { stood := { row := derivJoinsUptoRow, standIns := [], harness := (true, "7d3c5c9de60de2c1f8b09a7d8b979cad08f857817cf40a866882a419ceee08d5"), looks := false }, kinds := [], alts := [], laidByText := true, laidKinds := [.data, .data, .data], laidTests := true, laidLooks := .later }
def DerivJoinsUptoCardSaid : Prop := Claim7.holds Tryd.pinned (.plain (OpenSpec.upto derivJoinsSpec)) derivJoinsUptoCard

/-- THE SECOND FORM's CARD OF 'regletlaw08.DerivStars'. -/
def derivStarsUptoCard : Claim7 := { stood := { row := derivStarsUptoRow, standIns := [], harness := (true, "7d3c5c9de60de2c1f8b09a7d8b979cad08f857817cf40a866882a419ceee08d5"), looks := false }, kinds := [], alts := [], laidByText := true, laidKinds := [.data, .data, .data], laidTests := true, laidLooks := .later }
def DerivStarsUptoCardSaid : Prop := Claim7.holds Tryd.pinned (.plain (OpenSpec.upto derivStarsSpec)) derivStarsUptoCard
end Rows
end Go.Proofs.YtdnmpaielmfiiaaDoor
