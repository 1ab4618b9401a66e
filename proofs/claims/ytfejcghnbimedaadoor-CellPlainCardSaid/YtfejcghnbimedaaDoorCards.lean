/-
  DERIVED. GIVEN WITH THE SEED: THE CARDS: each row of YtfejcghnbimedaaDoorRows.lean that lists a variable, with what it lists TIED to the program's text (the seventh form; the later family's looks); each row that meets fmt, with fmt's text TOLD by the authors' own Lean function (tested against real Go, not proved from fmt's source: count such statements apart). THE CARD IS WHAT COUNTS. Prove the row's statement (the work); the ties are given (YtfejcghnbimedaaDoorTie.lean); close each card by the builder's one call (the guide's Derived/Test/ToyasCard.lean, 'card_holds'). Laid BY PROGRAM, IN A SANDBOX (cutbox-door.mjs). By AI agents, Wed Nov 11 2026. No macro, syntax, notation, axiom, sorry.
-/
import Derived.Test.YtfejcghnbimedaaDoorRows
import GoSem.ClaimSeven
namespace Go.Proofs.YtfejcghnbimedaaDoor
namespace Rows

/-- THE TIED CARD OF 'aukletlaw03.CellCompares'. -/
def cellComparesCard : Claim7 := { stood := { row := cellComparesRow, standIns := [], harness := (true, "769274d7ac34219bafe4caa7d59a9e2b8c3edf2af408a7faa004cdda829bf3cb"), looks := true }, kinds := [], alts := [], laidByText := true, laidKinds := [.data, .pinned], laidTests := true, laidLooks := .later }
def CellComparesCardSaid : Prop := Claim7.holds Tryd.pinned (.plain (OpenSpec.ofChange cellComparesSpec)) cellComparesCard

/-- THE TIED CARD OF 'aukletlaw03.CellOrders'. -/
def cellOrdersCard : Claim7 := { stood := { row := cellOrdersRow, standIns := [], harness := (true, "769274d7ac34219bafe4caa7d59a9e2b8c3edf2af408a7faa004cdda829bf3cb"), looks := true }, kinds := [], alts := [], laidByText := true, laidKinds := [.data, .pinned], laidTests := true, laidLooks := .later }
def CellOrdersCardSaid : Prop := Claim7.holds Tryd.pinned (.plain (OpenSpec.ofChange cellOrdersSpec)) cellOrdersCard

/-- THE TIED CARD OF 'aukletlaw03.CellSame'. -/
def cellSameCard : Claim7 := { stood := { row := cellSameRow, standIns := [], harness := (true, "769274d7ac34219bafe4caa7d59a9e2b8c3edf2af408a7faa004cdda829bf3cb"), looks := true }, kinds := [], alts := [], laidByText := true, laidKinds := [.data, .pinned], laidTests := true, laidLooks := .later }
def CellSameCardSaid : Prop := Claim7.holds Tryd.pinned (.plain (OpenSpec.ofChange cellSameSpec)) cellSameCard

/-- THE TIED CARD OF 'aukletlaw03.CellBack'. -/
def cellBackCard : Claim7 := { stood := { row := cellBackRow, standIns := [], harness := (true, "769274d7ac34219bafe4caa7d59a9e2b8c3edf2af408a7faa004cdda829bf3cb"), looks := true }, kinds := [], alts := [], laidByText := true, laidKinds := [.data, .pinned], laidTests := true, laidLooks := .later }
def CellBackCardSaid : Prop := Claim7.holds Tryd.pinned (.plain (OpenSpec.ofChange cellBackSpec)) cellBackCard

/-- THE TIED CARD OF 'aukletlaw03.CellInputs'. -/
def cellInputsCard : Claim7 := { stood := { row := cellInputsRow, standIns := [], harness := (true, "769274d7ac34219bafe4caa7d59a9e2b8c3edf2af408a7faa004cdda829bf3cb"), looks := true }, kinds := [], alts := [], laidByText := true, laidKinds := [.data, .pinned], laidTests := true, laidLooks := .later }
def CellInputsCardSaid : Prop := Claim7.holds Tryd.pinned (.plain (OpenSpec.ofChange cellInputsSpec)) cellInputsCard

/-- THE TIED CARD OF 'aukletlaw03.CellPlain'. -/
def cellPlainCard : Claim7 := { stood := { row := cellPlainRow, standIns := [], harness := (true, "769274d7ac34219bafe4caa7d59a9e2b8c3edf2af408a7faa004cdda829bf3cb"), looks := true }, kinds := [], alts := [], laidByText := true, laidKinds := [.data, .pinned], laidTests := true, laidLooks := .later }
def CellPlainCardSaid : Prop := Claim7.holds Tryd.pinned (.plain (OpenSpec.ofChange cellPlainSpec)) cellPlainCard

/-- THE SECOND FORM's CARD OF 'aukletlaw03.CellCompares'. -/
def cellComparesUptoCard : Claim7 := { stood := { row := cellComparesUptoRow, standIns := [], harness := (true, "769274d7ac34219bafe4caa7d59a9e2b8c3edf2af408a7faa004cdda829bf3cb"), looks := true }, kinds := [], alts := [], laidByText := true, laidKinds := [.data, .pinned], laidTests := true, laidLooks := .later }
def CellComparesUptoCardSaid : Prop := Claim7.holds Tryd.pinned (.plain (OpenSpec.upto cellComparesSpec)) cellComparesUptoCard

/-- THE SECOND FORM's CARD OF 'aukletlaw03.CellOrders'. -/
def cellOrdersUptoCard : Claim7 := { stood := { row := cellOrdersUptoRow, standIns := [], harness := (true, "769274d7ac34219bafe4caa7d59a9e2b8c3edf2af408a7faa004cdda829bf3cb"), looks := true }, kinds := [], alts := [], laidByText := true, laidKinds := [.data, .pinned], laidTests := true, laidLooks := .later }
def CellOrdersUptoCardSaid : Prop := Claim7.holds Tryd.pinned (.plain (OpenSpec.upto cellOrdersSpec)) cellOrdersUptoCard

/-- THE SECOND FORM's CARD OF 'aukletlaw03.CellSame'. -/
def cellSameUptoCard : Claim7 := { stood := { row := cellSameUptoRow, standIns := [], harness := (true, "769274d7ac34219bafe4caa7d59a9e2b8c3edf2af408a7faa004cdda829bf3cb"), looks := true }, kinds := [], alts := [], laidByText := true, laidKinds := [.data, .pinned], laidTests := true, laidLooks := .later }
def CellSameUptoCardSaid : Prop := Claim7.holds Tryd.pinned (.plain (OpenSpec.upto cellSameSpec)) cellSameUptoCard

/-- THE SECOND FORM's CARD OF 'aukletlaw03.CellBack'. -/
def cellBackUptoCard : Claim7 := { stood := { row := cellBackUptoRow, standIns := [], harness := (true, "769274d7ac34219bafe4caa7d59a9e2b8c3edf2af408a7faa004cdda829bf3cb"), looks := true }, kinds := [], alts := [], laidByText := true, laidKinds := [.data, .pinned], laidTests := true, laidLooks := .later }
def CellBackUptoCardSaid : Prop := Claim7.holds Tryd.pinned (.plain (OpenSpec.upto cellBackSpec)) cellBackUptoCard

/-- THE SECOND FORM's CARD OF 'aukletlaw03.CellInputs'. -/
def cellInputsUptoCard : Claim7 := { stood := { row := cellInputsUptoRow, standIns := [], harness := (true, "769274d7ac34219bafe4caa7d59a9e2b8c3edf2af408a7faa004cdda829bf3cb"), looks := true }, kinds := [], alts := [], laidByText := true, laidKinds := [.data, .pinned], laidTests := true, laidLooks := .later }
def CellInputsUptoCardSaid : Prop := Claim7.holds Tryd.pinned (.plain (OpenSpec.upto cellInputsSpec)) cellInputsUptoCard

/-- THE SECOND FORM's CARD OF 'aukletlaw03.CellPlain'. -/
def cellPlainUptoCard : Claim7 := { stood := { row := cellPlainUptoRow, standIns := [], harness := (true, "769274d7ac34219bafe4caa7d59a9e2b8c3edf2af408a7faa004cdda829bf3cb"), looks := true }, kinds := [], alts := [], laidByText := true, laidKinds := [.data, .pinned], laidTests := true, laidLooks := .later }
def CellPlainUptoCardSaid : Prop := Claim7.holds Tryd.pinned (.plain (OpenSpec.upto cellPlainSpec)) cellPlainUptoCard
end Rows
end Go.Proofs.YtfejcghnbimedaaDoor
