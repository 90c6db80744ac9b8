/-
  DERIVED. GIVEN WITH THE SEED: THE CARDS: each row of YtlamgdibnnmbmaaDoorRows.lean that lists a variable, with what it lists TIED to the program's text (the seventh form; the later family's looks); each row that meets fmt, with fmt's text TOLD by the authors' own Lean function (tested against real Go, not proved from fmt's source: count such statements apart). THE CARD IS WHAT COUNTS. Prove the row's statement (the work); the ties are given (YtlamgdibnnmbmaaDoorTie.lean); close each card by the builder's one call (the guide's Derived/Test/ToyasCard.lean, 'card_holds'). Laid BY PROGRAM, IN A SANDBOX (cutbox-door.mjs). By AI agents, Wed Nov 11 2026. No macro, syntax, notation, axiom, sorry.
-/
import Derived.Test.YtlamgdibnnmbmaaDoorRows
import GoSem.ClaimSeven
namespace Go.Proofs.YtlamgdibnnmbmaaDoor
namespace Rows

/-- THE TIED CARD OF 'masklaw1.NoteChecks'. -/
def noteChecksCard : Claim7 := { stood := { row := noteChecksRow, standIns := [], harness := (true, "17950187c21327fac7c4a0f5893f543c310f5407216ef2830f7df3a247eeee97"), looks := true }, kinds := [], alts := [], laidByText := true, laidKinds := [.data, .data, .data], laidTests := true, laidLooks := .later }
def NoteChecksCardSaid : Prop := Claim7.holds Tryd.pinned (.plain (OpenSpec.ofChange noteChecksSpec)) noteChecksCard

/-- THE TIED CARD OF 'masklaw1.NotePlaces'. -/
def notePlacesCard : Claim7 := { stood := { row := notePlacesRow, standIns := [], harness := (true, "17950187c21327fac7c4a0f5893f543c310f5407216ef2830f7df3a247eeee97"), looks := true }, kinds := [], alts := [], laidByText := true, laidKinds := [.data, .data, .data], laidTests := true, laidLooks := .later }
def NotePlacesCardSaid : Prop := Claim7.holds Tryd.pinned (.plain (OpenSpec.ofChange notePlacesSpec)) notePlacesCard

/-- THE TIED CARD OF 'masklaw1.NoteSorts'. -/
def noteSortsCard : Claim7 := { stood := { row := noteSortsRow, standIns := [], harness := (true, "17950187c21327fac7c4a0f5893f543c310f5407216ef2830f7df3a247eeee97"), looks := true }, kinds := [], alts := [], laidByText := true, laidKinds := [.data, .data, .data], laidTests := true, laidLooks := .later }
def NoteSortsCardSaid : Prop := Claim7.holds Tryd.pinned (.plain (OpenSpec.ofChange noteSortsSpec)) noteSortsCard

/-- THE TIED CARD OF 'masklaw1.LexNames'. -/
def lexNamesCard : Claim7 := { stood := { row := lexNamesRow, standIns := [], harness := (true, "17950187c21327fac7c4a0f5893f543c310f5407216ef2830f7df3a247eeee97"), looks := true }, kinds := [], alts := [], laidByText := true, laidKinds := [.data, .pinned], laidTests := true, laidLooks := .later }
def LexNamesCardSaid : Prop := Claim7.holds Tryd.pinned (.plain (OpenSpec.ofChange lexNamesSpec)) lexNamesCard

/-- THE TIED CARD OF 'masklaw1.NoteReads'. -/
def noteReadsCard : Claim7 := { stood := { row := noteReadsRow, standIns := [], harness := (true, "17950187c21327fac7c4a0f5893f543c310f5407216ef2830f7df3a247eeee97"), looks := true }, kinds := [], alts := [], laidByText := true, laidKinds := [.data, .data, .data, .data, .sentinel, .sentinel, .pinned], laidTests := true, laidLooks := .later }
def NoteReadsCardSaid : Prop := Claim7.holds Tryd.pinned (.plain (OpenSpec.ofChange noteReadsSpec)) noteReadsCard

/-- THE SECOND FORM's CARD OF 'masklaw1.NoteChecks'. -/
def noteChecksUptoCard : Claim7 := { stood := { row := noteChecksUptoRow, standIns := [], harness := (true, "17950187c21327fac7c4a0f5893f543c310f5407216ef2830f7df3a247eeee97"), looks := true }, kinds := [], alts := [], laidByText := true, laidKinds := [.data, .data, .data], laidTests := true, laidLooks := .later }
def NoteChecksUptoCardSaid : Prop := Claim7.holds Tryd.pinned (.plain (OpenSpec.upto noteChecksSpec)) noteChecksUptoCard

/-- THE SECOND FORM's CARD OF 'masklaw1.NotePlaces'. -/
def notePlacesUptoCard : Claim7 := { stood := { row := notePlacesUptoRow, standIns := [], harness := (true, "17950187c21327fac7c4a0f5893f543c310f5407216ef2830f7df3a247eeee97"), looks := true }, kinds := [], alts := [], laidByText := true, laidKinds := [.data, .data, .data], laidTests := true, laidLooks := .later }
def NotePlacesUptoCardSaid : Prop := Claim7.holds Tryd.pinned (.plain (OpenSpec.upto notePlacesSpec)) notePlacesUptoCard

/-- THE SECOND FORM's CARD OF 'masklaw1.NoteSorts'. -/
def noteSortsUptoCard : Claim7 := { stood := { row := noteSortsUptoRow, standIns := [], harness := (true, "17950187c21327fac7c4a0f5893f543c310f5407216ef2830f7df3a247eeee97"), looks := true }, kinds := [], alts := [], laidByText := true, laidKinds := [.data, .data, .data], laidTests := true, laidLooks := .later }
def NoteSortsUptoCardSaid : Prop := Claim7.holds Tryd.pinned (.plain (OpenSpec.upto noteSortsSpec)) noteSortsUptoCard

/-- THE SECOND FORM's CARD OF 'masklaw1.LexNames'. -/
def lexNamesUptoCard : Claim7 := { stood := { row := lexNamesUptoRow, standIns := [], harness := (true, "17950187c21327fac7c4a0f5893f543c310f5407216ef2830f7df3a247eeee97"), looks := true }, kinds := [], alts := [], laidByText := true, laidKinds := [.data, .pinned], laidTests := true, laidLooks := .later }
def LexNamesUptoCardSaid : Prop := Claim7.holds Tryd.pinned (.plain (OpenSpec.upto lexNamesSpec)) lexNamesUptoCard

/-- THE SECOND FORM's CARD OF 'masklaw1.NoteReads'. -/
def noteReadsUptoCard : Claim7 := { stood := { row := noteReadsUptoRow, standIns := [], harness := (true, "17950187c21327fac7c4a0f5893f543c310f5407216ef2830f7df3a247eeee97"), looks := true }, kinds := [], alts := [], laidByText := true, laidKinds := [.data, .data, .data, .data, .sentinel, .sentinel, .pinned], laidTests := true, laidLooks := .later }
def NoteReadsUptoCardSaid : Prop := Claim7.holds Tryd.pinned (.plain (OpenSpec.upto noteReadsSpec)) noteReadsUptoCard
end Rows
end Go.Proofs.YtlamgdibnnmbmaaDoor
