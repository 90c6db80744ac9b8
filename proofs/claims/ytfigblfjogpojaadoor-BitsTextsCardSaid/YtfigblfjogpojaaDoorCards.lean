/-
  DERIVED. GIVEN WITH THE SEED: THE CARDS: each row of YtfigblfjogpojaaDoorRows.lean that lists a variable, with what it lists TIED to the program's text (the seventh form; the later family's looks); each row that meets fmt, with fmt's text TOLD by the authors' own Lean function (tested against real Go, not proved from fmt's source: count such statements apart). THE CARD IS WHAT COUNTS. Prove the row's statement (the work); the ties are given (YtfigblfjogpojaaDoorTie.lean); close each card by the builder's one call (the guide's Derived/Test/ToyasCard.lean, 'card_holds'). Laid BY PROGRAM, IN A SANDBOX (cutbox-door.mjs). By AI agents, Wed Nov 11 2026. No macro, syntax, notation, axiom, sorry.
-/
import Derived.Test.YtfigblfjogpojaaDoorRows
import GoSem.ClaimSeven
namespace Go.Proofs.YtfigblfjogpojaaDoor
namespace Rows

/-- THE TIED CARD OF 'masklaw1.BitsTexts'. -/
def bitsTextsCard : Claim7 := { stood := { row := bitsTextsRow, standIns := [], harness := (true, "8b7efed0b70bb391f79e65019602f99d89f9d9db043202e77099569d53db080c"), looks := false }, kinds := [], alts := [], laidByText := true, laidKinds := [.data, .data, .data], laidTests := true, laidLooks := .later }
def BitsTextsCardSaid : Prop := Claim7.holds Tryd.pinned (.plain (OpenSpec.ofChange bitsTextsSpec)) bitsTextsCard

/-- THE TIED CARD OF 'masklaw1.BitsMade'. -/
def bitsMadeCard : Claim7 := { stood := { row := bitsMadeRow, standIns := [], harness := (true, "8b7efed0b70bb391f79e65019602f99d89f9d9db043202e77099569d53db080c"), looks := false }, kinds := [], alts := [], laidByText := true, laidKinds := [.data, .data, .data], laidTests := true, laidLooks := .later }
def BitsMadeCardSaid : Prop := Claim7.holds Tryd.pinned (.plain (OpenSpec.ofChange bitsMadeSpec)) bitsMadeCard

/-- THE TIED CARD OF 'masklaw1.BitsCat'. -/
def bitsCatCard : Claim7 := { stood := { row := bitsCatRow, standIns := [], harness := (true, "8b7efed0b70bb391f79e65019602f99d89f9d9db043202e77099569d53db080c"), looks := false }, kinds := [], alts := [], laidByText := true, laidKinds := [.data, .data, .data], laidTests := true, laidLooks := .later }
def BitsCatCardSaid : Prop := Claim7.holds Tryd.pinned (.plain (OpenSpec.ofChange bitsCatSpec)) bitsCatCard

/-- THE TIED CARD OF 'masklaw1.BitsParts'. -/
def bitsPartsCard : Claim7 := { stood := { row := bitsPartsRow, standIns := [], harness := (true, "8b7efed0b70bb391f79e65019602f99d89f9d9db043202e77099569d53db080c"), looks := false }, kinds := [], alts := [], laidByText := true, laidKinds := [.data, .data, .data], laidTests := true, laidLooks := .later }
def BitsPartsCardSaid : Prop := Claim7.holds Tryd.pinned (.plain (OpenSpec.ofChange bitsPartsSpec)) bitsPartsCard

/-- THE TIED CARD OF 'masklaw1.BitsChosen'. -/
def bitsChosenCard : Claim7 := { stood := { row := bitsChosenRow, standIns := [], harness := (true, "8b7efed0b70bb391f79e65019602f99d89f9d9db043202e77099569d53db080c"), looks := false }, kinds := [], alts := [], laidByText := true, laidKinds := [.data, .data, .data], laidTests := true, laidLooks := .later }
def BitsChosenCardSaid : Prop := Claim7.holds Tryd.pinned (.plain (OpenSpec.ofChange bitsChosenSpec)) bitsChosenCard

/-- THE TIED CARD OF 'masklaw1.BitsShifted'. -/
def bitsShiftedCard : Claim7 := { stood := { row := bitsShiftedRow, standIns := [], harness := (true, "8b7efed0b70bb391f79e65019602f99d89f9d9db043202e77099569d53db080c"), looks := false }, kinds := [], alts := [], laidByText := true, laidKinds := [.data, .data, .data], laidTests := true, laidLooks := .later }
def BitsShiftedCardSaid : Prop := Claim7.holds Tryd.pinned (.plain (OpenSpec.ofChange bitsShiftedSpec)) bitsShiftedCard

/-- THE TIED CARD OF 'masklaw1.BitsCompared'. -/
def bitsComparedCard : Claim7 := { stood := { row := bitsComparedRow, standIns := [], harness := (true, "8b7efed0b70bb391f79e65019602f99d89f9d9db043202e77099569d53db080c"), looks := false }, kinds := [], alts := [], laidByText := true, laidKinds := [.data, .data, .data], laidTests := true, laidLooks := .later }
def BitsComparedCardSaid : Prop := Claim7.holds Tryd.pinned (.plain (OpenSpec.ofChange bitsComparedSpec)) bitsComparedCard

/-- THE TIED CARD OF 'masklaw1.BitsNumbers'. -/
def bitsNumbersCard : Claim7 := { stood := { row := bitsNumbersRow, standIns := [], harness := (true, "8b7efed0b70bb391f79e65019602f99d89f9d9db043202e77099569d53db080c"), looks := false }, kinds := [], alts := [], laidByText := true, laidKinds := [.data, .data, .data], laidTests := true, laidLooks := .later }
def BitsNumbersCardSaid : Prop := Claim7.holds Tryd.pinned (.plain (OpenSpec.ofChange bitsNumbersSpec)) bitsNumbersCard

/-- THE SECOND FORM's CARD OF 'masklaw1.BitsTexts'. -/
def bitsTextsUptoCard : Claim7 := { stood := { row := bitsTextsUptoRow, standIns := [], harness := (true, "8b7efed0b70bb391f79e65019602f99d89f9d9db043202e77099569d53db080c"), looks := false }, kinds := [], alts := [], laidByText := true, laidKinds := [.data, .data, .data], laidTests := true, laidLooks := .later }
def BitsTextsUptoCardSaid : Prop := Claim7.holds Tryd.pinned (.plain (OpenSpec.upto bitsTextsSpec)) bitsTextsUptoCard

/-- THE SECOND FORM's CARD OF 'masklaw1.BitsMade'. -/
def bitsMadeUptoCard : Claim7 := { stood := { row := bitsMadeUptoRow, standIns := [], harness := (true, "8b7efed0b70bb391f79e65019602f99d89f9d9db043202e77099569d53db080c"), looks := false }, kinds := [], alts := [], laidByText := true, laidKinds := [.data, .data, .data], laidTests := true, laidLooks := .later }
def BitsMadeUptoCardSaid : Prop := Claim7.holds Tryd.pinned (.plain (OpenSpec.upto bitsMadeSpec)) bitsMadeUptoCard

/-- THE SECOND FORM's CARD OF 'masklaw1.BitsCat'. -/
def bitsCatUptoCard : Claim7 := { stood := { row := bitsCatUptoRow, standIns := [], harness := (true, "8b7efed0b70bb391f79e65019602f99d89f9d9db043202e77099569d53db080c"), looks := false }, kinds := [], alts := [], laidByText := true, laidKinds := [.data, .data, .data], laidTests := true, laidLooks := .later }
def BitsCatUptoCardSaid : Prop := Claim7.holds Tryd.pinned (.plain (OpenSpec.upto bitsCatSpec)) bitsCatUptoCard

/-- THE SECOND FORM's CARD OF 'masklaw1.BitsParts'. -/
def bitsPartsUptoCard : Claim7 := { stood := { row := bitsPartsUptoRow, standIns := [], harness := (true, "8b7efed0b70bb391f79e65019602f99d89f9d9db043202e77099569d53db080c"), looks := false }, kinds := [], alts := [], laidByText := true, laidKinds := [.data, .data, .data], laidTests := true, laidLooks := .later }
def BitsPartsUptoCardSaid : Prop := Claim7.holds Tryd.pinned (.plain (OpenSpec.upto bitsPartsSpec)) bitsPartsUptoCard

/-- THE SECOND FORM's CARD OF 'masklaw1.BitsChosen'. -/
def bitsChosenUptoCard : Claim7 := { stood := { row := bitsChosenUptoRow, standIns := [], harness := (true, "8b7efed0b70bb391f79e65019602f99d89f9d9db043202e77099569d53db080c"), looks := false }, kinds := [], alts := [], laidByText := true, laidKinds := [.data, .data, .data], laidTests := true, laidLooks := .later }
def BitsChosenUptoCardSaid : Prop := Claim7.holds Tryd.pinned (.plain (OpenSpec.upto bitsChosenSpec)) bitsChosenUptoCard

/-- THE SECOND FORM's CARD OF 'masklaw1.BitsShifted'. -/
def bitsShiftedUptoCard : Claim7 := { stood := { row := bitsShiftedUptoRow, standIns := [], harness := (true, "8b7efed0b70bb391f79e65019602f99d89f9d9db043202e77099569d53db080c"), looks := false }, kinds := [], alts := [], laidByText := true, laidKinds := [.data, .data, .data], laidTests := true, laidLooks := .later }
def BitsShiftedUptoCardSaid : Prop := Claim7.holds Tryd.pinned (.plain (OpenSpec.upto bitsShiftedSpec)) bitsShiftedUptoCard

/-- THE SECOND FORM's CARD OF 'masklaw1.BitsCompared'. -/
def bitsComparedUptoCard : Claim7 := { stood := { row := bitsComparedUptoRow, standIns := [], harness := (true, "8b7efed0b70bb391f79e65019602f99d89f9d9db043202e77099569d53db080c"), looks := false }, kinds := [], alts := [], laidByText := true, laidKinds := [.data, .data, .data], laidTests := true, laidLooks := .later }
def BitsComparedUptoCardSaid : Prop := Claim7.holds Tryd.pinned (.plain (OpenSpec.upto bitsComparedSpec)) bitsComparedUptoCard

/-- THE SECOND FORM's CARD OF 'masklaw1.BitsNumbers'. -/
def bitsNumbersUptoCard : Claim7 := { stood := { row := bitsNumbersUptoRow, standIns := [], harness := (true, "8b7efed0b70bb391f79e65019602f99d89f9d9db043202e77099569d53db080c"), looks := false }, kinds := [], alts := [], laidByText := true, laidKinds := [.data, .data, .data], laidTests := true, laidLooks := .later }
def BitsNumbersUptoCardSaid : Prop := Claim7.holds Tryd.pinned (.plain (OpenSpec.upto bitsNumbersSpec)) bitsNumbersUptoCard
end Rows
end Go.Proofs.YtfigblfjogpojaaDoor
