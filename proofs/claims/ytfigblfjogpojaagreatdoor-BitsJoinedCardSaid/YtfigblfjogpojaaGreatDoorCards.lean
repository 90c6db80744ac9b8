/-
  DERIVED. GIVEN WITH THE SEED: THE CARDS: each row of YtfigblfjogpojaaGreatDoorRows.lean that lists a variable, with what it lists TIED to the program's text (the seventh form; the later family's looks); each row that meets fmt, with fmt's text TOLD by the authors' own Lean function (tested against real Go, not proved from fmt's source: count such statements apart). THE CARD IS WHAT COUNTS. Prove the row's statement (the work); the ties are given (YtfigblfjogpojaaGreatDoorTie.lean); close each card by the builder's one call (the guide's Derived/Test/ToyasCard.lean, 'card_holds'). Laid BY PROGRAM, IN A SANDBOX (cutbox-door.mjs). By AI agents, Wed Nov 11 2026. No macro, syntax, notation, axiom, sorry.
-/
import Derived.Test.YtfigblfjogpojaaGreatDoorRows
import GoSem.ClaimSeven
namespace Go.Proofs.YtfigblfjogpojaaGreatDoor
namespace Rows

/-- THE TIED CARD OF 'masklaw1.BitsJoined'. -/
def bitsJoinedCard : Claim7 := { stood := { row := bitsJoinedRow, standIns := [], harness := (true, "9b1b28dc209b622300167822822027f5e0618f4b8d906a8d90e4b465f0e5214e"), looks := false }, kinds := [], alts := [], laidByText := true, laidKinds := [.data, .data, .data], laidTests := true, laidLooks := .later }
def BitsJoinedCardSaid : Prop := Claim7.holds Tryz.pinned (.plain (OpenSpec.ofChange bitsJoinedSpec)) bitsJoinedCard

/-- THE SECOND FORM's CARD OF 'masklaw1.BitsJoined'. -/
def bitsJoinedUptoCard : Claim7 := { stood := { row := bitsJoinedUptoRow, standIns := [], harness := (true, "9b1b28dc209b622300167822822027f5e0618f4b8d906a8d90e4b465f0e5214e"), looks := false }, kinds := [], alts := [], laidByText := true, laidKinds := [.data, .data, .data], laidTests := true, laidLooks := .later }
def BitsJoinedUptoCardSaid : Prop := Claim7.holds Tryz.pinned (.plain (OpenSpec.upto bitsJoinedSpec)) bitsJoinedUptoCard
end Rows
end Go.Proofs.YtfigblfjogpojaaGreatDoor
