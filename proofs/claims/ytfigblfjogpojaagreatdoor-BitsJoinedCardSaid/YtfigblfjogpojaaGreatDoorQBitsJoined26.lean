/- Part 27 of the proof of BitsJoinedCardSaid: The law BitsJoined: for all arguments it returns true; each argument reads behind the call as it read before. Out of the plain theorem of YtfigblfjogpojaaGreatDoorPureBitsJoined and the printed contract. -/
import Derived.Test.YtfigblfjogpojaaGreatDoorQBitsJoined24
import Derived.Test.YtfigblfjogpojaaGreatDoorQBitsJoined25
import Derived.Test.YtfigblfjogpojaaGreatDoorQBitsJoined13
import Derived.Test.YtfigblfjogpojaaGreatDoorQBitsJoined16
import Derived.Test.YtfigblfjogpojaaGreatDoorQBitsJoined15
section
namespace Go.Proofs.YtfigblfjogpojaaGreatDoor.PBits
open Go.RowKit Go.Proofs.YtfigblfjogpojaaGreatDoorW.PrintWords Go.Proofs.YtfigblfjogpojaaGreatDoorW.PrintLast Go.Proofs.YtfigblfjogpojaaGreatDoorW.PrintMore Go.Proofs.YtfigblfjogpojaaGreatDoor.Bz
set_option linter.unusedVariables false
set_option linter.unusedSimpArgs false
theorem bit_msk {w i : Nat} (hi : i < w) (hw : w ≤ 64) : (msk w).testBit i = true := by rw [testBit_msk]; simp; exact ⟨hi, by omega⟩
end Go.Proofs.YtfigblfjogpojaaGreatDoor.PBits
end
