/- Part 31 of the proof of BitsJoinedCardSaid: The law BitsJoined: for all arguments it returns true; each argument reads behind the call as it read before. Out of the plain theorem of YtfigblfjogpojaaGreatDoorPureBitsJoined and the printed contract. -/
import Derived.Test.YtfigblfjogpojaaGreatDoorQBitsJoined28
import Derived.Lib.Bytes
import Derived.Test.YtfigblfjogpojaaGreatDoorQBitsJoined29
section
namespace Go.Proofs.YtfigblfjogpojaaGreatDoor.PBits
open Go.RowKit Go.Proofs.YtfigblfjogpojaaGreatDoorW.PrintWords Go.Proofs.YtfigblfjogpojaaGreatDoorW.PrintLast Go.Proofs.YtfigblfjogpojaaGreatDoorW.PrintMore Go.Proofs.YtfigblfjogpojaaGreatDoor.Bz
set_option linter.unusedVariables false
set_option linter.unusedSimpArgs false
def trip (c : Int) : Int × Int × Int := if c = 116 then (1, 1, 0) else if c = 102 then (1, 0, 0) else (1, 1, 1)
def oneL (c : Int) : List Int := if c = 116 then [49] else if c = 102 then [48] else [120]
def oppS (c : Int) : Int := if c = 116 then 102 else if c = 102 then 116 else 117
def bS (b : Bool) : Int := if b then 116 else 102
theorem One_is (c : Int) : maskref1_One.f c = some (oneL c) := by
  unfold maskref1_One.f oneL
  split
  · rfl
  · split <;> rfl
theorem Opp_is (c : Int) : maskref1_Opposite.f c = some (oppS c) := by
  unfold maskref1_Opposite.f oppS
  split
  · rfl
  · split <;> rfl
theorem B_one (c : Int) : Ev (fun k => maskref1_B.f k (oneL c)) (trip c) := by
  unfold oneL trip
  split
  · exact B_is (w := 1) (v := 1) (x := 0) (by decide) (by decide) rfl (by decide) (by decide) (by decide)
  · split
    · exact B_is (w := 1) (v := 0) (x := 0) (by decide) (by decide) rfl (by decide) (by decide) (by decide)
    · exact B_is (w := 1) (v := 1) (x := 1) (by decide) (by decide) rfl (by decide) (by decide) (by decide)
theorem truth_1 : bits_truth.f 1 = some (trip 116) := by decide +kernel
theorem truth_0 : bits_truth.f 0 = some (trip 102) := by decide +kernel
theorem truth_n : bits_truth.f (-1) = some (trip 117) := by decide +kernel
end Go.Proofs.YtfigblfjogpojaaGreatDoor.PBits
end
