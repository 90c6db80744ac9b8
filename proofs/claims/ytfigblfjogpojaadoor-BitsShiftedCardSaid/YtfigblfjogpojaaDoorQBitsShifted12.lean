/- Part 13 of the proof of BitsShiftedCardSaid: The law BitsShifted: for all arguments it returns true; each argument reads behind the call as it read before. Out of the plain theorem of YtfigblfjogpojaaDoorPureBitsShifted and the printed contract. -/
import Derived.Test.YtfigblfjogpojaaDoorQBitsShifted9
section
namespace Go.Proofs.YtfigblfjogpojaaDoorW.PrintLast
def up (b : Nat → Bool) (i : Nat) : Nat → Bool := fun j => if j = i then true else b j
end Go.Proofs.YtfigblfjogpojaaDoorW.PrintLast
end
