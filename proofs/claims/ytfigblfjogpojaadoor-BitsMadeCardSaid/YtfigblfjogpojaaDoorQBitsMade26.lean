/- Part 27 of the proof of BitsMadeCardSaid: The law BitsMade: for all arguments it returns true; each argument reads behind the call as it read before. Out of the plain theorem of YtfigblfjogpojaaDoorPureBitsMade and the printed contract. -/
import Derived.Test.YtfigblfjogpojaaDoorQBitsMade21
import Derived.Test.YtfigblfjogpojaaDoorQBitsMade22
import Derived.Test.YtfigblfjogpojaaDoorQBitsMade25
import Derived.Test.YtfigblfjogpojaaDoorQBitsMade15
import Derived.Test.YtfigblfjogpojaaDoorQBitsMade14
import Derived.Test.YtfigblfjogpojaaDoorQBitsMade20
section
namespace Go.Proofs.YtfigblfjogpojaaDoor.PBits
open Go.RowKit Go.Proofs.YtfigblfjogpojaaDoorW.PrintWords Go.Proofs.YtfigblfjogpojaaDoorW.PrintLast Go.Proofs.YtfigblfjogpojaaDoorW.PrintMore Go.Proofs.YtfigblfjogpojaaDoor.Bz
set_option linter.unusedVariables false
set_option linter.unusedSimpArgs false
theorem msk_is {w : Nat} (hw : w ≤ 64) : msk w = 2 ^ w - 1 := by unfold msk; rw [Nat.min_eq_left hw]
end Go.Proofs.YtfigblfjogpojaaDoor.PBits
end
