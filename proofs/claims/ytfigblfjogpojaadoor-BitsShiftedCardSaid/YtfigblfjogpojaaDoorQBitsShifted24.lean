/- Part 25 of the proof of BitsShiftedCardSaid: The law BitsShifted: for all arguments it returns true; each argument reads behind the call as it read before. Out of the plain theorem of YtfigblfjogpojaaDoorPureBitsShifted and the printed contract. -/
import Derived.Test.YtfigblfjogpojaaDoorQBitsShifted22
import Derived.Test.YtfigblfjogpojaaDoorQBitsShifted23
import Derived.Test.YtfigblfjogpojaaDoorQBitsShifted14
import Derived.Test.YtfigblfjogpojaaDoorQBitsShifted15
import Derived.Test.YtfigblfjogpojaaDoorQBitsShifted21
import Derived.Test.YtfigblfjogpojaaDoorQBitsShifted16
section
namespace Go.Proofs.YtfigblfjogpojaaDoor.PBits
open Go.RowKit Go.Proofs.YtfigblfjogpojaaDoorW.PrintWords Go.Proofs.YtfigblfjogpojaaDoorW.PrintLast Go.Proofs.YtfigblfjogpojaaDoorW.PrintMore Go.Proofs.YtfigblfjogpojaaDoor.Bz
set_option linter.unusedVariables false
set_option linter.unusedSimpArgs false
theorem bit_msk {w i : Nat} (hi : i < w) (hw : w ≤ 64) : (msk w).testBit i = true := by rw [testBit_msk]; simp; exact ⟨hi, by omega⟩
end Go.Proofs.YtfigblfjogpojaaDoor.PBits
end
