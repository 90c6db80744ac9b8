/- Part 25 of the proof of BitsNumbersCardSaid: The law BitsNumbers: for all arguments it returns true; each argument reads behind the call as it read before. Out of the plain theorem of YtfigblfjogpojaaDoorPureBitsNumbers and the printed contract. -/
import Derived.Test.YtfigblfjogpojaaDoorQBitsNumbers22
import Derived.Test.YtfigblfjogpojaaDoorQBitsNumbers23
import Derived.Test.YtfigblfjogpojaaDoorQBitsNumbers15
import Derived.Test.YtfigblfjogpojaaDoorQBitsNumbers14
import Derived.Test.YtfigblfjogpojaaDoorQBitsNumbers21
section
namespace Go.Proofs.YtfigblfjogpojaaDoor.PBits
open Go.RowKit Go.Proofs.YtfigblfjogpojaaDoorW.PrintWords Go.Proofs.YtfigblfjogpojaaDoorW.PrintLast Go.Proofs.YtfigblfjogpojaaDoorW.PrintMore Go.Proofs.YtfigblfjogpojaaDoor.Bz
set_option linter.unusedVariables false
set_option linter.unusedSimpArgs false
theorem bit_msk {w i : Nat} (hi : i < w) (hw : w ≤ 64) : (msk w).testBit i = true := by rw [testBit_msk]; simp; exact ⟨hi, by omega⟩
theorem msk_is {w : Nat} (hw : w ≤ 64) : msk w = 2 ^ w - 1 := by unfold msk; rw [Nat.min_eq_left hw]
end Go.Proofs.YtfigblfjogpojaaDoor.PBits
end
