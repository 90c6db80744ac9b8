/- Part 30 of the proof of BitsMadeCardSaid: The law BitsMade: for all arguments it returns true; each argument reads behind the call as it read before. Out of the plain theorem of YtfigblfjogpojaaDoorPureBitsMade and the printed contract. -/
import Derived.Test.YtfigblfjogpojaaDoorQBitsMade24
import Derived.Test.YtfigblfjogpojaaDoorQBitsMade27
import Derived.Lib.Bytes
import Derived.Test.YtfigblfjogpojaaDoorQBitsMade15
import Derived.Test.YtfigblfjogpojaaDoorQBitsMade14
import Derived.Test.YtfigblfjogpojaaDoorQBitsMade20
import Derived.Test.YtfigblfjogpojaaDoorQBitsMade17
import Derived.Test.YtfigblfjogpojaaDoorQBitsMade28
section
namespace Go.Proofs.YtfigblfjogpojaaDoor.PBits
open Go.RowKit Go.Proofs.YtfigblfjogpojaaDoorW.PrintWords Go.Proofs.YtfigblfjogpojaaDoorW.PrintLast Go.Proofs.YtfigblfjogpojaaDoorW.PrintMore Go.Proofs.YtfigblfjogpojaaDoor.Bz
set_option linter.unusedVariables false
set_option linter.unusedSimpArgs false
theorem Of_is {w : Nat} (h1 : 1 ≤ w) (h2 : w ≤ 64) {u : Nat} (hu : u < 2 ^ 64) : bits_Of.f (w : Int) (u : Int) = some ((w : Int), ((u % 2 ^ w : Nat) : Int), 0) := by
  unfold bits_Of.f
  rw [if_neg (by omega), if_neg (by omega), mask_is]
  show some _ = _
  rw [and_n _ _ hu (msk_lt w), msk_is h2, Nat.and_two_pow_sub_one_eq_mod]
end Go.Proofs.YtfigblfjogpojaaDoor.PBits
end
