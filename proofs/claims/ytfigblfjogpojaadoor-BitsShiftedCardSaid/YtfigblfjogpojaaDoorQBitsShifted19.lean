/- Part 20 of the proof of BitsShiftedCardSaid: The law BitsShifted: for all arguments it returns true; each argument reads behind the call as it read before. Out of the plain theorem of YtfigblfjogpojaaDoorPureBitsShifted and the printed contract. -/
import Derived.Test.YtfigblfjogpojaaDoorQBitsShifted17
import Derived.Test.YtfigblfjogpojaaDoorQBitsShifted18
import Derived.Test.YtfigblfjogpojaaDoorQBitsShifted14
import Derived.Test.YtfigblfjogpojaaDoorQBitsShifted16
import Derived.Test.YtfigblfjogpojaaDoorQBitsShifted15
section
namespace Go.Proofs.YtfigblfjogpojaaDoor.PBits
open Go.RowKit Go.Proofs.YtfigblfjogpojaaDoorW.PrintWords Go.Proofs.YtfigblfjogpojaaDoorW.PrintLast Go.Proofs.YtfigblfjogpojaaDoorW.PrintMore Go.Proofs.YtfigblfjogpojaaDoor.Bz
set_option linter.unusedVariables false
set_option linter.unusedSimpArgs false
theorem zero_iff {N w : Nat} (hN : N < 2 ^ w) : N = 0 ↔ ∀ i, i < w → N.testBit i = false := by
  constructor
  · rintro rfl i _; exact Nat.zero_testBit i
  · intro h
    apply Nat.eq_of_testBit_eq
    intro i
    rw [Nat.zero_testBit]
    by_cases hi : i < w
    · exact h i hi
    · exact bit_out hN (by omega)
theorem rd_nat (l : List Int) (i : Nat) : rd l (i : Int) = l.getD i 0 := by unfold rd; rw [Int.toNat_natCast]
end Go.Proofs.YtfigblfjogpojaaDoor.PBits
end
