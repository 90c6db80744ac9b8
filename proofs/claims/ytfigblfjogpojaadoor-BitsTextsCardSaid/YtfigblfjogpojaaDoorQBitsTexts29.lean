/- Part 30 of the proof of BitsTextsCardSaid: The law BitsTexts: for all arguments it returns true; each argument reads behind the call as it read before. Out of the plain theorem of YtfigblfjogpojaaDoorPureBitsTexts and the printed contract. -/
import Derived.Test.YtfigblfjogpojaaDoorQBitsTexts24
import Derived.Test.YtfigblfjogpojaaDoorQBitsTexts27
import Derived.Lib.Bytes
import Derived.Test.YtfigblfjogpojaaDoorQBitsTexts15
import Derived.Test.YtfigblfjogpojaaDoorQBitsTexts14
import Derived.Test.YtfigblfjogpojaaDoorQBitsTexts28
import Derived.Test.YtfigblfjogpojaaDoorQBitsTexts20
import Derived.Test.YtfigblfjogpojaaDoorQBitsTexts17
section
namespace Go.Proofs.YtfigblfjogpojaaDoor.PBits
open Go.RowKit Go.Proofs.YtfigblfjogpojaaDoorW.PrintWords Go.Proofs.YtfigblfjogpojaaDoorW.PrintLast Go.Proofs.YtfigblfjogpojaaDoorW.PrintMore Go.Proofs.YtfigblfjogpojaaDoor.Bz
set_option linter.unusedVariables false
set_option linter.unusedSimpArgs false
theorem B_num {w : Nat} (h1 : 1 ≤ w) (h2 : w ≤ 64) (U : Nat) : Ev (fun k => maskref1_B.f k (vs w U 0)) ((w : Int), ((U % 2 ^ w : Nat) : Int), 0) := by
  refine B_is (v := U % 2 ^ w) (x := 0) h1 h2 (vs_length _ _ _) (Nat.mod_lt _ (Nat.pos_of_ne_zero (by simp))) (Nat.pos_of_ne_zero (by simp)) fun i hi => ?_
  rw [vs_getD _ _ _ _ hi, st_kb, st_kb, Nat.testBit_mod_two_pow]; simp [hi]
theorem Of_is {w : Nat} (h1 : 1 ≤ w) (h2 : w ≤ 64) {u : Nat} (hu : u < 2 ^ 64) : bits_Of.f (w : Int) (u : Int) = some ((w : Int), ((u % 2 ^ w : Nat) : Int), 0) := by
  unfold bits_Of.f
  rw [if_neg (by omega), if_neg (by omega), mask_is]
  show some _ = _
  rw [and_n _ _ hu (msk_lt w), msk_is h2, Nat.and_two_pow_sub_one_eq_mod]
theorem take_vs (w v x n : Nat) (h : n ≤ w) : (vs w v x).take n = vs n v x := by
  apply List.ext_getElem
  · simp [vs_length]; omega
  · intro i h1 h2
    rw [List.getElem_take, vs_get _ _ _ _ (by rw [List.length_take, vs_length] at h1; omega), vs_get _ _ _ _ (by rw [vs_length] at h2; exact h2)]
end Go.Proofs.YtfigblfjogpojaaDoor.PBits
end
