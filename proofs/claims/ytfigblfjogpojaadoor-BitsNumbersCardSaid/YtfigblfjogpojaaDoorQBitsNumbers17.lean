/- Part 18 of the proof of BitsNumbersCardSaid: The law BitsNumbers: for all arguments it returns true; each argument reads behind the call as it read before. Out of the plain theorem of YtfigblfjogpojaaDoorPureBitsNumbers and the printed contract. -/
import Derived.Test.YtfigblfjogpojaaDoorQBitsNumbers16
import Derived.Test.YtfigblfjogpojaaDoorQBitsNumbers15
import Derived.Test.YtfigblfjogpojaaDoorQBitsNumbers14
section
namespace Go.Proofs.YtfigblfjogpojaaDoor.PBits
open Go.RowKit Go.Proofs.YtfigblfjogpojaaDoorW.PrintWords Go.Proofs.YtfigblfjogpojaaDoorW.PrintLast Go.Proofs.YtfigblfjogpojaaDoorW.PrintMore Go.Proofs.YtfigblfjogpojaaDoor.Bz
set_option linter.unusedVariables false
set_option linter.unusedSimpArgs false
def BV.w (b : BV) : Nat := b.W.toNat
def cs (l : List BV) : List Int := (l.reverse.map fun b => vs b.w b.v b.x).flatten
theorem vs_join (w w' v x v' x' : Nat) (hv : v < 2 ^ w) (hx : x < 2 ^ w) : vs (w' + w) (v' <<< w ||| v) (x' <<< w ||| x) = vs w v x ++ vs w' v' x' := by
  apply List.ext_getElem
  · simp [vs_length]; omega
  · intro i h1 h2
    rw [vs_get _ _ _ i (by simpa [vs_length] using h1)]
    by_cases h : i < w
    · rw [List.getElem_append_left (by rw [vs_length]; exact h), vs_get _ _ _ i h]
      unfold st
      have h3 : ¬ w ≤ i := by omega
      simp [Nat.testBit_or, Nat.testBit_shiftLeft, h3]
    · rw [List.getElem_append_right (by rw [vs_length]; omega)]
      simp only [vs_length]
      rw [vs_get _ _ _ (i - w) (by simp [vs_length] at h1; omega)]
      unfold st
      have h3 : w ≤ i := by omega
      simp [Nat.testBit_or, Nat.testBit_shiftLeft, h3, bit_out hv h3, bit_out hx h3]
end Go.Proofs.YtfigblfjogpojaaDoor.PBits
end
