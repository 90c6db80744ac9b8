/- Part 19 of the proof of BitsComparedCardSaid: The law BitsCompared: for all arguments it returns true; each argument reads behind the call as it read before. Out of the plain theorem of YtfigblfjogpojaaDoorPureBitsCompared and the printed contract. -/
import Derived.Test.YtfigblfjogpojaaDoorQBitsCompared16
import Derived.Test.YtfigblfjogpojaaDoorQBitsCompared17
import Derived.Test.YtfigblfjogpojaaDoorQBitsCompared15
import Derived.Test.YtfigblfjogpojaaDoorQBitsCompared14
section
namespace Go.Proofs.YtfigblfjogpojaaDoor.PBits
open Go.RowKit Go.Proofs.YtfigblfjogpojaaDoorW.PrintWords Go.Proofs.YtfigblfjogpojaaDoorW.PrintLast Go.Proofs.YtfigblfjogpojaaDoorW.PrintMore Go.Proofs.YtfigblfjogpojaaDoor.Bz
set_option linter.unusedVariables false
set_option linter.unusedSimpArgs false
theorem zero_iff {N w : Nat} (hN : N < 2 ^ w) : N = 0 ↔ ∀ i, i < w → N.testBit i = false := by
  constructor
  · rintro rfl i _; exact Nat.zero_testBit i
  · intro h
    apply Nat.eq_of_testBit_eq
    intro i
    rw [Nat.zero_testBit]
    by_cases hi : i < w
    · exact h i hi
    · exact bit_out hN (by omega)
theorem rd_nat (l : List Int) (i : Nat) : rd l (i : Int) = l.getD i 0 := by unfold rd; rw [Int.toNat_natCast]
open Classical in
noncomputable def truS (v x : Nat) : Int := if ∃ i, v.testBit i = true ∧ x.testBit i = false then 116 else if x = 0 then 102 else 117
open Classical in
theorem True_ev {w v x : Nat} (h0 : 1 ≤ w) (hw : w ≤ 64) (hv : v < 2 ^ w) (hx : x < 2 ^ w) : Ev (fun k => bits_True.f k (w : Int) (v : Int) (x : Int)) (if truS v x = 116 then 1 else if truS v x = 102 then 0 else -1) := by
  have hv6 := lt64 hv hw
  have hx6 := lt64 hx hw
  have hok : okB (w : Int) v x = true := by
    unfold okB; rw [decide_eq_true_iff, Int.toNat_natCast]; exact ⟨by omega, by omega, hv, hx⟩
  unfold bits_True.f
  refine Ev.bind (valid1 hv6 hx6) ?_
  rw [hok]
  refine Ev.pos rfl ?_
  rw [andNot_n _ _ hv6 hx6]
  have e : andn v x = 0 ↔ ¬ ∃ i, v.testBit i = true ∧ x.testBit i = false := by
    rw [zero_iff (andn_lt hv)]
    constructor
    · rintro h ⟨i, h1, h2⟩
      have hi : i < w := by
        rcases Nat.lt_or_ge i w with h | h
        · exact h
        · rw [bit_out hv h] at h1; cases h1
      have := h i hi
      rw [testBit_andn _ _ _ hv6 hx6, h1, h2] at this; cases this
    · intro h i _
      rw [testBit_andn _ _ _ hv6 hx6]
      cases h1 : v.testBit i <;> cases h2 : x.testBit i <;> first | rfl | exact absurd ⟨i, h1, h2⟩ h
  by_cases h : ∃ i, v.testBit i = true ∧ x.testBit i = false
  · refine Ev.neg (by have : andn v x ≠ 0 := fun h1 => e.1 h1 h
                      omega) ((Ev.now _).eq ?_)
    simp [truS, h]
  · refine Ev.pos (by have : andn v x = 0 := e.2 h
                      omega) ?_
    by_cases h2 : x = 0
    · exact Ev.pos (by omega) ((Ev.now _).eq (by unfold truS; rw [if_neg h, if_pos h2, if_neg (by decide), if_pos rfl]))
    · exact Ev.neg (by omega) ((Ev.now _).eq (by unfold truS; rw [if_neg h, if_neg h2, if_neg (by decide), if_neg (by decide)]))
end Go.Proofs.YtfigblfjogpojaaDoor.PBits
end
