/- Part 24 of the proof of BitsTextsCardSaid: The law BitsTexts: for all arguments it returns true; each argument reads behind the call as it read before. Out of the plain theorem of YtfigblfjogpojaaDoorPureBitsTexts and the printed contract. -/
import Derived.Test.YtfigblfjogpojaaDoorQBitsTexts21
import Derived.Test.YtfigblfjogpojaaDoorQBitsTexts22
import Derived.Laws.BitsLemmas
section
namespace Go.Proofs.YtfigblfjogpojaaDoor.PBits
open Go.RowKit Go.Proofs.YtfigblfjogpojaaDoorW.PrintWords Go.Proofs.YtfigblfjogpojaaDoorW.PrintLast Go.Proofs.YtfigblfjogpojaaDoorW.PrintMore Go.Proofs.YtfigblfjogpojaaDoor.Bz
set_option linter.unusedVariables false
set_option linter.unusedSimpArgs false
set_option linter.unusedSectionVars false
theorem Bit_j0_none (i : Int) (W v x : Int) : Ev (fun k => bits_Bit.j0 k i true W v x) 0 := by
  refine Ev.step (fun k => by rw [bits_Bit.j0]) ?_
  exact Ev.pos rfl (Ev.now _)
def bitS (w v x : Nat) (i : Int) : Int := if 0 ≤ i ∧ i < (w : Int) then st v x i.toNat else 0
theorem Bit_ev {w v x : Nat} (h1 : 1 ≤ w) (h2 : w ≤ 64) (hv : v < 2 ^ w) (hx : x < 2 ^ w) (i : Int) : Ev (fun k => bits_Bit.f k (w : Int) (v : Int) (x : Int) i) (bitS w v x i) := by
  have hv6 := lt64 hv h2
  have hx6 := lt64 hx h2
  have hok : okB (w : Int) v x = true := by
    unfold okB; rw [decide_eq_true_iff, Int.toNat_natCast]; exact ⟨by omega, by omega, hv, hx⟩
  unfold bits_Bit.f bitS
  refine Ev.bind (valid1 hv6 hx6) ?_
  rw [hok]
  refine Ev.pos rfl ?_
  by_cases a : i < 0
  · rw [if_neg (by omega)]
    exact Ev.pos a (Bit_j0_none _ _ _ _)
  · refine Ev.neg a ?_
    by_cases b : i ≥ (w : Int)
    · rw [if_neg (by omega), decide_eq_true b]
      exact Bit_j0_none _ _ _ _
    · rw [if_pos (by omega), decide_eq_false b]
      obtain ⟨n, rfl⟩ := Int.eq_ofNat_of_zero_le (show 0 ≤ i by omega)
      refine Ev.step (fun k => by rw [bits_Bit.j0]) ?_
      refine Ev.neg (by decide) (Ev.pos (by omega) ?_)
      rw [bitof v n hv6, bitof x n hx6, Int.toNat_natCast]
      unfold st stb
      cases v.testBit n <;> cases x.testBit n
      · have e : Go.bits .or .u64 (if false = true then 1 else 0) (IntKind.u64.wrap ((if false = true then 1 else 0) * 2)) = 0 := by decide
        rw [e]; exact Ev.pos (by decide) (Ev.pos (by decide) ((Ev.now _).eq rfl))
      · have e : Go.bits .or .u64 (if false = true then 1 else 0) (IntKind.u64.wrap ((if true = true then 1 else 0) * 2)) = 2 := by decide
        rw [e]; exact Ev.pos (by decide) (Ev.pos (by decide) ((Ev.now _).eq rfl))
      · have e : Go.bits .or .u64 (if true = true then 1 else 0) (IntKind.u64.wrap ((if false = true then 1 else 0) * 2)) = 1 := by decide
        rw [e]; exact Ev.pos (by decide) (Ev.pos (by decide) ((Ev.now _).eq rfl))
      · have e : Go.bits .or .u64 (if true = true then 1 else 0) (IntKind.u64.wrap ((if true = true then 1 else 0) * 2)) = 3 := by decide
        rw [e]; exact Ev.pos (by decide) (Ev.pos (by decide) ((Ev.now _).eq rfl))
def allS (w : Nat) (c : Int) : Int × Int × Int := if c = 48 then ((w : Int), 0, 0) else if c = 49 then ((w : Int), ((msk w : Nat) : Int), 0) else if c = 120 then ((w : Int), ((msk w : Nat) : Int), ((msk w : Nat) : Int)) else if c = 122 then ((w : Int), 0, ((msk w : Nat) : Int)) else (0, 0, 0)
theorem All_is {w : Nat} (h1 : 1 ≤ w) (h2 : w ≤ 64) (c : Int) : Ev (fun k => bits_All.f k (w : Int) c) (allS w c) := by
  unfold bits_All.f allS
  refine Ev.neg (by omega) ?_
  rw [decide_eq_false (show ¬ ((w : Int) > 64) by omega)]
  refine Ev.step (fun k => by rw [bits_All.j0]) ?_
  refine Ev.neg (by decide) (Ev.bnd (mask_is w) ?_)
  by_cases a1 : c = 48
  · exact Ev.pos a1 ((Ev.now _).eq (by rw [if_pos a1]))
  refine Ev.neg a1 ?_
  by_cases a2 : c = 49
  · exact Ev.pos a2 ((Ev.now _).eq (by rw [if_neg a1, if_pos a2]))
  refine Ev.neg a2 ?_
  by_cases a3 : c = 120
  · exact Ev.pos a3 ((Ev.now _).eq (by rw [if_neg a1, if_neg a2, if_pos a3]))
  refine Ev.neg a3 ?_
  by_cases a4 : c = 122
  · exact Ev.pos a4 ((Ev.now _).eq (by rw [if_neg a1, if_neg a2, if_neg a3, if_pos a4]))
  · exact Ev.neg a4 ((Ev.now _).eq (by rw [if_neg a1, if_neg a2, if_neg a3, if_neg a4]))
end Go.Proofs.YtfigblfjogpojaaDoor.PBits
end
