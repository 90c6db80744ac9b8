/- Part 26 of the proof of BitsNumbersCardSaid: The law BitsNumbers: for all arguments it returns true; each argument reads behind the call as it read before. Out of the plain theorem of YtfigblfjogpojaaDoorPureBitsNumbers and the printed contract. -/
import Derived.Test.YtfigblfjogpojaaDoorQBitsNumbers24
section
namespace Go.Proofs.YtfigblfjogpojaaDoor.PBits
open Go.RowKit Go.Proofs.YtfigblfjogpojaaDoorW.PrintWords Go.Proofs.YtfigblfjogpojaaDoorW.PrintLast Go.Proofs.YtfigblfjogpojaaDoorW.PrintMore Go.Proofs.YtfigblfjogpojaaDoor.Bz
set_option linter.unusedVariables false
set_option linter.unusedSimpArgs false
theorem All_x {w : Nat} (h1 : 1 ≤ w) (h2 : w ≤ 64) : Gives (fun k => bits_All.f k (w : Int) 120) w (fun _ => 120) (msk w) (msk w) := by
  refine ⟨?_, msk_lt' h2, msk_lt' h2, ?_⟩
  · unfold bits_All.f
    refine Ev.neg (by omega) ?_
    rw [decide_eq_false (by omega)]
    refine Ev.step (fun k => by rw [bits_All.j0]) (Ev.neg (by decide) ?_)
    exact Ev.bnd (mask_is w) (Ev.neg (by decide) (Ev.neg (by decide) (Ev.pos rfl (Ev.now _))))
  · intro i hi
    unfold st
    rw [bit_msk hi h2]; rfl
end Go.Proofs.YtfigblfjogpojaaDoor.PBits
end
