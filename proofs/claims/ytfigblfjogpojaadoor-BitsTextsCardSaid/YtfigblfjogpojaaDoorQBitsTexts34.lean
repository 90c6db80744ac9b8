/- Part 35 of the proof of BitsTextsCardSaid: The law BitsTexts: for all arguments it returns true; each argument reads behind the call as it read before. Out of the plain theorem of YtfigblfjogpojaaDoorPureBitsTexts and the printed contract. -/
import Derived.Test.YtfigblfjogpojaaDoorQBitsTexts8
import Derived.Test.YtfigblfjogpojaaDoorQBitsTexts33
import Derived.OpenShut
section
namespace Go.Proofs.YtfigblfjogpojaaDoor.PBits
open Go.RowKit Go.Proofs.YtfigblfjogpojaaDoorW.PrintWords Go.Proofs.YtfigblfjogpojaaDoorW.PrintLast Go.Proofs.YtfigblfjogpojaaDoorW.PrintMore Go.Proofs.YtfigblfjogpojaaDoor.Bz
set_option linter.unusedVariables false
set_option maxRecDepth 100000 in
theorem vectors_200 : masklaw1_vectors.f 200 = some true := by decide +kernel
theorem vectors_ev : Ev (fun k => masklaw1_vectors.f k) true := Ev.of masklaw1_vectors.mono vectors_200
theorem wf_u64 {a : Int} (h : (Lit.int .u64 a).wf = true) : ∃ n : Nat, a = (n : Int) ∧ n < 2 ^ 64 := by
  have h1 := bounds_u64 h
  exact ⟨a.toNat, by omega, by omega⟩
end Go.Proofs.YtfigblfjogpojaaDoor.PBits
end
