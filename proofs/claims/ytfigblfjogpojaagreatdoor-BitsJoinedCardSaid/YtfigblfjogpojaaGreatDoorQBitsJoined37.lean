/- Part 38 of the proof of BitsJoinedCardSaid: The law BitsJoined: for all arguments it returns true; each argument reads behind the call as it read before. Out of the plain theorem of YtfigblfjogpojaaGreatDoorPureBitsJoined and the printed contract. -/
import Derived.Test.YtfigblfjogpojaaGreatDoorQBitsJoined8
import Derived.Test.YtfigblfjogpojaaGreatDoorQBitsJoined36
import Derived.OpenShut
section
namespace Go.Proofs.YtfigblfjogpojaaGreatDoor.PBits
open Go.RowKit Go.Proofs.YtfigblfjogpojaaGreatDoorW.PrintWords Go.Proofs.YtfigblfjogpojaaGreatDoorW.PrintLast Go.Proofs.YtfigblfjogpojaaGreatDoorW.PrintMore Go.Proofs.YtfigblfjogpojaaGreatDoor.Bz
set_option linter.unusedVariables false
set_option maxRecDepth 100000 in
theorem vectors_200 : masklaw1_vectors.f 200 = some true := by decide +kernel
theorem vectors_ev : Ev (fun k => masklaw1_vectors.f k) true := Ev.of masklaw1_vectors.mono vectors_200
theorem wf_u64 {a : Int} (h : (Lit.int .u64 a).wf = true) : ∃ n : Nat, a = (n : Int) ∧ n < 2 ^ 64 := by
  have h1 := bounds_u64 h
  exact ⟨a.toNat, by omega, by omega⟩
end Go.Proofs.YtfigblfjogpojaaGreatDoor.PBits
end
