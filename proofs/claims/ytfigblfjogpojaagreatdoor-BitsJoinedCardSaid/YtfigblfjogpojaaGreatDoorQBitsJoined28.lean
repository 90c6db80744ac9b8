/- Part 29 of the proof of BitsJoinedCardSaid: The law BitsJoined: for all arguments it returns true; each argument reads behind the call as it read before. Out of the plain theorem of YtfigblfjogpojaaGreatDoorPureBitsJoined and the printed contract. -/
import Derived.Test.YtfigblfjogpojaaGreatDoorQBitsJoined27
section
namespace Go.Proofs.YtfigblfjogpojaaGreatDoor.PBits
open Go.RowKit Go.Proofs.YtfigblfjogpojaaGreatDoorW.PrintWords Go.Proofs.YtfigblfjogpojaaGreatDoorW.PrintLast Go.Proofs.YtfigblfjogpojaaGreatDoorW.PrintMore Go.Proofs.YtfigblfjogpojaaGreatDoor.Bz
set_option linter.unusedVariables false
set_option linter.unusedSimpArgs false
structure Any2 (w v x wn vn xn : Nat) : Prop where
  b1 : 1 ≤ w
  b2 : w ≤ 64
  v : v < 2 ^ w
  x : x < 2 ^ w
  n1 : 1 ≤ wn
  n2 : wn ≤ 64
  vn : vn < 2 ^ wn
  xn : xn < 2 ^ wn
theorem Any2.valid {w v x wn vn xn : Nat} (h : Any2 w v x wn vn xn) : Ev (fun k => bits_valid.f k ([(⟨(w : Int), (v : Int), (x : Int)⟩ : S24), (⟨(wn : Int), (vn : Int), (xn : Int)⟩ : S24)] : List S24)) true :=
  (valid2 (lt64 h.v h.b2) (lt64 h.x h.b2) (lt64 h.vn h.n2) (lt64 h.xn h.n2)).eq (by rw [okB_of h.b1 h.b2 h.v h.x, okB_of h.n1 h.n2 h.vn h.xn]; rfl)
end Go.Proofs.YtfigblfjogpojaaGreatDoor.PBits
end
