/- Part 25 of the proof of BitsJoinedCardSaid: The law BitsJoined: for all arguments it returns true; each argument reads behind the call as it read before. Out of the plain theorem of YtfigblfjogpojaaGreatDoorPureBitsJoined and the printed contract. -/
import Derived.Test.YtfigblfjogpojaaGreatDoorQBitsJoined22
import Derived.Test.YtfigblfjogpojaaGreatDoorQBitsJoined23
import Derived.Test.YtfigblfjogpojaaGreatDoorQBitsJoined13
import Derived.Test.YtfigblfjogpojaaGreatDoorQBitsJoined15
section
namespace Go.Proofs.YtfigblfjogpojaaGreatDoor.PBits
open Go.RowKit Go.Proofs.YtfigblfjogpojaaGreatDoorW.PrintWords Go.Proofs.YtfigblfjogpojaaGreatDoorW.PrintLast Go.Proofs.YtfigblfjogpojaaGreatDoorW.PrintMore Go.Proofs.YtfigblfjogpojaaGreatDoor.Bz
set_option linter.unusedVariables false
set_option linter.unusedSimpArgs false
def kb (b : Bool) : Int := if b then 49 else 48
def notS (a : Int) : Int := if a = 48 then 49 else if a = 49 then 48 else 120
def andS (a b : Int) : Int := if a = 48 ∨ b = 48 then 48 else if a = 49 ∧ b = 49 then 49 else 120
def orS (a b : Int) : Int := notS (andS (notS a) (notS b))
def xorS (a b : Int) : Int := orS (andS a (notS b)) (andS (notS a) b)
theorem NotOf_is (a : Int) : maskref1_NotOf.f a = some (notS a) := by
  unfold maskref1_NotOf.f notS
  split
  · rfl
  · split <;> rfl
theorem AndOf_ev (a b : Int) : Ev (fun k => maskref1_AndOf.f k a b) (andS a b) := by
  unfold maskref1_AndOf.f
  by_cases h : a = 48
  · exact Ev.pos h (Ev.step (fun k => by rw [maskref1_AndOf.j0]) (Ev.pos rfl ((Ev.now _).eq (by simp [andS, h]))))
  · refine Ev.neg h (Ev.step (fun k => by rw [maskref1_AndOf.j0]) ?_)
    by_cases h2 : b = 48
    · exact Ev.pos (by simp [h2]) ((Ev.now _).eq (by simp [andS, h2]))
    · refine Ev.neg (by simp [h2]) ?_
      by_cases h3 : a = 49
      · refine Ev.pos h3 ?_
        by_cases h4 : b = 49
        · exact Ev.pos h4 ((Ev.now _).eq (by simp [andS, h3, h4]))
        · exact Ev.neg h4 ((Ev.now _).eq (by simp [andS, h2, h3, h4]))
      · exact Ev.neg h3 ((Ev.now _).eq (by simp [andS, h, h2, h3]))
theorem OrOf_ev (a b : Int) : Ev (fun k => maskref1_OrOf.f k a b) (orS a b) := by
  unfold maskref1_OrOf.f
  exact Ev.bnd (NotOf_is a) (Ev.bnd (NotOf_is b) (Ev.bind (AndOf_ev _ _) (Ev.bnd (NotOf_is _) (Ev.now _))))
theorem XorOf_ev (a b : Int) : Ev (fun k => maskref1_XorOf.f k a b) (xorS a b) := by
  unfold maskref1_XorOf.f
  exact Ev.bnd (NotOf_is b) (Ev.bind (AndOf_ev _ _) (Ev.bnd (NotOf_is a) (Ev.bind (AndOf_ev _ _) (Ev.bind (OrOf_ev _ _) (Ev.now _)))))
theorem xorS_kb (a b : Bool) : xorS (kb a) (kb b) = kb (a ^^ b) := by cases a <;> cases b <;> rfl
end Go.Proofs.YtfigblfjogpojaaGreatDoor.PBits
end
