/- Part 11 of the proof of LexNamesCardSaid: The law LexNames: for all arguments it returns true; each argument reads behind the call as it read before. Out of the plain theorem of YtlamgdibnnmbmaaDoorPureLexNames and the printed contract. -/
import Derived.Test.YtlamgdibnnmbmaaDoorQLexNames2
section
namespace Go.Proofs.YtlamgdibnnmbmaaDoorW.PrintLast
def up (b : Nat → Bool) (i : Nat) : Nat → Bool := fun j => if j = i then true else b j
end Go.Proofs.YtlamgdibnnmbmaaDoorW.PrintLast
end
