/- Part 11 of the proof of LexTokensSaid: The law LexTokens: for all arguments it returns true; each argument reads behind the call as it read before. Out of the plain theorem of YtlamgdibnnmbmaaLtA and the printed contract. -/
import Derived.Test.YtlamgdibnnmbmaaQLexTokens2
section
namespace Go.Proofs.YtlamgdibnnmbmaaW.PrintLast
def up (b : Nat → Bool) (i : Nat) : Nat → Bool := fun j => if j = i then true else b j
end Go.Proofs.YtlamgdibnnmbmaaW.PrintLast
end
