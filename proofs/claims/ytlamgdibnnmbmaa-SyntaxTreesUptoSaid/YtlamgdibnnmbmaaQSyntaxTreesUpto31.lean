/- Part 32 of the proof of SyntaxTreesUptoSaid: The law SyntaxTrees, where the trees that it reads are of bulk at most 1048576: it returns true; the trees read behind the call as it read before. Out of the plain theorem of YtlamgdibnnmbmaaTr5. -/
import Derived.Test.YtlamgdibnnmbmaaQSyntaxTreesUpto13
section
namespace Go.Proofs.Ytlamgdibnnmbmaa.PSyn
open Go.RowKit Go.Proofs.YtlamgdibnnmbmaaW.PrintWords Go.Proofs.YtlamgdibnnmbmaaW.PrintLast Go.Proofs.YtlamgdibnnmbmaaW.PrintMore
set_option linter.unusedVariables false
def EqualFunc_Same.f (l0 l1 : List S27) : Option Bool := if l0.length = 0 ∧ l1.length = 0 then some true else none
set_option maxHeartbeats 1000000 in
theorem EqualFunc_Same.calls (A0 : Option Addr) (c0 : Nat) (l0 : List S27) (A1 : Option Addr) (c1 : Nat) (l1 : List S27) (r : Bool) (w : World)
    (hr0 : Kd.C k27 w A0 l0.length l0) (hc0 : l0.length ≤ c0) (hr1 : Kd.C k27 w A1 l1.length l1) (hc1 : l1.length ≤ c1) (h : EqualFunc_Same.f l0 l1 = some r) :
    Calls Try.prog 26 #[.slice A0 l0.length c0, .slice A1 l1.length c1, .func (.func 14) #[] #[]] w fun e w' => e = .returned (.bool r) ∧ Below w.heap.size w w' := by
  unfold EqualFunc_Same.f at h
  split at h
  · rename_i h1
    obtain ⟨h1, h2⟩ := h1
    injection h with h
    subst h
    rw [h1, h2]
    clear hr0 hr1 hc0 hc1 h1 h2
    go_enter Try.func26, Try.ntmps26
    go_wp2
    go_loop [17] (fun i => i = .int .i64 0) (fun i => 0)
    case atStart => rfl
    case round =>
      subst hrel
      go_wp2
      go_ret
      exact ⟨rfl, Below.refl _ _⟩
  · cases h
end Go.Proofs.Ytlamgdibnnmbmaa.PSyn
end
