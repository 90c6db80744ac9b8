/- Part 34 of the proof of SyntaxTreesUptoSaid: The law SyntaxTrees, where the trees that it reads are of bulk at most 1048576: it returns true; the trees read behind the call as it read before. Out of the plain theorem of YtlamgdibnnmbmaaTr5. -/
import Derived.Test.YtlamgdibnnmbmaaQSyntaxTreesUpto18
import Derived.Test.YtlamgdibnnmbmaaQSyntaxTreesUpto26
import Derived.Test.YtlamgdibnnmbmaaQSyntaxTreesUpto13
import Derived.Test.YtlamgdibnnmbmaaQSyntaxTreesUpto16
import Derived.KernelRfl
import Derived.Test.YtlamgdibnnmbmaaQSyntaxTreesUpto29
import Derived.Lib.IndexAny
import Derived.Laws.BitsAllLaws
import Derived.Test.YtlamgdibnnmbmaaQSyntaxTreesUpto19
import Derived.Test.YtlamgdibnnmbmaaQSyntaxTreesUpto30
import Derived.Test.YtlamgdibnnmbmaaQSyntaxTreesUpto32
import Derived.Test.YtlamgdibnnmbmaaQSyntaxTreesUpto17
section
namespace Go.Proofs.Ytlamgdibnnmbmaa.PSyn
open Go.RowKit Go.Proofs.YtlamgdibnnmbmaaW.PrintWords Go.Proofs.YtlamgdibnnmbmaaW.PrintLast Go.Proofs.YtlamgdibnnmbmaaW.PrintMore
set_option linter.unusedVariables false
set_option linter.unusedSimpArgs false
theorem treed_at : masklaw1_treed.f 60 = some true := by kernel_rfl
theorem treed_ev : Ev (fun k => masklaw1_treed.f k) true := by
  have up : ∀ d, masklaw1_treed.f (60 + d) = some true := by
    intro d
    induction d with
    | zero => exact treed_at
    | succ d ih => exact masklaw1_treed.mono (60 + d) true ih
  exact ⟨60, fun k hk => by rw [show k = 60 + (k - 60) by omega]; exact up _⟩
end Go.Proofs.Ytlamgdibnnmbmaa.PSyn
end
