/- Part 14 of the proof of LexNamesCardSaid: The law LexNames: for all arguments it returns true; each argument reads behind the call as it read before. Out of the plain theorem of YtlamgdibnnmbmaaDoorPureLexNames and the printed contract. -/
import Derived.Test.YtlamgdibnnmbmaaDoorQLexNames12
import Derived.Test.YtlamgdibnnmbmaaDoorQLexNames2
import Derived.Test.YtlamgdibnnmbmaaDoorQLexNames1
import Derived.Test.YtlamgdibnnmbmaaDoorQLexNames0
import Derived.WalkKit
import Derived.KernelRfl
import Derived.RowKit
section
namespace Go.Proofs.YtlamgdibnnmbmaaDoorW.PrintMore
open Go.RowKit Go.Proofs.YtlamgdibnnmbmaaDoorW.PrintWords Go.Proofs.YtlamgdibnnmbmaaDoorW.PrintLast
set_option linter.unusedVariables false
section
variable {W w w0 w1 : World} {g : Nat} {o : Obj}
theorem hb1 (h : Aside0 (Below w0.heap.size w0 W)) (hb : Below w.heap.size w w1) (s : Below w0.heap.size w0 W → Below w0.heap.size w0 w := by intro h; repeat (first | (with_reducible first | exact h | apply below_alloc | apply pw_below_drewN | apply below_drew1) | refine below_set ?_ (by first | assumption | exact Aside0.out (by assumption)))) : Aside0 (Below w0.heap.size w0 w1) := ⟨below_step (s h.1) hb⟩
variable {x y z : Value} {t : TypeId} {R : Prop}
theorem c3 (h : Aside0 (w.heap[g]? = some (.cells #[x, y, z] t (0, 0)))) (r : R) : w.cell? ⟨g, 0, none⟩ = some x ∧ w.cell? ⟨g, 1, none⟩ = some y ∧ w.cell? ⟨g, 2, none⟩ = some z ∧ R := ⟨(blk_cell h.1 0).trans rfl, (blk_cell h.1 1).trans rfl, (blk_cell h.1 2).trans rfl, r⟩
theorem d3 (h : Aside0 (w.heap[g]? = some (.cells #[x, y, z] t (0, 0)))) : w.cell? ⟨g, 0, none⟩ = some x ∧ w.cell? ⟨g, 1, none⟩ = some y ∧ w.cell? ⟨g, 2, none⟩ = some z := ⟨(blk_cell h.1 0).trans rfl, (blk_cell h.1 1).trans rfl, (blk_cell h.1 2).trans rfl⟩
end
end Go.Proofs.YtlamgdibnnmbmaaDoorW.PrintMore
end
