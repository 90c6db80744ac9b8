/- Part 9 of the proof of NoteSortsCardSaid: The law NoteSorts: for all arguments it returns true; each argument reads behind the call as it read before. Out of the plain theorem of YtlamgdibnnmbmaaDoorPureNoteSorts and the printed contract. -/
import Derived.Test.YtlamgdibnnmbmaaDoorQNoteSorts7
import Derived.WalkKit
section
namespace Go.Proofs.YtlamgdibnnmbmaaDoor
open Go Go.RowKit
theorem less_irrefl : ∀ x : List UInt8, Op.bytesLess x x = false
  | [] => rfl
  | a :: x => by
    unfold Op.bytesLess
    simp [less_irrefl x]
theorem less_total : ∀ x y : List UInt8, (!(Op.bytesLess x y || x == y)) = Op.bytesLess y x
  | [], [] => rfl
  | [], _ :: _ => rfl
  | _ :: _, [] => rfl
  | a :: x, b :: y => by
    have ih := less_total x y
    unfold Op.bytesLess
    by_cases h : a = b
    · subst h
      simp at ih ⊢
      exact ih
    · have h' : ¬ b = a := fun e => h e.symm
      rcases UInt8.lt_or_lt_of_ne h with q | q
      · have : ¬ b < a := fun e => absurd (UInt8.lt_trans q e) (UInt8.lt_irrefl _)
        simp [h, h', q, this]
      · have : ¬ a < b := fun e => absurd (UInt8.lt_trans q e) (UInt8.lt_irrefl _)
        simp [h, h', q, this]
theorem gtr_str (t : TypeId) (a b : ByteArray) : binOp .gtr t (.string a) (.string b) = pure (.bool (Op.bytesLess b.toList a.toList)) := by
  have e : binOp .gtr t (.string a) (.string b) = pure (.bool !(Op.bytesLess a.toList b.toList || a.toList == b.toList)) := by simp [binOp, Op.stringOp]
  rw [e, less_total]
end Go.Proofs.YtlamgdibnnmbmaaDoor
end
