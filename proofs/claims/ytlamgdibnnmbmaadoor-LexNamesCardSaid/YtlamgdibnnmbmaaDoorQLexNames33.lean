/- Part 34 of the proof of LexNamesCardSaid: The law LexNames: for all arguments it returns true; each argument reads behind the call as it read before. Out of the plain theorem of YtlamgdibnnmbmaaDoorPureLexNames and the printed contract. -/
import Derived.Test.YtlamgdibnnmbmaaDoorQLexNames32
section
namespace Go.Proofs.YtlamgdibnnmbmaaDoor.PLex
open Go.RowKit Go.Proofs.YtlamgdibnnmbmaaDoorW.PrintWords Go.Proofs.YtlamgdibnnmbmaaDoorW.PrintLast Go.Proofs.YtlamgdibnnmbmaaDoorW.PrintMore
set_option linter.unusedVariables false
theorem numF_mono (k : Nat) (T : ByteArray) (a : Nat) (t : S63) : LeO (numF k T a t) (numF (k + 1) T a t) := by
  unfold numF
  split
  · split
    · exact LeO.bind (bits_Read.mono _ _) (fun _ => LeO.refl _)
    · exact LeO.refl _
  · exact LeO.refl _
theorem tokF_mono (k : Nat) (T : ByteArray) (a : Nat) (t : S63) : LeO (tokF k T a t) (tokF (k + 1) T a t) := by
  unfold tokF
  split
  · split
    · exact LeO.bind (slices_BinarySearch_string_string.mono _ _ _) (fun _ => LeO.refl _)
    · split
      · exact numF_mono k T a t
      · exact LeO.refl _
  · exact LeO.refl _
theorem toksF_mono (k : Nat) (T : ByteArray) : ∀ n s acc, LeO (toksF k T n s acc) (toksF (k + 1) T (n + 1) s acc)
  | 0, s, acc => by intro r h; simp [toksF] at h
  | n + 1, s, acc => by
    rw [toksF, toksF]
    refine LeO.ite (LeO.refl _) (LeO.ite (LeO.refl _) (LeO.ite (LeO.refl _) (LeO.bind (tokF_mono k T _ _) fun r => LeO.ite (LeO.refl _) (LeO.ite (toksF_mono k T n _ _) (LeO.refl _)))))
theorem lex_Tokens.mono (k : Nat) (a0 : ByteArray) : LeO (lex_Tokens.f k a0) (lex_Tokens.f (k + 1) a0) := by
  unfold lex_Tokens.f
  exact LeO.ite (LeO.refl _) (toksF_mono k a0 k _ _)
end Go.Proofs.YtlamgdibnnmbmaaDoor.PLex
end
