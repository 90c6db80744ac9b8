/- Part 19 of the proof of LexNamesCardSaid: The law LexNames: for all arguments it returns true; each argument reads behind the call as it read before. Out of the plain theorem of YtlamgdibnnmbmaaDoorPureLexNames and the printed contract. -/
import Derived.Test.YtlamgdibnnmbmaaDoorQLexNames17
section
namespace Go.Proofs.YtlamgdibnnmbmaaDoor.PLex
open Go.RowKit Go.Proofs.YtlamgdibnnmbmaaDoorW.PrintWords Go.Proofs.YtlamgdibnnmbmaaDoorW.PrintLast Go.Proofs.YtlamgdibnnmbmaaDoorW.PrintMore
set_option linter.unusedVariables false
set_option linter.unusedSimpArgs false
def letterP (c : UInt8) : Bool := decide ((97 ≤ c.toNat ∧ c.toNat ≤ 122) ∨ (65 ≤ c.toNat ∧ c.toNat ≤ 90) ∨ c.toNat = 95)
def figureP (c : UInt8) : Bool := decide (48 ≤ c.toNat ∧ c.toNat ≤ 57)
def lineP (c : UInt8) : Bool := decide (c.toNat ≠ 10)
def wordP (c : UInt8) : Bool := letterP c || figureP c
def quoteP (c : UInt8) : Bool := decide (33 ≤ c.toNat ∧ c.toNat ≤ 126) && decide (Lib.indexByte [46, 91, 93, 96, 34, 92] c < 0)
set_option maxRecDepth 100000 in
theorem letter_walk (c : UInt8) (w : World) : Calls Tryd.prog 53 #[.int .u8 (c.toNat : Int)] w fun e w' => e = .returned (.bool (letterP c)) ∧ w' = w := by
  go_enter Tryd.func53, Tryd.ntmps53
  go_wp2
  all_goals (go_ret; refine ⟨?_, rfl⟩; (try (show Ending.returned (Value.bool _) = Ending.returned (Value.bool _))); congr 2; simp only [letterP]; symm; (first | (apply decide_eq_true; omega) | (apply decide_eq_false; omega) | (rw [Bool.eq_iff_iff]; simp only [decide_eq_true_eq, Bool.or_eq_true, beq_iff_eq, Bool.and_eq_true, Bool.false_eq_true, iff_false, iff_true, bne_iff_ne, Bool.not_eq_true', beq_eq_false_iff_ne, decide_eq_false_iff_not, true_and, false_and]; omega)))
set_option maxRecDepth 100000 in
theorem figure_walk (c : UInt8) (w : World) : Calls Tryd.prog 54 #[.int .u8 (c.toNat : Int)] w fun e w' => e = .returned (.bool (figureP c)) ∧ w' = w := by
  go_enter Tryd.func54, Tryd.ntmps54
  go_wp2
  all_goals (go_ret; refine ⟨?_, rfl⟩; (try (show Ending.returned (Value.bool _) = Ending.returned (Value.bool _))); congr 2; simp only [figureP]; symm; (first | (apply decide_eq_true; omega) | (apply decide_eq_false; omega) | (rw [Bool.eq_iff_iff]; simp only [decide_eq_true_eq, Bool.or_eq_true, beq_iff_eq, Bool.and_eq_true, Bool.false_eq_true, iff_false, iff_true, bne_iff_ne, Bool.not_eq_true', beq_eq_false_iff_ne, decide_eq_false_iff_not, true_and, false_and]; omega)))
set_option maxRecDepth 100000 in
theorem line_walk (c : UInt8) (w : World) : Calls Tryd.prog 105 #[.int .u8 (c.toNat : Int)] w fun e w' => e = .returned (.bool (lineP c)) ∧ w' = w := by
  go_enter Tryd.func105, Tryd.ntmps105
  go_wp2
  all_goals (go_ret; refine ⟨?_, rfl⟩; (try (show Ending.returned (Value.bool _) = Ending.returned (Value.bool _))); congr 2; simp only [lineP]; symm; (first | (apply decide_eq_true; omega) | (apply decide_eq_false; omega) | (rw [Bool.eq_iff_iff]; simp only [decide_eq_true_eq, Bool.or_eq_true, beq_iff_eq, Bool.and_eq_true, Bool.false_eq_true, iff_false, iff_true, bne_iff_ne, Bool.not_eq_true', beq_eq_false_iff_ne, decide_eq_false_iff_not, true_and, false_and]; omega)))
set_option maxRecDepth 100000 in
theorem word_walk (c : UInt8) (w : World) : Calls Tryd.prog 106 #[.int .u8 (c.toNat : Int)] w fun e w' => e = .returned (.bool (wordP c)) ∧ w' = w := by
  have hl := fun w => letter_walk c w
  have hf := fun w => figure_walk c w
  go_enter Tryd.func106, Tryd.ntmps106
  cases h1 : letterP c <;> cases h2 : figureP c <;> rw [h1] at hl <;> rw [h2] at hf <;>
    (go_wp2_with (first | (go_at_call 53; refine (hl _).mono ?_; rintro e w' ⟨rfl, rfl⟩) | (go_at_call 54; refine (hf _).mono ?_; rintro e w' ⟨rfl, rfl⟩)); go_ret; exact ⟨by unfold wordP; rw [h1, h2]; rfl, rfl⟩)
set_option maxRecDepth 100000 in
theorem word_walk' (c : UInt8) (w : World) : Calls Tryd.prog 129 #[.int .u8 (c.toNat : Int)] w fun e w' => e = .returned (.bool (wordP c)) ∧ w' = w := by
  have hl := fun w => letter_walk c w
  have hf := fun w => figure_walk c w
  go_enter Tryd.func129, Tryd.ntmps129
  cases h1 : letterP c <;> cases h2 : figureP c <;> rw [h1] at hl <;> rw [h2] at hf <;>
    (go_wp2_with (first | (go_at_call 53; refine (hl _).mono ?_; rintro e w' ⟨rfl, rfl⟩) | (go_at_call 54; refine (hf _).mono ?_; rintro e w' ⟨rfl, rfl⟩)); go_ret; exact ⟨by unfold wordP; rw [h1, h2]; rfl, rfl⟩)
set_option maxRecDepth 100000 in
theorem quotable_walk (c : UInt8) (w : World) : Calls Tryd.prog 60 #[.int .u8 (c.toNat : Int)] w fun e w' => e = .returned (.bool (quoteP c)) ∧ w' = w := by
  have hi := fun w => Tryd.strings_IndexByte ⟨#[46, 91, 93, 96, 34, 92]⟩ (c.toNat : Int) w
  have hcc : ((c.toNat : Int).toNat.toUInt8) = c := by simp
  have hl : Lib.indexByte (⟨#[46, 91, 93, 96, 34, 92]⟩ : ByteArray).data.toList ((c.toNat : Int).toNat.toUInt8) = Lib.indexByte [46, 91, 93, 96, 34, 92] c := by rw [hcc]
  rw [hl] at hi
  clear hl hcc
  have HI := Aside0.mk hi
  clear hi
  go_enter Tryd.func60, Tryd.ntmps60
  generalize hx : Lib.indexByte [46, 91, 93, 96, 34, 92] c = x at HI
  have HX := Aside0.mk hx
  clear hx
  go_wp2_with (first | (go_at_call 84; refine (HI.out _).mono ?_; rintro e w' ⟨rfl, rfl⟩))
  all_goals (go_ret; refine ⟨?_, rfl⟩; (try (show Ending.returned (Value.bool _) = Ending.returned (Value.bool _))); congr 2; simp only [quoteP, HX.out]; symm; (first | (apply decide_eq_true; omega) | (apply decide_eq_false; omega) | (rw [Bool.eq_iff_iff]; simp only [decide_eq_true_eq, Bool.or_eq_true, beq_iff_eq, Bool.and_eq_true, Bool.false_eq_true, iff_false, iff_true, bne_iff_ne, Bool.not_eq_true', beq_eq_false_iff_ne, decide_eq_false_iff_not, true_and, false_and]; omega)))
end Go.Proofs.YtlamgdibnnmbmaaDoor.PLex
end
