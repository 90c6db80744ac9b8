/- Part 21 of the proof of LexTokensSaid: The law LexTokens: for all arguments it returns true; each argument reads behind the call as it read before. Out of the plain theorem of YtlamgdibnnmbmaaLtA and the printed contract. -/
import Derived.Test.YtlamgdibnnmbmaaQLexTokens19
section
namespace Go.Proofs.Ytlamgdibnnmbmaa.PLex
open Go.RowKit Go.Proofs.YtlamgdibnnmbmaaW.PrintWords Go.Proofs.YtlamgdibnnmbmaaW.PrintLast Go.Proofs.YtlamgdibnnmbmaaW.PrintMore
set_option linter.unusedVariables false
set_option linter.unusedSimpArgs false
def letterP (c : UInt8) : Bool := decide ((97 ≤ c.toNat ∧ c.toNat ≤ 122) ∨ (65 ≤ c.toNat ∧ c.toNat ≤ 90) ∨ c.toNat = 95)
def figureP (c : UInt8) : Bool := decide (48 ≤ c.toNat ∧ c.toNat ≤ 57)
def lineP (c : UInt8) : Bool := decide (c.toNat ≠ 10)
def wordP (c : UInt8) : Bool := letterP c || figureP c
def quoteP (c : UInt8) : Bool := decide (33 ≤ c.toNat ∧ c.toNat ≤ 126) && decide (Lib.indexByte [46, 91, 93, 96, 34, 92] c < 0)
set_option maxRecDepth 100000 in
theorem letter_walk (c : UInt8) (w : World) : Calls Try.prog 43 #[.int .u8 (c.toNat : Int)] w fun e w' => e = .returned (.bool (letterP c)) ∧ w' = w := by
  go_enter Try.func43, Try.ntmps43
  go_wp2
  all_goals (go_ret; refine ⟨?_, rfl⟩; (try (show Ending.returned (Value.bool _) = Ending.returned (Value.bool _))); congr 2; simp only [letterP]; symm; (first | (apply decide_eq_true; omega) | (apply decide_eq_false; omega) | (rw [Bool.eq_iff_iff]; simp only [decide_eq_true_eq, Bool.or_eq_true, beq_iff_eq, Bool.and_eq_true, Bool.false_eq_true, iff_false, iff_true, bne_iff_ne, Bool.not_eq_true', beq_eq_false_iff_ne, decide_eq_false_iff_not, true_and, false_and]; omega)))
set_option maxRecDepth 100000 in
theorem figure_walk (c : UInt8) (w : World) : Calls Try.prog 45 #[.int .u8 (c.toNat : Int)] w fun e w' => e = .returned (.bool (figureP c)) ∧ w' = w := by
  go_enter Try.func45, Try.ntmps45
  go_wp2
  all_goals (go_ret; refine ⟨?_, rfl⟩; (try (show Ending.returned (Value.bool _) = Ending.returned (Value.bool _))); congr 2; simp only [figureP]; symm; (first | (apply decide_eq_true; omega) | (apply decide_eq_false; omega) | (rw [Bool.eq_iff_iff]; simp only [decide_eq_true_eq, Bool.or_eq_true, beq_iff_eq, Bool.and_eq_true, Bool.false_eq_true, iff_false, iff_true, bne_iff_ne, Bool.not_eq_true', beq_eq_false_iff_ne, decide_eq_false_iff_not, true_and, false_and]; omega)))
set_option maxRecDepth 100000 in
theorem line_walk (c : UInt8) (w : World) : Calls Try.prog 41 #[.int .u8 (c.toNat : Int)] w fun e w' => e = .returned (.bool (lineP c)) ∧ w' = w := by
  go_enter Try.func41, Try.ntmps41
  go_wp2
  all_goals (go_ret; refine ⟨?_, rfl⟩; (try (show Ending.returned (Value.bool _) = Ending.returned (Value.bool _))); congr 2; simp only [lineP]; symm; (first | (apply decide_eq_true; omega) | (apply decide_eq_false; omega) | (rw [Bool.eq_iff_iff]; simp only [decide_eq_true_eq, Bool.or_eq_true, beq_iff_eq, Bool.and_eq_true, Bool.false_eq_true, iff_false, iff_true, bne_iff_ne, Bool.not_eq_true', beq_eq_false_iff_ne, decide_eq_false_iff_not, true_and, false_and]; omega)))
set_option maxRecDepth 100000 in
theorem word_walk (c : UInt8) (w : World) : Calls Try.prog 44 #[.int .u8 (c.toNat : Int)] w fun e w' => e = .returned (.bool (wordP c)) ∧ w' = w := by
  have hl := fun w => letter_walk c w
  have hf := fun w => figure_walk c w
  go_enter Try.func44, Try.ntmps44
  cases h1 : letterP c <;> cases h2 : figureP c <;> rw [h1] at hl <;> rw [h2] at hf <;>
    (go_wp2_with (first | (go_at_call 43; refine (hl _).mono ?_; rintro e w' ⟨rfl, rfl⟩) | (go_at_call 45; refine (hf _).mono ?_; rintro e w' ⟨rfl, rfl⟩)); go_ret; exact ⟨by unfold wordP; rw [h1, h2]; rfl, rfl⟩)
set_option maxRecDepth 100000 in
theorem word_walk' (c : UInt8) (w : World) : Calls Try.prog 72 #[.int .u8 (c.toNat : Int)] w fun e w' => e = .returned (.bool (wordP c)) ∧ w' = w := by
  have hl := fun w => letter_walk c w
  have hf := fun w => figure_walk c w
  go_enter Try.func72, Try.ntmps72
  cases h1 : letterP c <;> cases h2 : figureP c <;> rw [h1] at hl <;> rw [h2] at hf <;>
    (go_wp2_with (first | (go_at_call 43; refine (hl _).mono ?_; rintro e w' ⟨rfl, rfl⟩) | (go_at_call 45; refine (hf _).mono ?_; rintro e w' ⟨rfl, rfl⟩)); go_ret; exact ⟨by unfold wordP; rw [h1, h2]; rfl, rfl⟩)
set_option maxRecDepth 100000 in
theorem quotable_walk (c : UInt8) (w : World) : Calls Try.prog 50 #[.int .u8 (c.toNat : Int)] w fun e w' => e = .returned (.bool (quoteP c)) ∧ w' = w := by
  have hi := fun w => Try.strings_IndexByte ⟨#[46, 91, 93, 96, 34, 92]⟩ (c.toNat : Int) w
  have hcc : ((c.toNat : Int).toNat.toUInt8) = c := by simp
  have hl : Lib.indexByte (⟨#[46, 91, 93, 96, 34, 92]⟩ : ByteArray).data.toList ((c.toNat : Int).toNat.toUInt8) = Lib.indexByte [46, 91, 93, 96, 34, 92] c := by rw [hcc]
  rw [hl] at hi
  clear hl hcc
  have HI := Aside0.mk hi
  clear hi
  go_enter Try.func50, Try.ntmps50
  generalize hx : Lib.indexByte [46, 91, 93, 96, 34, 92] c = x at HI
  have HX := Aside0.mk hx
  clear hx
  go_wp2_with (first | (go_at_call 51; refine (HI.out _).mono ?_; rintro e w' ⟨rfl, rfl⟩))
  all_goals (go_ret; refine ⟨?_, rfl⟩; (try (show Ending.returned (Value.bool _) = Ending.returned (Value.bool _))); congr 2; simp only [quoteP, HX.out]; symm; (first | (apply decide_eq_true; omega) | (apply decide_eq_false; omega) | (rw [Bool.eq_iff_iff]; simp only [decide_eq_true_eq, Bool.or_eq_true, beq_iff_eq, Bool.and_eq_true, Bool.false_eq_true, iff_false, iff_true, bne_iff_ne, Bool.not_eq_true', beq_eq_false_iff_ne, decide_eq_false_iff_not, true_and, false_and]; omega)))
end Go.Proofs.Ytlamgdibnnmbmaa.PLex
end
