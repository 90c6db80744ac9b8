/- Part 31 of the proof of BitsNumbersCardSaid: The law BitsNumbers: for all arguments it returns true; each argument reads behind the call as it read before. Out of the plain theorem of YtfigblfjogpojaaDoorPureBitsNumbers and the printed contract. -/
import Derived.Test.YtfigblfjogpojaaDoorQBitsNumbers29
section
namespace Go.Proofs.YtfigblfjogpojaaDoor.PBits
open Go.RowKit Go.Proofs.YtfigblfjogpojaaDoorW.PrintWords Go.Proofs.YtfigblfjogpojaaDoorW.PrintLast Go.Proofs.YtfigblfjogpojaaDoorW.PrintMore Go.Proofs.YtfigblfjogpojaaDoor.Bz
set_option linter.unusedVariables false
set_option linter.unusedSimpArgs false
def lessS (w a b : Nat) (signed : Bool) : Bool := if signed then decide (sgn w a < sgn w b) else decide (a < b)
theorem sgn_lt {w a b : Nat} (h1 : 1 ≤ w) (ha : a < 2 ^ w) (hb : b < 2 ^ w) : (sgn w a < sgn w b) ↔ (if a.testBit (w - 1) = b.testBit (w - 1) then a < b else a.testBit (w - 1) = true) := by
  have hp : (2 : Int) ^ w = ((2 ^ w : Nat) : Int) := by push_cast; rfl
  unfold sgn
  rw [hp]
  cases ha2 : a.testBit (w - 1) <;> cases hb2 : b.testBit (w - 1) <;> simp <;> omega
theorem shr_bit (a i : Nat) : a >>> i = 2 * (a >>> (i + 1)) + (if a.testBit i then 1 else 0) := by
  rw [Nat.testBit_eq_decide_div_mod_eq, Nat.shiftRight_eq_div_pow, Nat.shiftRight_eq_div_pow, Nat.pow_succ, ← Nat.div_div_eq_div_mul]
  simp only [decide_eq_true_eq]
  split <;> omega
theorem lt_of_shr {a b i : Nat} (h : a >>> i < b >>> i) : a < b := by
  rcases Nat.lt_or_ge a b with h1 | h1
  · exact h1
  · rw [Nat.shiftRight_eq_div_pow, Nat.shiftRight_eq_div_pow] at h
    have := Nat.div_le_div_right (c := 2 ^ i) h1
    omega
theorem below_l0 (w a b : Nat) (signed : Bool) (h1 : 1 ≤ w) (hw : w ≤ 65) (ha : a < 2 ^ w) (hb : b < 2 ^ w) : ∀ i : Nat, i ≤ w → a >>> i = b >>> i →
    Ev (fun k => maskref1_below.l0 k (vs w a 0) (vs w b 0) signed ((i : Int) - 1)) (lessS w a b signed) := by
  intro i
  induction i with
  | zero =>
    intro _ h
    rw [Nat.shiftRight_zero, Nat.shiftRight_zero] at h
    subst h
    refine Ev.step (fun k => by rw [maskref1_below.l0]) (Ev.neg (by omega) ((Ev.now _).eq ?_))
    unfold lessS
    cases signed <;> simp
  | succ i ih =>
    intro hi h
    have ih := ih (by omega)
    have e1 : ((i + 1 : Nat) : Int) - 1 = (i : Int) := by omega
    rw [e1]
    have sa := shr_bit a i
    have sb := shr_bit b i
    rw [h] at sa
    refine Ev.step (fun k => by rw [maskref1_below.l0]) ?_
    refine Ev.pos (by omega) (Ev.pos (by omega) (Ev.pos (by rw [vs_length]; omega) (Ev.pos (by rw [vs_length]; omega) ?_)))
    rw [rd_vs _ _ _ _ (by omega), rd_vs _ _ _ _ (by omega), w64 (n := (i : Int) - 1) (by omega), st_kb, st_kb, vs_length, w64 (n := (w : Int) - 1) (by omega)]
    by_cases hab : a.testBit i = b.testBit i
    · refine Ev.pos (by rw [hab]) (ih ?_)
      rw [sa, sb, hab]
    · refine Ev.neg (fun hk => hab ?_) ?_
      · cases p : a.testBit i <;> cases q : b.testBit i <;> rw [p, q] at hk <;> first | rfl | (exact absurd hk (by decide))
      · have top : i + 1 < w → a.testBit (w - 1) = b.testBit (w - 1) := by
          intro h2
          have h3 := congrArg (fun n => Nat.testBit n (w - 1 - (i + 1))) h
          simp only [Nat.testBit_shiftRight] at h3
          rwa [show i + 1 + (w - 1 - (i + 1)) = w - 1 by omega] at h3
        have lt : a < b ↔ a.testBit i = false := by
          cases p : a.testBit i <;> cases q : b.testBit i <;> rw [p, q] at hab <;> first | (exact absurd rfl hab) | skip
          · rw [p] at sa; rw [q] at sb
            simp only [Bool.false_eq_true, if_false, if_true] at sa sb
            exact ⟨fun _ => rfl, fun _ => lt_of_shr (i := i) (by omega)⟩
          · rw [p] at sa; rw [q] at sb
            simp only [Bool.false_eq_true, if_false, if_true] at sa sb
            have : b < a := lt_of_shr (i := i) (by omega)
            exact ⟨fun h4 => by omega, fun h4 => by cases h4⟩
        have hk48 : (kb (a.testBit i) == 48) = !a.testBit i := by cases a.testBit i <;> rfl
        unfold lessS
        cases signed with
        | false =>
          refine Ev.neg (by decide) ((Ev.now _).eq ?_)
          rw [hk48, if_neg (by decide), Bool.eq_iff_iff, decide_eq_true_iff, lt]
          cases a.testBit i <;> simp
        | true =>
          refine Ev.pos rfl ((Ev.now _).eq ?_)
          rw [hk48, if_pos rfl, Bool.eq_iff_iff, decide_eq_true_iff, sgn_lt h1 ha hb]
          by_cases h5 : i = w - 1
          · subst h5
            rw [if_neg hab, show ((w - 1 : Nat) : Int) = (w : Int) - 1 by omega]
            cases a.testBit (w - 1) <;> simp
          · rw [if_pos (top (by omega)), lt, show ((i : Int) == (w : Int) - 1) = false from beq_eq_false_iff_ne.mpr (by omega)]
            cases a.testBit i <;> simp
theorem below_ev {w a b : Nat} (signed : Bool) (h1 : 1 ≤ w) (hw : w ≤ 65) (ha : a < 2 ^ w) (hb : b < 2 ^ w) : Ev (fun k => maskref1_below.f k (vs w a 0) (vs w b 0) signed) (lessS w a b signed) := by
  unfold maskref1_below.f
  rw [vs_length, w64 (by omega)]
  refine below_l0 w a b signed h1 hw ha hb w (Nat.le_refl _) ?_
  rw [Nat.shiftRight_eq_div_pow, Nat.shiftRight_eq_div_pow, Nat.div_eq_of_lt ha, Nat.div_eq_of_lt hb]
end Go.Proofs.YtfigblfjogpojaaDoor.PBits
end
