/- Part 27 of the proof of BitsComparedCardSaid: The law BitsCompared: for all arguments it returns true; each argument reads behind the call as it read before. Out of the plain theorem of YtfigblfjogpojaaDoorPureBitsCompared and the printed contract. -/
import Derived.Test.YtfigblfjogpojaaDoorQBitsCompared25
section
namespace Go.Proofs.YtfigblfjogpojaaDoor.PBits
open Go.RowKit Go.Proofs.YtfigblfjogpojaaDoorW.PrintWords Go.Proofs.YtfigblfjogpojaaDoorW.PrintLast Go.Proofs.YtfigblfjogpojaaDoorW.PrintMore Go.Proofs.YtfigblfjogpojaaDoor.Bz
set_option linter.unusedVariables false
set_option linter.unusedSimpArgs false
theorem st_byte_inj {a b : Int} (ha : isSt a) (hb : isSt b) (h : UInt8.ofNat a.toNat = UInt8.ofNat b.toNat) : a = b := by
  rcases ha with rfl | rfl | rfl | rfl <;> rcases hb with rfl | rfl | rfl | rfl <;> first | rfl | (exact absurd h (by decide))
theorem same_is {w va xa vb xb : Nat} (hva : va < 2 ^ w) (hxa : xa < 2 ^ w) (hvb : vb < 2 ^ w) (hxb : xb < 2 ^ w) : maskref1_same.f (vs w va xa) (vs w vb xb) = some (decide (va = vb ∧ xa = xb)) := by
  unfold maskref1_same.f
  rw [Go.Lib.strOfNums_toList, Go.Lib.strOfNums_toList]
  congr 1
  rw [Bool.eq_iff_iff, beq_iff_eq, decide_eq_true_iff]
  constructor
  · intro h
    refine vec_eq hva hxa hvb hxb fun i hi => ?_
    have h2 := congrArg (fun l => l[i]?) h
    simp only [Go.Lib.bytesOf, vs, List.getElem?_map, List.getElem?_range hi, Option.map_some, Option.some.injEq] at h2
    exact st_byte_inj (stb_is _ _) (stb_is _ _) h2
  · rintro ⟨rfl, rfl⟩; rfl
theorem CaseEq_ev {w va xa vb xb : Nat} (h : Two w va xa vb xb) : Ev (fun k => bits_CaseEq.f k (w : Int) (va : Int) (xa : Int) (w : Int) (vb : Int) (xb : Int)) (trip (bS (decide (va = vb ∧ xa = xb)))) := by
  unfold bits_CaseEq.f
  refine Ev.bind h.alike ?_
  refine Ev.pos rfl ?_
  by_cases e : va = vb ∧ xa = xb
  · obtain ⟨rfl, rfl⟩ := e
    refine Ev.pos (by simp) ?_
    rw [decide_eq_true ⟨rfl, rfl⟩]
    exact Ev.bnd truth_1 (Ev.now _)
  · refine Ev.neg ?_ ?_
    · simp only [Bool.and_eq_true, beq_iff_eq, not_and]
      intro _ h1 h2
      exact e ⟨by omega, by omega⟩
    · rw [decide_eq_false e]
      exact Ev.bnd truth_0 (Ev.now _)
def lessS (w a b : Nat) (signed : Bool) : Bool := if signed then decide (sgn w a < sgn w b) else decide (a < b)
theorem sgn_lt {w a b : Nat} (h1 : 1 ≤ w) (ha : a < 2 ^ w) (hb : b < 2 ^ w) : (sgn w a < sgn w b) ↔ (if a.testBit (w - 1) = b.testBit (w - 1) then a < b else a.testBit (w - 1) = true) := by
  have hp : (2 : Int) ^ w = ((2 ^ w : Nat) : Int) := by push_cast; rfl
  unfold sgn
  rw [hp]
  cases ha2 : a.testBit (w - 1) <;> cases hb2 : b.testBit (w - 1) <;> simp <;> omega
theorem shr_bit (a i : Nat) : a >>> i = 2 * (a >>> (i + 1)) + (if a.testBit i then 1 else 0) := by
  rw [Nat.testBit_eq_decide_div_mod_eq, Nat.shiftRight_eq_div_pow, Nat.shiftRight_eq_div_pow, Nat.pow_succ, ← Nat.div_div_eq_div_mul]
  simp only [decide_eq_true_eq]
  split <;> omega
theorem lt_of_shr {a b i : Nat} (h : a >>> i < b >>> i) : a < b := by
  rcases Nat.lt_or_ge a b with h1 | h1
  · exact h1
  · rw [Nat.shiftRight_eq_div_pow, Nat.shiftRight_eq_div_pow] at h
    have := Nat.div_le_div_right (c := 2 ^ i) h1
    omega
theorem below_l0 (w a b : Nat) (signed : Bool) (h1 : 1 ≤ w) (hw : w ≤ 65) (ha : a < 2 ^ w) (hb : b < 2 ^ w) : ∀ i : Nat, i ≤ w → a >>> i = b >>> i →
    Ev (fun k => maskref1_below.l0 k (vs w a 0) (vs w b 0) signed ((i : Int) - 1)) (lessS w a b signed) := by
  intro i
  induction i with
  | zero =>
    intro _ h
    rw [Nat.shiftRight_zero, Nat.shiftRight_zero] at h
    subst h
    refine Ev.step (fun k => by rw [maskref1_below.l0]) (Ev.neg (by omega) ((Ev.now _).eq ?_))
    unfold lessS
    cases signed <;> simp
  | succ i ih =>
    intro hi h
    have ih := ih (by omega)
    have e1 : ((i + 1 : Nat) : Int) - 1 = (i : Int) := by omega
    rw [e1]
    have sa := shr_bit a i
    have sb := shr_bit b i
    rw [h] at sa
    refine Ev.step (fun k => by rw [maskref1_below.l0]) ?_
    refine Ev.pos (by omega) (Ev.pos (by omega) (Ev.pos (by rw [vs_length]; omega) (Ev.pos (by rw [vs_length]; omega) ?_)))
    rw [rd_vs _ _ _ _ (by omega), rd_vs _ _ _ _ (by omega), w64 (n := (i : Int) - 1) (by omega), st_kb, st_kb, vs_length, w64 (n := (w : Int) - 1) (by omega)]
    by_cases hab : a.testBit i = b.testBit i
    · refine Ev.pos (by rw [hab]) (ih ?_)
      rw [sa, sb, hab]
    · refine Ev.neg (fun hk => hab ?_) ?_
      · cases p : a.testBit i <;> cases q : b.testBit i <;> rw [p, q] at hk <;> first | rfl | (exact absurd hk (by decide))
      · have top : i + 1 < w → a.testBit (w - 1) = b.testBit (w - 1) := by
          intro h2
          have h3 := congrArg (fun n => Nat.testBit n (w - 1 - (i + 1))) h
          simp only [Nat.testBit_shiftRight] at h3
          rwa [show i + 1 + (w - 1 - (i + 1)) = w - 1 by omega] at h3
        have lt : a < b ↔ a.testBit i = false := by
          cases p : a.testBit i <;> cases q : b.testBit i <;> rw [p, q] at hab <;> first | (exact absurd rfl hab) | skip
          · rw [p] at sa; rw [q] at sb
            simp only [Bool.false_eq_true, if_false, if_true] at sa sb
            exact ⟨fun _ => rfl, fun _ => lt_of_shr (i := i) (by omega)⟩
          · rw [p] at sa; rw [q] at sb
            simp only [Bool.false_eq_true, if_false, if_true] at sa sb
            have : b < a := lt_of_shr (i := i) (by omega)
            exact ⟨fun h4 => by omega, fun h4 => by cases h4⟩
        have hk48 : (kb (a.testBit i) == 48) = !a.testBit i := by cases a.testBit i <;> rfl
        unfold lessS
        cases signed with
        | false =>
          refine Ev.neg (by decide) ((Ev.now _).eq ?_)
          rw [hk48, if_neg (by decide), Bool.eq_iff_iff, decide_eq_true_iff, lt]
          cases a.testBit i <;> simp
        | true =>
          refine Ev.pos rfl ((Ev.now _).eq ?_)
          rw [hk48, if_pos rfl, Bool.eq_iff_iff, decide_eq_true_iff, sgn_lt h1 ha hb]
          by_cases h5 : i = w - 1
          · subst h5
            rw [if_neg hab, show ((w - 1 : Nat) : Int) = (w : Int) - 1 by omega]
            cases a.testBit (w - 1) <;> simp
          · rw [if_pos (top (by omega)), lt, show ((i : Int) == (w : Int) - 1) = false from beq_eq_false_iff_ne.mpr (by omega)]
            cases a.testBit i <;> simp
theorem below_ev {w a b : Nat} (signed : Bool) (h1 : 1 ≤ w) (hw : w ≤ 65) (ha : a < 2 ^ w) (hb : b < 2 ^ w) : Ev (fun k => maskref1_below.f k (vs w a 0) (vs w b 0) signed) (lessS w a b signed) := by
  unfold maskref1_below.f
  rw [vs_length, w64 (by omega)]
  refine below_l0 w a b signed h1 hw ha hb w (Nat.le_refl _) ?_
  rw [Nat.shiftRight_eq_div_pow, Nat.shiftRight_eq_div_pow, Nat.div_eq_of_lt ha, Nat.div_eq_of_lt hb]
theorem less_ev {w va vb : Nat} (h1 : 1 ≤ w) (h2 : w ≤ 64) (ha : va < 2 ^ w) (hb : vb < 2 ^ w) (signed : Bool) : Ev (fun k => bits_less.f k (w : Int) (va : Int) ((0 : Nat) : Int) (w : Int) (vb : Int) ((0 : Nat) : Int) signed) (lessS w va vb signed) := by
  have iA := Int_ev (W := (w : Int)) (v := va) (x := 0) (lt64 ha h2) (by decide)
  have iB := Int_ev (W := (w : Int)) (v := vb) (x := 0) (lt64 hb h2) (by decide)
  rw [okB_of h1 h2 ha (Nat.pos_of_ne_zero (by simp)), if_pos (by decide), Int.toNat_natCast] at iA
  rw [okB_of h1 h2 hb (Nat.pos_of_ne_zero (by simp)), if_pos (by decide), Int.toNat_natCast] at iB
  unfold bits_less.f lessS
  cases signed with
  | true =>
    refine Ev.pos rfl ?_
    refine Ev.bind iA ?_
    exact Ev.bind iB ((Ev.now _).eq (by rw [if_pos rfl]))
  | false => exact Ev.neg (by decide) ((Ev.now _).eq (by rw [if_neg (by decide), decide_eq_decide]; omega))
def ltS (w va xa vb xb : Nat) (signed : Bool) : Int := if xa = 0 ∧ xb = 0 then bS (lessS w va vb signed) else 117
theorem Lt_ev {w va xa vb xb : Nat} (h : Two w va xa vb xb) (signed : Bool) : Ev (fun k => bits_Lt.f k (w : Int) (va : Int) (xa : Int) (w : Int) (vb : Int) (xb : Int) signed) (trip (ltS w va xa vb xb signed)) := by
  have a2 := lt64 h.xa h.w64
  have b2 := lt64 h.xb h.w64
  unfold bits_Lt.f
  refine Ev.bind h.alike ?_
  refine Ev.pos rfl ?_
  rw [or_n _ _ a2 b2]
  unfold ltS
  by_cases e : xa = 0 ∧ xb = 0
  · rw [if_pos e]
    obtain ⟨rfl, rfl⟩ := e
    refine Ev.pos rfl ?_
    refine Ev.bind (less_ev h.w1 h.w64 h.va h.vb signed) ?_
    cases lessS w va vb signed with
    | true => exact Ev.pos rfl (Ev.bnd truth_1 (Ev.now _))
    | false => exact Ev.neg (by decide) (Ev.bnd truth_0 (Ev.now _))
  · rw [if_neg e]
    have : ¬ (xa ||| xb = 0) := fun h5 => e (or_zero.1 h5)
    refine Ev.neg (by omega) ?_
    exact Ev.bnd truth_n (Ev.now _)
theorem less_le {w a b : Nat} (h1 : 1 ≤ w) (ha : a < 2 ^ w) (hb : b < 2 ^ w) (signed : Bool) : oppS (bS (lessS w b a signed)) = if lessS w a b signed = true then 116 else bS (decide (a = b ∧ 0 = 0)) := by
  have inj : sgn w a = sgn w b → a = b := by
    have hp : (2 : Int) ^ w = ((2 ^ w : Nat) : Int) := by push_cast; rfl
    unfold sgn
    rw [hp]
    intro h
    split at h <;> split at h <;> omega
  unfold lessS
  cases signed with
  | false =>
    simp only [Bool.false_eq_true, if_false, decide_eq_true_eq]
    by_cases l1 : a < b
    · rw [if_pos l1, decide_eq_false (by omega)]; rfl
    · rw [if_neg l1]
      by_cases l2 : a = b
      · rw [decide_eq_false (by omega), decide_eq_true ⟨l2, trivial⟩]; rfl
      · rw [decide_eq_true (by omega), decide_eq_false (fun h => l2 h.1)]; rfl
  | true =>
    simp only [if_true, decide_eq_true_eq]
    by_cases l1 : sgn w a < sgn w b
    · rw [if_pos l1, decide_eq_false (by omega)]; rfl
    · rw [if_neg l1]
      by_cases l2 : a = b
      · rw [decide_eq_false (by rw [l2]; omega), decide_eq_true ⟨l2, trivial⟩]; rfl
      · have : ¬ sgn w a = sgn w b := fun h => l2 (inj h)
        rw [decide_eq_true (by omega), decide_eq_false (fun h => l2 h.1)]; rfl
end Go.Proofs.YtfigblfjogpojaaDoor.PBits
end
