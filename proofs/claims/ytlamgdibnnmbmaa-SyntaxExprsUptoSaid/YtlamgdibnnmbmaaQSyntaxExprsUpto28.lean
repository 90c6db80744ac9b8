/- Part 29 of the proof of SyntaxExprsUptoSaid: The law SyntaxExprs, where the tree that it reads is of bulk at most 1048576: it returns true; the tree reads behind the call as it read before. Out of the plain theorem of YtlamgdibnnmbmaaPureSyntaxExprs and the printed contract. -/
import Derived.Test.YtlamgdibnnmbmaaQSyntaxExprsUpto18
import Derived.Test.YtlamgdibnnmbmaaQSyntaxExprsUpto27
import Derived.Laws.BitsAllLaws
section
namespace Go.Proofs.Ytlamgdibnnmbmaa.PSyn
open Go.RowKit Go.Proofs.YtlamgdibnnmbmaaW.PrintWords Go.Proofs.YtlamgdibnnmbmaaW.PrintLast Go.Proofs.YtlamgdibnnmbmaaW.PrintMore
set_option linter.unusedVariables false
set_option linter.unusedSimpArgs false
theorem and_n (a b : Nat) (ha : a < 2 ^ 64) (hb : b < 2 ^ 64) : Go.bits .and .u64 (a : Int) (b : Int) = ((a &&& b : Nat) : Int) := u64_and_nat a b ha hb
theorem or_n (a b : Nat) (ha : a < 2 ^ 64) (hb : b < 2 ^ 64) : Go.bits .or .u64 (a : Int) (b : Int) = ((a ||| b : Nat) : Int) := u64_or_nat a b ha hb
def andn (a b : Nat) : Nat := a &&& (18446744073709551615 - b)
theorem andNot_n (a b : Nat) (ha : a < 2 ^ 64) (hb : b < 2 ^ 64) : Go.bits .andNot .u64 (a : Int) (b : Int) = ((andn a b : Nat) : Int) := u64_andNot_nat a b ha hb
theorem testBit_andn (a b i : Nat) (ha : a < 2 ^ 64) (hb : b < 2 ^ 64) : (andn a b).testBit i = (a.testBit i && !b.testBit i) := by
  unfold andn
  rw [Nat.testBit_and, show 18446744073709551615 - b = 2 ^ 64 - (b + 1) from by omega, Nat.testBit_two_pow_sub_succ hb]
  by_cases hi : i < 64
  · simp [hi]
  · rw [Nat.testBit_lt_two_pow (Nat.lt_of_lt_of_le ha (Nat.pow_le_pow_right (by decide) (by omega)))]; simp
theorem or_lt {a b n : Nat} (ha : a < 2 ^ n) (hb : b < 2 ^ n) : a ||| b < 2 ^ n := Nat.or_lt_two_pow ha hb
theorem shl_n (a i : Nat) : shl .u64 (a : Int) (i : Int) = ((a <<< i % 2 ^ 64 : Nat) : Int) := by
  unfold shl
  rw [IntKind.wrap_u64, Nat.shiftLeft_eq, Int.toNat_natCast, show IntKind.u64.bits = 64 from rfl]
  by_cases h : i ≤ 64
  · rw [Nat.min_eq_left h, Int.natCast_emod, Int.natCast_mul, Int.natCast_pow]; rfl
  · rw [Nat.min_eq_right (by omega)]
    have h1 : a * 2 ^ i % 2 ^ 64 = 0 := by
      rw [show i = 64 + (i - 64) from by omega, Nat.pow_add, Nat.mul_left_comm]
      exact Nat.mul_mod_right _ _
    rw [h1]
    have h2 : (a : Int) * 18446744073709551616 % 18446744073709551616 = 0 := by omega
    exact h2
theorem shr_n (a i : Nat) (ha : a < 2 ^ 64) : shr .u64 (a : Int) (i : Int) = ((a >>> i : Nat) : Int) := by
  unfold shr
  rw [Nat.shiftRight_eq_div_pow, Int.toNat_natCast, show IntKind.u64.bits = 64 from rfl]
  by_cases h : i ≤ 64
  · rw [Nat.min_eq_left h]; push_cast; rfl
  · rw [Nat.min_eq_right (by omega)]
    have h1 : a / 2 ^ i = 0 := Nat.div_eq_of_lt (Nat.lt_of_lt_of_le ha (Nat.pow_le_pow_right (by decide) (by omega)))
    rw [h1]
    have h2 : (a : Int) / 2 ^ 64 = 0 := by omega
    exact h2
theorem bitof (a i : Nat) (ha : a < 2 ^ 64) : Go.bits .and .u64 (shr .u64 (a : Int) (i : Int)) 1 = if a.testBit i then 1 else 0 := by
  rw [shr_n a i ha, show (1 : Int) = ((1 : Nat) : Int) from rfl, and_n _ _ (Nat.lt_of_le_of_lt (Nat.shiftRight_le a i) ha) (by decide), Nat.and_one_is_mod, Nat.testBit_eq_decide_div_mod_eq, Nat.shiftRight_eq_div_pow]
  by_cases h : a / 2 ^ i % 2 = 1
  · simp [h]
  · have h0 : a / 2 ^ i % 2 = 0 := by omega
    simp [h0]
theorem one_shl (i : Nat) : shl .u64 1 (i : Int) = ((1 <<< i % 2 ^ 64 : Nat) : Int) := shl_n 1 i
def msk (w : Nat) : Nat := 2 ^ min w 64 - 1
theorem msk_lt (w : Nat) : msk w < 2 ^ 64 := by
  unfold msk
  have : 2 ^ min w 64 ≤ 2 ^ 64 := Nat.pow_le_pow_right (by decide) (Nat.min_le_right _ _)
  have : 0 < 2 ^ min w 64 := Nat.pos_of_ne_zero (by simp)
  omega
theorem testBit_msk (w i : Nat) : (msk w).testBit i = decide (i < w ∧ i < 64) := by
  unfold msk
  rw [Nat.testBit_two_pow_sub_one]
  congr 1
  exact propext Nat.lt_min
theorem lt_of_bits {v w : Nat} (h : ∀ i, w ≤ i → v.testBit i = false) : v < 2 ^ w := Nat.lt_pow_two_of_testBit v (fun i hi => h i hi)
theorem bit_out {v w i : Nat} (h : v < 2 ^ w) (hi : w ≤ i) : v.testBit i = false := Nat.testBit_lt_two_pow (Nat.lt_of_lt_of_le h (Nat.pow_le_pow_right (by decide) hi))
theorem mask_is (w : Nat) : bits_mask.f (w : Int) = some ((msk w : Nat) : Int) := by
  unfold bits_mask.f
  by_cases h : 64 ≤ w
  · rw [if_pos (by omega)]
    unfold msk
    rw [Nat.min_eq_right h]; rfl
  · rw [if_neg (by omega), if_pos (by omega), one_shl, IntKind.wrap_u64]
    unfold msk
    rw [Nat.min_eq_left (by omega), Nat.one_shiftLeft, Nat.mod_eq_of_lt (Nat.pow_lt_pow_right (by decide) (by omega))]
    have h1 : 2 ^ w < 2 ^ 64 := Nat.pow_lt_pow_right (by decide) (by omega)
    have h2 : 0 < 2 ^ w := Nat.pos_of_ne_zero (by simp)
    generalize 2 ^ w = q at h1 h2
    congr 1
    omega
def okB (W : Int) (v x : Nat) : Bool := decide (1 ≤ W ∧ W ≤ 64 ∧ v < 2 ^ W.toNat ∧ x < 2 ^ W.toNat)
theorem okB_nat {W : Int} {v x : Nat} (h : okB W v x = true) : ∃ w : Nat, W = (w : Int) ∧ 1 ≤ w ∧ w ≤ 64 ∧ v < 2 ^ w ∧ x < 2 ^ w := by
  unfold okB at h
  have h := of_decide_eq_true h
  exact ⟨W.toNat, by omega, by omega, by omega, h.2.2⟩
theorem lt_bit {v i : Nat} (h : v.testBit i = false) : (v < 2 ^ (i + 1) ↔ v < 2 ^ i) := by
  constructor
  · intro h1
    refine lt_of_bits fun j hj => ?_
    by_cases e : j = i
    · subst e; exact h
    · exact bit_out h1 (by omega)
  · intro h1
    exact Nat.lt_of_lt_of_le h1 (Nat.pow_le_pow_right (by decide) (by omega))
theorem Valid_l0 (W : Int) (v x : Nat) (hv : v < 2 ^ 64) (hx : x < 2 ^ 64) (d : Nat) : ∀ i : Nat, i + d = 64 → Ev (fun k => maskref1_Valid.l0 k (i : Int) W (v : Int) (x : Int)) (decide (v < 2 ^ i ∧ x < 2 ^ i)) := by
  induction d with
  | zero =>
    intro i hi
    obtain rfl : i = 64 := by omega
    refine Ev.step (fun k => by rw [maskref1_Valid.l0]) ?_
    exact Ev.neg (by omega) ((Ev.now true).eq (by simp [hv, hx]))
  | succ d ih =>
    intro i hi
    refine Ev.step (fun k => by rw [maskref1_Valid.l0]) ?_
    refine Ev.pos (by omega) (Ev.pos (by omega) ?_)
    rw [bitof v i hv, bitof x i hx]
    cases hb : v.testBit i with
    | true =>
      refine Ev.neg (by simp) ((Ev.now false).eq ?_)
      have : ¬ v < 2 ^ i := fun h => by rw [bit_out h (Nat.le_refl i)] at hb; cases hb
      simp [this]
    | false =>
      refine Ev.pos (by simp) ?_
      cases hc : x.testBit i with
      | true =>
        refine Ev.neg (by simp) ((Ev.now false).eq ?_)
        have : ¬ x < 2 ^ i := fun h => by rw [bit_out h (Nat.le_refl i)] at hc; cases hc
        simp [this]
      | false =>
        refine Ev.pos (by simp) ?_
        rw [w64 (by omega)]
        refine (ih (i + 1) (by omega)).eq ?_
        rw [decide_eq_decide, lt_bit hb, lt_bit hc]
theorem Valid_ev (W : Int) (v x : Nat) (hv : v < 2 ^ 64) (hx : x < 2 ^ 64) : Ev (fun k => maskref1_Valid.f k W (v : Int) (x : Int)) (okB W v x) := by
  unfold maskref1_Valid.f
  by_cases h1 : W < 1
  · refine Ev.pos h1 (Ev.step (fun k => by rw [maskref1_Valid.j0]) (Ev.pos rfl ((Ev.now false).eq ?_)))
    unfold okB
    simp only [Bool.false_eq, decide_eq_false_iff_not]
    omega
  · refine Ev.neg h1 (Ev.step (fun k => by rw [maskref1_Valid.j0]) ?_)
    by_cases h2 : W > 64
    · refine Ev.pos (by simpa using h2) ((Ev.now false).eq ?_)
      unfold okB
      simp only [Bool.false_eq, decide_eq_false_iff_not]
      omega
    · refine Ev.neg (by simpa using h2) ?_
      obtain ⟨w, rfl⟩ := Int.eq_ofNat_of_zero_le (show 0 ≤ W by omega)
      refine (Valid_l0 (w : Int) v x hv hx (64 - w) w (by omega)).eq ?_
      unfold okB
      rw [decide_eq_decide, Int.toNat_natCast]
      exact ⟨fun h => ⟨by omega, by omega, h⟩, fun h => h.2.2⟩
theorem Check_ev (W : Int) (v x : Nat) (hv : v < 2 ^ 64) (hx : x < 2 ^ 64) : Ev (fun k => bits_Check.f k W (v : Int) (x : Int)) (if W < 1 ∨ W > 64 then 2 else if okB W v x = true then 0 else 4) := by
  unfold bits_Check.f
  by_cases h1 : W < 1
  · refine Ev.pos h1 (Ev.step (fun k => by rw [bits_Check.j0]) (Ev.pos rfl ((Ev.now 2).eq ?_)))
    rw [if_pos (.inl h1)]
  · refine Ev.neg h1 (Ev.step (fun k => by rw [bits_Check.j0]) ?_)
    by_cases h2 : W > 64
    · refine Ev.pos (by simpa using h2) ((Ev.now 2).eq ?_)
      rw [if_pos (.inr h2)]
    · refine Ev.neg (by simpa using h2) ?_
      obtain ⟨w, rfl⟩ := Int.eq_ofNat_of_zero_le (show 0 ≤ W by omega)
      refine Ev.bnd (mask_is w) ?_
      rw [or_n v x hv hx, andNot_n _ _ (or_lt hv hx) (msk_lt w), if_neg (show ¬ ((w : Int) < 1 ∨ (w : Int) > 64) by omega)]
      have key : andn (v ||| x) (msk w) = 0 ↔ okB (w : Int) v x = true := by
        unfold okB
        rw [decide_eq_true_iff, Int.toNat_natCast]
        constructor
        · intro h
          have hb : ∀ i, w ≤ i → v.testBit i = false ∧ x.testBit i = false := by
            intro i hi
            have := congrArg (fun n => Nat.testBit n i) h
            simp only [testBit_andn _ _ i (or_lt hv hx) (msk_lt w), Nat.testBit_or, testBit_msk, Nat.zero_testBit] at this
            have hn : ¬ (i < w ∧ i < 64) := by omega
            simpa [hn] using this
          exact ⟨by omega, by omega, lt_of_bits fun i hi => (hb i hi).1, lt_of_bits fun i hi => (hb i hi).2⟩
        · rintro ⟨_, h64, h3, h4⟩
          apply Nat.eq_of_testBit_eq
          intro i
          rw [testBit_andn _ _ i (or_lt hv hx) (msk_lt w), Nat.testBit_or, testBit_msk, Nat.zero_testBit]
          by_cases hi : i < w
          · have : i < w ∧ i < 64 := by omega
            simp [this]
          · rw [bit_out h3 (by omega), bit_out h4 (by omega)]; simp
      by_cases h3 : andn (v ||| x) (msk w) = 0
      · rw [if_pos (key.1 h3)]
        exact Ev.pos (by omega) (Ev.now 0)
      · rw [if_neg (fun h => h3 (key.2 h))]
        exact Ev.neg (by omega) (Ev.now 4)
end Go.Proofs.Ytlamgdibnnmbmaa.PSyn
end
