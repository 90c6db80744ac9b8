/- Part 33 of the proof of BitsNumbersCardSaid: The law BitsNumbers: for all arguments it returns true; each argument reads behind the call as it read before. Out of the plain theorem of YtfigblfjogpojaaDoorPureBitsNumbers and the printed contract. -/
import Derived.Test.YtfigblfjogpojaaDoorQBitsNumbers17
import Derived.Test.YtfigblfjogpojaaDoorQBitsNumbers30
import Derived.Test.YtfigblfjogpojaaDoorQBitsNumbers31
section
namespace Go.Proofs.YtfigblfjogpojaaDoor.PBits
open Go.RowKit Go.Proofs.YtfigblfjogpojaaDoorW.PrintWords Go.Proofs.YtfigblfjogpojaaDoorW.PrintLast Go.Proofs.YtfigblfjogpojaaDoorW.PrintMore Go.Proofs.YtfigblfjogpojaaDoor.Bz
set_option linter.unusedVariables false
set_option linter.unusedSimpArgs false
theorem B_num {w : Nat} (h1 : 1 ≤ w) (h2 : w ≤ 64) (U : Nat) : Ev (fun k => maskref1_B.f k (vs w U 0)) ((w : Int), ((U % 2 ^ w : Nat) : Int), 0) := by
  refine B_is (v := U % 2 ^ w) (x := 0) h1 h2 (vs_length _ _ _) (Nat.mod_lt _ (Nat.pos_of_ne_zero (by simp))) (Nat.pos_of_ne_zero (by simp)) fun i hi => ?_
  rw [vs_getD _ _ _ _ hi, st_kb, st_kb, Nat.testBit_mod_two_pow]; simp [hi]
theorem Of_is {w : Nat} (h1 : 1 ≤ w) (h2 : w ≤ 64) {u : Nat} (hu : u < 2 ^ 64) : bits_Of.f (w : Int) (u : Int) = some ((w : Int), ((u % 2 ^ w : Nat) : Int), 0) := by
  unfold bits_Of.f
  rw [if_neg (by omega), if_neg (by omega), mask_is]
  show some _ = _
  rw [and_n _ _ hu (msk_lt w), msk_is h2, Nat.and_two_pow_sub_one_eq_mod]
theorem take_vs (w v x n : Nat) (h : n ≤ w) : (vs w v x).take n = vs n v x := by
  apply List.ext_getElem
  · simp [vs_length]; omega
  · intro i h1 h2
    rw [List.getElem_take, vs_get _ _ _ _ (by rw [List.length_take, vs_length] at h1; omega), vs_get _ _ _ _ (by rw [vs_length] at h2; exact h2)]
theorem bit_mod (b i : Nat) : b % 2 ^ (i + 1) = b % 2 ^ i + 2 ^ i * (if b.testBit i then 1 else 0) := by
  rw [Nat.testBit_eq_decide_div_mod_eq, Nat.pow_succ, Nat.mod_mul]
  simp only [decide_eq_true_eq]
  split
  · rename_i h; rw [h]
  · rename_i h
    have : b / 2 ^ i % 2 = 0 := by omega
    rw [this]
theorem times_l0 (w a b : Nat) (h1 : 1 ≤ w) (hw : w ≤ 64) (ha : a < 2 ^ w) (d : Nat) : ∀ i : Nat, i + d = w →
    Ev (fun k => maskref1_times.l0 k (vs w a 0) (vs w (a * (b % 2 ^ i)) 0) (vs w b 0) (w : Int) (i : Int)) (vs w (a * (b % 2 ^ w)) 0) := by
  induction d with
  | zero =>
    intro i hi
    obtain rfl : i = w := by omega
    exact Ev.step (fun k => by rw [maskref1_times.l0]) (Ev.neg (by omega) (Ev.now _))
  | succ d ih =>
    intro i hi
    have ih := ih (i + 1) (by omega)
    rw [bit_mod] at ih
    refine Ev.step (fun k => by rw [maskref1_times.l0]) (Ev.pos (by omega) (Ev.pos (by omega) (Ev.pos (by rw [vs_length]; omega) ?_)))
    rw [rd_vs _ _ _ _ (by omega), st_kb, w64 (n := (i : Int) + 1) (by omega), vs_length, w64 (n := (w : Int) - (i : Int)) (by omega)]
    cases hb : b.testBit i with
    | true =>
      rw [hb, if_pos rfl, Nat.mul_one] at ih
      have hf := Fill_ev 48 i (show i ≤ 1000 by omega)
      rw [zeros] at hf
      have e1 : ((w : Int) - (i : Int)).toNat = w - i := by omega
      have hj : vs i 0 0 ++ vs (w - i) a 0 = vs w (a * 2 ^ i) 0 := by
        have := vs_join i (w - i) 0 0 a 0 (Nat.pos_of_ne_zero (by simp)) (Nat.pos_of_ne_zero (by simp))
        rw [← this, show w - i + i = w by omega, Nat.or_zero, Nat.or_zero, Nat.zero_shiftLeft, Nat.shiftLeft_eq]
      refine Ev.pos rfl ?_
      refine Ev.bind hf ?_
      refine Ev.pos (by omega) (Ev.pos (by omega) ?_)
      rw [e1, take_vs _ _ _ _ (by omega), hj]
      refine Ev.pos (by rw [vs_length, vs_length]; omega) ?_
      have hp := plus_ev w (a * (b % 2 ^ i)) (a * 2 ^ i) false (by omega)
      refine Ev.bind hp ?_
      rw [Nat.mul_add] at ih
      simpa using ih
    | false =>
      rw [hb, if_neg (by decide), Nat.mul_zero, Nat.add_zero] at ih
      exact Ev.neg (by decide) ih
theorem times_ev {w a b : Nat} (h1 : 1 ≤ w) (hw : w ≤ 64) (ha : a < 2 ^ w) (hb : b < 2 ^ w) : Ev (fun k => maskref1_times.f k (vs w a 0) (vs w b 0)) (vs w (a * b) 0) := by
  have hf := Fill_ev 48 w (show w ≤ 1000 by omega)
  rw [zeros] at hf
  have h := times_l0 w a b h1 hw ha w 0 (by omega)
  rw [Nat.pow_zero, Nat.mod_one, Nat.mul_zero, Nat.mod_eq_of_lt hb] at h
  unfold maskref1_times.f
  rw [vs_length, vs_length]
  exact Ev.bind hf h
theorem set_vs {w Q i : Nat} (hi : i < w) : (vs w (Q * 2 ^ (i + 1)) 0).set i 49 = vs w ((2 * Q + 1) * 2 ^ i) 0 := by
  apply List.ext_getElem
  · simp [vs_length]
  · intro j h1 h2
    rw [List.getElem_set]
    have hj : j < w := by rw [vs_length] at h2; exact h2
    have e : ((2 * Q + 1) * 2 ^ i).testBit j = (decide (j ≥ i) && (2 * Q + 1).testBit (j - i)) := by rw [Nat.mul_comm]; exact Nat.testBit_two_pow_mul
    by_cases h : i = j
    · subst h
      rw [if_pos rfl, vs_get _ _ _ _ hj, st_kb, e, Nat.sub_self, Nat.testBit_zero]
      have : (2 * Q + 1) % 2 = 1 := by omega
      simp [this, kb]
    · rw [if_neg h, vs_get _ _ _ _ hj, vs_get _ _ _ _ hj, st_kb, st_kb, e]
      have e2 : (Q * 2 ^ (i + 1)).testBit j = (decide (j ≥ i + 1) && Q.testBit (j - (i + 1))) := by rw [Nat.mul_comm]; exact Nat.testBit_two_pow_mul
      rw [e2]
      by_cases h3 : i < j
      · obtain ⟨n, rfl⟩ : ∃ n, j = i + 1 + n := ⟨j - (i + 1), by omega⟩
        rw [show i + 1 + n - i = n + 1 by omega, show i + 1 + n - (i + 1) = n by omega, Nat.testBit_succ, show (2 * Q + 1) / 2 = Q by omega]
        have p1 : i + 1 + n ≥ i := by omega
        have p2 : i + 1 + n ≥ i + 1 := by omega
        simp [p1, p2]
      · have p1 : ¬ j ≥ i := by omega
        have p2 : ¬ j ≥ i + 1 := by omega
        simp [p1, p2]
theorem div_step {A b c : Nat} (hb : 0 < b) (hc : c ≤ 1) : (2 * A + c) / b = (if 2 * (A % b) + c < b then 2 * (A / b) else 2 * (A / b) + 1) ∧ (2 * A + c) % b = (if 2 * (A % b) + c < b then 2 * (A % b) + c else 2 * (A % b) + c - b) := by
  have h1 := Nat.div_add_mod A b
  have h2 := Nat.mod_lt A hb
  have h3 : 2 * A + c = b * (2 * (A / b)) + (2 * (A % b) + c) := by rw [Nat.mul_left_comm]; omega
  split
  · rename_i h
    rw [h3]
    exact ⟨by rw [Nat.mul_add_div hb, Nat.div_eq_of_lt h, Nat.add_zero], by rw [Nat.mul_add_mod, Nat.mod_eq_of_lt h]⟩
  · rename_i h
    have h4 : 2 * A + c = b * (2 * (A / b) + 1) + (2 * (A % b) + c - b) := by rw [Nat.mul_add, Nat.mul_one]; omega
    rw [h4]
    have h5 : 2 * (A % b) + c - b < b := by omega
    exact ⟨by rw [Nat.mul_add_div hb, Nat.div_eq_of_lt h5, Nat.add_zero], by rw [Nat.mul_add_mod, Nat.mod_eq_of_lt h5]⟩
theorem over_l0 (w a b : Nat) (h1 : 1 ≤ w) (hw : w ≤ 64) (ha : a < 2 ^ w) (hb : b < 2 ^ w) (hb0 : 0 < b) : ∀ i : Nat, i ≤ w →
    Ev (fun k => maskref1_over.l0 k (vs w a 0) (vs w ((a >>> i) / b * 2 ^ i) 0) (vs (w + 1) ((a >>> i) % b) 0) (vs (w + 1) b 0) ((i : Int) - 1)) (vs w (a / b) 0, vs w (a % b) 0) := by
  have hp : 2 ^ (w + 1) = 2 * 2 ^ w := by rw [Nat.pow_succ]; omega
  intro i
  induction i with
  | zero =>
    intro _
    refine Ev.step (fun k => by rw [maskref1_over.l0]) (Ev.neg (by omega) ?_)
    rw [vs_length, vs_length]
    refine Ev.pos (by omega) (Ev.pos (by omega) ((Ev.now _).eq ?_))
    rw [Nat.shiftRight_zero, Nat.pow_zero, Nat.mul_one, Int.toNat_natCast, take_vs _ _ _ _ (by omega)]
  | succ i ih =>
    intro hi
    have ih := ih (by omega)
    have e1 : ((i + 1 : Nat) : Int) - 1 = (i : Int) := by omega
    rw [e1]
    have hR := Nat.mod_lt (a >>> (i + 1)) hb0
    have sa := shr_bit a i
    obtain ⟨dq, dr⟩ := div_step (A := a >>> (i + 1)) (c := if a.testBit i then 1 else 0) hb0 (by split <;> omega)
    rw [← sa] at dq dr
    rw [dq, dr] at ih
    have hc : (if a.testBit i then 1 else 0) ≤ 1 := by split <;> omega
    have hy : [st a 0 i] ++ (vs (w + 1) ((a >>> (i + 1)) % b) 0).take w = vs (w + 1) (2 * ((a >>> (i + 1)) % b) + (if a.testBit i then 1 else 0)) 0 := by
      rw [take_vs _ _ _ _ (by omega)]
      have e2 : [st a 0 i] = vs 1 (if a.testBit i then 1 else 0) 0 := by
        rw [st_kb]; unfold vs; rw [show List.range 1 = [0] from rfl, List.map_singleton, st_kb]
        cases a.testBit i <;> rfl
      rw [e2, ← vs_join 1 w _ _ _ _ (by split <;> decide) (by decide)]
      congr 1
      rw [Nat.shiftLeft_eq, Nat.pow_one, Nat.mul_comm]
      generalize (a >>> (i + 1)) % b = R
      have : 2 ^ 1 * R + (if a.testBit i then 1 else 0) = 2 ^ 1 * R ||| (if a.testBit i then 1 else 0) := Nat.two_pow_add_eq_or_of_lt (by split <;> decide) R
      rw [Nat.pow_one] at this
      exact this.symm
    generalize hY : 2 * ((a >>> (i + 1)) % b) + (if a.testBit i then 1 else 0) = Y at ih hy
    have hYlt : Y < 2 ^ (w + 1) := by omega
    generalize (a >>> (i + 1)) / b = Q at ih
    generalize (a >>> (i + 1)) % b = R at ih hy hR
    refine Ev.step (fun k => by rw [maskref1_over.l0]) ?_
    rw [vs_length, vs_length, vs_length, rd_vs _ _ _ _ (by omega), w64 (n := (i : Int) - 1) (by omega), Int.toNat_natCast, Int.toNat_natCast]
    refine Ev.pos (by omega) (Ev.pos (by omega) (Ev.pos (by omega) ?_))
    refine Ev.bnd rfl ?_
    refine Ev.pos (by omega) (Ev.pos (by omega) ?_)
    refine Ev.bnd rfl ?_
    refine Ev.pos (by simp [vs_length]; omega) ?_
    refine Ev.bnd rfl ?_
    rw [hy]
    refine Ev.bind (below_ev false (by omega) (by omega) hYlt (show b < 2 ^ (w + 1) by omega)) ?_
    unfold lessS
    rw [if_neg (by decide)]
    by_cases hlt : Y < b
    · rw [decide_eq_true hlt]
      rw [if_pos hlt, if_pos hlt] at ih
      refine Ev.pos rfl ?_
      rw [show 2 * Q * 2 ^ i = Q * 2 ^ (i + 1) by rw [Nat.pow_succ, Nat.mul_comm 2 Q, Nat.mul_assoc, Nat.mul_comm 2]] at ih
      exact ih
    · rw [decide_eq_false hlt]
      rw [if_neg hlt, if_neg hlt] at ih
      refine Ev.neg (by decide) ?_
      have hm := minus_ev (w := w + 1) (a := Y) (b := b) (by omega) (by omega)
      have e3 : vs (w + 1) (Y + (2 ^ (w + 1) - b)) 0 = vs (w + 1) (Y - b) 0 := by
        rw [← vs_mod, show Y + (2 ^ (w + 1) - b) = Y - b + 2 ^ (w + 1) by omega, Nat.add_mod_right, vs_mod]
      rw [e3] at hm
      refine Ev.bind hm (Ev.pos (by omega) ?_)
      rw [set_vs (by omega)]
      exact ih
theorem over_ev {w a b : Nat} (h1 : 1 ≤ w) (hw : w ≤ 64) (ha : a < 2 ^ w) (hb : b < 2 ^ w) (hb0 : 0 < b) : Ev (fun k => maskref1_over.f k (vs w a 0) (vs w b 0)) (vs w (a / b) 0, vs w (a % b) 0) := by
  have hf := Fill_ev 48 w (show w ≤ 1000 by omega)
  have hg := Fill_ev 48 (w + 1) (show w + 1 ≤ 1000 by omega)
  rw [zeros] at hf hg
  have h := over_l0 w a b h1 hw ha hb hb0 w (Nat.le_refl _)
  rw [Nat.shiftRight_eq_div_pow, Nat.div_eq_of_lt ha, Nat.zero_div, Nat.zero_mul, Nat.zero_mod] at h
  have e : vs w b 0 ++ [48] = vs (w + 1) b 0 := by rw [vs_succ, st_kb, bit_out hb (Nat.le_refl _)]; rfl
  unfold maskref1_over.f
  rw [vs_length, vs_length, w64 (n := (w : Int) + 1) (by omega), w64 (n := (w : Int) - 1) (by omega)]
  refine Ev.bind hf ?_
  refine Ev.bind (show Ev (fun k => maskref1_Fill.f k ((w : Int) + 1) 48) (vs (w + 1) 0 0) from hg) ?_
  refine Ev.bnd rfl ?_
  refine Ev.pos (by simp; omega) ?_
  refine Ev.bnd rfl ?_
  refine Ev.pos (by simp [vs_length]; omega) ?_
  rw [List.nil_append, e]
  exact h
end Go.Proofs.YtfigblfjogpojaaDoor.PBits
end
