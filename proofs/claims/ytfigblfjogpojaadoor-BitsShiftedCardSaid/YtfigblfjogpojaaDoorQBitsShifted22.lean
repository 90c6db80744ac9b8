/- Part 23 of the proof of BitsShiftedCardSaid: The law BitsShifted: for all arguments it returns true; each argument reads behind the call as it read before. Out of the plain theorem of YtfigblfjogpojaaDoorPureBitsShifted and the printed contract. -/
import Derived.Test.YtfigblfjogpojaaDoorQBitsShifted20
import Derived.Test.YtfigblfjogpojaaDoorQBitsShifted21
import Derived.Test.YtfigblfjogpojaaDoorQBitsShifted14
import Derived.Test.YtfigblfjogpojaaDoorQBitsShifted15
section
namespace Go.Proofs.YtfigblfjogpojaaDoor.PBits
open Go.RowKit Go.Proofs.YtfigblfjogpojaaDoorW.PrintWords Go.Proofs.YtfigblfjogpojaaDoorW.PrintLast Go.Proofs.YtfigblfjogpojaaDoorW.PrintMore Go.Proofs.YtfigblfjogpojaaDoor.Bz
set_option linter.unusedVariables false
set_option linter.unusedSimpArgs false
theorem Fill_l0 (c : Int) (n : Nat) (hn : n ≤ 1000) (d : Nat) : ∀ i : Nat, i + d = n → Ev (fun k => maskref1_Fill.l0 k c (List.replicate i c) (n : Int) (i : Int)) (List.replicate n c) := by
  induction d with
  | zero =>
    intro i hi
    obtain rfl : i = n := by omega
    exact Ev.step (fun k => by rw [maskref1_Fill.l0]) (Ev.neg (by omega) (Ev.now _))
  | succ d ih =>
    intro i hi
    have ih := ih (i + 1) (by omega)
    rw [List.replicate_succ'] at ih
    refine Ev.step (fun k => by rw [maskref1_Fill.l0]) (Ev.pos (by omega) (Ev.pos (by rw [List.length_replicate]; omega) ?_))
    rw [w64 (by omega)]
    exact ih
theorem Fill_ev (c : Int) (n : Nat) (hn : n ≤ 1000) : Ev (fun k => maskref1_Fill.f k (n : Int) c) (List.replicate n c) := by
  unfold maskref1_Fill.f
  exact Fill_l0 c n hn n 0 (by omega)
theorem Known_l0 (w v x : Nat) (hw : w ≤ 64) (d : Nat) : ∀ i : Nat, i + d = w → (∀ j, j < i → x.testBit j = false) → Ev (fun k => maskref1_Known.l0 k (vs w v x) (w : Int) (i : Int)) (decide (∀ j, j < w → x.testBit j = false)) := by
  induction d with
  | zero =>
    intro i hi h
    obtain rfl : i = w := by omega
    exact Ev.step (fun k => by rw [maskref1_Known.l0]) (Ev.neg (by omega) ((Ev.now _).eq (decide_eq_true h).symm))
  | succ d ih =>
    intro i hi h
    refine Ev.step (fun k => by rw [maskref1_Known.l0]) (Ev.pos (by omega) (Ev.pos (by omega) (Ev.pos (by rw [vs_length]; omega) ?_)))
    rw [rd_vs _ _ _ _ (by omega), w64 (by omega)]
    cases hb : x.testBit i with
    | true =>
      have e : decide (∀ j, j < w → x.testBit j = false) = false := by
        rw [decide_eq_false_iff_not]; intro h2; have := h2 i (by omega); rw [hb] at this; cases this
      rw [e]
      unfold st stb
      rw [hb]
      cases v.testBit i <;> exact Ev.neg (by decide) (Ev.neg (by decide) (Ev.now _))
    | false =>
      have ih := ih (i + 1) (by omega) (by
        intro j hj
        rcases Nat.lt_or_ge j i with h2 | h2
        · exact h j h2
        · rw [show j = i by omega]; exact hb)
      unfold st stb
      rw [hb]
      cases v.testBit i with
      | true => exact Ev.neg (by decide) (Ev.pos (by decide) ih)
      | false => exact Ev.pos (by decide) ih
theorem Known_ev {w v x : Nat} (hx : x < 2 ^ w) (hw : w ≤ 64) : Ev (fun k => maskref1_Known.f k (vs w v x)) (decide (x = 0)) := by
  unfold maskref1_Known.f
  rw [vs_length]
  refine (Known_l0 w v x hw w 0 (by omega) (by intro j hj; omega)).eq ?_
  rw [decide_eq_decide]
  exact (zero_iff hx).symm
def kb (b : Bool) : Int := if b then 49 else 48
theorem st_kb (v i : Nat) : st v 0 i = kb (v.testBit i) := by unfold st stb kb; rw [Nat.zero_testBit]; rfl
theorem mn_nat (a b : Nat) : mn (a : Int) (b : Int) = ((min a b : Nat) : Int) := by unfold mn; split <;> omega
theorem Count_l0 (w v lim : Nat) (hv : v < 2 ^ w) (hw : w ≤ 64) (hl : lim ≤ 1000) : ∀ i : Nat, i ≤ w → Ev (fun k => maskref1_Count.l0 k (vs w v 0) (lim : Int) ((min (v >>> i) lim : Nat) : Int) ((i : Int) - 1)) ((min v lim : Nat) : Int) := by
  intro i
  induction i with
  | zero =>
    intro hi
    refine Ev.step (fun k => by rw [maskref1_Count.l0]) (Ev.neg (by omega) ((Ev.now _).eq ?_))
    rw [Nat.shiftRight_zero]
    exact w64 (by omega)
  | succ i ih =>
    intro hi
    have ih := ih (by omega)
    have e1 : ((i + 1 : Nat) : Int) - 1 = (i : Int) := by omega
    rw [e1]
    refine Ev.step (fun k => by rw [maskref1_Count.l0]) (Ev.pos (by omega) (Ev.pos (by omega) (Ev.pos (by rw [vs_length]; omega) ?_)))
    rw [rd_vs _ _ _ _ (by omega), w64 (by omega), st_kb, wrap_u64_nat lim (by omega)]
    have hq : v >>> i = 2 * (v >>> (i + 1)) + (if v.testBit i then 1 else 0) := by
      rw [Nat.testBit_eq_decide_div_mod_eq, Nat.shiftRight_eq_div_pow, Nat.shiftRight_eq_div_pow, Nat.pow_succ, ← Nat.div_div_eq_div_mul]
      simp only [decide_eq_true_eq]
      split <;> omega
    have h2 : IntKind.u64.wrap (2 * ((min (v >>> (i + 1)) lim : Nat) : Int)) = ((2 * min (v >>> (i + 1)) lim : Nat) : Int) := by
      have := wrap_u64_nat (2 * min (v >>> (i + 1)) lim) (by omega)
      simpa using this
    rw [h2]
    rw [hq] at ih
    cases hb : v.testBit i with
    | true =>
      refine Ev.pos (by unfold kb; rfl) ?_
      have h3 : IntKind.u64.wrap (((2 * min (v >>> (i + 1)) lim : Nat) : Int) + 1) = ((2 * min (v >>> (i + 1)) lim + 1 : Nat) : Int) := by
        have := wrap_u64_nat (2 * min (v >>> (i + 1)) lim + 1) (by omega)
        simpa using this
      rw [h3, mn_nat]
      rw [hb, if_pos rfl] at ih
      rw [show min (2 * min (v >>> (i + 1)) lim + 1) lim = min (2 * (v >>> (i + 1)) + 1) lim by omega]
      exact ih
    | false =>
      refine Ev.neg (by unfold kb; decide) ?_
      rw [mn_nat]
      rw [hb, if_neg (by decide), Nat.add_zero] at ih
      rw [show min (2 * min (v >>> (i + 1)) lim) lim = min (2 * (v >>> (i + 1))) lim by omega]
      exact ih
theorem Count_ev {w v lim : Nat} (hv : v < 2 ^ w) (hw : w ≤ 64) (hl : lim ≤ 1000) : Ev (fun k => maskref1_Count.f k (vs w v 0) (lim : Int)) ((min v lim : Nat) : Int) := by
  unfold maskref1_Count.f
  rw [vs_length, w64 (by omega)]
  have h := Count_l0 w v lim hv hw hl w (Nat.le_refl _)
  rw [Nat.shiftRight_eq_div_pow, Nat.div_eq_of_lt hv, Nat.zero_min] at h
  exact h
def sgn (w v : Nat) : Int := if v.testBit (w - 1) then (v : Int) - 2 ^ w else v
theorem top_bit {w v : Nat} (h1 : 1 ≤ w) (hv : v < 2 ^ w) : v.testBit (w - 1) = decide (2 ^ (w - 1) ≤ v) := by
  rw [Nat.testBit_eq_decide_div_mod_eq, decide_eq_decide]
  have hp : 2 ^ w = 2 * 2 ^ (w - 1) := by rw [← Nat.pow_succ']; congr 1; omega
  have h0 : 0 < 2 ^ (w - 1) := Nat.pos_of_ne_zero (by simp)
  generalize 2 ^ (w - 1) = q at *
  rw [hp] at hv
  have hd : v / q < 2 := Nat.div_lt_of_lt_mul (by omega)
  constructor
  · intro h
    have h2 : v / q = 1 := by generalize v / q = r at h hd; omega
    have := Nat.div_mul_le_self v q
    rw [h2] at this; omega
  · intro h
    have h2 : 1 ≤ v / q := (Nat.le_div_iff_mul_le h0).2 (by omega)
    omega
theorem sgn_shift {w v : Nat} (h1 : 1 ≤ w) (hw : w ≤ 64) (hv : v < 2 ^ w) : shr .i64 (wrap64 (shl .u64 (v : Int) ((64 : Int) - w))) ((64 : Int) - w) = sgn w v := by
  have hk : (64 : Int) - (w : Int) = ((64 - w : Nat) : Int) := by omega
  rw [hk, shl_n, Nat.shiftLeft_eq]
  have hp : 2 ^ w * 2 ^ (64 - w) = 2 ^ 64 := by rw [← Nat.pow_add]; congr 1; omega
  have hq : 2 ^ w = 2 * 2 ^ (w - 1) := by rw [← Nat.pow_succ']; congr 1; omega
  have hr : (2 : Nat) ^ (w - 1) * 2 ^ (64 - w) = 2 ^ 63 := by rw [← Nat.pow_add]; congr 1; omega
  have h0 : 0 < 2 ^ (64 - w) := Nat.pos_of_ne_zero (by simp)
  have hlt : v * 2 ^ (64 - w) < 2 ^ 64 := by rw [← hp]; exact Nat.mul_lt_mul_of_pos_right hv h0
  rw [Nat.mod_eq_of_lt hlt]
  unfold shr sgn
  rw [top_bit h1 hv, Int.toNat_natCast, show IntKind.i64.bits = 64 from rfl, Nat.min_eq_left (by omega)]
  have hc : ((2 : Int) ^ (64 - w)) = ((2 ^ (64 - w) : Nat) : Int) := by push_cast; rfl
  have hcw : ((2 : Int) ^ w) = ((2 ^ w : Nat) : Int) := by push_cast; rfl
  rw [hc, hcw]
  have h0' : ((2 ^ (64 - w) : Nat) : Int) ≠ 0 := by omega
  by_cases h : 2 ^ (w - 1) ≤ v
  · have hge : 2 ^ 63 ≤ v * 2 ^ (64 - w) := by rw [← hr]; exact Nat.mul_le_mul_right _ h
    have e : wrap64 ((v * 2 ^ (64 - w) : Nat) : Int) = ((v : Int) - ((2 ^ w : Nat) : Int)) * ((2 ^ (64 - w) : Nat) : Int) := by
      rw [Int.sub_mul, ← Int.natCast_mul, ← Int.natCast_mul, hp]
      unfold wrap64; omega
    rw [e, Int.mul_ediv_cancel _ h0', if_pos (by simpa using h)]
  · have hlt2 : v * 2 ^ (64 - w) < 2 ^ 63 := by rw [← hr]; exact Nat.mul_lt_mul_of_pos_right (by omega) h0
    have e : wrap64 ((v * 2 ^ (64 - w) : Nat) : Int) = (v : Int) * ((2 ^ (64 - w) : Nat) : Int) := by
      rw [← Int.natCast_mul]; unfold wrap64; omega
    rw [e, Int.mul_ediv_cancel _ h0', if_neg (by simpa using h)]
theorem BKnown_ev {W : Int} {v x : Nat} (hv : v < 2 ^ 64) (hx : x < 2 ^ 64) : Ev (fun k => bits_Known.f k W (v : Int) (x : Int)) (okB W v x && decide (x = 0)) := by
  unfold bits_Known.f
  refine Ev.bind (valid1 hv hx) ?_
  cases okB W v x with
  | true => exact Ev.pos rfl ((Ev.now _).eq (by rw [Bool.true_and, Bool.eq_iff_iff]; simp))
  | false => exact Ev.neg (by decide) (Ev.now _)
theorem Uint_ev {W : Int} {v x : Nat} (hv : v < 2 ^ 64) (hx : x < 2 ^ 64) : Ev (fun k => bits_Uint.f k W (v : Int) (x : Int)) (if (okB W v x && decide (x = 0)) = true then ((v : Int), true) else (0, false)) := by
  unfold bits_Uint.f
  refine Ev.bind (BKnown_ev hv hx) ?_
  cases (okB W v x && decide (x = 0)) with
  | true => exact Ev.pos rfl (Ev.now _)
  | false => exact Ev.neg (by decide) (Ev.now _)
end Go.Proofs.YtfigblfjogpojaaDoor.PBits
end
