/- Part 22 of the proof of BitsMadeCardSaid: The law BitsMade: for all arguments it returns true; each argument reads behind the call as it read before. Out of the plain theorem of YtfigblfjogpojaaDoorPureBitsMade and the printed contract. -/
import Derived.Test.YtfigblfjogpojaaDoorQBitsMade19
import Derived.Test.YtfigblfjogpojaaDoorQBitsMade20
import Derived.Test.YtfigblfjogpojaaDoorQBitsMade15
import Derived.Test.YtfigblfjogpojaaDoorQBitsMade14
section
namespace Go.Proofs.YtfigblfjogpojaaDoor.PBits
open Go.RowKit Go.Proofs.YtfigblfjogpojaaDoorW.PrintWords Go.Proofs.YtfigblfjogpojaaDoorW.PrintLast Go.Proofs.YtfigblfjogpojaaDoorW.PrintMore Go.Proofs.YtfigblfjogpojaaDoor.Bz
set_option linter.unusedVariables false
set_option linter.unusedSimpArgs false
theorem Fill_l0 (c : Int) (n : Nat) (hn : n ≤ 1000) (d : Nat) : ∀ i : Nat, i + d = n → Ev (fun k => maskref1_Fill.l0 k c (List.replicate i c) (n : Int) (i : Int)) (List.replicate n c) := by
  induction d with
  | zero =>
    intro i hi
    obtain rfl : i = n := by omega
    exact Ev.step (fun k => by rw [maskref1_Fill.l0]) (Ev.neg (by omega) (Ev.now _))
  | succ d ih =>
    intro i hi
    have ih := ih (i + 1) (by omega)
    rw [List.replicate_succ'] at ih
    refine Ev.step (fun k => by rw [maskref1_Fill.l0]) (Ev.pos (by omega) (Ev.pos (by rw [List.length_replicate]; omega) ?_))
    rw [w64 (by omega)]
    exact ih
theorem Fill_ev (c : Int) (n : Nat) (hn : n ≤ 1000) : Ev (fun k => maskref1_Fill.f k (n : Int) c) (List.replicate n c) := by
  unfold maskref1_Fill.f
  exact Fill_l0 c n hn n 0 (by omega)
theorem Known_l0 (w v x : Nat) (hw : w ≤ 64) (d : Nat) : ∀ i : Nat, i + d = w → (∀ j, j < i → x.testBit j = false) → Ev (fun k => maskref1_Known.l0 k (vs w v x) (w : Int) (i : Int)) (decide (∀ j, j < w → x.testBit j = false)) := by
  induction d with
  | zero =>
    intro i hi h
    obtain rfl : i = w := by omega
    exact Ev.step (fun k => by rw [maskref1_Known.l0]) (Ev.neg (by omega) ((Ev.now _).eq (decide_eq_true h).symm))
  | succ d ih =>
    intro i hi h
    refine Ev.step (fun k => by rw [maskref1_Known.l0]) (Ev.pos (by omega) (Ev.pos (by omega) (Ev.pos (by rw [vs_length]; omega) ?_)))
    rw [rd_vs _ _ _ _ (by omega), w64 (by omega)]
    cases hb : x.testBit i with
    | true =>
      have e : decide (∀ j, j < w → x.testBit j = false) = false := by
        rw [decide_eq_false_iff_not]; intro h2; have := h2 i (by omega); rw [hb] at this; cases this
      rw [e]
      unfold st stb
      rw [hb]
      cases v.testBit i <;> exact Ev.neg (by decide) (Ev.neg (by decide) (Ev.now _))
    | false =>
      have ih := ih (i + 1) (by omega) (by
        intro j hj
        rcases Nat.lt_or_ge j i with h2 | h2
        · exact h j h2
        · rw [show j = i by omega]; exact hb)
      unfold st stb
      rw [hb]
      cases v.testBit i with
      | true => exact Ev.neg (by decide) (Ev.pos (by decide) ih)
      | false => exact Ev.pos (by decide) ih
theorem Known_ev {w v x : Nat} (hx : x < 2 ^ w) (hw : w ≤ 64) : Ev (fun k => maskref1_Known.f k (vs w v x)) (decide (x = 0)) := by
  unfold maskref1_Known.f
  rw [vs_length]
  refine (Known_l0 w v x hw w 0 (by omega) (by intro j hj; omega)).eq ?_
  rw [decide_eq_decide]
  exact (zero_iff hx).symm
def sgn (w v : Nat) : Int := if v.testBit (w - 1) then (v : Int) - 2 ^ w else v
theorem top_bit {w v : Nat} (h1 : 1 ≤ w) (hv : v < 2 ^ w) : v.testBit (w - 1) = decide (2 ^ (w - 1) ≤ v) := by
  rw [Nat.testBit_eq_decide_div_mod_eq, decide_eq_decide]
  have hp : 2 ^ w = 2 * 2 ^ (w - 1) := by rw [← Nat.pow_succ']; congr 1; omega
  have h0 : 0 < 2 ^ (w - 1) := Nat.pos_of_ne_zero (by simp)
  generalize 2 ^ (w - 1) = q at *
  rw [hp] at hv
  have hd : v / q < 2 := Nat.div_lt_of_lt_mul (by omega)
  constructor
  · intro h
    have h2 : v / q = 1 := by generalize v / q = r at h hd; omega
    have := Nat.div_mul_le_self v q
    rw [h2] at this; omega
  · intro h
    have h2 : 1 ≤ v / q := (Nat.le_div_iff_mul_le h0).2 (by omega)
    omega
theorem sgn_shift {w v : Nat} (h1 : 1 ≤ w) (hw : w ≤ 64) (hv : v < 2 ^ w) : shr .i64 (wrap64 (shl .u64 (v : Int) ((64 : Int) - w))) ((64 : Int) - w) = sgn w v := by
  have hk : (64 : Int) - (w : Int) = ((64 - w : Nat) : Int) := by omega
  rw [hk, shl_n, Nat.shiftLeft_eq]
  have hp : 2 ^ w * 2 ^ (64 - w) = 2 ^ 64 := by rw [← Nat.pow_add]; congr 1; omega
  have hq : 2 ^ w = 2 * 2 ^ (w - 1) := by rw [← Nat.pow_succ']; congr 1; omega
  have hr : (2 : Nat) ^ (w - 1) * 2 ^ (64 - w) = 2 ^ 63 := by rw [← Nat.pow_add]; congr 1; omega
  have h0 : 0 < 2 ^ (64 - w) := Nat.pos_of_ne_zero (by simp)
  have hlt : v * 2 ^ (64 - w) < 2 ^ 64 := by rw [← hp]; exact Nat.mul_lt_mul_of_pos_right hv h0
  rw [Nat.mod_eq_of_lt hlt]
  unfold shr sgn
  rw [top_bit h1 hv, Int.toNat_natCast, show IntKind.i64.bits = 64 from rfl, Nat.min_eq_left (by omega)]
  have hc : ((2 : Int) ^ (64 - w)) = ((2 ^ (64 - w) : Nat) : Int) := by push_cast; rfl
  have hcw : ((2 : Int) ^ w) = ((2 ^ w : Nat) : Int) := by push_cast; rfl
  rw [hc, hcw]
  have h0' : ((2 ^ (64 - w) : Nat) : Int) ≠ 0 := by omega
  by_cases h : 2 ^ (w - 1) ≤ v
  · have hge : 2 ^ 63 ≤ v * 2 ^ (64 - w) := by rw [← hr]; exact Nat.mul_le_mul_right _ h
    have e : wrap64 ((v * 2 ^ (64 - w) : Nat) : Int) = ((v : Int) - ((2 ^ w : Nat) : Int)) * ((2 ^ (64 - w) : Nat) : Int) := by
      rw [Int.sub_mul, ← Int.natCast_mul, ← Int.natCast_mul, hp]
      unfold wrap64; omega
    rw [e, Int.mul_ediv_cancel _ h0', if_pos (by simpa using h)]
  · have hlt2 : v * 2 ^ (64 - w) < 2 ^ 63 := by rw [← hr]; exact Nat.mul_lt_mul_of_pos_right (by omega) h0
    have e : wrap64 ((v * 2 ^ (64 - w) : Nat) : Int) = (v : Int) * ((2 ^ (64 - w) : Nat) : Int) := by
      rw [← Int.natCast_mul]; unfold wrap64; omega
    rw [e, Int.mul_ediv_cancel _ h0', if_neg (by simpa using h)]
theorem BKnown_ev {W : Int} {v x : Nat} (hv : v < 2 ^ 64) (hx : x < 2 ^ 64) : Ev (fun k => bits_Known.f k W (v : Int) (x : Int)) (okB W v x && decide (x = 0)) := by
  unfold bits_Known.f
  refine Ev.bind (valid1 hv hx) ?_
  cases okB W v x with
  | true => exact Ev.pos rfl ((Ev.now _).eq (by rw [Bool.true_and, Bool.eq_iff_iff]; simp))
  | false => exact Ev.neg (by decide) (Ev.now _)
theorem Uint_ev {W : Int} {v x : Nat} (hv : v < 2 ^ 64) (hx : x < 2 ^ 64) : Ev (fun k => bits_Uint.f k W (v : Int) (x : Int)) (if (okB W v x && decide (x = 0)) = true then ((v : Int), true) else (0, false)) := by
  unfold bits_Uint.f
  refine Ev.bind (BKnown_ev hv hx) ?_
  cases (okB W v x && decide (x = 0)) with
  | true => exact Ev.pos rfl (Ev.now _)
  | false => exact Ev.neg (by decide) (Ev.now _)
theorem Int_ev {W : Int} {v x : Nat} (hv : v < 2 ^ 64) (hx : x < 2 ^ 64) : Ev (fun k => bits_Int.f k W (v : Int) (x : Int)) (if (okB W v x && decide (x = 0)) = true then (sgn W.toNat v, true) else (0, false)) := by
  unfold bits_Int.f
  refine Ev.bind (BKnown_ev hv hx) ?_
  cases hb : (okB W v x && decide (x = 0)) with
  | true =>
    rw [Bool.and_eq_true] at hb
    obtain ⟨w, rfl, h1, h2, h3, h4⟩ := okB_nat hb.1
    refine Ev.pos rfl ?_
    rw [w64 (by omega)]
    refine Ev.pos (by omega) ((Ev.now _).eq ?_)
    rw [sgn_shift h1 h2 h3, Int.toNat_natCast]; rfl
  | false => exact Ev.neg (by decide) (Ev.now _)
end Go.Proofs.YtfigblfjogpojaaDoor.PBits
end
