/- Part 24 of the proof of BitsMadeCardSaid: The law BitsMade: for all arguments it returns true; each argument reads behind the call as it read before. Out of the plain theorem of YtfigblfjogpojaaDoorPureBitsMade and the printed contract. -/
import Derived.Test.YtfigblfjogpojaaDoorQBitsMade21
import Derived.Test.YtfigblfjogpojaaDoorQBitsMade22
import Derived.Laws.BitsLemmas
section
namespace Go.Proofs.YtfigblfjogpojaaDoor.PBits
open Go.RowKit Go.Proofs.YtfigblfjogpojaaDoorW.PrintWords Go.Proofs.YtfigblfjogpojaaDoorW.PrintLast Go.Proofs.YtfigblfjogpojaaDoorW.PrintMore Go.Proofs.YtfigblfjogpojaaDoor.Bz
set_option linter.unusedVariables false
set_option linter.unusedSimpArgs false
set_option linter.unusedSectionVars false
theorem Bit_j0_none (i : Int) (W v x : Int) : Ev (fun k => bits_Bit.j0 k i true W v x) 0 := by
  refine Ev.step (fun k => by rw [bits_Bit.j0]) ?_
  exact Ev.pos rfl (Ev.now _)
theorem Bit_none {W : Int} {v x : Nat} (hv : v < 2 ^ 64) (hx : x < 2 ^ 64) (h : okB W v x = false) (i : Int) : Ev (fun k => bits_Bit.f k W (v : Int) (x : Int) i) 0 := by
  unfold bits_Bit.f
  refine Ev.bind (valid1 hv hx) ?_
  rw [h]
  exact Ev.neg (by decide) (Bit_j0_none _ _ _ _)
def bitS (w v x : Nat) (i : Int) : Int := if 0 ≤ i ∧ i < (w : Int) then st v x i.toNat else 0
theorem Bit_ev {w v x : Nat} (h1 : 1 ≤ w) (h2 : w ≤ 64) (hv : v < 2 ^ w) (hx : x < 2 ^ w) (i : Int) : Ev (fun k => bits_Bit.f k (w : Int) (v : Int) (x : Int) i) (bitS w v x i) := by
  have hv6 := lt64 hv h2
  have hx6 := lt64 hx h2
  have hok : okB (w : Int) v x = true := by
    unfold okB; rw [decide_eq_true_iff, Int.toNat_natCast]; exact ⟨by omega, by omega, hv, hx⟩
  unfold bits_Bit.f bitS
  refine Ev.bind (valid1 hv6 hx6) ?_
  rw [hok]
  refine Ev.pos rfl ?_
  by_cases a : i < 0
  · rw [if_neg (by omega)]
    exact Ev.pos a (Bit_j0_none _ _ _ _)
  · refine Ev.neg a ?_
    by_cases b : i ≥ (w : Int)
    · rw [if_neg (by omega), decide_eq_true b]
      exact Bit_j0_none _ _ _ _
    · rw [if_pos (by omega), decide_eq_false b]
      obtain ⟨n, rfl⟩ := Int.eq_ofNat_of_zero_le (show 0 ≤ i by omega)
      refine Ev.step (fun k => by rw [bits_Bit.j0]) ?_
      refine Ev.neg (by decide) (Ev.pos (by omega) ?_)
      rw [bitof v n hv6, bitof x n hx6, Int.toNat_natCast]
      unfold st stb
      cases v.testBit n <;> cases x.testBit n
      · have e : Go.bits .or .u64 (if false = true then 1 else 0) (IntKind.u64.wrap ((if false = true then 1 else 0) * 2)) = 0 := by decide
        rw [e]; exact Ev.pos (by decide) (Ev.pos (by decide) ((Ev.now _).eq rfl))
      · have e : Go.bits .or .u64 (if false = true then 1 else 0) (IntKind.u64.wrap ((if true = true then 1 else 0) * 2)) = 2 := by decide
        rw [e]; exact Ev.pos (by decide) (Ev.pos (by decide) ((Ev.now _).eq rfl))
      · have e : Go.bits .or .u64 (if true = true then 1 else 0) (IntKind.u64.wrap ((if false = true then 1 else 0) * 2)) = 1 := by decide
        rw [e]; exact Ev.pos (by decide) (Ev.pos (by decide) ((Ev.now _).eq rfl))
      · have e : Go.bits .or .u64 (if true = true then 1 else 0) (IntKind.u64.wrap ((if true = true then 1 else 0) * 2)) = 3 := by decide
        rw [e]; exact Ev.pos (by decide) (Ev.pos (by decide) ((Ev.now _).eq rfl))
def allS (w : Nat) (c : Int) : Int × Int × Int := if c = 48 then ((w : Int), 0, 0) else if c = 49 then ((w : Int), ((msk w : Nat) : Int), 0) else if c = 120 then ((w : Int), ((msk w : Nat) : Int), ((msk w : Nat) : Int)) else if c = 122 then ((w : Int), 0, ((msk w : Nat) : Int)) else (0, 0, 0)
theorem All_is {w : Nat} (h1 : 1 ≤ w) (h2 : w ≤ 64) (c : Int) : Ev (fun k => bits_All.f k (w : Int) c) (allS w c) := by
  unfold bits_All.f allS
  refine Ev.neg (by omega) ?_
  rw [decide_eq_false (show ¬ ((w : Int) > 64) by omega)]
  refine Ev.step (fun k => by rw [bits_All.j0]) ?_
  refine Ev.neg (by decide) (Ev.bnd (mask_is w) ?_)
  by_cases a1 : c = 48
  · exact Ev.pos a1 ((Ev.now _).eq (by rw [if_pos a1]))
  refine Ev.neg a1 ?_
  by_cases a2 : c = 49
  · exact Ev.pos a2 ((Ev.now _).eq (by rw [if_neg a1, if_pos a2]))
  refine Ev.neg a2 ?_
  by_cases a3 : c = 120
  · exact Ev.pos a3 ((Ev.now _).eq (by rw [if_neg a1, if_neg a2, if_pos a3]))
  refine Ev.neg a3 ?_
  by_cases a4 : c = 122
  · exact Ev.pos a4 ((Ev.now _).eq (by rw [if_neg a1, if_neg a2, if_neg a3, if_pos a4]))
  · exact Ev.neg a4 ((Ev.now _).eq (by rw [if_neg a1, if_neg a2, if_neg a3, if_neg a4]))
theorem All_out {w : Int} (h : w < 1 ∨ w > 64) (c : Int) : Ev (fun k => bits_All.f k w c) (0, 0, 0) := by
  unfold bits_All.f
  have j : Ev (fun k => bits_All.j0 k w c true) (0, 0, 0) := by
    refine Ev.step (fun k => by rw [bits_All.j0]) ?_
    exact Ev.pos rfl (Ev.now _)
  by_cases a : w < 1
  · exact Ev.pos a j
  · refine Ev.neg a ?_
    rw [decide_eq_true (show w > 64 by omega)]
    exact j
theorem i64_and1 (n : Int) : Go.bits .and .i64 n 1 = n % 2 := by
  have h1 : (BitVec.ofInt 64 1).toNat = 2 ^ 1 - 1 := by decide
  have key : (BitVec.ofInt 64 n &&& BitVec.ofInt 64 1).toNat = (n % ((2 ^ 64 : Nat) : Int)).toNat % 2 ^ 1 := by
    rw [BitVec.toNat_and, BitVec.toNat_ofInt, h1, Nat.and_two_pow_sub_one_eq_mod]
  show IntKind.i64.wrap ((BitVec.ofInt 64 n &&& BitVec.ofInt 64 1).toNat : Nat) = n % 2
  rw [key, IntKind.wrap_i64]
  omega
theorem sgn_bit {w v k : Nat} (h1 : 1 ≤ w) (hv : v < 2 ^ w) (hk : k < 64) : Go.bits .and .i64 (shr .i64 (sgn w v) (k : Int)) 1 = if v.testBit (min k (w - 1)) then 1 else 0 := by
  rw [i64_and1]
  unfold shr
  rw [Int.toNat_natCast, show min k IntKind.i64.bits = k from Nat.min_eq_left (Nat.le_of_lt hk)]
  have hn : ∀ j, ((v : Int) / 2 ^ j) % 2 = if v.testBit j then 1 else 0 := by
    intro j
    have e : ((v : Int) / 2 ^ j) = ((v / 2 ^ j : Nat) : Int) := by push_cast; rfl
    rw [e, Nat.testBit_eq_decide_div_mod_eq]
    by_cases h : v / 2 ^ j % 2 = 1
    · rw [decide_eq_true h, if_pos rfl]; omega
    · rw [decide_eq_false h, if_neg (by decide)]; omega
  unfold sgn
  cases ht : v.testBit (w - 1) with
  | false =>
    rw [if_neg (by decide), hn]
    rcases Nat.lt_or_ge k w with h | h
    · rw [Nat.min_eq_left (by omega)]
    · rw [Nat.min_eq_right (by omega), ht, bit_out hv h]
  | true =>
    rw [if_pos rfl]
    rcases Nat.lt_or_ge k w with h | h
    · rw [Nat.min_eq_left (by omega), ← hn k]
      obtain ⟨d, rfl⟩ : ∃ d, w = k + (d + 1) := ⟨w - k - 1, by omega⟩
      have e : (v : Int) - 2 ^ (k + (d + 1)) = (v : Int) + 2 ^ k * (-(2 * 2 ^ d)) := by
        rw [Int.pow_add, Int.pow_succ, Int.mul_neg, Int.mul_comm ((2 : Int) ^ d) 2]; omega
      rw [e, Int.add_mul_ediv_left _ _ (Int.pow_ne_zero (by decide))]
      generalize (v : Int) / 2 ^ k = a
      generalize (2 : Int) ^ d = b
      omega
    · rw [Nat.min_eq_right (by omega), ht, if_pos rfl]
      have hp : (2 : Int) ^ w ≤ 2 ^ k := by
        have := Nat.pow_le_pow_right (show 0 < 2 by decide) h
        have e1 : (2 : Int) ^ w = ((2 ^ w : Nat) : Int) := by push_cast; rfl
        have e2 : (2 : Int) ^ k = ((2 ^ k : Nat) : Int) := by push_cast; rfl
        rw [e1, e2]; omega
      have hvw : (v : Int) < 2 ^ w := by
        have e1 : (2 : Int) ^ w = ((2 ^ w : Nat) : Int) := by push_cast; rfl
        rw [e1]; omega
      have hq : ((v : Int) - 2 ^ w) / 2 ^ k = -1 := by
        have hb : (0 : Int) < 2 ^ k := Int.pow_pos (by decide)
        have q1 : -1 ≤ ((v : Int) - 2 ^ w) / 2 ^ k := (Int.le_ediv_iff_mul_le hb).2 (by omega)
        have q2 : ((v : Int) - 2 ^ w) / 2 ^ k < 0 := (Int.ediv_lt_iff_lt_mul hb).2 (by omega)
        omega
      rw [hq]; rfl
end Go.Proofs.YtfigblfjogpojaaDoor.PBits
end
