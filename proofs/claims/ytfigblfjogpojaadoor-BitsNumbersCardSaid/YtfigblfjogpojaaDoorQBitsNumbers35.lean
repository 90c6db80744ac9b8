/- Part 36 of the proof of BitsNumbersCardSaid: The law BitsNumbers: for all arguments it returns true; each argument reads behind the call as it read before. Out of the plain theorem of YtfigblfjogpojaaDoorPureBitsNumbers and the printed contract. -/
import Derived.Test.YtfigblfjogpojaaDoorQBitsNumbers34
section
namespace Go.Proofs.YtfigblfjogpojaaDoor.PBits
open Go.RowKit Go.Proofs.YtfigblfjogpojaaDoorW.PrintWords Go.Proofs.YtfigblfjogpojaaDoorW.PrintLast Go.Proofs.YtfigblfjogpojaaDoorW.PrintMore Go.Proofs.YtfigblfjogpojaaDoor.Bz
set_option linter.unusedVariables false
set_option linter.unusedSimpArgs false
def lowN (w : Nat) (z : Int) : Nat := (z % ((2 ^ w : Nat) : Int)).toNat
theorem lowN_nat (w u : Nat) : lowN w (u : Int) = u % 2 ^ w := by unfold lowN; rw [← Int.natCast_emod, Int.toNat_natCast]
theorem Of_z {w : Nat} (h1 : 1 ≤ w) (h2 : w ≤ 64) (z : Int) : bits_Of.f (w : Int) (IntKind.u64.wrap z) = some ((w : Int), ((lowN w z : Nat) : Int), 0) := by
  have e : IntKind.u64.wrap z = (((z % 18446744073709551616).toNat : Nat) : Int) := by rw [IntKind.wrap_u64]; omega
  have h := Of_is h1 h2 (u := (z % 18446744073709551616).toNat) (by omega)
  rw [← e] at h
  rw [h]
  congr 3
  have hp : 2 ^ w * 2 ^ (64 - w) = 2 ^ 64 := by rw [← Nat.pow_add]; congr 1; omega
  have e2 : (((z % 18446744073709551616).toNat % 2 ^ w : Nat) : Int) = z % ((2 ^ w : Nat) : Int) := by
    rw [Int.natCast_emod, Int.toNat_of_nonneg (by omega)]
    rw [show (18446744073709551616 : Int) = ((2 ^ w * 2 ^ (64 - w) : Nat) : Int) by rw [hp]; rfl, Int.natCast_mul]
    exact Int.emod_emod_of_dvd z (Int.dvd_mul_right _ _)
  have hpos : 0 < 2 ^ w := Nat.pos_of_ne_zero (by simp)
  have h0 : 0 ≤ z % ((2 ^ w : Nat) : Int) := Int.emod_nonneg _ (by omega)
  have e3 : ((lowN w z : Nat) : Int) = z % ((2 ^ w : Nat) : Int) := by unfold lowN; exact Int.toNat_of_nonneg h0
  exact e2.trans e3.symm
theorem wrap_wrap (z : Int) : IntKind.u64.wrap (wrap64 z) = IntKind.u64.wrap z := by
  rw [IntKind.wrap_u64, IntKind.wrap_u64]; unfold wrap64; omega
theorem low_ng {w q : Nat} (hq : q < 2 ^ w) : lowN w (-(q : Int)) = (2 ^ w - q) % 2 ^ w := by
  rw [← lowN_nat]
  unfold lowN
  congr 1
  rw [show ((2 ^ w - q : Nat) : Int) = -(q : Int) + ((2 ^ w : Nat) : Int) by omega, Int.add_emod_right]
theorem quo_is {w a b : Nat} (h1 : 1 ≤ w) (ha : a < 2 ^ w) (hb : b < 2 ^ w) (hb0 : 0 < b) : lowN w (Int.tdiv (sgn w a) (sgn w b)) = quoN w a b (a.testBit (w - 1)) (b.testBit (w - 1)) % 2 ^ w := by
  have ka : a.testBit (w - 1) = true → 0 < a := fun h => Nat.pos_of_ne_zero (by rintro rfl; rw [Nat.zero_testBit] at h; cases h)
  rw [sgn_abs h1 ha, sgn_abs h1 hb]
  unfold quoN
  cases hna : a.testBit (w - 1) <;> cases hnb : b.testBit (w - 1) <;> simp only [Bool.false_eq_true, if_false, if_true]
  · rw [← Int.ofNat_tdiv, lowN_nat]; rfl
  · rw [Int.tdiv_neg, ← Int.ofNat_tdiv]
    exact low_ng (Nat.lt_of_le_of_lt (Nat.div_le_self _ _) (ngN_lt (fun h => by cases h) ha))
  · rw [Int.neg_tdiv, ← Int.ofNat_tdiv]
    exact low_ng (Nat.lt_of_le_of_lt (Nat.div_le_self _ _) (ngN_lt (fun _ => ka hna) ha))
  · rw [Int.neg_tdiv, Int.tdiv_neg, Int.neg_neg, ← Int.ofNat_tdiv, lowN_nat]; rfl
theorem rem_is {w a b : Nat} (h1 : 1 ≤ w) (ha : a < 2 ^ w) (hb : b < 2 ^ w) (hb0 : 0 < b) : lowN w (Int.tmod (sgn w a) (sgn w b)) = remN w a b (a.testBit (w - 1)) (b.testBit (w - 1)) % 2 ^ w := by
  have ka : a.testBit (w - 1) = true → 0 < a := fun h => Nat.pos_of_ne_zero (by rintro rfl; rw [Nat.zero_testBit] at h; cases h)
  rw [sgn_abs h1 ha, sgn_abs h1 hb]
  unfold remN
  cases hna : a.testBit (w - 1) <;> cases hnb : b.testBit (w - 1) <;> simp only [Bool.false_eq_true, if_false, if_true]
  · rw [← Int.ofNat_tmod, lowN_nat]; rfl
  · rw [Int.tmod_neg, ← Int.ofNat_tmod, lowN_nat]; rfl
  · rw [Int.neg_tmod, ← Int.ofNat_tmod]
    exact low_ng (Nat.lt_of_le_of_lt (Nat.mod_le _ _) (ngN_lt (fun _ => ka hna) ha))
  · rw [Int.neg_tmod, Int.tmod_neg, ← Int.ofNat_tmod]
    exact low_ng (Nat.lt_of_le_of_lt (Nat.mod_le _ _) (ngN_lt (fun _ => ka hna) ha))
end Go.Proofs.YtfigblfjogpojaaDoor.PBits
end
