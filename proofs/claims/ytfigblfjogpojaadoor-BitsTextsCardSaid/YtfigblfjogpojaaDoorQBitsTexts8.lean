/- Part 9 of the proof of BitsTextsCardSaid: The law BitsTexts: for all arguments it returns true; each argument reads behind the call as it read before. Out of the plain theorem of YtfigblfjogpojaaDoorPureBitsTexts and the printed contract. -/
import Derived.Test.YtfigblfjogpojaaDoorQBitsTexts7
import Derived.Laws.BitsAllLaws
section
namespace Go.Proofs.YtfigblfjogpojaaDoor.Bz
open Go.RowKit Go.Proofs.YtfigblfjogpojaaDoorW.PrintWords Go.Proofs.YtfigblfjogpojaaDoorW.PrintLast Go.Proofs.YtfigblfjogpojaaDoorW.PrintMore
set_option linter.unusedVariables false
set_option linter.unusedSimpArgs false
theorem wrap_u64_nat (n : Nat) (h : n < 18446744073709551616) : IntKind.u64.wrap (n : Int) = (n : Int) := by
  rw [IntKind.wrap_u64]; omega
theorem and_n (a b : Nat) (ha : a < 2 ^ 64) (hb : b < 2 ^ 64) : Go.bits .and .u64 (a : Int) (b : Int) = ((a &&& b : Nat) : Int) := u64_and_nat a b ha hb
theorem or_n (a b : Nat) (ha : a < 2 ^ 64) (hb : b < 2 ^ 64) : Go.bits .or .u64 (a : Int) (b : Int) = ((a ||| b : Nat) : Int) := u64_or_nat a b ha hb
def andn (a b : Nat) : Nat := a &&& (18446744073709551615 - b)
theorem andNot_n (a b : Nat) (ha : a < 2 ^ 64) (hb : b < 2 ^ 64) : Go.bits .andNot .u64 (a : Int) (b : Int) = ((andn a b : Nat) : Int) := u64_andNot_nat a b ha hb
theorem testBit_andn (a b i : Nat) (ha : a < 2 ^ 64) (hb : b < 2 ^ 64) : (andn a b).testBit i = (a.testBit i && !b.testBit i) := by
  unfold andn
  rw [Nat.testBit_and, show 18446744073709551615 - b = 2 ^ 64 - (b + 1) from by omega, Nat.testBit_two_pow_sub_succ hb]
  by_cases hi : i < 64
  · simp [hi]
  · rw [Nat.testBit_lt_two_pow (Nat.lt_of_lt_of_le ha (Nat.pow_le_pow_right (by decide) (by omega)))]; simp
theorem and_lt {a b n : Nat} (ha : a < 2 ^ n) : a &&& b < 2 ^ n := Nat.lt_of_le_of_lt Nat.and_le_left ha
theorem and_lt' {a b n : Nat} (hb : b < 2 ^ n) : a &&& b < 2 ^ n := Nat.lt_of_le_of_lt Nat.and_le_right hb
theorem or_lt {a b n : Nat} (ha : a < 2 ^ n) (hb : b < 2 ^ n) : a ||| b < 2 ^ n := Nat.or_lt_two_pow ha hb
theorem andn_lt {a b n : Nat} (ha : a < 2 ^ n) : andn a b < 2 ^ n := and_lt ha
theorem shl_n (a i : Nat) : shl .u64 (a : Int) (i : Int) = ((a <<< i % 2 ^ 64 : Nat) : Int) := by
  unfold shl
  rw [IntKind.wrap_u64, Nat.shiftLeft_eq, Int.toNat_natCast, show IntKind.u64.bits = 64 from rfl]
  by_cases h : i ≤ 64
  · rw [Nat.min_eq_left h, Int.natCast_emod, Int.natCast_mul, Int.natCast_pow]; rfl
  · rw [Nat.min_eq_right (by omega)]
    have h1 : a * 2 ^ i % 2 ^ 64 = 0 := by
      rw [show i = 64 + (i - 64) from by omega, Nat.pow_add, Nat.mul_left_comm]
      exact Nat.mul_mod_right _ _
    rw [h1]
    have h2 : (a : Int) * 18446744073709551616 % 18446744073709551616 = 0 := by omega
    exact h2
theorem shr_n (a i : Nat) (ha : a < 2 ^ 64) : shr .u64 (a : Int) (i : Int) = ((a >>> i : Nat) : Int) := by
  unfold shr
  rw [Nat.shiftRight_eq_div_pow, Int.toNat_natCast, show IntKind.u64.bits = 64 from rfl]
  by_cases h : i ≤ 64
  · rw [Nat.min_eq_left h]; push_cast; rfl
  · rw [Nat.min_eq_right (by omega)]
    have h1 : a / 2 ^ i = 0 := Nat.div_eq_of_lt (Nat.lt_of_lt_of_le ha (Nat.pow_le_pow_right (by decide) (by omega)))
    rw [h1]
    have h2 : (a : Int) / 2 ^ 64 = 0 := by omega
    exact h2
theorem testBit_one (i : Nat) : (1 : Nat).testBit i = decide (i = 0) := by
  cases i with
  | zero => rfl
  | succ n => rw [Nat.testBit_succ]; simp
theorem testBit_shl (a i j : Nat) : (a <<< i % 2 ^ 64).testBit j = (decide (j < 64) && (decide (i ≤ j) && a.testBit (j - i))) := by
  rw [Nat.testBit_mod_two_pow, Nat.testBit_shiftLeft]
theorem bitof (a i : Nat) (ha : a < 2 ^ 64) : Go.bits .and .u64 (shr .u64 (a : Int) (i : Int)) 1 = if a.testBit i then 1 else 0 := by
  rw [shr_n a i ha, show (1 : Int) = ((1 : Nat) : Int) from rfl, and_n _ _ (Nat.lt_of_le_of_lt (Nat.shiftRight_le a i) ha) (by decide), Nat.and_one_is_mod, Nat.testBit_eq_decide_div_mod_eq, Nat.shiftRight_eq_div_pow]
  by_cases h : a / 2 ^ i % 2 = 1
  · simp [h]
  · have h0 : a / 2 ^ i % 2 = 0 := by omega
    simp [h0]
theorem one_shl (i : Nat) : shl .u64 1 (i : Int) = ((1 <<< i % 2 ^ 64 : Nat) : Int) := shl_n 1 i
theorem one_shl_lt (i : Nat) : 1 <<< i % 2 ^ 64 < 2 ^ 64 := Nat.mod_lt _ (by decide)
def msk (w : Nat) : Nat := 2 ^ min w 64 - 1
theorem msk_lt (w : Nat) : msk w < 2 ^ 64 := by
  unfold msk
  have : 2 ^ min w 64 ≤ 2 ^ 64 := Nat.pow_le_pow_right (by decide) (Nat.min_le_right _ _)
  have : 0 < 2 ^ min w 64 := Nat.pos_of_ne_zero (by simp)
  omega
theorem testBit_msk (w i : Nat) : (msk w).testBit i = decide (i < w ∧ i < 64) := by
  unfold msk
  rw [Nat.testBit_two_pow_sub_one]
  congr 1
  exact propext Nat.lt_min
theorem msk_lt' {w : Nat} (h : w ≤ 64) : msk w < 2 ^ w := by
  unfold msk
  rw [Nat.min_eq_left h]
  have : 0 < 2 ^ w := Nat.pos_of_ne_zero (by simp)
  omega
theorem lt_of_bits {v w : Nat} (h : ∀ i, w ≤ i → v.testBit i = false) : v < 2 ^ w := Nat.lt_pow_two_of_testBit v (fun i hi => h i hi)
theorem bit_out {v w i : Nat} (h : v < 2 ^ w) (hi : w ≤ i) : v.testBit i = false := Nat.testBit_lt_two_pow (Nat.lt_of_lt_of_le h (Nat.pow_le_pow_right (by decide) hi))
theorem lt64 {v w : Nat} (h : v < 2 ^ w) (hw : w ≤ 64) : v < 2 ^ 64 := Nat.lt_of_lt_of_le h (Nat.pow_le_pow_right (by decide) hw)
def one (c : Int) : Bool := c == 49 || c == 120
def unk (c : Int) : Bool := c == 120 || c == 122
def stb (v x : Bool) : Int := if x then (if v then 120 else 122) else (if v then 49 else 48)
def st (v x i : Nat) : Int := stb (v.testBit i) (x.testBit i)
def isSt (c : Int) : Prop := c = 48 ∨ c = 49 ∨ c = 120 ∨ c = 122
theorem stb_is (v x : Bool) : isSt (stb v x) := by cases v <;> cases x <;> simp [stb, isSt]
theorem one_stb (v x : Bool) : one (stb v x) = v := by cases v <;> cases x <;> simp [stb, one]
theorem unk_stb (v x : Bool) : unk (stb v x) = x := by cases v <;> cases x <;> simp [stb, unk]
def vs (w v x : Nat) : List Int := (List.range w).map (st v x)
theorem vs_length (w v x : Nat) : (vs w v x).length = w := by simp [vs]
theorem vs_getD (w v x i : Nat) (h : i < w) : (vs w v x).getD i 0 = st v x i := by simp [vs, List.getD_eq_getElem?_getD, h]
theorem vs_get (w v x i : Nat) (h : i < w) : (vs w v x)[i]'(by simp [vs, h]) = st v x i := by simp [vs]
theorem vs_succ (w v x : Nat) : vs (w + 1) v x = vs w v x ++ [st v x w] := by simp [vs, List.range_succ]
theorem rd_vs (w v x i : Nat) (h : i < w) : rd (vs w v x) (i : Int) = st v x i := by unfold rd; rw [Int.toNat_natCast]; exact vs_getD w v x i h
def num (f : Int → Bool) (l : List Int) : Nat := (List.range l.length).foldl (fun a i => if f (l.getD i 0) then a ||| 1 <<< i else a) 0
theorem num_go (f : Int → Bool) (l : List Int) (n : Nat) : ∀ i, ((List.range n).foldl (fun a i => if f (l.getD i 0) then a ||| 1 <<< i else a) 0).testBit i = (decide (i < n) && f (l.getD i 0)) := by
  induction n with
  | zero => intro i; simp
  | succ n ih =>
    intro i
    rw [List.range_succ, List.foldl_append]
    simp only [List.foldl_cons, List.foldl_nil]
    by_cases hf : f (l.getD n 0) = true
    · rw [if_pos hf, Nat.testBit_or, ih, Nat.testBit_shiftLeft]
      by_cases h : i = n
      · subst h; rw [hf]; simp
      · by_cases h2 : i < n
        · have h3 : ¬ n ≤ i := by omega
          have h4 : i < n + 1 := by omega
          simp [h2, h3, h4]
        · have h3 : n ≤ i := by omega
          have h4 : ¬ i < n + 1 := by omega
          have h5 : i - n ≠ 0 := by omega
          simp [h2, h3, h4, testBit_one, h5]
    · rw [if_neg hf, ih]
      by_cases h : i = n
      · subst h; rw [Bool.not_eq_true] at hf; rw [hf]; simp
      · by_cases h2 : i < n
        · have h4 : i < n + 1 := by omega
          simp [h2, h4]
        · have h4 : ¬ i < n + 1 := by omega
          simp [h2, h4]
theorem testBit_num (f : Int → Bool) (l : List Int) (i : Nat) : (num f l).testBit i = (decide (i < l.length) && f (l.getD i 0)) := num_go f l l.length i
theorem num_one_vs {w v x : Nat} (hv : v < 2 ^ w) : num one (vs w v x) = v := by
  apply Nat.eq_of_testBit_eq
  intro i
  rw [testBit_num, vs_length]
  by_cases hi : i < w
  · rw [vs_getD _ _ _ _ hi]; simp [hi, st, one_stb]
  · rw [bit_out hv (by omega)]; simp [hi]
theorem num_unk_vs {w v x : Nat} (hx : x < 2 ^ w) : num unk (vs w v x) = x := by
  apply Nat.eq_of_testBit_eq
  intro i
  rw [testBit_num, vs_length]
  by_cases hi : i < w
  · rw [vs_getD _ _ _ _ hi]; simp [hi, st, unk_stb]
  · rw [bit_out hx (by omega)]; simp [hi]
theorem num_eq {l : List Int} {v x : Nat} (hv : v < 2 ^ l.length) (hx : x < 2 ^ l.length) (h : ∀ i, i < l.length → l.getD i 0 = st v x i) : num one l = v ∧ num unk l = x := by
  have e : l = vs l.length v x := by
    apply List.ext_getElem
    · simp [vs]
    · intro i h1 h2
      rw [vs_get _ _ _ i h1]
      have := h i h1
      rwa [List.getD_eq_getElem?_getD, List.getElem?_eq_getElem h1, Option.getD_some] at this
  constructor
  · rw [e]; exact num_one_vs hv
  · rw [e]; exact num_unk_vs hx
end Go.Proofs.YtfigblfjogpojaaDoor.Bz
end
