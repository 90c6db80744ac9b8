/- Part 26 of the proof of BitsShiftedCardSaid: The law BitsShifted: for all arguments it returns true; each argument reads behind the call as it read before. Out of the plain theorem of YtfigblfjogpojaaDoorPureBitsShifted and the printed contract. -/
import Derived.Test.YtfigblfjogpojaaDoorQBitsShifted24
section
namespace Go.Proofs.YtfigblfjogpojaaDoor.PBits
open Go.RowKit Go.Proofs.YtfigblfjogpojaaDoorW.PrintWords Go.Proofs.YtfigblfjogpojaaDoorW.PrintLast Go.Proofs.YtfigblfjogpojaaDoorW.PrintMore Go.Proofs.YtfigblfjogpojaaDoor.Bz
set_option linter.unusedVariables false
set_option linter.unusedSimpArgs false
def sx (w v : Nat) : Nat := if v.testBit (w - 1) then 2 ^ w * (2 ^ (64 - w) - 1) + v else v
theorem sx_bit {w v i : Nat} (h1 : 1 ≤ w) (hw : w ≤ 64) (hv : v < 2 ^ w) (hi : i < 64) : (sx w v).testBit i = if i < w then v.testBit i else v.testBit (w - 1) := by
  unfold sx
  by_cases ht : v.testBit (w - 1) = true
  · rw [if_pos ht, Nat.testBit_two_pow_mul_add _ hv, Nat.testBit_two_pow_sub_one, ht]
    split
    · rfl
    · rw [decide_eq_true_iff]; omega
  · rw [if_neg ht]
    split
    · rfl
    · rw [Bool.not_eq_true] at ht
      rw [ht, bit_out hv (by omega)]
theorem sx_lt {w v : Nat} (hw : w ≤ 64) (hv : v < 2 ^ w) : sx w v < 2 ^ 64 := by
  unfold sx
  split
  · have hp : 2 ^ w * 2 ^ (64 - w) = 2 ^ 64 := by rw [← Nat.pow_add]; congr 1; omega
    have h0 : 0 < 2 ^ (64 - w) := Nat.pos_of_ne_zero (by simp)
    have : 2 ^ w * (2 ^ (64 - w) - 1) = 2 ^ 64 - 2 ^ w := by rw [Nat.mul_sub, hp, Nat.mul_one]
    have : 2 ^ w ≤ 2 ^ 64 := Nat.pow_le_pow_right (by decide) hw
    omega
  · exact lt64 hv hw
theorem wrap_sgn {w v : Nat} (hw : w ≤ 64) (hv : v < 2 ^ w) : IntKind.u64.wrap (sgn w v) = ((sx w v : Nat) : Int) := by
  have h6 := lt64 hv hw
  unfold sgn sx
  split
  · have hp : 2 ^ w * 2 ^ (64 - w) = 2 ^ 64 := by rw [← Nat.pow_add]; congr 1; omega
    have e : 2 ^ w * (2 ^ (64 - w) - 1) = 2 ^ 64 - 2 ^ w := by rw [Nat.mul_sub, hp, Nat.mul_one]
    have h2 : 2 ^ w ≤ 2 ^ 64 := Nat.pow_le_pow_right (by decide) hw
    have hc : ((2 : Int) ^ w) = ((2 ^ w : Nat) : Int) := by push_cast; rfl
    rw [IntKind.wrap_u64, hc, e]
    generalize 2 ^ w = q at *
    omega
  · exact wrap_u64_nat v h6
def reS (wb v x : Nat) (signed : Bool) (i : Nat) : Int := if i < wb then st v x i else if signed then st v x (wb - 1) else 48
theorem Resize_gives {wb v x w : Nat} (b1 : 1 ≤ wb) (b2 : wb ≤ 64) (hv : v < 2 ^ wb) (hx : x < 2 ^ wb) (h1 : 1 ≤ w) (h2 : w ≤ 64) (signed : Bool) :
    ∃ V X, Gives (fun k => bits_Resize.f k (wb : Int) (v : Int) (x : Int) (w : Int) signed) w (reS wb v x signed) V X := by
  have v6 := lt64 hv b2
  have x6 := lt64 hx b2
  have m := msk_lt' h2
  have enter : ∀ r : Int × Int × Int, Ev (fun k => bits_Resize.j0 k (w : Int) signed false (wb : Int) (v : Int) (x : Int)) r → Ev (fun k => bits_Resize.f k (wb : Int) (v : Int) (x : Int) (w : Int) signed) r := by
    intro r hr
    unfold bits_Resize.f
    refine Ev.bind (valid1 v6 x6) ?_
    rw [okB_of b1 b2 hv hx]
    refine Ev.pos rfl (Ev.neg (by omega) ?_)
    rw [decide_eq_false (by omega)]
    exact hr
  have j1 : ∀ p q : Nat, p < 2 ^ 64 → q < 2 ^ 64 → Ev (fun k => bits_Resize.j1 k (w : Int) (p : Int) (q : Int)) ((w : Int), ((p &&& msk w : Nat) : Int), ((q &&& msk w : Nat) : Int)) := by
    intro p q hp hq
    refine Ev.step (fun k => by rw [bits_Resize.j1]) ?_
    refine Ev.bnd (mask_is w) (Ev.bnd (mask_is w) ((Ev.now _).eq ?_))
    rw [and_n _ _ hp (msk_lt w), and_n _ _ hq (msk_lt w)]
  cases signed with
  | true =>
    refine ⟨sx wb v &&& msk w, sx wb x &&& msk w, enter _ ?_, and_lt' m, and_lt' m, ?_⟩
    · refine Ev.step (fun k => by rw [bits_Resize.j0]) (Ev.neg (by decide) (Ev.pos rfl ?_))
      rw [w64 (n := 64 - (wb : Int)) (by omega)]
      refine Ev.pos (by omega) ?_
      rw [sgn_shift b1 b2 hv, sgn_shift b1 b2 hx, wrap_sgn b2 hv, wrap_sgn b2 hx]
      exact j1 _ _ (sx_lt b2 hv) (sx_lt b2 hx)
    · intro i hi
      unfold reS st
      rw [Nat.testBit_and, Nat.testBit_and, bit_msk hi h2, Bool.and_true, Bool.and_true, sx_bit b1 b2 hv (by omega), sx_bit b1 b2 hx (by omega)]
      by_cases h : i < wb
      · simp [h]
      · simp [h]
  | false =>
    refine ⟨v &&& msk w, x &&& msk w, enter _ ?_, and_lt' m, and_lt' m, ?_⟩
    · exact Ev.step (fun k => by rw [bits_Resize.j0]) (Ev.neg (by decide) (Ev.neg (by decide) (j1 v x v6 x6)))
    · intro i hi
      unfold reS st
      rw [Nat.testBit_and, Nat.testBit_and, bit_msk hi h2, Bool.and_true, Bool.and_true]
      by_cases h : i < wb
      · simp [h]
      · simp only [h, if_false]
        rw [bit_out hv (by omega), bit_out hx (by omega)]; rfl
def lst (f : Nat → Int) (n : Nat) : List Int := (List.range n).map f
theorem lst_length (f : Nat → Int) (n : Nat) : (lst f n).length = n := by simp [lst]
theorem lst_getD (f : Nat → Int) (n i : Nat) (h : i < n) : (lst f n).getD i 0 = f i := by simp [lst, List.getD_eq_getElem?_getD, h]
theorem lst_succ (f : Nat → Int) (n : Nat) : lst f (n + 1) = lst f n ++ [f n] := by simp [lst, List.range_succ]
theorem All_x {w : Nat} (h1 : 1 ≤ w) (h2 : w ≤ 64) : Gives (fun k => bits_All.f k (w : Int) 120) w (fun _ => 120) (msk w) (msk w) := by
  refine ⟨?_, msk_lt' h2, msk_lt' h2, ?_⟩
  · unfold bits_All.f
    refine Ev.neg (by omega) ?_
    rw [decide_eq_false (by omega)]
    refine Ev.step (fun k => by rw [bits_All.j0]) (Ev.neg (by decide) ?_)
    exact Ev.bnd (mask_is w) (Ev.neg (by decide) (Ev.neg (by decide) (Ev.pos rfl (Ev.now _))))
  · intro i hi
    unfold st
    rw [bit_msk hi h2]; rfl
end Go.Proofs.YtfigblfjogpojaaDoor.PBits
end
