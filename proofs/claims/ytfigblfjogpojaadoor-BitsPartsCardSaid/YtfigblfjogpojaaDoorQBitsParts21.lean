/- Part 22 of the proof of BitsPartsCardSaid: The law BitsParts: for all arguments it returns true; each argument reads behind the call as it read before. Out of the plain theorem of YtfigblfjogpojaaDoorPureBitsParts and the printed contract. -/
import Derived.Test.YtfigblfjogpojaaDoorQBitsParts19
import Derived.Test.YtfigblfjogpojaaDoorQBitsParts20
import Derived.Test.YtfigblfjogpojaaDoorQBitsParts18
section
namespace Go.Proofs.YtfigblfjogpojaaDoor.PBits
open Go.RowKit Go.Proofs.YtfigblfjogpojaaDoorW.PrintWords Go.Proofs.YtfigblfjogpojaaDoorW.PrintLast Go.Proofs.YtfigblfjogpojaaDoorW.PrintMore Go.Proofs.YtfigblfjogpojaaDoor.Bz
set_option linter.unusedVariables false
set_option linter.unusedSimpArgs false
theorem bit_msk {w i : Nat} (hi : i < w) (hw : w ≤ 64) : (msk w).testBit i = true := by rw [testBit_msk]; simp; exact ⟨hi, by omega⟩
theorem okB_w {W : Int} {v x : Nat} (h : okB W v x = true) : W = ((W.toNat : Nat) : Int) ∧ 1 ≤ W.toNat ∧ W.toNat ≤ 64 ∧ v < 2 ^ W.toNat ∧ x < 2 ^ W.toNat := by
  obtain ⟨w, rfl, h1, h2, h3, h4⟩ := okB_nat h
  rw [Int.toNat_natCast]; exact ⟨rfl, h1, h2, h3, h4⟩
theorem Slice_gives {wb v x at_ w : Nat} (hb : wb ≤ 64) (hv : v < 2 ^ wb) (hx : x < 2 ^ wb) (h1 : 1 ≤ w) (h2 : at_ + w ≤ wb) :
    Gives (fun k => bits_Slice.f k (wb : Int) (v : Int) (x : Int) (at_ : Int) (w : Int)) w (fun i => st v x (at_ + i)) (v >>> at_ &&& msk w) (x >>> at_ &&& msk w) := by
  have v6 := lt64 hv hb
  have x6 := lt64 hx hb
  have m := msk_lt' (show w ≤ 64 by omega)
  refine ⟨?_, and_lt' m, and_lt' m, ?_⟩
  · unfold bits_Slice.f
    refine Ev.bind (valid1 v6 x6) ?_
    rw [okB_of (by omega) hb hv hx]
    refine Ev.pos rfl (Ev.neg (by omega) (Ev.neg (by omega) (Ev.neg (by omega) ?_)))
    rw [w64 (by omega), decide_eq_false (by omega)]
    refine Ev.step (fun k => by rw [bits_Slice.j0]) (Ev.neg (by decide) (Ev.pos (by omega) ?_))
    refine Ev.bnd (mask_is w) (Ev.bnd (mask_is w) ((Ev.now _).eq ?_))
    rw [shr_n _ _ v6, shr_n _ _ x6, and_n _ _ (Nat.lt_of_le_of_lt (Nat.shiftRight_le _ _) v6) (msk_lt w), and_n _ _ (Nat.lt_of_le_of_lt (Nat.shiftRight_le _ _) x6) (msk_lt w)]
  · intro i hi
    unfold st
    rw [Nat.testBit_and, Nat.testBit_and, bit_msk hi (by omega), Nat.testBit_shiftRight, Nat.testBit_shiftRight, Bool.and_true, Bool.and_true]
theorem Slice_no {W : Int} {v x : Nat} (hv : v < 2 ^ 64) (hx : x < 2 ^ 64) {at_ w : Int} (ha : -9223372036854775808 ≤ at_ ∧ at_ ≤ 9223372036854775807) (hw : -9223372036854775808 ≤ w ∧ w ≤ 9223372036854775807)
    (h : ¬ (okB W v x = true ∧ 0 ≤ at_ ∧ 1 ≤ w ∧ at_ + w ≤ W)) : Ev (fun k => bits_Slice.f k W (v : Int) (x : Int) at_ w) (0, 0, 0) := by
  have key : Ev (fun k => bits_Slice.j0 k at_ w true W (v : Int) (x : Int)) (0, 0, 0) := Ev.step (fun k => by rw [bits_Slice.j0]) (Ev.pos rfl (Ev.now _))
  unfold bits_Slice.f
  refine Ev.bind (valid1 hv hx) ?_
  by_cases hb : okB W v x = true
  · have := okB_w hb
    rw [hb]
    refine Ev.pos rfl ?_
    by_cases h1 : at_ < 0
    · exact Ev.pos h1 key
    · refine Ev.neg h1 ?_
      by_cases h2 : w < 1
      · exact Ev.pos h2 key
      · refine Ev.neg h2 ?_
        by_cases h3 : w > W
        · exact Ev.pos h3 key
        · refine Ev.neg h3 ?_
          rw [w64 (by omega), decide_eq_true (show at_ > W - w by
            rcases Int.lt_or_le (W - w) at_ with h4 | h4
            · exact h4
            · exact absurd ⟨hb, by omega, by omega, by omega⟩ h)]
          exact key
  · rw [Bool.not_eq_true] at hb
    rw [hb]
    exact Ev.neg (by decide) key
def putS (v x vp xp wp : Nat) (at_ : Int) (i : Nat) : Int := if at_ ≤ i ∧ (i : Int) < at_ + wp then st vp xp ((i : Int) - at_).toNat else st v x i
theorem Put_no {W W' : Int} {v x v' x' : Nat} (hv : v < 2 ^ 64) (hx : x < 2 ^ 64) (hv' : v' < 2 ^ 64) (hx' : x' < 2 ^ 64) (at_ : Int) (h : (okB W v x && okB W' v' x') = false) : Ev (fun k => bits_Put.f k W (v : Int) (x : Int) at_ W' (v' : Int) (x' : Int)) (0, 0, 0) := by
  unfold bits_Put.f
  have hal := valid2 hv hx (W := W) (W' := W') hv' hx'
  rw [h] at hal
  have key : Ev (fun k => bits_Put.j0 k at_ true W (v : Int) (x : Int) W' (v' : Int) (x' : Int)) (0, 0, 0) := by
    refine Ev.step (fun k => by rw [bits_Put.j0]) (Ev.pos rfl (Ev.bind hal ?_))
    exact Ev.neg (by decide) (Ev.now _)
  refine Ev.bind hal ?_
  exact Ev.neg (by decide) key
theorem put_bits {a m p i : Nat} (ha : a < 2 ^ 64) (hm : m < 2 ^ 64) : (andn a m ||| p &&& m).testBit i = if m.testBit i then p.testBit i else a.testBit i := by
  rw [Nat.testBit_or, Nat.testBit_and, testBit_andn _ _ _ ha hm]
  cases m.testBit i <;> simp
theorem Put_gives {wb v x wp vp xp : Nat} (b1 : 1 ≤ wb) (b2 : wb ≤ 64) (hv : v < 2 ^ wb) (hx : x < 2 ^ wb) (p1 : 1 ≤ wp) (p2 : wp ≤ 64) (hvp : vp < 2 ^ wp) (hxp : xp < 2 ^ wp) (at_ : Int) :
    ∃ V X, Gives (fun k => bits_Put.f k (wb : Int) (v : Int) (x : Int) at_ (wp : Int) (vp : Int) (xp : Int)) wb (putS v x vp xp wp at_) V X := by
  have v6 := lt64 hv b2
  have x6 := lt64 hx b2
  have vp6 := lt64 hvp p2
  have xp6 := lt64 hxp p2
  have hal : Ev (fun k => bits_valid.f k ([(⟨(wb : Int), (v : Int), (x : Int)⟩ : S24), (⟨(wp : Int), (vp : Int), (xp : Int)⟩ : S24)] : List S24)) true := (valid2 v6 x6 vp6 xp6).eq (by rw [okB_of b1 b2 hv hx, okB_of p1 p2 hvp hxp]; rfl)
  have hn : wrap64 (-(wp : Int)) = -(wp : Int) := w64 (by omega)
  have m6 := msk_lt wb
  have mp6 := msk_lt wp
  by_cases h : at_ ≤ -(wp : Int) ∨ at_ ≥ (wb : Int)
  · refine ⟨v, x, ?_, hv, hx, ?_⟩
    · have key : Ev (fun k => bits_Put.j0 k at_ true (wb : Int) (v : Int) (x : Int) (wp : Int) (vp : Int) (xp : Int)) ((wb : Int), (v : Int), (x : Int)) :=
        Ev.step (fun k => by rw [bits_Put.j0]) (Ev.pos rfl (Ev.bind hal (Ev.pos rfl (Ev.now _))))
      unfold bits_Put.f
      refine Ev.bind hal (Ev.pos rfl ?_)
      rw [hn]
      by_cases h1 : at_ ≤ -(wp : Int)
      · exact Ev.pos h1 key
      · refine Ev.neg h1 ?_
        rw [decide_eq_true (show at_ ≥ (wb : Int) by omega)]
        exact key
    · intro i hi
      unfold putS
      rw [if_neg (by omega)]
  · have enter : ∀ r : Int × Int × Int, Ev (fun k => bits_Put.j0 k at_ false (wb : Int) (v : Int) (x : Int) (wp : Int) (vp : Int) (xp : Int)) r → Ev (fun k => bits_Put.f k (wb : Int) (v : Int) (x : Int) at_ (wp : Int) (vp : Int) (xp : Int)) r := by
      intro r hr
      unfold bits_Put.f
      refine Ev.bind hal (Ev.pos rfl ?_)
      rw [hn]
      refine Ev.neg (by omega) ?_
      rw [decide_eq_false (by omega)]
      exact hr
    by_cases hneg : at_ < 0
    · obtain ⟨s, rfl⟩ : ∃ s : Nat, at_ = -(s : Int) := ⟨(-at_).toNat, by omega⟩
      have hs : wrap64 (-(-(s : Int))) = (s : Int) := by rw [Int.neg_neg]; exact w64 (by omega)
      have M6 : msk wp >>> s &&& msk wb < 2 ^ 64 := and_lt' m6
      have Mw : msk wp >>> s &&& msk wb < 2 ^ wb := and_lt' (msk_lt' b2)
      refine ⟨andn v (msk wp >>> s &&& msk wb) ||| vp >>> s &&& (msk wp >>> s &&& msk wb), andn x (msk wp >>> s &&& msk wb) ||| xp >>> s &&& (msk wp >>> s &&& msk wb), enter _ ?_, or_lt (andn_lt hv) (and_lt' Mw), or_lt (andn_lt hx) (and_lt' Mw), ?_⟩
      · refine Ev.step (fun k => by rw [bits_Put.j0]) (Ev.neg (by decide) (Ev.bnd (mask_is wp) (Ev.pos hneg ?_)))
        rw [hs]
        refine Ev.pos (by omega) (Ev.bnd (mask_is wb) ((Ev.now _).eq ?_))
        have q1 : msk wp >>> s < 2 ^ 64 := Nat.lt_of_le_of_lt (Nat.shiftRight_le _ _) mp6
        have q2 : vp >>> s < 2 ^ 64 := Nat.lt_of_le_of_lt (Nat.shiftRight_le _ _) vp6
        have q3 : xp >>> s < 2 ^ 64 := Nat.lt_of_le_of_lt (Nat.shiftRight_le _ _) xp6
        rw [shr_n _ _ mp6, shr_n _ _ vp6, shr_n _ _ xp6, and_n _ _ q1 m6, andNot_n _ _ v6 M6, andNot_n _ _ x6 M6, and_n _ _ q2 M6, and_n _ _ q3 M6, or_n _ _ (andn_lt v6) (and_lt q2), or_n _ _ (andn_lt x6) (and_lt q3)]
      · intro i hi
        unfold putS st
        rw [put_bits v6 M6, put_bits x6 M6, Nat.testBit_and, bit_msk hi b2, Bool.and_true, Nat.testBit_shiftRight, Nat.testBit_shiftRight, Nat.testBit_shiftRight, testBit_msk]
        by_cases hin : s + i < wp
        · have e : ((i : Int) - -(s : Int)).toNat = s + i := by omega
          have h64 : s + i < 64 := by omega
          rw [if_pos (show -(s : Int) ≤ (i : Int) ∧ (i : Int) < -(s : Int) + (wp : Int) by omega), e]
          simp [hin, h64]
        · rw [if_neg (show ¬ (-(s : Int) ≤ (i : Int) ∧ (i : Int) < -(s : Int) + (wp : Int)) by omega)]
          simp [hin]
    · obtain ⟨s, rfl⟩ := Int.eq_ofNat_of_zero_le (show 0 ≤ at_ by omega)
      have M6 : msk wp <<< s % 2 ^ 64 &&& msk wb < 2 ^ 64 := and_lt' m6
      have Mw : msk wp <<< s % 2 ^ 64 &&& msk wb < 2 ^ wb := and_lt' (msk_lt' b2)
      refine ⟨andn v (msk wp <<< s % 2 ^ 64 &&& msk wb) ||| (vp <<< s % 2 ^ 64) &&& (msk wp <<< s % 2 ^ 64 &&& msk wb), andn x (msk wp <<< s % 2 ^ 64 &&& msk wb) ||| (xp <<< s % 2 ^ 64) &&& (msk wp <<< s % 2 ^ 64 &&& msk wb), enter _ ?_, or_lt (andn_lt hv) (and_lt' Mw), or_lt (andn_lt hx) (and_lt' Mw), ?_⟩
      · refine Ev.step (fun k => by rw [bits_Put.j0]) (Ev.neg (by decide) (Ev.bnd (mask_is wp) (Ev.neg hneg ?_)))
        refine Ev.pos (by omega) ?_
        refine Ev.bnd (mask_is wb) ((Ev.now _).eq ?_)
        have q1 : msk wp <<< s % 2 ^ 64 < 2 ^ 64 := Nat.mod_lt _ (by decide)
        have q2 : vp <<< s % 2 ^ 64 < 2 ^ 64 := Nat.mod_lt _ (by decide)
        have q3 : xp <<< s % 2 ^ 64 < 2 ^ 64 := Nat.mod_lt _ (by decide)
        rw [shl_n, shl_n, shl_n, and_n _ _ q1 m6, andNot_n _ _ v6 M6, andNot_n _ _ x6 M6, and_n _ _ q2 M6, and_n _ _ q3 M6, or_n _ _ (andn_lt v6) (and_lt q2), or_n _ _ (andn_lt x6) (and_lt q3)]
      · intro i hi
        have h64 : i < 64 := by omega
        unfold putS st
        rw [put_bits v6 M6, put_bits x6 M6, Nat.testBit_and, bit_msk hi b2, Bool.and_true, testBit_shl, testBit_shl, testBit_shl, testBit_msk]
        by_cases hin : s ≤ i ∧ i < s + wp
        · have e : ((i : Int) - (s : Int)).toNat = i - s := by omega
          have h2 : i - s < wp := by omega
          have h3 : i - s < 64 := by omega
          rw [if_pos (show (s : Int) ≤ (i : Int) ∧ (i : Int) < (s : Int) + (wp : Int) by omega), e]
          simp [hin.1, h64, h2, h3]
        · rw [if_neg (show ¬ ((s : Int) ≤ (i : Int) ∧ (i : Int) < (s : Int) + (wp : Int)) by omega)]
          by_cases h5 : s ≤ i
          · have h6 : ¬ i - s < wp := by omega
            simp [h6]
          · simp [h5]
end Go.Proofs.YtfigblfjogpojaaDoor.PBits
end
