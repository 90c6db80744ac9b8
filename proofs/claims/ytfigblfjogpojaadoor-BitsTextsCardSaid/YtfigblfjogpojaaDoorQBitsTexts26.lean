/- Part 27 of the proof of BitsTextsCardSaid: The law BitsTexts: for all arguments it returns true; each argument reads behind the call as it read before. Out of the plain theorem of YtfigblfjogpojaaDoorPureBitsTexts and the printed contract. -/
import Derived.Test.YtfigblfjogpojaaDoorQBitsTexts21
import Derived.Test.YtfigblfjogpojaaDoorQBitsTexts22
import Derived.Test.YtfigblfjogpojaaDoorQBitsTexts25
import Derived.Test.YtfigblfjogpojaaDoorQBitsTexts15
import Derived.Test.YtfigblfjogpojaaDoorQBitsTexts14
import Derived.Test.YtfigblfjogpojaaDoorQBitsTexts20
section
namespace Go.Proofs.YtfigblfjogpojaaDoor.PBits
open Go.RowKit Go.Proofs.YtfigblfjogpojaaDoorW.PrintWords Go.Proofs.YtfigblfjogpojaaDoorW.PrintLast Go.Proofs.YtfigblfjogpojaaDoorW.PrintMore Go.Proofs.YtfigblfjogpojaaDoor.Bz
set_option linter.unusedVariables false
set_option linter.unusedSimpArgs false
theorem bit_msk {w i : Nat} (hi : i < w) (hw : w ≤ 64) : (msk w).testBit i = true := by rw [testBit_msk]; simp; exact ⟨hi, by omega⟩
theorem msk_is {w : Nat} (hw : w ≤ 64) : msk w = 2 ^ w - 1 := by unfold msk; rw [Nat.min_eq_left hw]
def putS (v x vp xp wp : Nat) (at_ : Int) (i : Nat) : Int := if at_ ≤ i ∧ (i : Int) < at_ + wp then st vp xp ((i : Int) - at_).toNat else st v x i
theorem put_bits {a m p i : Nat} (ha : a < 2 ^ 64) (hm : m < 2 ^ 64) : (andn a m ||| p &&& m).testBit i = if m.testBit i then p.testBit i else a.testBit i := by
  rw [Nat.testBit_or, Nat.testBit_and, testBit_andn _ _ _ ha hm]
  cases m.testBit i <;> simp
theorem Put_gives {wb v x wp vp xp : Nat} (b1 : 1 ≤ wb) (b2 : wb ≤ 64) (hv : v < 2 ^ wb) (hx : x < 2 ^ wb) (p1 : 1 ≤ wp) (p2 : wp ≤ 64) (hvp : vp < 2 ^ wp) (hxp : xp < 2 ^ wp) (at_ : Int) :
    ∃ V X, Gives (fun k => bits_Put.f k (wb : Int) (v : Int) (x : Int) at_ (wp : Int) (vp : Int) (xp : Int)) wb (putS v x vp xp wp at_) V X := by
  have v6 := lt64 hv b2
  have x6 := lt64 hx b2
  have vp6 := lt64 hvp p2
  have xp6 := lt64 hxp p2
  have hal : Ev (fun k => bits_valid.f k ([(⟨(wb : Int), (v : Int), (x : Int)⟩ : S24), (⟨(wp : Int), (vp : Int), (xp : Int)⟩ : S24)] : List S24)) true := (valid2 v6 x6 vp6 xp6).eq (by rw [okB_of b1 b2 hv hx, okB_of p1 p2 hvp hxp]; rfl)
  have hn : wrap64 (-(wp : Int)) = -(wp : Int) := w64 (by omega)
  have m6 := msk_lt wb
  have mp6 := msk_lt wp
  by_cases h : at_ ≤ -(wp : Int) ∨ at_ ≥ (wb : Int)
  · refine ⟨v, x, ?_, hv, hx, ?_⟩
    · have key : Ev (fun k => bits_Put.j0 k at_ true (wb : Int) (v : Int) (x : Int) (wp : Int) (vp : Int) (xp : Int)) ((wb : Int), (v : Int), (x : Int)) :=
        Ev.step (fun k => by rw [bits_Put.j0]) (Ev.pos rfl (Ev.bind hal (Ev.pos rfl (Ev.now _))))
      unfold bits_Put.f
      refine Ev.bind hal (Ev.pos rfl ?_)
      rw [hn]
      by_cases h1 : at_ ≤ -(wp : Int)
      · exact Ev.pos h1 key
      · refine Ev.neg h1 ?_
        rw [decide_eq_true (show at_ ≥ (wb : Int) by omega)]
        exact key
    · intro i hi
      unfold putS
      rw [if_neg (by omega)]
  · have enter : ∀ r : Int × Int × Int, Ev (fun k => bits_Put.j0 k at_ false (wb : Int) (v : Int) (x : Int) (wp : Int) (vp : Int) (xp : Int)) r → Ev (fun k => bits_Put.f k (wb : Int) (v : Int) (x : Int) at_ (wp : Int) (vp : Int) (xp : Int)) r := by
      intro r hr
      unfold bits_Put.f
      refine Ev.bind hal (Ev.pos rfl ?_)
      rw [hn]
      refine Ev.neg (by omega) ?_
      rw [decide_eq_false (by omega)]
      exact hr
    by_cases hneg : at_ < 0
    · obtain ⟨s, rfl⟩ : ∃ s : Nat, at_ = -(s : Int) := ⟨(-at_).toNat, by omega⟩
      have hs : wrap64 (-(-(s : Int))) = (s : Int) := by rw [Int.neg_neg]; exact w64 (by omega)
      have M6 : msk wp >>> s &&& msk wb < 2 ^ 64 := and_lt' m6
      have Mw : msk wp >>> s &&& msk wb < 2 ^ wb := and_lt' (msk_lt' b2)
      refine ⟨andn v (msk wp >>> s &&& msk wb) ||| vp >>> s &&& (msk wp >>> s &&& msk wb), andn x (msk wp >>> s &&& msk wb) ||| xp >>> s &&& (msk wp >>> s &&& msk wb), enter _ ?_, or_lt (andn_lt hv) (and_lt' Mw), or_lt (andn_lt hx) (and_lt' Mw), ?_⟩
      · refine Ev.step (fun k => by rw [bits_Put.j0]) (Ev.neg (by decide) (Ev.bnd (mask_is wp) (Ev.pos hneg ?_)))
        rw [hs]
        refine Ev.pos (by omega) (Ev.bnd (mask_is wb) ((Ev.now _).eq ?_))
        have q1 : msk wp >>> s < 2 ^ 64 := Nat.lt_of_le_of_lt (Nat.shiftRight_le _ _) mp6
        have q2 : vp >>> s < 2 ^ 64 := Nat.lt_of_le_of_lt (Nat.shiftRight_le _ _) vp6
        have q3 : xp >>> s < 2 ^ 64 := Nat.lt_of_le_of_lt (Nat.shiftRight_le _ _) xp6
        rw [shr_n _ _ mp6, shr_n _ _ vp6, shr_n _ _ xp6, and_n _ _ q1 m6, andNot_n _ _ v6 M6, andNot_n _ _ x6 M6, and_n _ _ q2 M6, and_n _ _ q3 M6, or_n _ _ (andn_lt v6) (and_lt q2), or_n _ _ (andn_lt x6) (and_lt q3)]
      · intro i hi
        unfold putS st
        rw [put_bits v6 M6, put_bits x6 M6, Nat.testBit_and, bit_msk hi b2, Bool.and_true, Nat.testBit_shiftRight, Nat.testBit_shiftRight, Nat.testBit_shiftRight, testBit_msk]
        by_cases hin : s + i < wp
        · have e : ((i : Int) - -(s : Int)).toNat = s + i := by omega
          have h64 : s + i < 64 := by omega
          rw [if_pos (show -(s : Int) ≤ (i : Int) ∧ (i : Int) < -(s : Int) + (wp : Int) by omega), e]
          simp [hin, h64]
        · rw [if_neg (show ¬ (-(s : Int) ≤ (i : Int) ∧ (i : Int) < -(s : Int) + (wp : Int)) by omega)]
          simp [hin]
    · obtain ⟨s, rfl⟩ := Int.eq_ofNat_of_zero_le (show 0 ≤ at_ by omega)
      have M6 : msk wp <<< s % 2 ^ 64 &&& msk wb < 2 ^ 64 := and_lt' m6
      have Mw : msk wp <<< s % 2 ^ 64 &&& msk wb < 2 ^ wb := and_lt' (msk_lt' b2)
      refine ⟨andn v (msk wp <<< s % 2 ^ 64 &&& msk wb) ||| (vp <<< s % 2 ^ 64) &&& (msk wp <<< s % 2 ^ 64 &&& msk wb), andn x (msk wp <<< s % 2 ^ 64 &&& msk wb) ||| (xp <<< s % 2 ^ 64) &&& (msk wp <<< s % 2 ^ 64 &&& msk wb), enter _ ?_, or_lt (andn_lt hv) (and_lt' Mw), or_lt (andn_lt hx) (and_lt' Mw), ?_⟩
      · refine Ev.step (fun k => by rw [bits_Put.j0]) (Ev.neg (by decide) (Ev.bnd (mask_is wp) (Ev.neg hneg ?_)))
        refine Ev.pos (by omega) ?_
        refine Ev.bnd (mask_is wb) ((Ev.now _).eq ?_)
        have q1 : msk wp <<< s % 2 ^ 64 < 2 ^ 64 := Nat.mod_lt _ (by decide)
        have q2 : vp <<< s % 2 ^ 64 < 2 ^ 64 := Nat.mod_lt _ (by decide)
        have q3 : xp <<< s % 2 ^ 64 < 2 ^ 64 := Nat.mod_lt _ (by decide)
        rw [shl_n, shl_n, shl_n, and_n _ _ q1 m6, andNot_n _ _ v6 M6, andNot_n _ _ x6 M6, and_n _ _ q2 M6, and_n _ _ q3 M6, or_n _ _ (andn_lt v6) (and_lt q2), or_n _ _ (andn_lt x6) (and_lt q3)]
      · intro i hi
        have h64 : i < 64 := by omega
        unfold putS st
        rw [put_bits v6 M6, put_bits x6 M6, Nat.testBit_and, bit_msk hi b2, Bool.and_true, testBit_shl, testBit_shl, testBit_shl, testBit_msk]
        by_cases hin : s ≤ i ∧ i < s + wp
        · have e : ((i : Int) - (s : Int)).toNat = i - s := by omega
          have h2 : i - s < wp := by omega
          have h3 : i - s < 64 := by omega
          rw [if_pos (show (s : Int) ≤ (i : Int) ∧ (i : Int) < (s : Int) + (wp : Int) by omega), e]
          simp [hin.1, h64, h2, h3]
        · rw [if_neg (show ¬ ((s : Int) ≤ (i : Int) ∧ (i : Int) < (s : Int) + (wp : Int)) by omega)]
          by_cases h5 : s ≤ i
          · have h6 : ¬ i - s < wp := by omega
            simp [h6]
          · simp [h5]
end Go.Proofs.YtfigblfjogpojaaDoor.PBits
end
