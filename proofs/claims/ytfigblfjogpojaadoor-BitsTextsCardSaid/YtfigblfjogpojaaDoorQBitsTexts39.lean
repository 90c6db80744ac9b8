/- Part 40 of the proof of BitsTextsCardSaid: The law BitsTexts: for all arguments it returns true; each argument reads behind the call as it read before. Out of the plain theorem of YtfigblfjogpojaaDoorPureBitsTexts and the printed contract. -/
import Derived.Test.YtfigblfjogpojaaDoorQBitsTexts38
import Derived.Test.YtfigblfjogpojaaDoorQBitsTexts26
import Derived.Test.YtfigblfjogpojaaDoorQBitsTexts30
section
namespace Go.Proofs.YtfigblfjogpojaaDoor.PBits
open Go.RowKit Go.Proofs.YtfigblfjogpojaaDoorW.PrintWords Go.Proofs.YtfigblfjogpojaaDoorW.PrintLast Go.Proofs.YtfigblfjogpojaaDoorW.PrintMore Go.Proofs.YtfigblfjogpojaaDoor.Bz
set_option linter.unusedVariables false
set_option linter.unusedSimpArgs false
set_option linter.unusedSectionVars false
def xz (c : Int) : Bool := c == 120 || c == 122
def dv (c : Int) : Nat := if 48 ≤ c ∧ c ≤ 57 then (c - 48).toNat else if 97 ≤ c ∧ c ≤ 102 then (c - 87).toNat else 99
theorem dv_num {c : Int} (h1 : 48 ≤ c) (h2 : c ≤ 57) : dv c = (c - 48).toNat := by unfold dv; exact if_pos ⟨h1, h2⟩
theorem dv_let {c : Int} (h1 : 97 ≤ c) (h2 : c ≤ 102) : dv c = (c - 87).toNat := by unfold dv; rw [if_neg (by omega)]; exact if_pos ⟨h1, h2⟩
theorem dv_no {c : Int} (h1 : ¬ (48 ≤ c ∧ c ≤ 57)) (h2 : ¬ (97 ≤ c ∧ c ≤ 102)) : dv c = 99 := by unfold dv; rw [if_neg h1]; exact if_neg h2
def blk (g : Nat) (c : Int) : List Int := if xz c = true then List.replicate g c else vs g (dv c) 0
theorem blk_length (g : Nat) (c : Int) : (blk g c).length = g := by
  unfold blk
  split
  · exact List.length_replicate
  · exact vs_length _ _ _
def good (g : Nat) (c : Int) : Bool := xz c || decide (dv c < 2 ^ g)
theorem xz_or {c : Int} : xz c = true ↔ c = 120 ∨ c = 122 := by unfold xz; rw [Bool.or_eq_true, beq_iff_eq, beq_iff_eq]
theorem digit_ev (c : Int) : Ev (fun k => bits_digit.f k c) (if dv c = 99 then -1 else (dv c : Int)) := by
  unfold bits_digit.f
  by_cases h1 : c ≥ 48
  · refine Ev.pos h1 ?_
    by_cases h2 : c ≤ 57
    · rw [decide_eq_true h2, dv_num h1 h2]
      refine Ev.step (fun k => by rw [bits_digit.j0]) ?_
      exact Ev.pos rfl ((Ev.now _).eq (by rw [if_neg (by omega)]; omega))
    · rw [decide_eq_false h2]
      refine Ev.step (fun k => by rw [bits_digit.j0]) ?_
      refine Ev.neg (by decide) ?_
      by_cases h3 : c ≥ 97
      · refine Ev.pos h3 ?_
        by_cases h4 : c ≤ 102
        · exact Ev.pos h4 ((Ev.now _).eq (by rw [dv_let h3 h4, if_neg (by omega)]; omega))
        · exact Ev.neg h4 ((Ev.now _).eq (by rw [dv_no (by omega) (by omega)]; rfl))
      · exact Ev.neg h3 ((Ev.now _).eq (by rw [dv_no (by omega) (by omega)]; rfl))
  · refine Ev.neg h1 ?_
    refine Ev.step (fun k => by rw [bits_digit.j0]) ?_
    exact Ev.neg (by decide) (Ev.neg (by omega) ((Ev.now _).eq (by rw [dv_no (by omega) (by omega)]; rfl)))
section
variable (s : ByteArray) (hs : s.size ≤ 1000) (hn : 1 ≤ s.size) (g : Nat) (hg : g = 1 ∨ g = 3 ∨ g = 4)
def ch (t : Nat) : Int := bt s ((s.size - 1 - t : Nat) : Int)
def Vt : Nat → List Int
  | 0 => []
  | t + 1 => Vt t ++ blk g (ch s t)
theorem Vt_length : ∀ t, (Vt s g t).length = t * g
  | 0 => by rw [Nat.zero_mul]; rfl
  | t + 1 => by unfold Vt; rw [List.length_append, Vt_length t, blk_length, Nat.succ_mul]
theorem Vt_old (t i : Nat) (h : i < t * g) : (Vt s g (t + 1)).getD i 48 = (Vt s g t).getD i 48 := by
  show (Vt s g t ++ blk g (ch s t)).getD i 48 = _
  rw [List.getD_eq_getElem?_getD, List.getElem?_append_left (by rw [Vt_length]; exact h), ← List.getD_eq_getElem?_getD]
theorem Vt_new (t j : Nat) : (Vt s g (t + 1)).getD (t * g + j) 48 = (blk g (ch s t)).getD j 48 := by
  show (Vt s g t ++ blk g (ch s t)).getD (t * g + j) 48 = _
  rw [List.getD_eq_getElem?_getD, List.getElem?_append_right (by rw [Vt_length]; omega), Vt_length, show t * g + j - t * g = j by omega, ← List.getD_eq_getElem?_getD]
theorem Vt_at : ∀ (n t j : Nat), t < n → j < g → (Vt s g n).getD (t * g + j) 48 = (blk g (ch s t)).getD j 48
  | 0, _, _, h, _ => absurd h (by omega)
  | n + 1, t, j, h, hj => by
    rcases Nat.lt_or_ge t n with h1 | h1
    · rw [Vt_old _ _ _ _ (by
        have := Nat.mul_le_mul_right g (show t + 1 ≤ n by omega)
        rw [Nat.succ_mul] at this; omega)]
      exact Vt_at n t j h1 hj
    · obtain rfl : t = n := by omega
      exact Vt_new s g t j
variable {w : Nat} (h1 : 1 ≤ w) (h2 : w ≤ 64)
def okJ (w t j : Nat) : Prop := w ≤ t * g + j → (blk g (ch s t)).getD j 48 = 48 ∨ (xz (ch s t) = true ∧ t * g < w)
def okT (w n : Nat) : Prop := ∀ t, t < n → ∀ j, j < g → okJ s g w t j
def fil : Int := if xz (bt s 0) = true then bt s 0 else 48
def fn_ (j : Nat) : Int := if j < s.size * g then (Vt s g s.size).getD j 48 else fil s
include hg in
theorem g_pos : 1 ≤ g ∧ g ≤ 4 := by omega
include hs hg
theorem piece {c : Int} (hc : good g c = true) : ∃ vd xd : Nat, vd < 2 ^ g ∧ xd < 2 ^ g ∧ (∀ j, j < g → st vd xd j = (blk g c).getD j 48) ∧
    (xz c = true → Ev (fun k => bits_All.f k (g : Int) c) ((g : Int), (vd : Int), (xd : Int))) ∧ (xz c = false → ∃ e : Int, Ev (fun k => bits_digit.f k c) e ∧ bits_Of.f (g : Int) (IntKind.u64.wrap e) = some ((g : Int), (vd : Int), (xd : Int))) := by
  have hg1 := g_pos g hg
  have hp : 0 < 2 ^ g := Nat.pos_of_ne_zero (by simp)
  have hb : ∀ j, j < g → (msk g).testBit j = true := by
    intro i hi
    rw [testBit_msk, decide_eq_true_iff]; omega
  have hr : ∀ j, j < g → (List.replicate g c).getD j 48 = c := by
    intro i hi
    rw [List.getD_eq_getElem?_getD, List.getElem?_replicate, if_pos hi]; rfl
  cases hx : xz c with
  | true =>
    have hbl : blk g c = List.replicate g c := by unfold blk; rw [if_pos hx]
    rcases xz_or.1 hx with rfl | rfl
    · refine ⟨msk g, msk g, msk_lt' (by omega), msk_lt' (by omega), fun j hj => ?_, fun _ => (All_is (by omega) (by omega) 120).eq rfl, fun h => by cases h⟩
      rw [hbl, hr j hj]; unfold st; rw [hb j hj]; rfl
    · refine ⟨0, msk g, hp, msk_lt' (by omega), fun j hj => ?_, fun _ => (All_is (by omega) (by omega) 122).eq rfl, fun h => by cases h⟩
      rw [hbl, hr j hj]; unfold st; rw [hb j hj, Nat.zero_testBit]; rfl
  | false =>
    have hd : dv c < 2 ^ g := by
      unfold good at hc
      rw [hx, Bool.false_or, decide_eq_true_iff] at hc
      exact hc
    have hg16 : 2 ^ g ≤ 16 := by rcases hg with rfl | rfl | rfl <;> decide
    have hbl : blk g c = vs g (dv c) 0 := by unfold blk; rw [hx, if_neg (by decide)]
    refine ⟨dv c, 0, hd, hp, fun j hj => ?_, (fun h => by cases h), fun _ => ⟨_, digit_ev c, ?_⟩⟩
    · rw [hbl, List.getD_eq_getElem?_getD, List.getElem?_eq_getElem (by rw [vs_length]; exact hj), Option.getD_some, vs_get _ _ _ _ hj]
    · rw [if_neg (by omega)]
      rw [wrap_u64_nat _ (by omega), Of_is (by omega) (by omega) (by omega), Nat.mod_eq_of_lt hd]
      rfl
include hn h1 h2
theorem prog_l2 (t : Nat) (ht : t < s.size) {vd xd : Nat} (hvd : vd < 2 ^ g) (hxd : xd < 2 ^ g) (hst : ∀ j, j < g → st vd xd j = (blk g (ch s t)).getD j 48) (v x : Int) {R : Int × Int × Int × Int}
    (hR : (∀ j, j < g → okJ s g w t j) → Ev (fun k => bits_grouped.l2 k s (w : Int) (g : Int) ((t * g : Nat) : Int) ((s.size - 1 - t : Nat) : Int) (g : Int) (g : Int) (w : Int) v x (g : Int) (vd : Int) (xd : Int)) R)
    (hF : ¬ (∀ j, j < g → okJ s g w t j) → R = (0, 0, 0, 3)) :
    ∀ m j, j + m = g → (∀ j', j' < j → okJ s g w t j') → Ev (fun k => bits_grouped.l2 k s (w : Int) (g : Int) ((t * g : Nat) : Int) ((s.size - 1 - t : Nat) : Int) (g : Int) (j : Int) (w : Int) v x (g : Int) (vd : Int) (xd : Int)) R := by
  have hg1 := g_pos g hg
  have htg : t * g ≤ 4000 := by have := Nat.mul_le_mul (show t ≤ 1000 by omega) hg1.2; omega
  intro m
  induction m with
  | zero =>
    intro j hj hok
    obtain rfl : j = g := by omega
    exact hR hok
  | succ m ih =>
    intro j hj hok
    have next : okJ s g w t j → Ev (fun k => bits_grouped.l2 k s (w : Int) (g : Int) ((t * g : Nat) : Int) ((s.size - 1 - t : Nat) : Int) (g : Int) (wrap64 ((j : Int) + 1)) (w : Int) v x (g : Int) (vd : Int) (xd : Int)) R := by
      intro h
      rw [w64 (n := (j : Int) + 1) (by omega)]
      refine ih (j + 1) (by omega) (fun j' hj' => ?_)
      rcases Nat.lt_or_ge j' j with h3 | h3
      · exact hok j' h3
      · obtain rfl : j' = j := by omega
        exact h
    have j6f : okJ s g w t j → Ev (fun k => bits_grouped.j6 k s (w : Int) (g : Int) ((t * g : Nat) : Int) ((s.size - 1 - t : Nat) : Int) (g : Int) (j : Int) false (w : Int) v x (g : Int) (vd : Int) (xd : Int)) R := by
      intro h
      refine Ev.step (fun k => by rw [bits_grouped.j6]) ?_
      exact Ev.neg (by decide) (next h)
    refine Ev.step (fun k => by rw [bits_grouped.l2]) (Ev.pos (by omega) ?_)
    rw [w64 (n := ((t * g : Nat) : Int) + (j : Int)) (by omega)]
    by_cases hbey : w ≤ t * g + j
    · refine Ev.pos (by omega) ?_
      have hb := Bit_ev (w := g) (by omega) (by omega) hvd hxd (j : Int)
      unfold bitS at hb
      rw [if_pos (by omega), Int.toNat_natCast, hst j (by omega)] at hb
      refine Ev.bind hb ?_
      by_cases h48 : (blk g (ch s t)).getD j 48 = 48
      · rw [h48]
        exact j6f (fun _ => .inl h48)
      · rw [show ((blk g (ch s t)).getD j 48 != 48) = true from bne_iff_ne.2 h48]
        refine Ev.step (fun k => by rw [bits_grouped.j6]) ?_
        refine Ev.pos rfl (Ev.pos (by omega) (Ev.pos (by omega) ?_))
        have hch : bt s ((s.size - 1 - t : Nat) : Int) = ch s t := rfl
        have j7t : okJ s g w t j → Ev (fun k => bits_grouped.j7 k s (w : Int) (g : Int) ((t * g : Nat) : Int) ((s.size - 1 - t : Nat) : Int) (g : Int) (j : Int) true (w : Int) v x (g : Int) (vd : Int) (xd : Int)) R := by
          intro h
          refine Ev.step (fun k => by rw [bits_grouped.j7]) ?_
          exact Ev.pos rfl (next h)
        have j7f : ¬ okJ s g w t j → Ev (fun k => bits_grouped.j7 k s (w : Int) (g : Int) ((t * g : Nat) : Int) ((s.size - 1 - t : Nat) : Int) (g : Int) (j : Int) false (w : Int) v x (g : Int) (vd : Int) (xd : Int)) R := by
          intro h
          rw [hF (fun a => h (a j (by omega)))]
          refine Ev.step (fun k => by rw [bits_grouped.j7]) ?_
          exact Ev.neg (by decide) (Ev.now _)
        rw [hch]
        have both : xz (ch s t) = true → Ev (fun k => bits_grouped.j7 k s (w : Int) (g : Int) ((t * g : Nat) : Int) ((s.size - 1 - t : Nat) : Int) (g : Int) (j : Int) (decide (((t * g : Nat) : Int) < (w : Int))) (w : Int) v x (g : Int) (vd : Int) (xd : Int)) R := by
          intro hx
          by_cases hlt : t * g < w
          · rw [decide_eq_true (show ((t * g : Nat) : Int) < (w : Int) by omega)]
            exact j7t (fun _ => .inr ⟨hx, hlt⟩)
          · rw [decide_eq_false (show ¬ ((t * g : Nat) : Int) < (w : Int) by omega)]
            refine j7f (fun a => ?_)
            rcases a hbey with a | a
            · exact h48 a
            · exact hlt a.2
        by_cases e1 : ch s t = 120
        · exact Ev.pos e1 (both (xz_or.2 (.inl e1)))
        · refine Ev.neg e1 ?_
          by_cases e2 : ch s t = 122
          · exact Ev.pos e2 (both (xz_or.2 (.inr e2)))
          · refine Ev.neg e2 (j7f (fun a => ?_))
            rcases a hbey with a | a
            · exact h48 a
            · rcases xz_or.1 a.1 with a | a
              · exact e1 a
              · exact e2 a
    · refine Ev.neg (by omega) (j6f (fun a => absurd a hbey))
end
end Go.Proofs.YtfigblfjogpojaaDoor.PBits
end
