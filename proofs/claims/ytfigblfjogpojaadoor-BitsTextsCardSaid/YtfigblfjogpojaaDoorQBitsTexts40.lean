/- Part 41 of the proof of BitsTextsCardSaid: The law BitsTexts: for all arguments it returns true; each argument reads behind the call as it read before. Out of the plain theorem of YtfigblfjogpojaaDoorPureBitsTexts and the printed contract. -/
import Derived.Test.YtfigblfjogpojaaDoorQBitsTexts39
section
namespace Go.Proofs.YtfigblfjogpojaaDoor.PBits
open Go.RowKit Go.Proofs.YtfigblfjogpojaaDoorW.PrintWords Go.Proofs.YtfigblfjogpojaaDoorW.PrintLast Go.Proofs.YtfigblfjogpojaaDoorW.PrintMore Go.Proofs.YtfigblfjogpojaaDoor.Bz
set_option linter.unusedVariables false
set_option linter.unusedSimpArgs false
set_option linter.unusedSectionVars false
theorem all_xz {m : Nat} (h1 : 1 ≤ m) (h2 : m ≤ 64) {c : Int} (hx : xz c = true) : ∃ vd xd : Nat, vd < 2 ^ m ∧ xd < 2 ^ m ∧ (∀ j, j < m → st vd xd j = c) ∧ Ev (fun k => bits_All.f k (m : Int) c) ((m : Int), (vd : Int), (xd : Int)) := by
  have hp : 0 < 2 ^ m := Nat.pos_of_ne_zero (by simp)
  have hb : ∀ j, j < m → (msk m).testBit j = true := by
    intro i hi
    rw [testBit_msk, decide_eq_true_iff]; omega
  rcases xz_or.1 hx with rfl | rfl
  · refine ⟨msk m, msk m, msk_lt' (by omega), msk_lt' (by omega), fun j hj => ?_, (All_is h1 h2 120).eq rfl⟩
    unfold st; rw [hb j hj]; rfl
  · refine ⟨0, msk m, hp, msk_lt' (by omega), fun j hj => ?_, (All_is h1 h2 122).eq rfl⟩
    unfold st; rw [hb j hj, Nat.zero_testBit]; rfl
theorem getD_out {l : List Int} {j : Nat} (h : l.length ≤ j) : l.getD j 48 = 48 := by
  rw [List.getD_eq_getElem?_getD, List.getElem?_eq_none h]; rfl
section
variable (s : ByteArray) (hs : s.size ≤ 1000) (hn : 1 ≤ s.size) (g : Nat) (hg : g = 1 ∨ g = 3 ∨ g = 4)
variable {w : Nat} (h1 : 1 ≤ w) (h2 : w ≤ 64)
include hs hn hg h1 h2
theorem prog_end {v x : Nat} (hv : v < 2 ^ w) (hx : x < 2 ^ w) (hr : ∀ j, j < w → st v x j = (Vt s g s.size).getD j 48) :
    ∃ V X : Nat, V < 2 ^ w ∧ X < 2 ^ w ∧ (∀ j, j < w → st V X j = fn_ s g j) ∧ Ev (fun k => bits_grouped.l1 k s (w : Int) (g : Int) ((s.size * g : Nat) : Int) ((s.size : Int) - 1 - (s.size : Int)) (w : Int) (v : Int) (x : Int)) ((w : Int), (V : Int), (X : Int), 0) := by
  have hg1 := g_pos g hg
  have hlen := Vt_length s g s.size
  have enter : ∀ {R : Int × Int × Int × Int}, (xz (bt s 0) = true → Ev (fun k => bits_grouped.j8 k (w : Int) ((s.size * g : Nat) : Int) (bt s 0) (decide (((s.size * g : Nat) : Int) < (w : Int))) (w : Int) (v : Int) (x : Int)) R) →
      (xz (bt s 0) = false → Ev (fun k => bits_grouped.j8 k (w : Int) ((s.size * g : Nat) : Int) (bt s 0) false (w : Int) (v : Int) (x : Int)) R) →
      Ev (fun k => bits_grouped.l1 k s (w : Int) (g : Int) ((s.size * g : Nat) : Int) ((s.size : Int) - 1 - (s.size : Int)) (w : Int) (v : Int) (x : Int)) R := by
    intro R a b
    refine Ev.step (fun k => by rw [bits_grouped.l1]) (Ev.neg (by omega) (Ev.pos (by omega) ?_))
    by_cases e1 : bt s 0 = 120
    · exact Ev.pos e1 (a (xz_or.2 (.inl e1)))
    · refine Ev.neg e1 ?_
      by_cases e2 : bt s 0 = 122
      · exact Ev.pos e2 (a (xz_or.2 (.inr e2)))
      · refine Ev.neg e2 (b ?_)
        rw [Bool.eq_false_iff]
        intro h
        rcases xz_or.1 h with h | h
        · exact e1 h
        · exact e2 h
  have keep : Ev (fun k => bits_grouped.j8 k (w : Int) ((s.size * g : Nat) : Int) (bt s 0) false (w : Int) (v : Int) (x : Int)) ((w : Int), (v : Int), (x : Int), 0) := by
    refine Ev.step (fun k => by rw [bits_grouped.j8]) ?_
    exact Ev.neg (by decide) (Ev.now _)
  by_cases hx0 : xz (bt s 0) = true
  · by_cases hlt : s.size * g < w
    · obtain ⟨vd, xd, d1, d2, d3, d4⟩ := all_xz (m := w - s.size * g) (by omega) (by omega) hx0
      obtain ⟨V, X, G⟩ := Put_gives h1 h2 hv hx (show 1 ≤ w - s.size * g by omega) (by omega) d1 d2 ((s.size * g : Nat) : Int)
      refine ⟨V, X, G.v, G.x, fun j hj => ?_, enter (fun _ => ?_) (fun h => by rw [hx0] at h; cases h)⟩
      · rw [G.st j hj]
        unfold putS fn_ fil
        by_cases hj2 : j < s.size * g
        · rw [if_neg (by omega), if_pos hj2]; exact hr j hj
        · rw [if_pos (by omega), if_neg hj2, if_pos hx0, d3 _ (by omega)]
      · rw [decide_eq_true (show ((s.size * g : Nat) : Int) < (w : Int) by omega)]
        refine Ev.step (fun k => by rw [bits_grouped.j8]) ?_
        refine Ev.pos rfl ?_
        rw [w64 (n := (w : Int) - ((s.size * g : Nat) : Int)) (by omega), show (w : Int) - ((s.size * g : Nat) : Int) = ((w - s.size * g : Nat) : Int) by omega]
        exact Ev.bind d4 (Ev.bind G.ev (Ev.now _))
    · refine ⟨v, x, hv, hx, fun j hj => ?_, enter (fun _ => ?_) (fun h => by rw [hx0] at h; cases h)⟩
      · unfold fn_
        rw [if_pos (by omega)]; exact hr j hj
      · rw [decide_eq_false (show ¬ ((s.size * g : Nat) : Int) < (w : Int) by omega)]
        exact keep
  · rw [Bool.not_eq_true] at hx0
    refine ⟨v, x, hv, hx, fun j hj => ?_, enter (fun h => by rw [hx0] at h; cases h) (fun _ => keep)⟩
    unfold fn_ fil
    rw [hx0, if_neg (show ¬ (false = true) by decide)]
    by_cases hj2 : j < s.size * g
    · rw [if_pos hj2]; exact hr j hj
    · rw [if_neg hj2, hr j hj, getD_out (by omega)]
theorem prog_l1 (hgood : ∀ t, t < s.size → good g (ch s t) = true) : ∀ d t, t + d = s.size → ∀ {v x : Nat}, v < 2 ^ w → x < 2 ^ w → (∀ j, j < w → st v x j = (Vt s g t).getD j 48) → okT s g w t →
    ∃ R, Ev (fun k => bits_grouped.l1 k s (w : Int) (g : Int) ((t * g : Nat) : Int) ((s.size : Int) - 1 - (t : Int)) (w : Int) (v : Int) (x : Int)) R ∧
      (okT s g w s.size → ∃ V X : Nat, R = ((w : Int), (V : Int), (X : Int), 0) ∧ V < 2 ^ w ∧ X < 2 ^ w ∧ ∀ j, j < w → st V X j = fn_ s g j) ∧ (¬ okT s g w s.size → R = (0, 0, 0, 3)) := by
  have hg1 := g_pos g hg
  intro d
  induction d with
  | zero =>
    intro t ht v x hv hx hr hok
    obtain rfl : t = s.size := by omega
    obtain ⟨V, X, a, b, c, e⟩ := prog_end s hs hn g hg h1 h2 hv hx hr
    exact ⟨_, e, fun _ => ⟨V, X, rfl, a, b, c⟩, fun h => absurd hok h⟩
  | succ d ih =>
    intro t ht v x hv hx hr hok
    have htg : t * g ≤ 4000 := by have := Nat.mul_le_mul (show t ≤ 1000 by omega) hg1.2; omega
    have e14 : (s.size : Int) - 1 - (t : Int) = ((s.size - 1 - t : Nat) : Int) := by omega
    obtain ⟨vd, xd, d1, d2, d3, d4, d5⟩ := piece s hs g hg (hgood t (by omega))
    have enter : ∀ {R : Int × Int × Int × Int}, Ev (fun k => bits_grouped.l2 k s (w : Int) (g : Int) ((t * g : Nat) : Int) ((s.size - 1 - t : Nat) : Int) (g : Int) 0 (w : Int) (v : Int) (x : Int) (g : Int) (vd : Int) (xd : Int)) R →
        Ev (fun k => bits_grouped.l1 k s (w : Int) (g : Int) ((t * g : Nat) : Int) ((s.size : Int) - 1 - (t : Int)) (w : Int) (v : Int) (x : Int)) R := by
      intro R h
      have j4 : Ev (fun k => bits_grouped.j4 k s (w : Int) (g : Int) ((t * g : Nat) : Int) ((s.size - 1 - t : Nat) : Int) (w : Int) (v : Int) (x : Int) (g : Int) (vd : Int) (xd : Int)) R := by
        refine Ev.step (fun k => by rw [bits_grouped.j4]) ?_
        exact h
      have j3 : ∀ b, b = xz (ch s t) → Ev (fun k => bits_grouped.j3 k s (w : Int) (g : Int) ((t * g : Nat) : Int) ((s.size - 1 - t : Nat) : Int) (ch s t) b (w : Int) (v : Int) (x : Int)) R := by
        intro b hb
        refine Ev.step (fun k => by rw [bits_grouped.j3]) ?_
        cases b with
        | true => exact Ev.pos rfl (Ev.bind (d4 hb.symm) j4)
        | false =>
          obtain ⟨e, e1, e2⟩ := d5 hb.symm
          exact Ev.neg (by decide) (Ev.bind e1 (Ev.bnd e2 j4))
      rw [e14]
      have hch : bt s ((s.size - 1 - t : Nat) : Int) = ch s t := rfl
      refine Ev.step (fun k => by rw [bits_grouped.l1]) (Ev.pos (by omega) (Ev.pos (by omega) (Ev.pos (by omega) ?_)))
      rw [hch]
      by_cases e1 : ch s t = 120
      · exact Ev.pos e1 (j3 true (xz_or.2 (.inl e1)).symm)
      · refine Ev.neg e1 (j3 _ ?_)
        unfold xz
        rw [beq_eq_false_iff_ne.2 e1, Bool.false_or]
    by_cases hall : ∀ j, j < g → okJ s g w t j
    · obtain ⟨V, X, G⟩ := Put_gives h1 h2 hv hx (show 1 ≤ g by omega) (by omega) d1 d2 ((t * g : Nat) : Int)
      have hr' : ∀ j, j < w → st V X j = (Vt s g (t + 1)).getD j 48 := by
        intro j hj
        rw [G.st j hj]
        unfold putS
        by_cases c1 : j < t * g
        · rw [if_neg (by omega), hr j hj, Vt_old _ _ _ _ c1]
        · by_cases c2 : j < t * g + g
          · rw [if_pos (by omega), d3 _ (by omega)]
            have e := Vt_new s g t (j - t * g)
            rw [show t * g + (j - t * g) = j by omega] at e
            rw [e]
            congr 1
            omega
          · rw [if_neg (by omega), hr j hj, getD_out (by rw [Vt_length]; omega), getD_out (by rw [Vt_length, Nat.succ_mul]; omega)]
      obtain ⟨R, r1, r2, r3⟩ := ih (t + 1) (by omega) G.v G.x hr' (fun t' ht' => by
        rcases Nat.lt_or_ge t' t with h | h
        · exact hok t' h
        · obtain rfl : t' = t := by omega
          exact hall)
      refine ⟨R, enter ?_, r2, r3⟩
      refine prog_l2 s hs hn g hg h1 h2 t (by omega) d1 d2 d3 (v : Int) (x : Int) (fun _ => ?_) (fun h => absurd hall h) g 0 (by omega) (fun j' h => absurd h (by omega))
      refine Ev.step (fun k => by rw [bits_grouped.l2]) ?_
      refine Ev.neg (by omega) (Ev.bind G.ev ?_)
      rw [w64 (n := ((t * g : Nat) : Int) + (g : Int)) (by omega), w64 (n := ((s.size - 1 - t : Nat) : Int) - 1) (by omega), show ((t * g : Nat) : Int) + (g : Int) = (((t + 1) * g : Nat) : Int) by rw [Nat.succ_mul]; omega,
        show ((s.size - 1 - t : Nat) : Int) - 1 = (s.size : Int) - 1 - ((t + 1 : Nat) : Int) by omega]
      exact r1
    · refine ⟨(0, 0, 0, 3), enter ?_, fun h => absurd (h t (by omega)) hall, fun _ => rfl⟩
      exact prog_l2 s hs hn g hg h1 h2 t (by omega) d1 d2 d3 (v : Int) (x : Int) (fun h => absurd h hall) (fun _ => rfl) g 0 (by omega) (fun j' h => absurd h (by omega))
end
section
variable (s : ByteArray) (hs : s.size ≤ 1000) (g : Nat) (hg : g = 1 ∨ g = 3 ∨ g = 4) (W1 bad : Int) (y1 y2 y3 : Int)
include hs hg
theorem prog_l0 {R : Int × Int × Int × Int} (hR : (∀ i, i < s.size → good g (bt s (i : Int)) = true) → Ev (fun k => bits_grouped.l0 k s W1 (g : Int) bad (s.size : Int) (s.size : Int) y1 y2 y3) R) (hF : ¬ (∀ i, i < s.size → good g (bt s (i : Int)) = true) → R = (0, 0, 0, 10)) :
    ∀ d i, i + d = s.size → (∀ i', i' < i → good g (bt s (i' : Int)) = true) → Ev (fun k => bits_grouped.l0 k s W1 (g : Int) bad (s.size : Int) (i : Int) y1 y2 y3) R := by
  have hg1 := g_pos g hg
  have hshl : shl .i64 1 (g : Int) = ((2 ^ g : Nat) : Int) := by rcases hg with rfl | rfl | rfl <;> decide
  intro d
  induction d with
  | zero =>
    intro i hi hok
    obtain rfl : i = s.size := by omega
    exact hR hok
  | succ d ih =>
    intro i hi hok
    have jf : good g (bt s (i : Int)) = true → Ev (fun k => bits_grouped.j1 k s W1 (g : Int) bad (s.size : Int) (i : Int) false y1 y2 y3) R := by
      intro h
      refine Ev.step (fun k => by rw [bits_grouped.j1]) ?_
      refine Ev.neg (by decide) ?_
      rw [w64 (n := (i : Int) + 1) (by omega)]
      refine ih (i + 1) (by omega) (fun i' hi' => ?_)
      rcases Nat.lt_or_ge i' i with h3 | h3
      · exact hok i' h3
      · obtain rfl : i' = i := by omega
        exact h
    have jt : ¬ good g (bt s (i : Int)) = true → Ev (fun k => bits_grouped.j1 k s W1 (g : Int) bad (s.size : Int) (i : Int) true y1 y2 y3) R := by
      intro h
      rw [hF (fun a => h (a i (by omega)))]
      refine Ev.step (fun k => by rw [bits_grouped.j1]) ?_
      exact Ev.pos rfl (Ev.now _)
    refine Ev.step (fun k => by rw [bits_grouped.l0]) (Ev.pos (by omega) (Ev.pos (by omega) (Ev.pos (by omega) ?_)))
    generalize bt s (i : Int) = c at jf jt
    by_cases e1 : c = 120
    · exact Ev.pos e1 (jf (by unfold good; rw [xz_or.2 (.inl e1), Bool.true_or]))
    refine Ev.neg e1 ?_
    by_cases e2 : c = 122
    · exact Ev.pos e2 (jf (by unfold good; rw [xz_or.2 (.inr e2), Bool.true_or]))
    refine Ev.neg e2 (Ev.bind (digit_ev c) ?_)
    have hx : xz c = false := by
      unfold xz
      rw [beq_eq_false_iff_ne.2 e1, beq_eq_false_iff_ne.2 e2]; rfl
    have hgd : good g c = decide (dv c < 2 ^ g) := by unfold good; rw [hx, Bool.false_or]
    have hg16 : 2 ^ g ≤ 16 := by rcases hg with rfl | rfl | rfl <;> decide
    rw [hgd] at jf jt
    by_cases e3 : dv c = 99
    · rw [if_pos e3]
      exact Ev.pos (by decide) (jt (by rw [decide_eq_true_iff]; omega))
    · have hd := digit_ev c
      rw [if_neg e3] at hd ⊢
      refine Ev.neg (by omega) (Ev.bind hd (Ev.pos (by omega) ?_))
      rw [hshl]
      by_cases e4 : dv c < 2 ^ g
      · rw [decide_eq_false (show ¬ ((dv c : Int) ≥ ((2 ^ g : Nat) : Int)) by omega)]
        exact jf (decide_eq_true e4)
      · rw [decide_eq_true (show ((dv c : Int) ≥ ((2 ^ g : Nat) : Int)) by omega)]
        exact jt (by rw [decide_eq_true_iff]; exact e4)
end
end Go.Proofs.YtfigblfjogpojaaDoor.PBits
end
