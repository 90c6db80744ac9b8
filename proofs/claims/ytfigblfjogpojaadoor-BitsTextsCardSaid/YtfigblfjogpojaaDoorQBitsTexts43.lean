/- Part 44 of the proof of BitsTextsCardSaid: The law BitsTexts: for all arguments it returns true; each argument reads behind the call as it read before. Out of the plain theorem of YtfigblfjogpojaaDoorPureBitsTexts and the printed contract. -/
import Derived.Test.YtfigblfjogpojaaDoorQBitsTexts42
section
namespace Go.Proofs.YtfigblfjogpojaaDoor.PBits
open Go.RowKit Go.Proofs.YtfigblfjogpojaaDoorW.PrintWords Go.Proofs.YtfigblfjogpojaaDoorW.PrintLast Go.Proofs.YtfigblfjogpojaaDoorW.PrintMore Go.Proofs.YtfigblfjogpojaaDoor.Bz
set_option linter.unusedVariables false
set_option linter.unusedSimpArgs false
set_option linter.unusedSectionVars false
section
variable (s : ByteArray) (hs : s.size ≤ 1000) (hn : 1 ≤ s.size) (g : Nat) (hg : g = 1 ∨ g = 3 ∨ g = 4)
def stra (W2 : Int) (t : Nat) : Prop := xz (ch s t) = true ∧ ((t * g : Nat) : Int) < W2 ∧ ((t * g : Nat) : Int) + (g : Int) > W2
theorem Lo_spec (W2 : Int) : ∀ n, (Lo s g W2 n = 0 ∧ ∀ t, t < n → ¬ stra s g W2 t) ∨ (∃ t0, t0 < n ∧ stra s g W2 t0 ∧ Lo s g W2 n = ((t0 * g : Nat) : Int) + (g : Int) - W2)
  | 0 => .inl ⟨rfl, fun t h => absurd h (by omega)⟩
  | n + 1 => by
    by_cases h : stra s g W2 n
    · refine .inr ⟨n, by omega, h, ?_⟩
      show (if _ then _ else _) = _
      exact if_pos h
    · have hL : Lo s g W2 (n + 1) = Lo s g W2 n := by
        show (if _ then _ else _) = _
        exact if_neg h
      rw [hL]
      rcases Lo_spec W2 n with ⟨a, b⟩ | ⟨t0, a, b, c⟩
      · refine .inl ⟨a, fun t ht => ?_⟩
        rcases Nat.lt_or_ge t n with h3 | h3
        · exact b t h3
        · obtain rfl : t = n := by omega
          exact h
      · exact .inr ⟨t0, by omega, b, c⟩
include hg in
theorem ok_iff {w : Nat} {a0 : Nat} (ha : (a0 : Int) = (w : Int) + Lo s g (w : Int) s.size) (f : Int) :
    okT s g w s.size ↔ ∀ i, a0 ≤ i → i < (Vt s g s.size ++ List.replicate (w - s.size * g) f).length → (Vt s g s.size ++ List.replicate (w - s.size * g) f).getD i 48 = 48 := by
  have hlen := Vt_length s g s.size
  have hzl : (Vt s g s.size ++ List.replicate (w - s.size * g) f).length = s.size * g + (w - s.size * g) := by rw [List.length_append, hlen, List.length_replicate]
  have hget : ∀ i, i < s.size * g → (Vt s g s.size ++ List.replicate (w - s.size * g) f).getD i 48 = (Vt s g s.size).getD i 48 := by
    intro i hi
    rw [List.getD_eq_getElem?_getD, List.getElem?_append_left (by rw [hlen]; exact hi), ← List.getD_eq_getElem?_getD]
  have hsp := Lo_spec s g (w : Int) s.size
  have hle : ∀ t, t < s.size → t * g + g ≤ s.size * g := by
    intro t ht
    have := Nat.mul_le_mul_right g (show t + 1 ≤ s.size by omega)
    rw [Nat.succ_mul] at this; exact this
  have hg1 := g_pos g hg
  constructor
  · intro hok i hi hlt
    rw [hzl] at hlt
    have hwi : w ≤ i := by
      rcases hsp with ⟨a, _⟩ | ⟨t0, _, b, c⟩
      · omega
      · unfold stra at b; omega
    have hin : i < s.size * g := by omega
    rw [hget i hin]
    have hdiv : i / g < s.size := Nat.div_lt_of_lt_mul (by rw [Nat.mul_comm]; exact hin)
    have hmod : i % g < g := Nat.mod_lt _ (by omega)
    have hi' : i / g * g + i % g = i := by rw [Nat.mul_comm]; exact Nat.div_add_mod i g
    have e := Vt_at s g s.size (i / g) (i % g) hdiv hmod
    rw [hi'] at e
    rw [e]
    have := hok (i / g) hdiv (i % g) hmod (by rw [hi']; exact hwi)
    rcases this with h | ⟨h, h'⟩
    · exact h
    · exfalso
      have hst : stra s g (w : Int) (i / g) := ⟨h, by omega, by omega⟩
      rcases hsp with ⟨_, b⟩ | ⟨t0, a, b, c⟩
      · exact b _ hdiv hst
      · have ht : t0 = i / g := by
          unfold stra at b hst
          rcases Nat.lt_trichotomy t0 (i / g) with q | q | q
          · have := Nat.mul_le_mul_right g (show t0 + 1 ≤ i / g by omega)
            rw [Nat.succ_mul] at this; omega
          · exact q
          · have := Nat.mul_le_mul_right g (show i / g + 1 ≤ t0 by omega)
            rw [Nat.succ_mul] at this; omega
        rw [ht] at c
        omega
  · intro hall t ht j hj hbey
    have e := Vt_at s g s.size t j ht hj
    have hlt := hle t ht
    by_cases hge : a0 ≤ t * g + j
    · left
      rw [← e, ← hget _ (by omega)]
      exact hall _ hge (by rw [hzl]; omega)
    · right
      rcases hsp with ⟨a, _⟩ | ⟨t0, a, b, c⟩
      · omega
      · have hb := b
        unfold stra at hb
        have ht0 : t0 = t := by
          rcases Nat.lt_trichotomy t0 t with q | q | q
          · have := Nat.mul_le_mul_right g (show t0 + 1 ≤ t by omega)
            rw [Nat.succ_mul] at this; omega
          · exact q
          · have := Nat.mul_le_mul_right g (show t + 1 ≤ t0 by omega)
            rw [Nat.succ_mul] at this; omega
        rw [ht0] at hb
        exact ⟨hb.1, by omega⟩
include hs hn hg
theorem grouped_same {W1 bad W2 : Int} (hw : wide W1 bad W2) : ∃ R, Ev (fun k => bits_grouped.f k s W1 (g : Int) bad) R ∧ Ev (fun k => maskref1_readDigits.f k s W2 (g : Int)) R := by
  have hg1 := g_pos g hg
  have hsg : s.size * g ≤ 4000 := by have := Nat.mul_le_mul hs hg1.2; omega
  have hW : 1 ≤ W2 ∧ W2 ≤ 100000 := by unfold wide at hw; omega
  have iffG : (∀ i, i < s.size → good g (bt s (i : Int)) = true) ↔ (∀ t, t < s.size → good g (ch s t) = true) := by
    constructor
    · intro h t ht
      exact h (s.size - 1 - t) (by omega)
    · intro h i hi
      have := h (s.size - 1 - i) (by omega)
      unfold ch at this
      rw [show s.size - 1 - (s.size - 1 - i) = i by omega] at this
      exact this
  have start : ∀ {R}, Ev (fun k => maskref1_readDigits.l0 k s W2 (g : Int) (Vt s g 0) (Lo s g W2 0) ((s.size : Int) - 1 - ((0 : Nat) : Int))) R → Ev (fun k => maskref1_readDigits.f k s W2 (g : Int)) R := by
    intro R h
    unfold maskref1_readDigits.f
    rw [w64 (n := (s.size : Int) - 1) (by omega)]
    rw [show (s.size : Int) - 1 - ((0 : Nat) : Int) = (s.size : Int) - 1 by omega] at h
    exact h
  have startP : ∀ {R}, Ev (fun k => bits_grouped.l0 k s W1 (g : Int) bad (s.size : Int) ((0 : Nat) : Int) W1 0 0) R → Ev (fun k => bits_grouped.f k s W1 (g : Int) bad) R := by
    intro R h
    unfold bits_grouped.f
    exact h
  by_cases hG : ∀ t, t < s.size → good g (ch s t) = true
  · have hG' := iffG.2 hG
    rcases hw with ⟨rfl, rfl, w1, w2⟩ | ⟨rfl, w1, w2⟩
    · obtain ⟨w, rfl⟩ := Int.eq_ofNat_of_zero_le (show 0 ≤ W1 by omega)
      have hw1 : 1 ≤ w := by omega
      have hw2 : w ≤ 64 := by omega
      have hp : 0 < 2 ^ w := Nat.pos_of_ne_zero (by simp)
      obtain ⟨R, r1, r2, r3⟩ := prog_l1 s hs hn g hg hw1 hw2 hG s.size 0 (by omega) (v := 0) (x := 0) hp hp (fun j _ => by unfold st; rw [Nat.zero_testBit]; rfl) (fun t h => absurd h (by omega))
      refine ⟨R, startP (prog_l0 s hs g hg (w : Int) 0 (w : Int) 0 0 (fun _ => ?_) (fun h => absurd hG' h) s.size 0 (by omega) (fun i h => absurd h (by omega))), start (ref_l0 s hs g hg (w : Int) hW (fun _ => ?_) (fun h => absurd hG h) s.size 0 (by omega) (fun i h => absurd h (by omega)))⟩
      · refine Ev.step (fun k => by rw [bits_grouped.l0]) (Ev.neg (by omega) (Ev.pos rfl ?_))
        rw [w64 (n := (s.size : Int) - 1) (by omega)]
        rw [Nat.zero_mul, show (s.size : Int) - 1 - ((0 : Nat) : Int) = (s.size : Int) - 1 by omega] at r1
        exact r1
      ·
        have hlen := Vt_length s g s.size
        have hLo : 0 ≤ Lo s g (w : Int) s.size ∧ Lo s g (w : Int) s.size ≤ 4 := by
          rcases Lo_spec s g (w : Int) s.size with ⟨a, _⟩ | ⟨t0, a, b, c⟩
          · omega
          · unfold stra at b; omega
        obtain ⟨a0, ha0⟩ : ∃ a0 : Nat, (a0 : Int) = (w : Int) + Lo s g (w : Int) s.size := ⟨((w : Int) + Lo s g (w : Int) s.size).toNat, by omega⟩
        have hzl : ∀ f : Int, (Vt s g s.size ++ List.replicate (w - s.size * g) f).length = s.size * g + (w - s.size * g) := fun f => by rw [List.length_append, hlen, List.length_replicate]
        have tail : Ev (fun k => maskref1_readDigits.j5 k (w : Int) (Vt s g s.size) (Lo s g (w : Int) s.size) (fil s)) R := by
          refine Ev.step (fun k => by rw [maskref1_readDigits.j5]) ?_
          refine fill_l3 hw1 hw2 _ (fil s) (w - s.size * g) (Vt s g s.size) (by omega) (by rw [hlen]) ?_
          rw [w64 (n := (w : Int) + Lo s g (w : Int) s.size) (by omega), ← ha0]
          have hif := ok_iff s g hg (w := w) ha0 (fil s)
          refine check_l4 hw1 hw2 (Vt s g s.size ++ List.replicate (w - s.size * g) (fil s)) (by rw [hzl]; omega) (by rw [hzl]; omega) a0 (fun h => ?_) (fun h => r3 (fun a => h (hif.1 a))) (s.size * g + (w - s.size * g) - a0) a0 ?_ (Nat.le_refl _) (fun i h h' _ => absurd h' (by omega))
          · obtain ⟨V, X, hR, hV, hX, hst⟩ := r2 (hif.2 h)
            refine ⟨(V : Int), (X : Int), B_is hw1 hw2 ?_ hV hX (fun j hj => ?_), hR⟩
            · rw [List.length_take, hzl]; omega
            · rw [hst j hj, List.getD_eq_getElem?_getD, List.getElem?_take, if_pos hj]
              unfold fn_
              by_cases hj2 : j < s.size * g
              · rw [if_pos hj2, List.getElem?_append_left (by rw [hlen]; exact hj2), List.getD_eq_getElem?_getD, List.getElem?_eq_getElem (by rw [hlen]; exact hj2)]; rfl
              · rw [if_neg hj2, List.getElem?_append_right (by rw [hlen]; omega), List.getElem?_replicate, hlen, if_pos (by omega)]; rfl
          · rw [hzl]; omega
        refine Ev.step (fun k => by rw [maskref1_readDigits.l0]) (Ev.neg (by omega) (Ev.neg (by omega) (Ev.pos (by omega) ?_)))
        have jt : xz (bt s 0) = true → Ev (fun k => maskref1_readDigits.j4 k s (w : Int) (Vt s g s.size) (Lo s g (w : Int) s.size) 48 true) R := by
          intro hx
          refine Ev.step (fun k => by rw [maskref1_readDigits.j4]) ?_
          refine Ev.pos rfl (Ev.pos (by omega) ?_)
          have : fil s = bt s 0 := by unfold fil; exact if_pos hx
          rw [this] at tail
          exact tail
        by_cases e1 : bt s 0 = 120
        · exact Ev.pos e1 (jt (xz_or.2 (.inl e1)))
        · refine Ev.neg e1 ?_
          by_cases e2 : bt s 0 = 122
          · rw [show (bt s 0 == 122) = true from beq_iff_eq.2 e2]
            exact jt (xz_or.2 (.inr e2))
          · rw [show (bt s 0 == 122) = false from beq_eq_false_iff_ne.2 e2]
            have hx : ¬ xz (bt s 0) = true := fun h => by
              rcases xz_or.1 h with h | h
              · exact e1 h
              · exact e2 h
            refine Ev.step (fun k => by rw [maskref1_readDigits.j4]) ?_
            have : fil s = 48 := by unfold fil; exact if_neg hx
            rw [this] at tail
            exact Ev.neg (by decide) tail
    · refine ⟨(0, 0, 0, 2), startP (prog_l0 s hs g hg W1 2 W1 0 0 (fun _ => ?_) (fun h => absurd hG' h) s.size 0 (by omega) (fun i h => absurd h (by omega))), start (ref_l0 s hs g hg W2 hW (fun _ => ?_) (fun h => absurd hG h) s.size 0 (by omega) (fun i h => absurd h (by omega)))⟩
      · refine Ev.step (fun k => by rw [bits_grouped.l0]) (Ev.neg (by omega) (Ev.neg (by decide) (Ev.now _)))
      · refine Ev.step (fun k => by rw [maskref1_readDigits.l0]) (Ev.neg (by omega) (Ev.pos (by omega) (Ev.now _)))
  · have hG' : ¬ (∀ i, i < s.size → good g (bt s (i : Int)) = true) := fun a => hG (iffG.1 a)
    exact ⟨(0, 0, 0, 10), startP (prog_l0 s hs g hg W1 bad W1 0 0 (fun h => absurd h hG') (fun _ => rfl) s.size 0 (by omega) (fun i h => absurd h (by omega))), start (ref_l0 s hs g hg W2 hW (fun h => absurd h hG) (fun _ => rfl) s.size 0 (by omega) (fun i h => absurd h (by omega)))⟩
theorem decimal_same {W1 bad W2 : Int} (hw : wide W1 bad W2) : ∃ R, Ev (fun k => bits_decimal.f k s W1 bad) R ∧ Ev (fun k => maskref1_readDecimal.f k s W2) R := by
  have both : ∀ c : UInt8, xz (c.toNat : Int) = true → s.data.toList = [c] → ∃ R, Ev (fun k => bits_decimal.j0 k s W1 bad true) R ∧ Ev (fun k => maskref1_readDecimal.j0 k s W2 true) R := by
    intro c hc hl
    have hb : bt s 0 = (c.toNat : Int) := (bt_drop s 0 (c := c) (r := []) (by rw [List.drop_zero]; exact hl)).2.1
    rcases hw with ⟨rfl, rfl, w1, w2⟩ | ⟨rfl, w1, w2⟩
    · obtain ⟨w, rfl⟩ := Int.eq_ofNat_of_zero_le (show 0 ≤ W1 by omega)
      refine ⟨((allS w (c.toNat : Int)).1, (allS w (c.toNat : Int)).2.1, (allS w (c.toNat : Int)).2.2, 0), ?_, ?_⟩
      · refine Ev.step (fun k => by rw [bits_decimal.j0]) ?_
        refine Ev.pos rfl (Ev.pos rfl (Ev.pos (by omega) ?_))
        rw [hb]
        exact Ev.bind (All_is (by omega) (by omega) _) (Ev.now _)
      · refine Ev.step (fun k => by rw [maskref1_readDecimal.j0]) ?_
        refine Ev.pos rfl (Ev.neg (by omega) (Ev.pos (by omega) ?_))
        rw [hb]
        have hc4 : (c.toNat : Int) = 48 ∨ (c.toNat : Int) = 49 ∨ (c.toNat : Int) = 120 ∨ (c.toNat : Int) = 122 := by
          rcases xz_or.1 hc with h | h
          · exact .inr (.inr (.inl h))
          · exact .inr (.inr (.inr h))
        have hB : Ev (fun k => maskref1_B.f k (List.replicate w (c.toNat : Int))) (allS w (c.toNat : Int)) := by
          have hp : 0 < 2 ^ w := Nat.pos_of_ne_zero (by simp)
          have hgd : ∀ i, i < w → (List.replicate w (c.toNat : Int)).getD i 0 = (c.toNat : Int) := by
            intro i hi
            rw [List.getD_eq_getElem?_getD, List.getElem?_replicate, if_pos hi]; rfl
          have hbm : ∀ i, i < w → (msk w).testBit i = true := by
            intro i hi
            rw [testBit_msk, decide_eq_true_iff]; omega
          have hl2 : (List.replicate w (c.toNat : Int)).length = w := List.length_replicate
          rcases xz_or.1 hc with h | h
          · refine (B_is (by omega) (by omega) hl2 (v := msk w) (x := msk w) (msk_lt' (by omega)) (msk_lt' (by omega)) fun i hi => ?_).eq (by rw [h]; rfl)
            rw [hgd i hi]; unfold st; rw [hbm i hi, h]; rfl
          · refine (B_is (by omega) (by omega) hl2 (v := 0) (x := msk w) hp (msk_lt' (by omega)) fun i hi => ?_).eq (by rw [h]; rfl)
            rw [hgd i hi]; unfold st; rw [Nat.zero_testBit, hbm i hi, h]; rfl
        exact Ev.bind (Fill_ev _ w (by omega)) (Ev.bind hB (Ev.now _))
    · refine ⟨(0, 0, 0, 2), ?_, ?_⟩
      · refine Ev.step (fun k => by rw [bits_decimal.j0]) ?_
        exact Ev.pos rfl (Ev.neg (by decide) (Ev.now _))
      · refine Ev.step (fun k => by rw [maskref1_readDecimal.j0]) ?_
        exact Ev.pos rfl (Ev.pos (by omega) (Ev.now _))
  have ht : ∀ c : UInt8, s.toList = ([c] : List UInt8) ↔ s.data.toList = [c] := fun c => by rw [ByteArray.toList_eq]
  by_cases h1 : s.toList = ([120] : List UInt8)
  · obtain ⟨R, k1, k2⟩ := both 120 (by decide) ((ht 120).1 h1)
    refine ⟨R, ?_, ?_⟩
    · unfold bits_decimal.f; exact Ev.pos h1 k1
    · unfold maskref1_readDecimal.f; exact Ev.pos h1 k2
  · by_cases h2 : s.toList = ([122] : List UInt8)
    · obtain ⟨R, k1, k2⟩ := both 122 (by decide) ((ht 122).1 h2)
      refine ⟨R, ?_, ?_⟩
      · unfold bits_decimal.f
        refine Ev.neg h1 ?_
        rw [show (s.toList == ([122] : List UInt8)) = true from beq_iff_eq.2 h2]
        exact k1
      · unfold maskref1_readDecimal.f
        refine Ev.neg h1 ?_
        rw [show (s.toList == ([122] : List UInt8)) = true from beq_iff_eq.2 h2]
        exact k2
    · obtain ⟨R, k1, k2⟩ := dec_l0 s hs hw s.data.toList 0 (List.drop_zero ..) (Nat.zero_le _) 0 0 false (by decide) (fun _ => ⟨rfl, by decide⟩)
      rw [if_neg (by decide)] at k2
      refine ⟨R, ?_, ?_⟩
      · unfold bits_decimal.f
        refine Ev.neg h1 ?_
        rw [show (s.toList == ([122] : List UInt8)) = false from beq_eq_false_iff_ne.2 h2]
        refine Ev.step (fun k => by rw [bits_decimal.j0]) ?_
        exact Ev.neg (by decide) k1
      · unfold maskref1_readDecimal.f
        refine Ev.neg h1 ?_
        rw [show (s.toList == ([122] : List UInt8)) = false from beq_eq_false_iff_ne.2 h2]
        refine Ev.step (fun k => by rw [maskref1_readDecimal.j0]) ?_
        have hf := Fill_ev 48 70 (by decide)
        rw [show List.replicate 70 (48 : Int) = vs 70 0 0 by decide] at hf
        have hf' : Ev (fun k => maskref1_Fill.f k 70 48) (vs 70 0 0) := hf
        exact Ev.neg (by decide) (Ev.bind hf' k2)
end
end Go.Proofs.YtfigblfjogpojaaDoor.PBits
end
