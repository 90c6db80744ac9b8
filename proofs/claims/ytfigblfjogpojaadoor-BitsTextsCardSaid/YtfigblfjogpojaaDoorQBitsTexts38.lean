/- Part 39 of the proof of BitsTextsCardSaid: The law BitsTexts: for all arguments it returns true; each argument reads behind the call as it read before. Out of the plain theorem of YtfigblfjogpojaaDoorPureBitsTexts and the printed contract. -/
import Derived.Test.YtfigblfjogpojaaDoorQBitsTexts36
import Derived.Test.YtfigblfjogpojaaDoorQBitsTexts30
import Derived.Test.YtfigblfjogpojaaDoorQBitsTexts37
section
namespace Go.Proofs.YtfigblfjogpojaaDoor.PBits
open Go.RowKit Go.Proofs.YtfigblfjogpojaaDoorW.PrintWords Go.Proofs.YtfigblfjogpojaaDoorW.PrintLast Go.Proofs.YtfigblfjogpojaaDoorW.PrintMore Go.Proofs.YtfigblfjogpojaaDoor.Bz
set_option linter.unusedVariables false
set_option linter.unusedSimpArgs false
set_option linter.unusedSectionVars false
theorem size_list (s : ByteArray) : s.size = s.data.toList.length := by rw [Array.length_toList]; rfl
theorem bt_nat (s : ByteArray) (i : Nat) (h : i < s.size) : bt s (i : Int) = ((s.data.toList[i]'(by rw [← size_list]; exact h)).toNat : Int) := by
  unfold bt
  simp only [Int.toNat_natCast]
  rw [dif_pos h]
  rfl
theorem bt_drop (s : ByteArray) (i : Nat) {c : UInt8} {r : List UInt8} (h : s.data.toList.drop i = c :: r) : i < s.size ∧ bt s (i : Int) = (c.toNat : Int) ∧ s.data.toList.drop (i + 1) = r := by
  have hl : i < s.data.toList.length := by
    rcases Nat.lt_or_ge i s.data.toList.length with h1 | h1
    · exact h1
    · rw [List.drop_eq_nil_of_le h1] at h; cases h
  rw [List.drop_eq_getElem_cons hl] at h
  injection h with h1 h2
  have hs : i < s.size := by rw [size_list]; exact hl
  exact ⟨hs, by rw [bt_nat s i hs, h1], h2⟩
theorem bt_none (s : ByteArray) (i : Nat) (h : s.data.toList.drop i = []) : s.size ≤ i := by
  rw [size_list]; exact List.drop_eq_nil_iff.1 h
theorem drop_vs (w v n : Nat) (h : n ≤ w) : (vs w v 0).drop n = vs (w - n) (v >>> n) 0 := by
  apply List.ext_getElem
  · rw [List.length_drop, vs_length, vs_length]
  · intro i h1 h2
    rw [List.length_drop, vs_length] at h1
    rw [List.getElem_drop, vs_get _ _ _ _ (by omega), vs_get _ _ _ _ (by omega)]
    unfold st
    rw [Nat.zero_testBit, Nat.zero_testBit, Nat.testBit_shiftRight]
theorem cons_vs (n a : Nat) : 48 :: vs n a 0 = vs (n + 1) (2 * a) 0 := by
  unfold vs
  rw [List.range_succ_eq_map, List.map_cons, List.map_map]
  congr 1
  · unfold st
    rw [Nat.zero_testBit, Nat.testBit_zero, Nat.mul_mod_right]; rfl
  · apply List.map_congr_left
    intro i _
    show st a 0 i = st (2 * a) 0 (i + 1)
    unfold st
    rw [Nat.zero_testBit, Nat.zero_testBit, Nat.testBit_succ, Nat.mul_div_cancel_left _ (by decide)]
theorem take_vs0 (w v n : Nat) (h : n ≤ w) : (vs w v 0).take n = vs n v 0 := take_vs w v 0 n h
theorem digit_set : ∀ (d : Fin 10) (j : Fin 4), (vs 70 (d.1 % 2 ^ j.1) 0).set j.1 ((48 + (Go.bits .and .u8 (shr .u8 ((((48 + d.1 : Nat) : Int) - 48) % 256) (j.1 : Int)) 1)) % 256) = vs 70 (d.1 % 2 ^ (j.1 + 1)) 0 := by decide +kernel
theorem wrapu (z : Int) : ∃ m : Nat, IntKind.u64.wrap z = (m : Int) ∧ m < 2 ^ 64 := by
  refine ⟨(z % 18446744073709551616).toNat, ?_, ?_⟩
  · rw [IntKind.wrap_u64]; omega
  · omega
def wide (W1 bad W2 : Int) : Prop := (bad = 0 ∧ W1 = W2 ∧ 1 ≤ W2 ∧ W2 ≤ 64) ∨ (bad = 2 ∧ W2 > 64 ∧ W2 ≤ 100000)
section
variable (s : ByteArray) (hs : s.size ≤ 1000) {W1 bad W2 : Int} (hw : wide W1 bad W2)
include hs hw
theorem dig_l1 (x6 : List Int) (x7 : Bool) (i : Nat) (hi : i < s.size) (x29 x30 : Int) {d : Nat} (hd : d < 10) (hb : bt s (i : Int) = ((48 + d : Nat) : Int)) {R : Int × Int × Int × Int}
    (h : Ev (fun k => maskref1_readDecimal.l1 k s W2 x6 x7 (i : Int) (vs 70 d 0) x29 x30 4) R) : ∀ (n j : Nat), j + n = 4 → Ev (fun k => maskref1_readDecimal.l1 k s W2 x6 x7 (i : Int) (vs 70 (d % 2 ^ j) 0) x29 x30 (j : Int)) R := by
  intro n
  induction n with
  | zero =>
    intro j hj
    obtain rfl : j = 4 := by omega
    rw [show d % 2 ^ 4 = d by omega]
    exact h
  | succ n ih =>
    intro j hj
    refine Ev.step (fun k => by rw [maskref1_readDecimal.l1]) (Ev.pos (by omega) (Ev.pos (by omega) (Ev.pos (by omega) (Ev.pos (by omega) (Ev.pos (by rw [vs_length]; omega) ?_)))))
    have e := digit_set ⟨d, hd⟩ ⟨j, by omega⟩
    simp only at e
    rw [hb, Int.toNat_natCast, e, w64 (n := (j : Int) + 1) (by omega)]
    exact ih (j + 1) (by omega)
theorem dec_l0 : ∀ (r : List UInt8) (i : Nat), s.data.toList.drop i = r → i ≤ s.size → ∀ (n8 N : Nat) (fl : Bool), n8 < 2 ^ 64 → (fl = false → n8 = N ∧ N < 2 ^ 64) →
    ∃ R, Ev (fun k => bits_decimal.l0 k s W1 bad (n8 : Int) fl (s.size : Int) (i : Int)) R ∧ Ev (fun k => maskref1_readDecimal.l0 k s W2 (vs 70 (if fl = true then 0 else N) 0) fl (s.size : Int) (i : Int)) R := by
  intro r
  induction r with
  | nil =>
    intro i hr hi n8 N fl hn8 hfl
    have hi2 := bt_none s i hr
    rcases hw with ⟨rfl, rfl, w1, w2⟩ | ⟨rfl, w1, w2⟩
    · obtain ⟨w, rfl⟩ := Int.eq_ofNat_of_zero_le (show 0 ≤ W1 by omega)
      cases fl with
      | true =>
        refine ⟨(0, 0, 0, 3), ?_, ?_⟩
        · refine Ev.step (fun k => by rw [bits_decimal.l0]) ?_
          exact Ev.neg (by omega) (Ev.pos rfl (Ev.pos rfl (Ev.now _)))
        · refine Ev.step (fun k => by rw [maskref1_readDecimal.l0]) ?_
          exact Ev.neg (by omega) (Ev.neg (by omega) (Ev.pos rfl (Ev.now _)))
      | false =>
        obtain ⟨rfl, hN⟩ := hfl rfl
        rw [if_neg (by decide)]
        have hsh : n8 >>> w < 2 ^ (70 - w) := lt_of_bits fun j hj => by rw [Nat.testBit_shiftRight]; exact bit_out hN (by omega)
        have ht := TruthW_ev (w := 70 - w) (v := n8 >>> w) (x := 0) hsh (Nat.pos_of_ne_zero (by simp)) (by omega)
        by_cases hbig : n8 < 2 ^ w
        · have z : n8 >>> w = 0 := by rw [Nat.shiftRight_eq_div_pow]; exact Nat.div_eq_of_lt hbig
          refine ⟨((w : Int), (n8 : Int), 0, 0), ?_, ?_⟩
          · refine Ev.step (fun k => by rw [bits_decimal.l0]) ?_
            refine Ev.neg (by omega) (Ev.pos rfl (Ev.neg (by decide) (Ev.bnd (mask_is w) ?_)))
            have hz : Go.bits .andNot .u64 (n8 : Int) ((msk w : Nat) : Int) = 0 := by
              rw [andNot_n _ _ hn8 (msk_lt w)]
              have : andn n8 (msk w) = 0 := by
                apply Nat.eq_of_testBit_eq
                intro j
                rw [testBit_andn _ _ _ hn8 (msk_lt w), testBit_msk, Nat.zero_testBit]
                rcases Nat.lt_or_ge j w with h | h
                · rw [decide_eq_true (show j < w ∧ j < 64 by omega)]; simp
                · rw [bit_out hbig h]; rfl
              rw [this]; rfl
            refine Ev.pos hz (Ev.bnd (Of_is (by omega) (by omega) hn8) ?_)
            rw [Nat.mod_eq_of_lt hbig]
            exact Ev.now _
          · refine Ev.step (fun k => by rw [maskref1_readDecimal.l0]) ?_
            rw [vs_length, Int.toNat_natCast, drop_vs _ _ _ (by omega), take_vs0 _ _ _ (by omega)]
            refine Ev.neg (by omega) (Ev.neg (by omega) (Ev.neg (by decide) (Ev.pos (by omega) (Ev.pos (by omega) (Ev.bind ht ?_)))))
            have hT : truS (n8 >>> w) 0 = 102 := by
              unfold truS
              rw [z, if_neg (by rintro ⟨i, h, _⟩; rw [Nat.zero_testBit] at h; cases h), if_pos rfl]
            rw [hT]
            have hB := B_num (w := w) (by omega) (by omega) n8
            rw [Nat.mod_eq_of_lt hbig] at hB
            exact Ev.neg (by decide) (Ev.bind hB (Ev.now _))
        · have hex : ∃ j, w ≤ j ∧ n8.testBit j = true := by
            apply Classical.byContradiction
            intro hno
            exact hbig (lt_of_bits fun j hj => by
              cases h : n8.testBit j with
              | false => rfl
              | true => exact absurd ⟨j, hj, h⟩ hno)
          obtain ⟨j, hj, hjb⟩ := hex
          refine ⟨(0, 0, 0, 3), ?_, ?_⟩
          · refine Ev.step (fun k => by rw [bits_decimal.l0]) ?_
            refine Ev.neg (by omega) (Ev.pos rfl (Ev.neg (by decide) (Ev.bnd (mask_is w) ?_)))
            refine Ev.neg ?_ (Ev.now _)
            rw [andNot_n _ _ hn8 (msk_lt w)]
            intro h0
            have h0' : andn n8 (msk w) = 0 := by exact_mod_cast h0
            have hb := testBit_andn n8 (msk w) j hn8 (msk_lt w)
            rw [h0', Nat.zero_testBit, hjb, testBit_msk, decide_eq_false (by omega)] at hb
            cases hb
          · refine Ev.step (fun k => by rw [maskref1_readDecimal.l0]) ?_
            rw [vs_length, Int.toNat_natCast, drop_vs _ _ _ (by omega)]
            refine Ev.neg (by omega) (Ev.neg (by omega) (Ev.neg (by decide) (Ev.pos (by omega) (Ev.pos (by omega) (Ev.bind ht ?_)))))
            have hT : truS (n8 >>> w) 0 = 116 := by
              unfold truS
              rw [if_pos ⟨j - w, by rw [Nat.testBit_shiftRight, show w + (j - w) = j by omega]; exact hjb, Nat.zero_testBit _⟩]
            rw [hT]
            exact Ev.pos rfl (Ev.now _)
    · refine ⟨(0, 0, 0, 2), ?_, ?_⟩
      · refine Ev.step (fun k => by rw [bits_decimal.l0]) ?_
        exact Ev.neg (by omega) (Ev.neg (by decide) (Ev.now _))
      · refine Ev.step (fun k => by rw [maskref1_readDecimal.l0]) ?_
        exact Ev.neg (by omega) (Ev.pos (by omega) (Ev.now _))
  | cons c r ih =>
    intro i hr hi n8 N fl hn8 hfl
    obtain ⟨hlt, hc, hr'⟩ := bt_drop s i hr
    by_cases hdig : 48 ≤ c.toNat ∧ c.toNat ≤ 57
    · obtain ⟨d, hd, hcd⟩ : ∃ d, d < 10 ∧ c.toNat = 48 + d := ⟨c.toNat - 48, by omega, by omega⟩
      rw [hcd] at hc
      have hdv : (bt s (i : Int) - 48) % 256 = (d : Int) := by rw [hc]; omega
      have p1 : ¬ bt s (i : Int) < 48 := by rw [hc]; omega
      have p2 : ¬ bt s (i : Int) > 57 := by rw [hc]; omega
      obtain ⟨m, hm1, hm2⟩ := wrapu (IntKind.u64.wrap (10 * (n8 : Int)) + (d : Int))
      have ref : ∀ (x6N : Nat) (x7 : Bool) (R : Int × Int × Int × Int), x6N < 2 ^ 64 →
          (x7 = true → Ev (fun k => maskref1_readDecimal.l0 k s W2 (vs 70 0 0) true (s.size : Int) ((i + 1 : Nat) : Int)) R) →
          (x7 = false → 10 * x6N + d < 2 ^ 64 → Ev (fun k => maskref1_readDecimal.l0 k s W2 (vs 70 (10 * x6N + d) 0) false (s.size : Int) ((i + 1 : Nat) : Int)) R) →
          (x7 = false → ¬ 10 * x6N + d < 2 ^ 64 → Ev (fun k => maskref1_readDecimal.l0 k s W2 (vs 70 0 0) true (s.size : Int) ((i + 1 : Nat) : Int)) R) →
          Ev (fun k => maskref1_readDecimal.l0 k s W2 (vs 70 x6N 0) x7 (s.size : Int) (i : Int)) R := by
        intro x6N x7 R hx6 g1 g2 g3
        have hf := Fill_ev 48 70 (by decide)
        rw [show List.replicate 70 (48 : Int) = vs 70 0 0 by decide] at hf
        have hf' : Ev (fun k => maskref1_Fill.f k 70 48) (vs 70 0 0) := hf
        refine Ev.step (fun k => by rw [maskref1_readDecimal.l0]) (Ev.pos (by omega) (Ev.pos (by omega) (Ev.pos (by omega) (Ev.neg p1 ?_))))
        rw [decide_eq_false p2]
        refine Ev.step (fun k => by rw [maskref1_readDecimal.j2]) ?_
        refine Ev.neg (by decide) (Ev.bind hf' ?_)
        have main := dig_l1 s hs hw (vs 70 x6N 0) x7 i hlt (s.size : Int) (i : Int) hd hc (R := R) ?_ 4 0 rfl
        · rw [show d % 2 ^ 0 = 0 by omega] at main
          exact main
        · have t1 : (([48] : List Int) ++ (vs 70 x6N 0).take 69) = vs 70 (2 * x6N) 0 := by
            rw [take_vs0 _ _ _ (by decide)]; exact cons_vs 69 x6N
          have t2 : (([48, 48, 48] : List Int) ++ (vs 70 x6N 0).take 67) = vs 70 (2 * (2 * (2 * x6N))) 0 := by
            rw [take_vs0 _ _ _ (by decide)]
            show 48 :: 48 :: 48 :: vs 67 x6N 0 = _
            rw [cons_vs, cons_vs, cons_vs]
          have q1 := plusW_ev 70 (2 * x6N) (2 * (2 * (2 * x6N))) false (by decide)
          have q2 := plusW_ev 70 (2 * x6N + 2 * (2 * (2 * x6N)) + false.toNat) d false (by decide)
          rw [show 2 * x6N + 2 * (2 * (2 * x6N)) + false.toNat + d + false.toNat = 10 * x6N + d by simp; omega] at q2
          have hlen : ((vs 70 x6N 0).length : Int) = 70 := by rw [vs_length]; rfl
          refine Ev.step (fun k => by rw [maskref1_readDecimal.l1]) ?_
          refine Ev.neg (by decide) (Ev.bnd rfl ?_)
          rw [hlen]
          refine Ev.pos (by decide) (Ev.bnd rfl ?_)
          refine Ev.pos (by rw [List.length_take, vs_length]; decide) (Ev.bnd rfl ?_)
          refine Ev.pos (by decide) (Ev.bnd rfl ?_)
          refine Ev.pos (by rw [List.length_take, vs_length]; decide) ?_
          rw [t1, t2, w64 (n := (i : Int) + 1) (by omega)]
          refine Ev.bind q1 (Ev.bind q2 ?_)
          cases x7 with
          | true => exact Ev.pos rfl (Ev.bind hf' (g1 rfl))
          | false =>
            refine Ev.neg (by decide) (Ev.pos (by rw [vs_length]; decide) ?_)
            rw [drop_vs _ _ _ (by decide)]
            have hb6 : (10 * x6N + d) >>> 64 < 2 ^ 6 := lt_of_bits fun j hj => by
              rw [Nat.testBit_shiftRight]
              exact bit_out (w := 70) (by omega) (by omega)
            have hcnt := Count_ev (w := 6) (v := (10 * x6N + d) >>> 64) (lim := 9) hb6 (by decide) (by decide)
            refine Ev.bind hcnt ?_
            by_cases hsm : 10 * x6N + d < 2 ^ 64
            · have z : (10 * x6N + d) >>> 64 = 0 := by rw [Nat.shiftRight_eq_div_pow]; exact Nat.div_eq_of_lt hsm
              rw [z]
              exact Ev.neg (by decide) (g2 rfl hsm)
            · have z : 1 ≤ (10 * x6N + d) >>> 64 := by rw [Nat.shiftRight_eq_div_pow]; omega
              have zp : ((min ((10 * x6N + d) >>> 64) 9 : Nat) : Int) > 0 := by omega
              refine Ev.pos zp (Ev.bind hf' ?_)
              rw [decide_eq_true zp]
              exact g3 rfl hsm
      have prog : ∀ (R : Int × Int × Int × Int), ((n8 : Int) > (18446744073709551615 - (d : Int)) / 10 → Ev (fun k => bits_decimal.l0 k s W1 bad (m : Int) true (s.size : Int) ((i + 1 : Nat) : Int)) R) →
          (¬ (n8 : Int) > (18446744073709551615 - (d : Int)) / 10 → Ev (fun k => bits_decimal.l0 k s W1 bad (m : Int) fl (s.size : Int) ((i + 1 : Nat) : Int)) R) →
          Ev (fun k => bits_decimal.l0 k s W1 bad (n8 : Int) fl (s.size : Int) (i : Int)) R := by
        intro R g1 g2
        refine Ev.step (fun k => by rw [bits_decimal.l0]) (Ev.pos (by omega) (Ev.pos (by omega) (Ev.pos (by omega) (Ev.neg p1 ?_))))
        rw [decide_eq_false p2]
        refine Ev.step (fun k => by rw [bits_decimal.j2]) ?_
        refine Ev.neg (by decide) (Ev.pos (by omega) (Ev.pos (by omega) ?_))
        rw [hdv, hm1, w64 (n := (i : Int) + 1) (by omega)]
        by_cases hb : (n8 : Int) > (18446744073709551615 - (d : Int)) / 10
        · exact Ev.pos hb (g1 hb)
        · exact Ev.neg hb (g2 hb)
      cases fl with
      | true =>
        obtain ⟨R, k1, k2⟩ := ih (i + 1) hr' (by omega) m 0 true hm2 (fun h => by cases h)
        rw [if_pos rfl] at k2
        refine ⟨R, prog R (fun _ => k1) (fun _ => k1), ?_⟩
        rw [if_pos rfl]
        exact ref 0 true R (by decide) (fun _ => k2) (fun h => by cases h) (fun h => by cases h)
      | false =>
        obtain ⟨rfl, hN⟩ := hfl rfl
        rw [IntKind.wrap_u64, IntKind.wrap_u64] at hm1
        by_cases hsm : 10 * n8 + d < 2 ^ 64
        · obtain ⟨R, k1, k2⟩ := ih (i + 1) hr' (by omega) m (10 * n8 + d) false hm2 (fun _ => ⟨by omega, hsm⟩)
          rw [if_neg (by decide)] at k2
          refine ⟨R, prog R (fun h => absurd h (by omega)) (fun _ => k1), ?_⟩
          rw [if_neg (by decide)]
          exact ref n8 false R hN (fun h => by cases h) (fun _ _ => k2) (fun _ h => absurd hsm h)
        · obtain ⟨R, k1, k2⟩ := ih (i + 1) hr' (by omega) m 0 true hm2 (fun h => by cases h)
          rw [if_pos rfl] at k2
          refine ⟨R, prog R (fun _ => k1) (fun h => absurd (show (n8 : Int) > (18446744073709551615 - (d : Int)) / 10 by omega) h), ?_⟩
          rw [if_neg (by decide)]
          exact ref n8 false R hN (fun h => by cases h) (fun _ h => absurd h hsm) (fun _ _ => k2)
    · refine ⟨(0, 0, 0, 10), ?_, ?_⟩
      · have j2 : Ev (fun k => bits_decimal.j2 k s W1 bad (n8 : Int) fl (i : Int) (s.size : Int) (i : Int) true) (0, 0, 0, 10) := by
          refine Ev.step (fun k => by rw [bits_decimal.j2]) ?_
          exact Ev.pos rfl (Ev.now _)
        refine Ev.step (fun k => by rw [bits_decimal.l0]) (Ev.pos (by omega) (Ev.pos (by omega) (Ev.pos (by omega) ?_)))
        rw [hc]
        by_cases h : (c.toNat : Int) < 48
        · exact Ev.pos h j2
        · refine Ev.neg h ?_
          rw [decide_eq_true (show (c.toNat : Int) > 57 by omega)]
          exact j2
      · have j2 : Ev (fun k => maskref1_readDecimal.j2 k s W2 (vs 70 (if fl = true then 0 else N) 0) fl (i : Int) (s.size : Int) (i : Int) true) (0, 0, 0, 10) := by
          refine Ev.step (fun k => by rw [maskref1_readDecimal.j2]) ?_
          exact Ev.pos rfl (Ev.now _)
        refine Ev.step (fun k => by rw [maskref1_readDecimal.l0]) (Ev.pos (by omega) (Ev.pos (by omega) (Ev.pos (by omega) ?_)))
        rw [hc]
        by_cases h : (c.toNat : Int) < 48
        · exact Ev.pos h j2
        · refine Ev.neg h ?_
          rw [decide_eq_true (show (c.toNat : Int) > 57 by omega)]
          exact j2
end
end Go.Proofs.YtfigblfjogpojaaDoor.PBits
end
