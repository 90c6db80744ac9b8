/- Part 43 of the proof of BitsTextsCardSaid: The law BitsTexts: for all arguments it returns true; each argument reads behind the call as it read before. Out of the plain theorem of YtfigblfjogpojaaDoorPureBitsTexts and the printed contract. -/
import Derived.Test.YtfigblfjogpojaaDoorQBitsTexts40
import Derived.Test.YtfigblfjogpojaaDoorQBitsTexts41
section
namespace Go.Proofs.YtfigblfjogpojaaDoor.PBits
open Go.RowKit Go.Proofs.YtfigblfjogpojaaDoorW.PrintWords Go.Proofs.YtfigblfjogpojaaDoorW.PrintLast Go.Proofs.YtfigblfjogpojaaDoorW.PrintMore Go.Proofs.YtfigblfjogpojaaDoor.Bz
set_option linter.unusedVariables false
set_option linter.unusedSimpArgs false
set_option linter.unusedSectionVars false
theorem lit_at : ∀ j : Fin 16, bt (⟨#[48, 49, 50, 51, 52, 53, 54, 55, 56, 57, 97, 98, 99, 100, 101, 102]⟩ : ByteArray) (j.1 : Int) = if j.1 < 10 then 48 + (j.1 : Int) else 87 + (j.1 : Int) := by decide +kernel
theorem lit_is (j : Nat) (hj : j < 16) (c : Int) : (bt (⟨#[48, 49, 50, 51, 52, 53, 54, 55, 56, 57, 97, 98, 99, 100, 101, 102]⟩ : ByteArray) (j : Int) = c) ↔ dv c = j := by
  have h := lit_at ⟨j, hj⟩
  simp only at h
  rw [h]
  by_cases h1 : 48 ≤ c ∧ c ≤ 57
  · rw [dv_num h1.1 h1.2]; split <;> omega
  · by_cases h2 : 97 ≤ c ∧ c ≤ 102
    · rw [dv_let h2.1 h2.2]; split <;> omega
    · rw [dv_no h1 h2]; split <;> omega
theorem bit_st : ∀ (d : Fin 16) (j : Fin 4), (wrap64 (48 + (Go.bits .and .i64 (shr .i64 (d.1 : Int) (j.1 : Int)) 1))) % 256 = st d.1 0 j.1 := by decide +kernel
section
variable (s : ByteArray) (hs : s.size ≤ 1000) (hn : 1 ≤ s.size) (g : Nat) (hg : g = 1 ∨ g = 3 ∨ g = 4) (W2 : Int) (hW : 1 ≤ W2 ∧ W2 ≤ 100000)
def Lo : Nat → Int
  | 0 => 0
  | t + 1 => if xz (ch s t) = true ∧ ((t * g : Nat) : Int) < W2 ∧ ((t * g : Nat) : Int) + (g : Int) > W2 then ((t * g : Nat) : Int) + (g : Int) - W2 else Lo t
include hs hg hW
theorem ref_l2 (t : Nat) (ht : t < s.size) {d : Nat} (hd : d < 16) (x8 : List Int) (h8 : x8.length ≤ 5000) (x9 : Int) {R : Int × Int × Int × Int}
    (h : Ev (fun k => maskref1_readDigits.l0 k s W2 (g : Int) (x8 ++ vs g d 0) x9 ((s.size : Int) - 1 - ((t + 1 : Nat) : Int))) R) :
    ∀ m j, j + m = g → Ev (fun k => maskref1_readDigits.l2 k s W2 (g : Int) (x8 ++ vs j d 0) x9 ((s.size - 1 - t : Nat) : Int) (d : Int) (g : Int) (j : Int)) R := by
  have hg1 := g_pos g hg
  intro m
  induction m with
  | zero =>
    intro j hj
    obtain rfl : j = g := by omega
    refine Ev.step (fun k => by rw [maskref1_readDigits.l2]) (Ev.neg (by omega) ?_)
    rw [w64 (n := ((s.size - 1 - t : Nat) : Int) - 1) (by omega), show ((s.size - 1 - t : Nat) : Int) - 1 = (s.size : Int) - 1 - ((t + 1 : Nat) : Int) by omega]
    exact h
  | succ m ih =>
    intro j hj
    have e := bit_st ⟨d, hd⟩ ⟨j, by omega⟩
    simp only at e
    refine Ev.step (fun k => by rw [maskref1_readDigits.l2]) (Ev.pos (by omega) (Ev.pos (by omega) (Ev.pos (by rw [List.length_append, vs_length]; omega) ?_)))
    rw [e, w64 (n := (j : Int) + 1) (by omega), List.append_assoc, ← vs_succ]
    exact ih (j + 1) (by omega)
theorem ref_l1 (t : Nat) (ht : t < s.size) (x8 : List Int) (x9 : Int) {R : Int × Int × Int × Int}
    (h : Ev (fun k => maskref1_readDigits.j2 k s W2 (g : Int) x8 x9 ((s.size - 1 - t : Nat) : Int) (if dv (ch s t) < 2 ^ g then (dv (ch s t) : Int) else -1) (xz (ch s t))) R) :
    ∀ m j, j + m = 2 ^ g → Ev (fun k => maskref1_readDigits.l1 k s W2 (g : Int) x8 x9 ((s.size - 1 - t : Nat) : Int) (if dv (ch s t) < j then (dv (ch s t) : Int) else -1) ((2 ^ g : Nat) : Int) (j : Int)) R := by
  have hg16 : 2 ^ g ≤ 16 := by rcases hg with rfl | rfl | rfl <;> decide
  have hch : bt s ((s.size - 1 - t : Nat) : Int) = ch s t := rfl
  intro m
  induction m with
  | zero =>
    intro j hj
    obtain rfl : j = 2 ^ g := by omega
    refine Ev.step (fun k => by rw [maskref1_readDigits.l1]) (Ev.neg (by omega) (Ev.pos (by omega) (Ev.pos (by omega) ?_)))
    rw [hch]
    by_cases e1 : ch s t = 120
    · rw [xz_or.2 (.inl e1)] at h
      exact Ev.pos e1 h
    · refine Ev.neg e1 ?_
      have : xz (ch s t) = (ch s t == 122) := by unfold xz; rw [beq_eq_false_iff_ne.2 e1, Bool.false_or]
      rw [this] at h
      exact h
  | succ m ih =>
    intro j hj
    refine Ev.step (fun k => by rw [maskref1_readDigits.l1]) (Ev.pos (by omega) (Ev.pos (by omega) (Ev.pos (by omega) (Ev.pos (by omega) (Ev.pos (by omega) ?_)))))
    rw [hch, w64 (n := (j : Int) + 1) (by omega)]
    have nxt := ih (j + 1) (by omega)
    by_cases e : dv (ch s t) = j
    · rw [if_pos (by omega), e] at nxt
      exact Ev.pos ((lit_is j (by omega) _).2 e) nxt
    · refine Ev.neg (fun a => e ((lit_is j (by omega) _).1 a)) (nxt.congr fun k => ?_)
      congr 1
      by_cases e2 : dv (ch s t) < j
      · rw [if_pos e2, if_pos (by omega)]
      · rw [if_neg e2, if_neg (by omega)]
theorem ref_l0 {R : Int × Int × Int × Int} (hR : (∀ t, t < s.size → good g (ch s t) = true) → Ev (fun k => maskref1_readDigits.l0 k s W2 (g : Int) (Vt s g s.size) (Lo s g W2 s.size) ((s.size : Int) - 1 - (s.size : Int))) R)
    (hF : ¬ (∀ t, t < s.size → good g (ch s t) = true) → R = (0, 0, 0, 10)) :
    ∀ d t, t + d = s.size → (∀ t', t' < t → good g (ch s t') = true) → Ev (fun k => maskref1_readDigits.l0 k s W2 (g : Int) (Vt s g t) (Lo s g W2 t) ((s.size : Int) - 1 - (t : Int))) R := by
  have hg1 := g_pos g hg
  have hg16 : 2 ^ g ≤ 16 := by rcases hg with rfl | rfl | rfl <;> decide
  have hshl : shl .i64 1 (g : Int) = ((2 ^ g : Nat) : Int) := by rcases hg with rfl | rfl | rfl <;> decide
  intro d
  induction d with
  | zero =>
    intro t ht hok
    obtain rfl : t = s.size := by omega
    exact hR hok
  | succ d ih =>
    intro t ht hok
    have htg : t * g ≤ 4000 := by have := Nat.mul_le_mul (show t ≤ 1000 by omega) hg1.2; omega
    have e14 : (s.size : Int) - 1 - (t : Int) = ((s.size - 1 - t : Nat) : Int) := by omega
    have hch : bt s ((s.size - 1 - t : Nat) : Int) = ch s t := rfl
    have hlen := Vt_length s g t
    have e15 : wrap64 (((s.size - 1 - t : Nat) : Int) - 1) = (s.size : Int) - 1 - ((t + 1 : Nat) : Int) := by rw [w64 (by omega)]; omega
    rw [e14]
    refine Ev.step (fun k => by rw [maskref1_readDigits.l0]) (Ev.pos (by omega) (Ev.pos (by omega) ?_))
    rw [hshl]
    have enter := ref_l1 s hs g hg W2 hW t (by omega) (Vt s g t) (Lo s g W2 t) (R := R) ?_ (2 ^ g) 0 (by omega)
    · rw [if_neg (by omega)] at enter
      exact enter
    have nxt : good g (ch s t) = true → Ev (fun k => maskref1_readDigits.l0 k s W2 (g : Int) (Vt s g t ++ blk g (ch s t)) (Lo s g W2 (t + 1)) ((s.size : Int) - 1 - ((t + 1 : Nat) : Int))) R := by
      intro h
      refine ih (t + 1) (by omega) (fun t' ht' => ?_)
      rcases Nat.lt_or_ge t' t with h3 | h3
      · exact hok t' h3
      · obtain rfl : t' = t := by omega
        exact h
    refine Ev.step (fun k => by rw [maskref1_readDigits.j2]) ?_
    cases hx : xz (ch s t) with
    | true =>
      have nxt := nxt (by unfold good; rw [hx, Bool.true_or])
      have hbl : blk g (ch s t) = List.replicate g (ch s t) := by unfold blk; rw [if_pos hx]
      rw [hbl] at nxt
      have hf := Fill_ev (ch s t) g (by omega)
      refine Ev.pos rfl ?_
      rw [hlen, w64 (n := ((t * g : Nat) : Int) + (g : Int)) (by omega)]
      by_cases c1 : ((t * g : Nat) : Int) < W2
      · refine Ev.pos c1 ?_
        by_cases c2 : ((t * g : Nat) : Int) + (g : Int) > W2
        · have hL : Lo s g W2 (t + 1) = ((t * g : Nat) : Int) + (g : Int) - W2 := by
            show (if _ then _ else _) = _
            rw [if_pos ⟨hx, c1, c2⟩]
          rw [hL] at nxt
          refine Ev.pos c2 (Ev.pos (by omega) (Ev.pos (by omega) ?_))
          rw [hch]
          refine Ev.bind hf (Ev.pos (by rw [List.length_replicate]; omega) ?_)
          rw [w64 (n := ((t * g : Nat) : Int) + (g : Int) - W2) (by omega), e15]
          exact nxt
        · have hL : Lo s g W2 (t + 1) = Lo s g W2 t := by
            show (if _ then _ else _) = _
            rw [if_neg (fun a => c2 a.2.2)]
          rw [hL] at nxt
          refine Ev.neg c2 (Ev.pos (by omega) (Ev.pos (by omega) ?_))
          rw [hch]
          refine Ev.bind hf (Ev.pos (by rw [List.length_replicate]; omega) ?_)
          rw [e15]
          exact nxt
      · have hL : Lo s g W2 (t + 1) = Lo s g W2 t := by
          show (if _ then _ else _) = _
          rw [if_neg (fun a => c1 a.2.1)]
        rw [hL] at nxt
        refine Ev.neg c1 (Ev.pos (by omega) (Ev.pos (by omega) ?_))
        rw [hch]
        refine Ev.bind hf (Ev.pos (by rw [List.length_replicate]; omega) ?_)
        rw [e15]
        exact nxt
    | false =>
      refine Ev.neg (by decide) ?_
      by_cases hd : dv (ch s t) < 2 ^ g
      · have nxt := nxt (by unfold good; rw [decide_eq_true hd, Bool.or_true])
        have hbl : blk g (ch s t) = vs g (dv (ch s t)) 0 := by unfold blk; rw [hx, if_neg (by decide)]
        have hL : Lo s g W2 (t + 1) = Lo s g W2 t := by
          show (if _ then _ else _) = _
          rw [if_neg (fun a => by rw [hx] at a; cases a.1)]
        rw [hbl, hL] at nxt
        rw [if_pos hd]
        refine Ev.neg (by omega) ?_
        have := ref_l2 s hs g hg W2 hW t (by omega) (d := dv (ch s t)) (by omega) (Vt s g t) (by omega) (Lo s g W2 t) nxt g 0 (by omega)
        rw [show vs 0 (dv (ch s t)) 0 = [] from rfl, List.append_nil] at this
        exact this
      · rw [if_neg hd]
        have hng : ¬ good g (ch s t) = true := by unfold good; rw [hx, Bool.false_or, decide_eq_true_iff]; exact hd
        rw [hF (fun a => hng (a t (by omega)))]
        exact Ev.pos (by decide) (Ev.now _)
end
section
variable {w : Nat} (h1 : 1 ≤ w) (h2 : w ≤ 64)
include h1 h2
theorem fill_l3 (x9 : Int) (f : Int) {R : Int × Int × Int × Int} : ∀ m (Z : List Int), Z.length ≤ 5000 → w - Z.length = m → Ev (fun k => maskref1_readDigits.l4 k (w : Int) (Z ++ List.replicate m f) (wrap64 ((w : Int) + x9))) R → Ev (fun k => maskref1_readDigits.l3 k (w : Int) Z x9 f) R := by
  intro m
  induction m with
  | zero =>
    intro Z hZ hm h
    refine Ev.step (fun k => by rw [maskref1_readDigits.l3]) (Ev.neg (by omega) ?_)
    rw [List.replicate_zero, List.append_nil] at h
    exact h
  | succ m ih =>
    intro Z hZ hm h
    refine Ev.step (fun k => by rw [maskref1_readDigits.l3]) (Ev.pos (by omega) (Ev.pos (by omega) ?_))
    refine ih (Z ++ [f]) (by rw [List.length_append, List.length_singleton]; omega) (by rw [List.length_append, List.length_singleton]; omega) ?_
    rw [List.append_assoc, List.singleton_append, ← List.replicate_succ]
    exact h
theorem check_l4 (Z : List Int) (hZ : Z.length ≤ 5000) (hw : w ≤ Z.length) {R : Int × Int × Int × Int} (a0 : Nat)
    (hR : (∀ i, a0 ≤ i → i < Z.length → Z.getD i 48 = 48) → ∃ V X : Int, Ev (fun k => maskref1_B.f k (Z.take w)) ((w : Int), V, X) ∧ R = ((w : Int), V, X, 0)) (hF : ¬ (∀ i, a0 ≤ i → i < Z.length → Z.getD i 48 = 48) → R = (0, 0, 0, 3)) :
    ∀ d a, (a + d = Z.length ∨ (d = 0 ∧ Z.length ≤ a ∧ a ≤ 200000)) → a0 ≤ a → (∀ i, a0 ≤ i → i < a → i < Z.length → Z.getD i 48 = 48) → Ev (fun k => maskref1_readDigits.l4 k (w : Int) Z (a : Int)) R := by
  intro d
  induction d with
  | zero =>
    intro a ha h0 hok
    obtain ⟨V, X, hB, rfl⟩ := hR (fun i hi hi2 => hok i hi (by omega) hi2)
    refine Ev.step (fun k => by rw [maskref1_readDigits.l4]) (Ev.neg (by omega) (Ev.pos (by omega) (Ev.pos (by omega) ?_)))
    rw [Int.toNat_natCast]
    exact Ev.bind hB (Ev.now _)
  | succ d ih =>
    intro a ha h0 hok
    have hrd : rd Z (a : Int) = Z.getD a 48 := by
      unfold rd
      rw [Int.toNat_natCast, List.getD_eq_getElem?_getD, List.getD_eq_getElem?_getD, List.getElem?_eq_getElem (by omega)]; rfl
    refine Ev.step (fun k => by rw [maskref1_readDigits.l4]) (Ev.pos (by omega) (Ev.pos (by omega) ?_))
    rw [hrd]
    by_cases e : Z.getD a 48 = 48
    · refine Ev.pos e ?_
      rw [w64 (n := (a : Int) + 1) (by omega)]
      refine ih (a + 1) (by omega) (by omega) (fun i hi hi2 hi3 => ?_)
      rcases Nat.lt_or_ge i a with h3 | h3
      · exact hok i hi h3 hi3
      · obtain rfl : i = a := by omega
        exact e
    · rw [hF (fun a' => e (a' a h0 (by omega)))]
      exact Ev.neg e (Ev.now _)
end
end Go.Proofs.YtfigblfjogpojaaDoor.PBits
end
