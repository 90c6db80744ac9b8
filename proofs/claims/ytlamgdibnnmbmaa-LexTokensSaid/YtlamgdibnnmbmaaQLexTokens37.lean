/- Part 38 of the proof of LexTokensSaid: The law LexTokens: for all arguments it returns true; each argument reads behind the call as it read before. Out of the plain theorem of YtlamgdibnnmbmaaLtA and the printed contract. -/
import Derived.Test.YtlamgdibnnmbmaaQLexTokens36
section
namespace Go.Proofs.Ytlamgdibnnmbmaa.PLex
open Go.RowKit Go.Proofs.YtlamgdibnnmbmaaW.PrintWords Go.Proofs.YtlamgdibnnmbmaaW.PrintLast Go.Proofs.YtlamgdibnnmbmaaW.PrintMore Go.Proofs.Ytlamgdibnnmbmaa.Bz
set_option linter.unusedVariables false
set_option linter.unusedSimpArgs false
set_option linter.unusedSectionVars false
theorem idx_no : ∀ W : List UInt8, (∀ c ∈ W, c ≠ 39) → Lib.index W [39, 115] = -1
  | [], _ => rfl
  | c :: W, h => by
    have hc := h c List.mem_cons_self
    rw [Lib.index, if_neg (by simp [List.isPrefixOf]; intro e; exact absurd e.symm hc), idx_no W (fun d hd => h d (List.mem_cons_of_mem _ hd))]
    rfl
theorem idx_at : ∀ D W : List UInt8, (∀ c ∈ D, c ≠ 39) → (∀ c ∈ W, c ≠ 39) → (0 ≤ Lib.index (D ++ 39 :: W) [39, 115] ↔ W.head? = some 115)
  | [], W, _, hW => by
    rw [List.nil_append, Lib.index]
    cases W with
    | nil => simp [List.isPrefixOf, Lib.index]
    | cons c W =>
      by_cases hc : c = 115
      · subst hc; rw [if_pos (by simp [List.isPrefixOf])]; simp
      · rw [if_neg (by simp [List.isPrefixOf]; exact fun e => hc e.symm), idx_no (c :: W) hW]
        simp [hc]
  | d :: D, W, hD, hW => by
    have hd := hD d List.mem_cons_self
    have ih := idx_at D W (fun c hc => hD c (List.mem_cons_of_mem _ hc)) hW
    rw [List.cons_append, Lib.index, if_neg (by simp [List.isPrefixOf]; intro e; exact absurd e.symm hd), ← ih]
    have hge := Lib.index_ge (D ++ 39 :: W) [39, 115]
    by_cases hm : Lib.index (D ++ 39 :: W) [39, 115] = -1
    · rw [if_pos (beq_iff_eq.2 hm), hm]
    · rw [if_neg (fun h => hm (beq_iff_eq.1 h))]; omega
theorem cut_get {T : ByteArray} {a b i : Nat} (hb : b ≤ T.size) (h : a + i < b) (hi : i < (T.extract a b).data.toList.length) : (T.extract a b).data.toList[i] = T[a + i]'(by omega) := by
  have : (T.extract a b).data.toList[i] = (T.extract a b)[i]'(by exact hi) := rfl
  rw [this, ByteArray.getElem_extract]
theorem quote_contains {T : ByteArray} {a k1 k2 : Nat} (h1 : a ≤ k1) (h2 : k1 < k2) (h3 : k2 ≤ T.size) (hq : T[k1]'(by omega) = 39)
    (hD : ∀ j (h : j < T.size), a ≤ j → j < k1 → T[j] ≠ 39) (hW : ∀ j (h : j < T.size), k1 < j → j < k2 → T[j] ≠ 39) :
    Lib.contains (T.extract a k2).data.toList [39, 115] = if h : k1 + 1 < k2 then (((T[k1 + 1]'(by omega)).toNat : Int) == 115) else false := by
  have hlen : (T.extract a k2).data.toList.length = k2 - a := by
    rw [show (T.extract a k2).data.toList.length = (T.extract a k2).size from rfl, ByteArray.size_extract]; omega
  have hsplit := List.take_append_drop (k1 - a) (T.extract a k2).data.toList
  have hn : k1 - a < (T.extract a k2).data.toList.length := by omega
  rw [List.drop_eq_getElem_cons hn, cut_get h3 (by omega) hn] at hsplit
  have e39 : T[a + (k1 - a)]'(by omega) = 39 := by rw [← hq]; congr 1; omega
  rw [e39] at hsplit
  have i1 : ∀ c ∈ (T.extract a k2).data.toList.take (k1 - a), c ≠ 39 := by
    intro c hc
    obtain ⟨i, hi, rfl⟩ := List.mem_iff_getElem.1 hc
    rw [List.length_take] at hi
    rw [List.getElem_take, cut_get h3 (by omega) (by omega)]
    exact hD _ _ (by omega) (by omega)
  have i2 : ∀ c ∈ (T.extract a k2).data.toList.drop (k1 - a + 1), c ≠ 39 := by
    intro c hc
    obtain ⟨i, hi, rfl⟩ := List.mem_iff_getElem.1 hc
    rw [List.length_drop] at hi
    rw [List.getElem_drop, cut_get h3 (by omega) (by omega)]
    exact hW _ _ (by omega) (by omega)
  have key := idx_at _ _ i1 i2
  rw [hsplit] at key
  unfold Lib.contains
  rw [Bool.eq_iff_iff, decide_eq_true_eq, key]
  by_cases h : k1 + 1 < k2
  · rw [dif_pos h]
    have hn2 : k1 - a + 1 < (T.extract a k2).data.toList.length := by omega
    rw [List.drop_eq_getElem_cons hn2, cut_get h3 (by omega) hn2, List.head?_cons]
    have e : T[a + (k1 - a + 1)]'(by omega) = T[k1 + 1]'(by omega) := by congr 1; omega
    rw [e, show (((T[k1 + 1]'(by omega)).toNat : Int) == 115) = ((115 : UInt8) == T[k1 + 1]'(by omega)) from u8_is _ 115 (by decide), beq_iff_eq]
    constructor
    · intro h; injection h with h; exact h.symm
    · intro h; rw [← h]
  · rw [dif_neg h, List.drop_eq_nil_of_le (by omega)]; simp
variable (T : ByteArray) (hS : T.size ≤ 2000) (a : Nat) (ha : a < T.size) (t : S51) (h0 : t.f3 = ⟨#[]⟩) (h1 : t.f4 = false) (h2 : t.f5 = ⟨0, 0, 0⟩) (h3 : t.f6 = false)
include hS h0 h1 h2 h3
theorem same_width (hl : letterP (T[a]'ha) = false) (hf : figureP (T[a]'ha) = true) (hlt : runTo T figureP a < T.size) (hq : T[runTo T figureP a]'hlt = 39) : Same T a t := by
  have hz := tail_size T a
  have hge1 : a + 1 ≤ runTo T figureP a := by
    rw [runTo_eq, dif_pos ha, if_pos hf]; exact runTo_ge T figureP _ (a + 1) (Nat.le_refl _)
  have hD : ∀ j (h : j < T.size), a ≤ j → j < runTo T figureP a → T[j] ≠ 39 := by
    intro j h q1 q2 e
    have hp := runTo_all T figureP _ a (Nat.le_refl _) j h q1 q2
    rw [e] at hp; exact absurd hp (by decide)
  have hrun := runFigure T (by omega) a (by omega)
  have hrun2 := runWord T (by omega) (runTo T figureP a + 1) (by omega)
  have hge2 := runTo_ge T wordP _ (runTo T figureP a + 1) (Nat.le_refl _)
  have hle2 := runTo_le T wordP _ (runTo T figureP a + 1) (Nat.le_refl _)
  have hW : ∀ j (h : j < T.size), runTo T figureP a < j → j < runTo T wordP (runTo T figureP a + 1) → T[j] ≠ 39 := by
    intro j h q1 q2 e
    have hp := runTo_all T wordP _ (runTo T figureP a + 1) (Nat.le_refl _) j h q1 q2
    rw [e] at hp; exact absurd hp (by decide)
  obtain ⟨R, hr1, hr2⟩ := read_same (T.extract a (runTo T wordP (runTo T figureP a + 1))) (by rw [ByteArray.size_extract]; omega)
  have hprog : Ev (fun k => tokF k T a t) (R.2.2.2, runTo T wordP (runTo T figureP a + 1) - a, { t with f0 := 3, f5 := ⟨R.1, R.2.1, R.2.2.1⟩, f6 := Lib.contains (T.extract a (runTo T wordP (runTo T figureP a + 1))).data.toList [39, 115] }) := by
    refine Ev.congr (f := fun k => (bits_Read.f k (T.extract a (runTo T wordP (runTo T figureP a + 1)))).bind fun r => some (r.2.2.2, runTo T wordP (runTo T figureP a + 1) - a, { t with f0 := 3, f5 := ⟨r.1, r.2.1, r.2.2.1⟩, f6 := Lib.contains (T.extract a (runTo T wordP (runTo T figureP a + 1))).data.toList [39, 115] })) (fun k => ?_) (Ev.bind hr1 (Ev.now _))
    unfold tokF numF
    rw [dif_pos ha, if_neg (by rw [hl]; decide), if_pos hf, dif_pos hlt, if_pos hq]
  have hqc := quote_contains (by omega) (by omega) (by omega) hq hD hW
  obtain ⟨cb, hcb⟩ : ∃ cb, cb = Lib.contains (T.extract a (runTo T wordP (runTo T figureP a + 1))).data.toList [39, 115] := ⟨_, rfl⟩
  rw [← hcb] at hprog hqc
  clear hcb
  have hc1 : ∀ h : runTo T figureP a + 1 < runTo T wordP (runTo T figureP a + 1), ∃ hh : runTo T figureP a + 1 < T.size, cb = (((T[runTo T figureP a + 1]'hh).toNat : Int) == 115) := fun h => ⟨by omega, by rw [hqc, dif_pos h]⟩
  have hc2 : ¬ runTo T figureP a + 1 < runTo T wordP (runTo T figureP a + 1) → cb = false := fun h => by rw [hqc, dif_neg h]
  clear hqc
  generalize hk2 : runTo T wordP (runTo T figureP a + 1) = k2 at *
  generalize hk1 : runTo T figureP a = k1 at *
  obtain ⟨n, hn⟩ : ∃ n, n = k1 - a := ⟨_, rfl⟩
  obtain ⟨m, hm⟩ : ∃ m, m = k2 - a := ⟨_, rfl⟩
  rw [← hn] at hrun
  rw [← hm] at hprog
  have hb : bt (tail T a) (n : Int) = 39 := by
    rw [bt_tail (T := T) (a := a) (i := n) (by omega)]
    have : T[a + n]'(by omega) = 39 := by rw [← hq]; congr 1; omega
    rw [this]; rfl
  have w1 := Aside0.mk (show wrap64 ((n : Int) + 1) = ((n + 1 : Nat) : Int) from by rw [w64' (by omega) (by omega)]; rfl)
  have w2 := Aside0.mk (show wrap64 (((n + 1 : Nat) : Int) + ((k2 - (k1 + 1) : Nat) : Int)) = (m : Int) from by rw [w64' (by omega) (by omega)]; omega)
  have htt : (tail T a).extract (n + 1) (tail T a).size = tail T (k1 + 1) := by
    rw [hz, tail_cut (by omega)]; unfold tail; congr 1 <;> omega
  have hcut : (tail T a).extract 0 m = T.extract a k2 := by rw [tail_cut (by omega)]; congr 1; omega
  have hfin : Ev (fun k => maskref1_token.f k (tail T a)) (3, 0, 0, (⟨#[]⟩ : ByteArray), false, R.1, R.2.1, R.2.2.1, cb, (m : Int), R.2.2.2) := by
    refine enter_number T hS a ha t h0 h1 h2 h3 hl hf ?_
    unfold maskref1_numberToken.f
    refine Ev.bind hrun (Ev.pos (by omega) (Ev.pos (by omega) ?_))
    rw [hb]
    refine Ev.step (fun k => by rw [maskref1_numberToken.j0]) ?_
    rw [w1.out]
    refine Ev.pos (by decide) (Ev.pos (by omega) (Ev.pos (by omega) ?_))
    rw [Int.toNat_natCast, htt]
    refine Ev.bind hrun2 ?_
    rw [w2.out]
    refine Ev.pos (by omega) (Ev.pos (by omega) ?_)
    rw [Int.toNat_natCast, hcut]
    refine Ev.bind hr2 ?_
    by_cases h : k1 + 1 < k2
    · refine Ev.pos (by omega) (Ev.pos (by omega) ?_)
      obtain ⟨hh, ec⟩ := hc1 h
      rw [ec, bt_tail (T := T) (a := a) (i := n + 1) (by omega)]
      have e : T[a + (n + 1)]'(by omega) = T[k1 + 1]'hh := by congr 1; omega
      rw [e]
      exact Ev.now _
    · rw [hc2 h]
      exact Ev.neg (by omega) (Ev.now _)
  refine ⟨_, _, hprog, hfin, rfl, fun he => ⟨rfl, by show 1 ≤ m; omega, by show a + m ≤ _; omega, by rw [h0, h1]⟩⟩
theorem same_number (hl : letterP (T[a]'ha) = false) (hf : figureP (T[a]'ha) = true) : Same T a t := by
  by_cases hlt : runTo T figureP a < T.size
  · by_cases hq : T[runTo T figureP a]'hlt = 39
    · exact same_width T hS a ha t h0 h1 h2 h3 hl hf hlt hq
    · exact same_plain T hS a ha t h0 h1 h2 h3 hl hf (fun _ => hq)
  · exact same_plain T hS a ha t h0 h1 h2 h3 hl hf (fun h => absurd h hlt)
end Go.Proofs.Ytlamgdibnnmbmaa.PLex
end
section
namespace Go.Proofs.Ytlamgdibnnmbmaa.PLex
open Go.RowKit Go.Proofs.YtlamgdibnnmbmaaW.PrintWords Go.Proofs.YtlamgdibnnmbmaaW.PrintLast Go.Proofs.YtlamgdibnnmbmaaW.PrintMore Go.Proofs.Ytlamgdibnnmbmaa.Bz
set_option linter.unusedVariables false
set_option linter.unusedSimpArgs false
set_option linter.unusedSectionVars false
def PP (T : ByteArray) (s : Sc) (acc : List S51) (r : List S51 × Int × Int × Int) : Prop := ∃ N, ∀ k n, N ≤ k → N ≤ n → toksF k T n s acc = some r
theorem same_token (T : ByteArray) (hS : T.size ≤ 2000) (a : Nat) (ha : a < T.size) (t : S51) (h0 : t.f3 = ⟨#[]⟩) (h1 : t.f4 = false) (h2 : t.f5 = ⟨0, 0, 0⟩) (h3 : t.f6 = false) : Same T a t := by
  cases hl : letterP (T[a]'ha)
  · cases hf : figureP (T[a]'ha)
    · cases h34 : (((T[a]'ha).toNat : Int) == 34)
      · cases h92 : (((T[a]'ha).toNat : Int) == 92)
        · exact same_sign T hS a ha t h0 h1 h2 h3 hl hf h34 h92
        · exact same_quoted T hS a ha t h0 h1 h2 h3 hl hf h92
      · exact same_string T hS a ha t h0 h1 h2 h3 hl hf h34 (fun h => textF_end T _ _ _ h)
    · exact same_number T hS a ha t h0 h1 h2 h3 hl hf
  · exact same_word T hS a ha t h0 h1 h2 h3 hl
theorem go_on (T : ByteArray) (hS : T.size ≤ 2000) : ∀ d s acc, s.Ok T → T.size - s.at_ < d → acc.length ≤ s.at_ → ∃ r, PP T s acc r ∧ RR T s acc r ∧ r.1.length ≤ 3000 := by
  intro d
  induction d with
  | zero => intro s acc hs hd; exact absurd hd (Nat.not_lt_zero _)
  | succ d ih =>
    intro s acc hs hd hacc
    have hat := hs.at_
    have hA : ¬ 100000 < acc.length := by omega
    obtain ⟨b1, b2⟩ := blank_ref T acc (by omega) (T.size + 1) s hs (by omega)
    by_cases hbe : (blankF T (T.size + 1) s).1 = 0
    · obtain ⟨c1, c2, c3, c4⟩ := b2 hbe
      have hat2 := c1.at_
      by_cases hend : (blankF T (T.size + 1) s).2.at_ = T.size
      · refine ⟨(acc ++ [tok0 (blankF T (T.size + 1) s).2], 0, 0, 0), ⟨1, fun k n hk hn => ?_⟩, c3 _ ⟨1, fun k n hk hn => ?_⟩, by simp; omega⟩
        · obtain ⟨n, rfl⟩ : ∃ m, n = m + 1 := ⟨n - 1, by omega⟩
          rw [toksF, if_neg hA, if_neg (fun h => h hbe), if_pos hend]
        · obtain ⟨n, rfl⟩ : ∃ m, n = m + 1 := ⟨n - 1, by omega⟩
          rw [rtoksF, if_neg hA, dif_neg (by omega)]
      · have hlt : (blankF T (T.size + 1) s).2.at_ < T.size := by omega
        obtain ⟨n1, n2, n3⟩ := c4 hlt
        obtain ⟨r, q, ⟨K1, hK1⟩, ⟨K2, hK2⟩, e1, e2⟩ := same_token T hS _ hlt (tok0 (blankF T (T.size + 1) s).2) rfl rfl rfl rfl
        replace hK1 : ∀ k, K1 ≤ k → tokF k T (blankF T (T.size + 1) s).2.at_ (tok0 (blankF T (T.size + 1) s).2) = some r := hK1
        replace hK2 : ∀ k, K2 ≤ k → maskref1_token.f k (T.extract (blankF T (T.size + 1) s).2.at_ T.size) = some q := hK2
        by_cases her : r.1 = 0
        · obtain ⟨q1, q2, q3, q4⟩ := e2 her
          obtain ⟨R, ⟨N1, hN1⟩, ⟨N2, hN2⟩, hlen⟩ := ih (Sc.skip T r.2.1 (blankF T (T.size + 1) s).2) (acc ++ [r.2.2]) (c1.skip _ q3) (by rw [Sc.skip_at]; omega) (by rw [Sc.skip_at, List.length_append, List.length_singleton]; omega)
          refine ⟨R, ⟨K1 + N1 + 1, fun k n hk hn => ?_⟩, c3 _ ⟨K2 + N2 + 1, fun k n hk hn => ?_⟩, hlen⟩
          · obtain ⟨n, rfl⟩ : ∃ m, n = m + 1 := ⟨n - 1, by omega⟩
            rw [toksF, if_neg hA, if_neg (fun h => h hbe), if_neg hend, hK1 k (by omega), Option.bind_some, if_neg (fun h => h her), if_pos q3]
            exact hN1 k n (by omega) (by omega)
          · obtain ⟨n, rfl⟩ : ∃ m, n = m + 1 := ⟨n - 1, by omega⟩
            rw [rtoksF, if_neg hA, dif_pos hlt, if_neg (by rw [n1]; decide), if_neg (by rw [n2]; decide), if_neg (by rw [n3]; decide)]
            rw [hK2 k (by omega), Option.bind_some, if_neg (fun h => h (e1.trans her)), q1, Int.toNat_natCast, if_pos ⟨by omega, q3⟩]
            have h := hN2 k n (by omega) (by omega)
            rw [q4] at h
            exact h
        · refine ⟨([], (blankF T (T.size + 1) s).2.line, (blankF T (T.size + 1) s).2.col, r.1), ⟨K1 + 1, fun k n hk hn => ?_⟩, c3 _ ⟨K2 + 1, fun k n hk hn => ?_⟩, by simp⟩
          · obtain ⟨n, rfl⟩ : ∃ m, n = m + 1 := ⟨n - 1, by omega⟩
            rw [toksF, if_neg hA, if_neg (fun h => h hbe), if_neg hend, hK1 k (by omega), Option.bind_some, if_pos her]
          · obtain ⟨n, rfl⟩ : ∃ m, n = m + 1 := ⟨n - 1, by omega⟩
            rw [rtoksF, if_neg hA, dif_pos hlt, if_neg (by rw [n1]; decide), if_neg (by rw [n2]; decide), if_neg (by rw [n3]; decide)]
            rw [hK2 k (by omega), Option.bind_some, if_pos (by rw [e1]; exact her), e1]
    · obtain ⟨e, hr⟩ := b1 hbe
      refine ⟨_, ⟨1, fun k n hk hn => ?_⟩, hr, by simp⟩
      obtain ⟨n, rfl⟩ : ∃ m, n = m + 1 := ⟨n - 1, by omega⟩
      rw [toksF, if_neg hA, if_pos hbe, e]
theorem tokens_same (T : ByteArray) (hS : T.size ≤ 2000 ∨ 16000 < (T.size : Int)) : ∃ r, Ev (fun k => lex_Tokens.f k T) r ∧ Ev (fun k => maskref1_Tokens.f k T) r ∧ r.1.length ≤ 3000 := by
  by_cases hl : 16000 < (T.size : Int)
  · refine ⟨([], 0, 0, 3), ?_, ?_, by simp⟩
    · unfold lex_Tokens.f; exact Ev.pos hl (Ev.now _)
    · unfold maskref1_Tokens.f; exact Ev.pos hl (Ev.now _)
  · have hS2 : T.size ≤ 2000 := by omega
    obtain ⟨r, ⟨N1, h1⟩, ⟨N2, h2⟩, h3⟩ := go_on T hS2 (T.size + 1) ⟨0, 1, 1⟩ [] ⟨by omega, Nat.zero_le _, Nat.le_refl _, Nat.le_refl _⟩ (by omega) (Nat.zero_le _)
    refine ⟨r, ?_, ?_, h3⟩
    · unfold lex_Tokens.f; exact Ev.neg hl ⟨N1, fun k hk => h1 k k hk hk⟩
    · unfold maskref1_Tokens.f; exact Ev.neg hl ⟨N2, fun k hk => h2 k k hk hk⟩
theorem LexTokens_pure (T : ByteArray) : ∃ k, masklaw1_LexTokens.f k T = some true := by
  have hsc : Ev masklaw1_scanned.f true := Ev.of masklaw1_scanned.mono scanned_is
  refine Ev.rounds (g := fun k => masklaw1_LexTokens.f k T) ?_
  unfold masklaw1_LexTokens.f
  refine Ev.bind hsc (Ev.pos rfl ?_)
  have jt : Ev (fun k => masklaw1_LexTokens.j0 k T true) true := by
    refine Ev.step (fun k => by rw [masklaw1_LexTokens.j0]) ?_
    exact Ev.pos rfl (Ev.bind hsc (Ev.now _))
  have jf : (T.size ≤ 2000 ∨ 16000 < (T.size : Int)) → Ev (fun k => masklaw1_LexTokens.j0 k T false) true := by
    intro hS
    obtain ⟨r, h1, h2, h3⟩ := tokens_same T hS
    obtain ⟨kk, hkk⟩ := same_list r.1 (by omega)
    refine Ev.step (fun k => by rw [masklaw1_LexTokens.j0]) ?_
    refine Ev.neg (by decide) (Ev.bind h1 (Ev.bind h2 (Ev.pos rfl (Ev.pos rfl (Ev.pos rfl ?_)))))
    exact Ev.bind (Ev.of (fun k => lex_Token.mono _ _ k) hkk) (Ev.now _)
  by_cases h2000 : (T.size : Int) > 2000
  · refine Ev.pos h2000 ?_
    by_cases h16 : (T.size : Int) ≤ 16000
    · rw [decide_eq_true h16]; exact jt
    · rw [decide_eq_false h16]; exact jf (.inr (by omega))
  · exact Ev.neg h2000 (by
      first | exact jf (.inl (by omega)))
end Go.Proofs.Ytlamgdibnnmbmaa.PLex
end
