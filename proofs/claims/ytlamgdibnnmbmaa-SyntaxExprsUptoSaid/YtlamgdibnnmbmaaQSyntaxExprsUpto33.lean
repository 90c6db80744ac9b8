/- Part 34 of the proof of SyntaxExprsUptoSaid: The law SyntaxExprs, where the tree that it reads is of bulk at most 1048576: it returns true; the tree reads behind the call as it read before. Out of the plain theorem of YtlamgdibnnmbmaaPureSyntaxExprs and the printed contract. -/
import Derived.Test.YtlamgdibnnmbmaaQSyntaxExprsUpto30
import Derived.Test.YtlamgdibnnmbmaaQSyntaxExprsUpto31
import Derived.Test.YtlamgdibnnmbmaaQSyntaxExprsUpto32
section
namespace Go.Proofs.Ytlamgdibnnmbmaa.PSyn
open Go.RowKit Go.Proofs.YtlamgdibnnmbmaaW.PrintWords Go.Proofs.YtlamgdibnnmbmaaW.PrintLast Go.Proofs.YtlamgdibnnmbmaaW.PrintMore
set_option linter.unusedVariables false
set_option linter.unusedSimpArgs false
def usesB (U : List UInt8) : List Bool := [U.contains 78, U.contains 86, U.contains 83, U.contains 88]
theorem uses_same : ∀ i ∈ List.range 122, usesB (rd_T73 formsL (i : Int)).f2.data.toList = usesB (rd_T89 shapesL (i : Int)).f2.data.toList := by decide +kernel
theorem uses_small : ∀ i ∈ List.range 122, (rd_T73 formsL (i : Int)).f2.data.toList.length ≤ 100 ∧ (rd_T89 shapesL (i : Int)).f2.data.toList.length ≤ 100 ∧ (rd_T89 shapesL (i : Int)).f1.data.toList.length ≤ 100 := by decide +kernel
theorem expr_kids : ∀ i ∈ List.range 122, ((clsOf (i : Int)).contains 69 || (clsOf (i : Int)).contains 116) = true →
    (rd_T73 formsL (i : Int)).f1.data.toList = (rd_T89 shapesL (i : Int)).f1.data.toList ∧ (parseP (rd_T89 shapesL (i : Int)).f1.data.toList).all (fun p => p.1 == 69) = true ∧ i ≠ 57 := by decide +kernel
theorem fieldS_congr {U U' : List UInt8} (h : usesB U = usesB U') (name text : List UInt8) (W : Int) (v x : Nat) (sg : Bool) : fieldS U name text W v x sg = fieldS U' name text W v x sg := by
  simp only [usesB, List.cons.injEq, and_true] at h
  obtain ⟨h1, h2, h3, h4⟩ := h
  unfold fieldS
  rw [h1, h2, h3, h4]
theorem match_all : ∀ (ps : List (UInt8 × UInt8)) (ks : List Int) (out o : List UInt8), ps.all (fun p => p.1 == 69) = true → matchS ps ks out = (o, true) → o = out ++ List.replicate ks.length 69
  | [], ks, out, o, _, h => by
    unfold matchS at h
    injection h with h1 h2
    rw [List.isEmpty_iff.1 h2, ← h1]; simp
  | (c, m) :: ps, ks, out, o, ha, h => by
    rw [List.all_cons, Bool.and_eq_true] at ha
    obtain rfl : c = 69 := by simpa using ha.1
    unfold matchS at h
    split at h
    · injection h with _ h2; cases h2
    · have := match_all ps _ _ o ha.2 h
      have ht := takenN_le 69 m ks
      rw [this, List.append_assoc, List.replicate_append_replicate, List.length_drop]
      congr 2
      omega
def selB (K : Int) (i : Nat) : Bool := decide (i = 0) && (decide (K = 80) || (decide (K = 81) || (decide (K = 82) || decide (K = 83))))
theorem rd_drop (L : List Int) (i : Nat) {x : Int} {r : List Int} (h : L.drop i = x :: r) : rd L (i : Int) = x ∧ L.drop (i + 1) = r ∧ i < L.length := by
  have hl : i < L.length := by
    rcases Nat.lt_or_ge i L.length with h1 | h1
    · exact h1
    · rw [List.drop_eq_nil_of_le h1] at h; cases h
  rw [List.drop_eq_getElem_cons hl] at h
  injection h with h1 h2
  refine ⟨?_, h2, hl⟩
  unfold rd
  rw [Int.toNat_natCast, List.getD_eq_getElem?_getD, List.getElem?_eq_getElem hl]; exact h1
theorem set_drop (L : List Int) (i : Nat) (x : Int) (h : i < L.length) : (L.set i x).drop i = x :: L.drop (i + 1) := by
  rw [List.drop_eq_getElem_cons (by simpa using h), List.getElem_set_self, List.drop_set_of_lt (by omega)]
section
variable (c : UInt8) (hc : c = 69 ∨ c = 116) (a : S27) (hl : a.f7.length ≤ 2000000) (b : S27) (i : Nat) (hb : rd_T27 a.f7 (i : Int) = b) (hi : i < a.f7.length)
def nodeL (k : Nat) (c : UInt8) (L : List Int) (i : Int) (a : S27) : Option Int := syntax_node.l0 k shapesL (c.toNat : Int) L a.f7 (a.f7.length : Int) i a.f0 a.f1 a.f2 a.f3 a.f4 a.f5.f0 a.f5.f1 a.f5.f2 a.f6 a.f7
def node5 (k : Nat) (c : UInt8) (L : List Int) (i : Int) (q : Bool) (a b : S27) : Option Int := syntax_node.j5 k shapesL (c.toNat : Int) L i a.f7 (a.f7.length : Int) i q a.f0 a.f1 a.f2 a.f3 a.f4 a.f5.f0 a.f5.f1 a.f5.f2 a.f6 a.f7 b.f0 b.f1 b.f2 b.f3 b.f4 b.f5.f0 b.f5.f1 b.f5.f2 b.f6 b.f7
def nodeF (k : Nat) (a : S27) (c : UInt8) : Option Int := syntax_node.f k shapesL a.f0 a.f1 a.f2 a.f3 a.f4 a.f5.f0 a.f5.f1 a.f5.f2 a.f6 a.f7 (c.toNat : Int)
def cls3 (K : Int) (c : UInt8) : UInt8 := if K = 114 ∧ c = 116 then 116 else 69
include hb hi
theorem node_none (L : List Int) (h0 : b.f0 = 0) (q : Bool) (hq : syntax_bare.f b.f0 b.f1 b.f2 b.f3 b.f4 b.f5.f0 b.f5.f1 b.f5.f2 b.f6 b.f7 = some q) (e : Int)
    (h : Ev (fun k => if q = true then nodeL k c L (wrap64 ((i : Int) + 1)) a else some 4) e) : Ev (fun k => nodeL k c L (i : Int) a) e := by
  refine Ev.step (fun k => by rw [nodeL, syntax_node.l0]) ?_
  rw [hb]
  exact Ev.pos (by omega) (Ev.pos (by omega) (Ev.pos (by omega) (Ev.pos h0 (Ev.bnd hq h))))
omit hb hi in
theorem sel_yes (h : a.f0 = 80 ∨ a.f0 = 81 ∨ a.f0 = 82 ∨ a.f0 = 83) : selB a.f0 i = decide (i = 0) := by
  unfold selB
  rcases h with h | h | h | h <;> rw [h] <;> simp
omit hb hi in
theorem sel_no (h : ¬ (a.f0 = 80 ∨ a.f0 = 81 ∨ a.f0 = 82 ∨ a.f0 = 83)) : selB a.f0 i = false := by
  unfold selB
  simp only [not_or] at h
  rw [decide_eq_false h.1, decide_eq_false h.2.1, decide_eq_false h.2.2.1, decide_eq_false h.2.2.2]
  simp
theorem node_some (L : List Int) (hL : L.length = a.f7.length) (r : List Int) (hd : L.drop i = 69 :: r) (h0 : b.f0 ≠ 0) (e : Int)
    (h : ∀ L' : List Int, L'.length = a.f7.length → L'.drop i = (((cls3 a.f0 c).toNat : Nat) : Int) :: r → Ev (fun k => node5 k c L' (i : Int) (selB a.f0 i) a b) e) : Ev (fun k => nodeL k c L (i : Int) a) e := by
  have j4 : ∀ L' : List Int, L'.length = a.f7.length → L'.drop i = (((cls3 a.f0 c).toNat : Nat) : Int) :: r → Ev (fun k => syntax_node.j4 k shapesL (c.toNat : Int) L' (i : Int) a.f7 (a.f7.length : Int) (i : Int) a.f0 a.f1 a.f2 a.f3 a.f4 a.f5.f0 a.f5.f1 a.f5.f2 a.f6 a.f7 b.f0 b.f1 b.f2 b.f3 b.f4 b.f5.f0 b.f5.f1 b.f5.f2 b.f6 b.f7) e := by
    intro L' h1 h2
    have h := h L' h1 h2
    have e0 : ((i : Int) == 0) = decide (i = 0) := by rw [Bool.eq_iff_iff, beq_iff_eq, decide_eq_true_iff]; omega
    refine Ev.step (fun k => by rw [syntax_node.j4]) ?_
    rw [e0]
    unfold node5 at h
    by_cases hs : a.f0 = 80 ∨ a.f0 = 81 ∨ a.f0 = 82 ∨ a.f0 = 83
    · rw [sel_yes a i hs] at h
      by_cases k0 : a.f0 = 80
      · exact Ev.pos k0 h
      refine Ev.neg k0 ?_
      by_cases k1 : a.f0 = 81
      · exact Ev.pos k1 h
      refine Ev.neg k1 ?_
      by_cases k2 : a.f0 = 82
      · exact Ev.pos k2 h
      refine Ev.neg k2 ?_
      by_cases k3 : a.f0 = 83
      · exact Ev.pos k3 h
      omega
    · rw [sel_no a i hs] at h
      exact Ev.neg (by omega) (Ev.neg (by omega) (Ev.neg (by omega) (Ev.neg (by omega) h)))
  have j3 : ∀ q : Bool, q = decide (a.f0 = 114 ∧ c = 116) → Ev (fun k => syntax_node.j3 k shapesL (c.toNat : Int) L (i : Int) a.f7 (a.f7.length : Int) (i : Int) q a.f0 a.f1 a.f2 a.f3 a.f4 a.f5.f0 a.f5.f1 a.f5.f2 a.f6 a.f7 b.f0 b.f1 b.f2 b.f3 b.f4 b.f5.f0 b.f5.f1 b.f5.f2 b.f6 b.f7) e := by
    intro q hq
    obtain ⟨_, hr, hiL⟩ := rd_drop L i hd
    refine Ev.step (fun k => by rw [syntax_node.j3]) ?_
    by_cases hk : a.f0 = 114 ∧ c = 116
    · rw [decide_eq_true hk] at hq
      subst hq
      refine Ev.pos rfl (Ev.pos (by omega) (Ev.pos (by omega) ?_))
      rw [Int.toNat_natCast]
      refine j4 _ (by rw [List.length_set]; exact hL) ?_
      rw [set_drop L i _ hiL, hr, cls3, if_pos hk]; rfl
    · rw [decide_eq_false hk] at hq
      subst hq
      refine Ev.neg (by decide) (j4 L hL ?_)
      rw [hd, cls3, if_neg hk]; rfl
  refine Ev.step (fun k => by rw [nodeL, syntax_node.l0]) ?_
  rw [hb]
  refine Ev.pos (by omega) (Ev.pos (by omega) (Ev.pos (by omega) (Ev.neg h0 ?_)))
  by_cases hk : a.f0 = 114
  · refine Ev.pos hk (j3 _ ?_)
    rw [Bool.eq_iff_iff, beq_iff_eq, decide_eq_true_iff]
    exact ⟨fun h => ⟨hk, (u8_lit c 116).1 h⟩, fun h => (u8_lit c 116).2 h.2⟩
  · refine Ev.neg hk (j3 _ ?_)
    rw [decide_eq_false (fun h => hk h.1)]
def cls4 (K : Int) (i : Nat) (c : UInt8) : UInt8 := if selB K i = true then 116 else cls3 K c
theorem node_bad (L : List Int) (hL : L.length = a.f7.length) (hs : selB a.f0 i = true) (h114 : b.f0 = 114) : Ev (fun k => node5 k c L (i : Int) (selB a.f0 i) a b) 8 := by
  have _ := hb
  refine Ev.step (fun k => by rw [node5, syntax_node.j5]) ?_
  exact Ev.pos hs (Ev.pos (by omega) (Ev.pos (by omega) (Ev.pos h114 (Ev.now _))))
theorem node_sub (L : List Int) (hL : L.length = a.f7.length) (r : List Int) (hd : L.drop i = (((cls3 a.f0 c).toNat : Nat) : Int) :: r) (hs : ¬ (selB a.f0 i = true ∧ b.f0 = 114)) (e1 e : Int)
    (h1 : Ev (fun k => nodeF k b (cls4 a.f0 i c)) e1) (h : ∀ L' : List Int, L'.length = a.f7.length → L'.drop (i + 1) = r → Ev (fun k => if e1 = 0 then nodeL k c L' (wrap64 ((i : Int) + 1)) a else some e1) e) : Ev (fun k => node5 k c L (i : Int) (selB a.f0 i) a b) e := by
  have _ := hb
  have j6 : ∀ L' : List Int, L'.length = a.f7.length → L'.drop i = (((cls4 a.f0 i c).toNat : Nat) : Int) :: r → Ev (fun k => syntax_node.j6 k shapesL (c.toNat : Int) L' (i : Int) a.f7 (a.f7.length : Int) (i : Int) a.f0 a.f1 a.f2 a.f3 a.f4 a.f5.f0 a.f5.f1 a.f5.f2 a.f6 a.f7 b.f0 b.f1 b.f2 b.f3 b.f4 b.f5.f0 b.f5.f1 b.f5.f2 b.f6 b.f7) e := by
    intro L' h2 h3
    obtain ⟨hr, hr', hiL⟩ := rd_drop L' i h3
    refine Ev.step (fun k => by rw [syntax_node.j6]) (Ev.pos (by omega) (Ev.pos (by omega) ?_))
    rw [hr]
    exact Ev.bind (show Ev (fun k => syntax_node.f k shapesL b.f0 b.f1 b.f2 b.f3 b.f4 b.f5.f0 b.f5.f1 b.f5.f2 b.f6 b.f7 ((cls4 a.f0 i c).toNat : Int)) e1 from h1) (h L' h2 hr')
  obtain ⟨_, hr, hiL⟩ := rd_drop L i hd
  refine Ev.step (fun k => by rw [node5, syntax_node.j5]) ?_
  by_cases hq : selB a.f0 i = true
  · refine Ev.pos hq (Ev.pos (by omega) (Ev.pos (by omega) (Ev.neg (fun h => hs ⟨hq, h⟩) ?_)))
    rw [Int.toNat_natCast]
    refine j6 _ (by rw [List.length_set]; exact hL) ?_
    rw [set_drop L i _ hiL, hr, cls4, if_pos hq]; rfl
  · refine Ev.neg hq (j6 L hL ?_)
    rw [hd, cls4, if_neg hq]
end
end Go.Proofs.Ytlamgdibnnmbmaa.PSyn
end
