/- Part 36 of the proof of SyntaxExprsUptoSaid: The law SyntaxExprs, where the tree that it reads is of bulk at most 1048576: it returns true; the tree reads behind the call as it read before. Out of the plain theorem of YtlamgdibnnmbmaaPureSyntaxExprs and the printed contract. -/
import Derived.Test.YtlamgdibnnmbmaaQSyntaxExprsUpto34
section
namespace Go.Proofs.Ytlamgdibnnmbmaa.PSyn
open Go.RowKit Go.Proofs.YtlamgdibnnmbmaaW.PrintWords Go.Proofs.YtlamgdibnnmbmaaW.PrintLast Go.Proofs.YtlamgdibnnmbmaaW.PrintMore
set_option linter.unusedVariables false
set_option linter.unusedSimpArgs false
theorem cls4_is (K : Int) (i : Nat) (c : UInt8) : cls4 K i c = 69 ∨ cls4 K i c = 116 := by
  unfold cls4 cls3
  split
  · exact .inr rfl
  · split
    · exact .inr rfl
    · exact .inl rfl
theorem loop_ev (c : UInt8) (a : S27) (hl : a.f7.length ≤ 2000000) (IH : ∀ b ∈ a.f7, ∀ c, c = 69 ∨ c = 116 → ∃ e, Ev (fun k => nodeF k b c) e ∧ Ev (fun k => faultF k b c) e) :
    ∀ (r : List S27) (i : Nat), a.f7.drop i = r → ∃ e, (∀ L : List Int, L.length = a.f7.length → L.drop i = List.replicate r.length 69 → Ev (fun k => nodeL k c L (i : Int) a) e) ∧ Ev (fun k => faultL k c (P69 a.f7.length) (i : Int) a) e := by
  intro r
  induction r with
  | nil =>
    intro i hr
    have hi : a.f7.length ≤ i := List.drop_eq_nil_iff.1 hr
    refine ⟨0, fun L h1 h2 => ?_, ?_⟩
    · refine Ev.step (fun k => by rw [nodeL, syntax_node.l0]) ?_
      exact Ev.neg (by omega) (Ev.now _)
    · refine Ev.step (fun k => by rw [faultL, maskref1_nodeFault.l0]) ?_
      exact Ev.neg (by omega) (Ev.now _)
  | cons b r ih =>
    intro i hr
    obtain ⟨hi, hb, hr'⟩ := rd27_cons _ _ hr
    have hmem : b ∈ a.f7 := by
      have : b ∈ a.f7.drop i := by rw [hr]; exact List.mem_cons_self ..
      exact List.mem_of_mem_drop this
    obtain ⟨e, hp, hf⟩ := ih (i + 1) hr'
    have ei : wrap64 ((i : Int) + 1) = ((i + 1 : Nat) : Int) := by rw [w64 (n := (i : Int) + 1) (by omega)]; omega
    by_cases h0 : b.f0 = 0
    · by_cases hbare : bareB b = true
      · refine ⟨e, fun L h1 h2 => ?_, ?_⟩
        · refine node_none c a b i hb hi L h0 (bareB b) (bare_is b) e ?_
          refine Ev.pos hbare ?_
          rw [ei]
          have h3 := congrArg (List.drop 1) h2
          rw [List.drop_drop, List.length_cons, List.replicate_succ] at h3
          exact hp L h1 h3
        · refine fault_first c a b i hb hi e ?_
          rw [hbare, Bool.not_true, Bool.and_false]
          refine fault_none c a b i _ _ h0 e ?_
          rw [ei]; exact hf
      · refine ⟨4, fun L h1 h2 => ?_, ?_⟩
        · exact node_none c a b i hb hi L h0 (bareB b) (bare_is b) 4 (Ev.neg hbare (Ev.now _))
        · refine fault_first c a b i hb hi 4 ?_
          rw [Bool.eq_false_iff.2 hbare, Bool.not_false, Bool.and_true, decide_eq_true h0]
          exact fault_bare c a b i _ _
    · by_cases hs : selB a.f0 i = true ∧ b.f0 = 114
      · refine ⟨8, fun L h1 h2 => ?_, ?_⟩
        · refine node_some c a b i hb hi L h1 (List.replicate r.length 69) (by rw [h2]; rfl) h0 8 fun L' h3 h4 => ?_
          exact node_bad c a b i hb hi L' h3 hs.1 hs.2
        · refine fault_first c a b i hb hi 8 ?_
          rw [decide_eq_false h0, Bool.false_and]
          exact fault_bad c a b i _ h0 hs.1 hs.2
      · obtain ⟨e1, hn1, hf1⟩ := IH b hmem (cls4 a.f0 i c) (cls4_is a.f0 i c)
        refine ⟨if e1 = 0 then e else e1, fun L h1 h2 => ?_, ?_⟩
        · refine node_some c a b i hb hi L h1 (List.replicate r.length 69) (by rw [h2]; rfl) h0 _ fun L' h3 h4 => ?_
          refine node_sub c a b i hb hi L' h3 _ h4 hs e1 _ hn1 fun L'' h5 h6 => ?_
          by_cases he : e1 = 0
          · simp only [he, if_true]
            rw [ei]
            exact hp L'' h5 h6
          · simp only [he, if_false]
            exact Ev.now _
        · refine fault_first c a b i hb hi _ ?_
          rw [decide_eq_false h0, Bool.false_and]
          refine fault_sub c a b i _ h0 hs e1 _ hf1 ?_
          by_cases he : e1 = 0
          · simp only [he, if_true]
            rw [ei]
            exact hf
          · simp only [he, if_false]
            exact Ev.now _
theorem u64_nat {n : Int} (h : (Lit.int .u64 n).wf = true) : ∃ v : Nat, n = (v : Int) ∧ v < 2 ^ 64 := by
  simp only [Lit.wf, Bool.and_eq_true, decide_eq_true_iff] at h
  have h1 : IntKind.u64.min = 0 := rfl
  have h2 : IntKind.u64.max = 18446744073709551615 := rfl
  rw [h1, h2] at h
  exact ⟨n.toNat, by omega, by omega⟩
theorem ok_num : ∀ a : S27, a.ok → ∃ v x : Nat, a.f5.f1 = (v : Int) ∧ v < 2 ^ 64 ∧ a.f5.f2 = (x : Int) ∧ x < 2 ^ 64
  | ⟨_, _, _, _, _, _, _, _⟩, h => by
    simp only [S27.ok] at h
    obtain ⟨_, _, _, ⟨_, h1, h2⟩, _⟩ := h
    obtain ⟨v, e1, l1⟩ := u64_nat h1
    obtain ⟨x, e2, l2⟩ := u64_nat h2
    exact ⟨v, x, e1, l1, e2, l2⟩
theorem both_ev (n : Nat) : ∀ a : S27, a.ok → a.bulk ≤ n → a.bulk ≤ 1048576 → ∀ c : UInt8, c = 69 ∨ c = 116 → ∃ e, Ev (fun k => nodeF k a c) e ∧ Ev (fun k => faultF k a c) e := by
  induction n with
  | zero => intro a _ h; have := bulk_pos a; omega
  | succ n ih =>
    intro a hok hn hB c hc
    have hkb := kids_bulk a
    have hlen := length_le a.f7
    have hl : a.f7.length ≤ 2000000 := by omega
    have IH : ∀ b ∈ a.f7, ∀ c, c = 69 ∨ c = 116 → ∃ e, Ev (fun k => nodeF k b c) e ∧ Ev (fun k => faultF k b c) e := by
      intro b hb c hc
      obtain ⟨i, hi, hib⟩ := List.getElem_of_mem hb
      have h1 := bulk_drop a.f7 i
      rw [List.drop_eq_getElem_cons hi, hib] at h1
      simp only [bulkAll] at h1
      exact ih b (okAll_mem _ (kids_ok a hok) b hb) (by omega) (by omega) c hc
    have range : ∀ e : Int, Ev (fun k => syntax_node.j0 k shapesL (c.toNat : Int) true a.f0 a.f1 a.f2 a.f3 a.f4 a.f5.f0 a.f5.f1 a.f5.f2 a.f6 a.f7) 2 ∧ Ev (fun k => maskref1_nodeFault.j0 k formsL (ofL [c]) true a.f0 a.f1 a.f2 a.f3 a.f4 a.f5.f0 a.f5.f1 a.f5.f2 a.f6 a.f7) 2 := by
      intro _
      constructor
      · refine Ev.step (fun k => by rw [syntax_node.j0]) ?_
        exact Ev.pos rfl (Ev.now _)
      · refine Ev.step (fun k => by rw [maskref1_nodeFault.j0]) ?_
        exact Ev.pos rfl (Ev.now _)
    obtain ⟨n2, f2⟩ := range 2
    have head : 0 ≤ a.f0 → a.f0 < 122 → ∃ e, Ev (fun k => syntax_node.j0 k shapesL (c.toNat : Int) false a.f0 a.f1 a.f2 a.f3 a.f4 a.f5.f0 a.f5.f1 a.f5.f2 a.f6 a.f7) e ∧ Ev (fun k => maskref1_nodeFault.j0 k formsL (ofL [c]) false a.f0 a.f1 a.f2 a.f3 a.f4 a.f5.f0 a.f5.f1 a.f5.f2 a.f6 a.f7) e := by
      intro g0 g1
      have hi : a.f0.toNat ∈ List.range 122 := List.mem_range.2 (by omega)
      have hie : ((a.f0.toNat : Nat) : Int) = a.f0 := by omega
      have t1 := cls_same _ hi
      have t2 := cls_small _ hi
      have t3 := uses_same _ hi
      have t4 := uses_small _ hi
      have t5 := expr_kids _ hi
      rw [hie] at t1 t2 t3 t4 t5
      have hB0 : hasB a.f0 c = (clsOf a.f0).contains c := by
        unfold hasB
        rw [decide_eq_true (show 0 ≤ a.f0 ∧ a.f0 < 122 from ⟨g0, g1⟩), Bool.true_and]
      have cc := contains_ev (rd_T73 formsL a.f0).f0 c (by rw [← size_list]; omega)
      rw [t1, show (rd_T89 shapesL a.f0).f0.data.toList = clsOf a.f0 from rfl, ← hB0] at cc
      obtain ⟨v, x, hv, hv2, hx, hx2⟩ := ok_num a hok
      have F1 := fields_ev (rd_T89 shapesL a.f0).f2 (by rw [← size_list]; omega) a.f0 a.f1 a.f2 a.f3 a.f4 (by omega) (by omega) a.f5.f0 v x hv2 hx2 a.f6 a.f7
      have F2 := fieldFault_ev (rd_T73 formsL a.f0).f2 (by rw [← size_list]; omega) a.f0 a.f1 a.f2 a.f3 a.f4 (by omega) (by omega) a.f5.f0 v x hv2 hx2 a.f6 a.f7
      rw [fieldS_congr t3] at F2
      rw [← hv, ← hx] at F1 F2
      generalize fieldS (rd_T89 shapesL a.f0).f2.data.toList a.f3.data.toList a.f4.data.toList a.f5.f0 v x a.f6 = ef at F1 F2
      by_cases hh : hasB a.f0 c = true
      · rw [hB0] at hh
        obtain ⟨p1, p2, p3⟩ := t5 (by rcases hc with rfl | rfl; exact (by rw [hh, Bool.true_or]); exact (by rw [hh, Bool.or_true]))
        rw [← hB0] at hh
        have M1 := match_ev (rd_T89 shapesL a.f0).f1 (by rw [← size_list]; omega) a.f7 hl
        have M2 := taken_ev a.f7 hl (rd_T73 formsL a.f0).f1.data.toList
        rw [← ba_ext (s := (rd_T73 formsL a.f0).f1) rfl, p1] at M2
        have k57 : a.f0 ≠ 57 := by omega
        by_cases he : ef = 0
        · have key : ∃ e, Ev (fun k => if (resI (matchS (parseP (rd_T89 shapesL a.f0).f1.data.toList) (a.f7.map S27.f0) [])).2 = true then syntax_node.j1 k shapesL (c.toNat : Int) (resI (matchS (parseP (rd_T89 shapesL a.f0).f1.data.toList) (a.f7.map S27.f0) [])).1 false a.f0 a.f1 a.f2 a.f3 a.f4 a.f5.f0 a.f5.f1 a.f5.f2 a.f6 a.f7 else some 4) e ∧
              Ev (fun k => if (resB (matchS (parseP (rd_T89 shapesL a.f0).f1.data.toList) (a.f7.map S27.f0) [])).2 = true then maskref1_nodeFault.j1 k formsL (ofL [c]) (resB (matchS (parseP (rd_T89 shapesL a.f0).f1.data.toList) (a.f7.map S27.f0) [])).1 false a.f0 a.f1 a.f2 a.f3 a.f4 a.f5.f0 a.f5.f1 a.f5.f2 a.f6 a.f7 else maskref1_nodeFault.j1 k formsL (ofL [c]) (resB (matchS (parseP (rd_T89 shapesL a.f0).f1.data.toList) (a.f7.map S27.f0) [])).1 true a.f0 a.f1 a.f2 a.f3 a.f4 a.f5.f0 a.f5.f1 a.f5.f2 a.f6 a.f7) e := by
            rcases hm : matchS (parseP (rd_T89 shapesL a.f0).f1.data.toList) (a.f7.map S27.f0) [] with ⟨o, q⟩
            cases q with
            | false =>
              refine ⟨4, Ev.neg (show ¬ (false = true) by decide) (Ev.now _), Ev.neg (show ¬ (false = true) by decide) ?_⟩
              refine Ev.step (fun k => by rw [maskref1_nodeFault.j1]) ?_
              exact Ev.pos rfl (Ev.now _)
            | true =>
              have ho := match_all _ _ _ _ p2 hm
              rw [List.nil_append, List.length_map] at ho
              obtain ⟨e, hp, hf⟩ := loop_ev c a hl IH a.f7 0 rfl
              refine ⟨e, Ev.pos rfl ?_, Ev.pos rfl ?_⟩
              · refine Ev.step (fun k => by rw [syntax_node.j1]) ?_
                refine Ev.neg (by decide) ?_
                refine hp (toI o) (by rw [ho, toI_length, List.length_replicate]) ?_
                rw [ho, List.drop_zero]
                simp [toI]
              · refine Ev.step (fun k => by rw [maskref1_nodeFault.j1]) ?_
                refine Ev.neg (by decide) ?_
                show Ev (fun k => faultL k c (toB o) ((0 : Nat) : Int) a) e
                rw [ho]; exact hf
          obtain ⟨e, hp, hf⟩ := key
          refine ⟨e, ?_, ?_⟩
          · refine Ev.step (fun k => by rw [syntax_node.j0]) ?_
            refine Ev.neg (by decide) (Ev.bnd (has_is a.f0 c) (Ev.pos hh (Ev.pos g0 (Ev.pos (by rw [shapes_len]; omega) (Ev.bind F1 (Ev.pos he (Ev.bind M1 ?_)))))))
            by_cases hq : (resI (matchS (parseP (rd_T89 shapesL a.f0).f1.data.toList) (a.f7.map S27.f0) [])).2 = true
            · simp only [hq, if_true] at hp ⊢
              exact Ev.neg k57 hp
            · simp only [hq, if_false] at hp ⊢
              exact hp
          · refine Ev.step (fun k => by rw [maskref1_nodeFault.j0]) ?_
            refine Ev.neg (by decide) (Ev.pos g0 (Ev.pos (by rw [forms_len]; omega) (Ev.bind cc (Ev.pos hh (Ev.bind F2 (Ev.pos he (Ev.bind M2 ?_)))))))
            by_cases hq : (resB (matchS (parseP (rd_T89 shapesL a.f0).f1.data.toList) (a.f7.map S27.f0) [])).2 = true
            · simp only [hq, if_true] at hf ⊢
              exact Ev.neg k57 hf
            · simp only [hq, if_false] at hf ⊢
              exact hf
        · refine ⟨ef, ?_, ?_⟩
          · refine Ev.step (fun k => by rw [syntax_node.j0]) ?_
            exact Ev.neg (by decide) (Ev.bnd (has_is a.f0 c) (Ev.pos hh (Ev.pos g0 (Ev.pos (by rw [shapes_len]; omega) (Ev.bind F1 (Ev.neg he (Ev.now _)))))))
          · refine Ev.step (fun k => by rw [maskref1_nodeFault.j0]) ?_
            exact Ev.neg (by decide) (Ev.pos g0 (Ev.pos (by rw [forms_len]; omega) (Ev.bind cc (Ev.pos hh (Ev.bind F2 (Ev.neg he (Ev.now _)))))))
      · refine ⟨8, ?_, ?_⟩
        · refine Ev.step (fun k => by rw [syntax_node.j0]) ?_
          exact Ev.neg (by decide) (Ev.bnd (has_is a.f0 c) (Ev.neg hh (Ev.now _)))
        · refine Ev.step (fun k => by rw [maskref1_nodeFault.j0]) ?_
          exact Ev.neg (by decide) (Ev.pos g0 (Ev.pos (by rw [forms_len]; omega) (Ev.bind cc (Ev.neg hh (Ev.now _)))))
    have top : ∃ e, Ev (fun k => if a.f0 < 0 then syntax_node.j0 k shapesL (c.toNat : Int) true a.f0 a.f1 a.f2 a.f3 a.f4 a.f5.f0 a.f5.f1 a.f5.f2 a.f6 a.f7 else if a.f0 ≥ ((122 : Nat) : Int) then syntax_node.j0 k shapesL (c.toNat : Int) true a.f0 a.f1 a.f2 a.f3 a.f4 a.f5.f0 a.f5.f1 a.f5.f2 a.f6 a.f7 else if a.f1 < 0 then syntax_node.j0 k shapesL (c.toNat : Int) true a.f0 a.f1 a.f2 a.f3 a.f4 a.f5.f0 a.f5.f1 a.f5.f2 a.f6 a.f7 else syntax_node.j0 k shapesL (c.toNat : Int) (decide (a.f2 < 0)) a.f0 a.f1 a.f2 a.f3 a.f4 a.f5.f0 a.f5.f1 a.f5.f2 a.f6 a.f7) e ∧
        Ev (fun k => if a.f0 < 0 then maskref1_nodeFault.j0 k formsL (ofL [c]) true a.f0 a.f1 a.f2 a.f3 a.f4 a.f5.f0 a.f5.f1 a.f5.f2 a.f6 a.f7 else if a.f0 ≥ ((122 : Nat) : Int) then maskref1_nodeFault.j0 k formsL (ofL [c]) true a.f0 a.f1 a.f2 a.f3 a.f4 a.f5.f0 a.f5.f1 a.f5.f2 a.f6 a.f7 else if a.f1 < 0 then maskref1_nodeFault.j0 k formsL (ofL [c]) true a.f0 a.f1 a.f2 a.f3 a.f4 a.f5.f0 a.f5.f1 a.f5.f2 a.f6 a.f7 else maskref1_nodeFault.j0 k formsL (ofL [c]) (decide (a.f2 < 0)) a.f0 a.f1 a.f2 a.f3 a.f4 a.f5.f0 a.f5.f1 a.f5.f2 a.f6 a.f7) e := by
      by_cases g0 : a.f0 < 0
      · exact ⟨2, Ev.pos g0 n2, Ev.pos g0 f2⟩
      by_cases g1 : a.f0 ≥ ((122 : Nat) : Int)
      · exact ⟨2, Ev.neg g0 (Ev.pos g1 n2), Ev.neg g0 (Ev.pos g1 f2)⟩
      by_cases g2 : a.f1 < 0
      · exact ⟨2, Ev.neg g0 (Ev.neg g1 (Ev.pos g2 n2)), Ev.neg g0 (Ev.neg g1 (Ev.pos g2 f2))⟩
      by_cases g3 : a.f2 < 0
      · rw [decide_eq_true g3]
        exact ⟨2, Ev.neg g0 (Ev.neg g1 (Ev.neg g2 n2)), Ev.neg g0 (Ev.neg g1 (Ev.neg g2 f2))⟩
      rw [decide_eq_false g3]
      obtain ⟨e, h1, h2⟩ := head (by omega) (by omega)
      exact ⟨e, Ev.neg g0 (Ev.neg g1 (Ev.neg g2 h1)), Ev.neg g0 (Ev.neg g1 (Ev.neg g2 h2))⟩
    obtain ⟨e, h1, h2⟩ := top
    refine ⟨e, ?_, ?_⟩
    · refine Ev.step (fun k => by rw [nodeF, syntax_node.f]) ?_
      rw [shapes_len]; exact h1
    · refine Ev.step (fun k => by rw [faultF, maskref1_nodeFault.f]) ?_
      rw [forms_len]; exact h2
end Go.Proofs.Ytlamgdibnnmbmaa.PSyn
end
