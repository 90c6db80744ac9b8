/- Part 40 of the proof of SyntaxExprsUptoSaid: The law SyntaxExprs, where the tree that it reads is of bulk at most 1048576: it returns true; the tree reads behind the call as it read before. Out of the plain theorem of YtlamgdibnnmbmaaPureSyntaxExprs and the printed contract. -/
import Derived.Test.YtlamgdibnnmbmaaQSyntaxExprsUpto35
import Derived.Test.YtlamgdibnnmbmaaQSyntaxExprsUpto38
import Derived.KernelRfl
section
namespace Go.Proofs.Ytlamgdibnnmbmaa.PSyn
open Go.RowKit Go.Proofs.YtlamgdibnnmbmaaW.PrintWords Go.Proofs.YtlamgdibnnmbmaaW.PrintLast Go.Proofs.YtlamgdibnnmbmaaW.PrintMore
set_option linter.unusedVariables false
set_option linter.unusedSimpArgs false
theorem exprs_ev (a : S27) (hok : a.ok) (hB : a.bulk ≤ 1048576) : ∃ e, Ev (fun k => syntax_CheckExpr.f k a.f0 a.f1 a.f2 a.f3 a.f4 a.f5.f0 a.f5.f1 a.f5.f2 a.f6 a.f7) e ∧ Ev (fun k => maskref1_TreeFault.f k a.f0 a.f1 a.f2 a.f3 a.f4 a.f5.f0 a.f5.f1 a.f5.f2 a.f6 a.f7 (⟨#[69]⟩ : ByteArray)) e := by
  have m := meas_ev _ a (Nat.le_refl _) hB
  have w := weigh_ev _ a (Nat.le_refl _) hB
  obtain ⟨e, h1, h2⟩ := both_ev _ a hok (Nat.le_refl _) hB 69 (.inl rfl)
  have hd : a.dep ≤ a.bulk := dep_le a
  have n1 : Ev (fun k => (syntax_node.f k shapesL a.f0 a.f1 a.f2 a.f3 a.f4 a.f5.f0 a.f5.f1 a.f5.f2 a.f6 a.f7 69).bind fun t => some t) e := Ev.bind (show Ev (fun k => syntax_node.f k shapesL a.f0 a.f1 a.f2 a.f3 a.f4 a.f5.f0 a.f5.f1 a.f5.f2 a.f6 a.f7 69) e from h1) (Ev.now e)
  have n2 : Ev (fun k => (maskref1_nodeFault.f k formsL a.f0 a.f1 a.f2 a.f3 a.f4 a.f5.f0 a.f5.f1 a.f5.f2 a.f6 a.f7 (⟨#[69]⟩ : ByteArray)).bind fun t => some t) e := Ev.bind (show Ev (fun k => maskref1_nodeFault.f k formsL a.f0 a.f1 a.f2 a.f3 a.f4 a.f5.f0 a.f5.f1 a.f5.f2 a.f6 a.f7 (⟨#[69]⟩ : ByteArray)) e from h2) (Ev.now e)
  have p0 : ∀ q : Bool, Ev (fun k => syntax_check.j0 k 69 q a.f0 a.f1 a.f2 a.f3 a.f4 a.f5.f0 a.f5.f1 a.f5.f2 a.f6 a.f7) (if q = true then 3 else e) := by
    intro q
    refine Ev.step (fun k => by rw [syntax_check.j0]) ?_
    cases q with
    | true => exact Ev.pos rfl (Ev.now _)
    | false => exact Ev.neg (by decide) (Ev.bnd (show syntax_shapes.f = some shapesL from rfl) n1)
  have q0 : ∀ q : Bool, Ev (fun k => maskref1_TreeFault.j0 k (⟨#[69]⟩ : ByteArray) q a.f0 a.f1 a.f2 a.f3 a.f4 a.f5.f0 a.f5.f1 a.f5.f2 a.f6 a.f7) (if q = true then 3 else e) := by
    intro q
    refine Ev.step (fun k => by rw [maskref1_TreeFault.j0]) ?_
    cases q with
    | true => exact Ev.pos rfl (Ev.now _)
    | false => exact Ev.neg (by decide) (Ev.bind forms_ev n2)
  refine ⟨if (a.cnt : Int) > 4000 then 3 else if decide ((a.dep : Int) > 60) = true then 3 else e, ?_, ?_⟩
  · unfold syntax_CheckExpr.f syntax_check.f
    refine Ev.bind (Ev.bind (show Ev (fun k => syntax_Measure.f k a.f0 a.f1 a.f2 a.f3 a.f4 a.f5.f0 a.f5.f1 a.f5.f2 a.f6 a.f7) _ from m) ?_) (Ev.now _)
    by_cases h : (a.cnt : Int) > 4000
    · rw [if_pos h]; exact Ev.pos h (p0 true)
    · rw [if_neg h]; exact Ev.neg h (p0 _)
  · unfold maskref1_TreeFault.f
    refine Ev.bind (show Ev (fun k => maskref1_Weigh.f k a.f0 a.f1 a.f2 a.f3 a.f4 a.f5.f0 a.f5.f1 a.f5.f2 a.f6 a.f7) _ from w) ?_
    by_cases h : (a.cnt : Int) > 4000
    · rw [if_pos h]; exact Ev.pos h (q0 true)
    · rw [if_neg h]; exact Ev.neg h (q0 _)
theorem treed_at : masklaw1_treed.f 60 = some true := by kernel_rfl
theorem treed_ev : Ev (fun k => masklaw1_treed.f k) true := by
  have up : ∀ d, masklaw1_treed.f (60 + d) = some true := by
    intro d
    induction d with
    | zero => exact treed_at
    | succ d ih => exact masklaw1_treed.mono (60 + d) true ih
  exact ⟨60, fun k hk => by rw [show k = 60 + (k - 60) by omega]; exact up _⟩
theorem SyntaxExprs_pure (a : S27) (hok : a.ok) (hB : a.bulk ≤ 1048576) : ∃ k, masklaw1_SyntaxExprs.f k a.f0 a.f1 a.f2 a.f3 a.f4 a.f5.f0 a.f5.f1 a.f5.f2 a.f6 a.f7 = some true := by
  obtain ⟨e, h1, h2⟩ := exprs_ev a hok hB
  have : Ev (fun k => masklaw1_SyntaxExprs.f k a.f0 a.f1 a.f2 a.f3 a.f4 a.f5.f0 a.f5.f1 a.f5.f2 a.f6 a.f7) true := by
    unfold masklaw1_SyntaxExprs.f
    refine Ev.bind treed_ev (Ev.pos rfl (Ev.bind h1 (Ev.bind h2 ((Ev.now _).eq ?_))))
    exact beq_self_eq_true e
  obtain ⟨K, h⟩ := this
  exact ⟨K, h K (Nat.le_refl _)⟩
end Go.Proofs.Ytlamgdibnnmbmaa.PSyn
end
