/- Part 22 of the proof of NoteSortsCardSaid: The law NoteSorts: for all arguments it returns true; each argument reads behind the call as it read before. Out of the plain theorem of YtlamgdibnnmbmaaDoorPureNoteSorts and the printed contract. -/
import Derived.Test.YtlamgdibnnmbmaaDoorQNoteSorts19
import Derived.Test.YtlamgdibnnmbmaaDoorQNoteSorts20
section
namespace Go.Proofs.YtlamgdibnnmbmaaDoor.PSort
open Go.RowKit Go.Proofs.YtlamgdibnnmbmaaDoorW.PrintWords Go.Proofs.YtlamgdibnnmbmaaDoorW.PrintLast Go.Proofs.YtlamgdibnnmbmaaDoorW.PrintMore
set_option linter.unusedVariables false
set_option linter.unusedSectionVars false
theorem less_trans : ∀ x y z : List UInt8, Op.bytesLess x y = true → Op.bytesLess y z = true → Op.bytesLess x z = true
  | _, [], _, h, _ => by unfold Op.bytesLess at h; cases h
  | _, _ :: _, [], _, h => by unfold Op.bytesLess at h; cases h
  | [], _ :: _, _ :: _, _, _ => by unfold Op.bytesLess; rfl
  | a :: x, b :: y, c :: z, h, h' => by
    unfold Op.bytesLess at h h' ⊢
    rw [Bool.or_eq_true, Bool.and_eq_true, decide_eq_true_iff, beq_iff_eq] at h h' ⊢
    rcases h with h | ⟨rfl, h⟩
    · rcases h' with h' | ⟨rfl, h'⟩
      · exact .inl (UInt8.lt_trans h h')
      · exact .inl h
    · rcases h' with h' | ⟨rfl, h'⟩
      · exact .inl h'
      · exact .inr ⟨rfl, less_trans x y z h h'⟩
def Lex (a b : S24) : Prop := Op.bytesLess a.f0.toList b.f0.toList = true ∨ (a.f0.toList = b.f0.toList ∧ (a.f1 < b.f1 ∨ (a.f1 = b.f1 ∧ (a.f2 < b.f2 ∨ (a.f2 = b.f2 ∧ (a.f3 < b.f3 ∨ (a.f3 = b.f3 ∧ Op.bytesLess a.f4.toList b.f4.toList = true)))))))
theorem bef_lex (a b : S24) : bef a b = true ↔ Lex a b := by
  have h := Before_is a b
  have hb : bef a b = true ↔ maskref1_NoteBefore.f a.f0 a.f1 a.f2 a.f3 a.f4 b.f0 b.f1 b.f2 b.f3 b.f4 = some true := by
    rw [h]; exact ⟨fun q => by rw [q], fun q => by injection q⟩
  rw [hb]
  unfold maskref1_NoteBefore.f Lex
  by_cases h0 : a.f0.toList = b.f0.toList
  · rw [if_pos h0, h0, less_irrefl]
    by_cases h1 : a.f1 = b.f1
    · rw [if_pos h1]
      by_cases h2 : a.f2 = b.f2
      · rw [if_pos h2]
        by_cases h3 : a.f3 = b.f3
        · rw [if_pos h3]; simp [h1, h2, h3]
        · rw [if_neg h3]; simp [h1, h2, h3]
      · rw [if_neg h2]; simp [h1, h2]
    · rw [if_neg h1]; simp [h1]
  · rw [if_neg h0]; simp [h0]
theorem s24_eq {a b : S24} (h0 : a.f0.toList = b.f0.toList) (h1 : a.f1 = b.f1) (h2 : a.f2 = b.f2) (h3 : a.f3 = b.f3) (h4 : a.f4.toList = b.f4.toList) : a = b := by
  have e : ∀ x y : ByteArray, x.toList = y.toList → x = y := by
    intro x y h
    rw [ByteArray.toList_eq, ByteArray.toList_eq] at h
    cases x with | mk x => cases y with | mk y => exact congrArg _ (Array.ext' h)
  cases a; cases b
  simp only at h0 h1 h2 h3 h4
  rw [e _ _ h0, h1, h2, h3, e _ _ h4]
theorem bef_total : Ns.Total bef where
  irrefl x := by
    rw [Bool.eq_false_iff]
    intro h
    have := (bef_lex x x).1 h
    unfold Lex at this
    simp [less_irrefl] at this
  trans x y z h h' := by
    have h := (bef_lex x y).1 h
    have h' := (bef_lex y z).1 h'
    refine (bef_lex x z).2 ?_
    unfold Lex at *
    rcases h with h | ⟨e0, h⟩
    · rcases h' with h' | ⟨e0', h'⟩
      · exact .inl (less_trans _ _ _ h h')
      · exact .inl (by rw [← e0']; exact h)
    · rcases h' with h' | ⟨e0', h'⟩
      · exact .inl (by rw [e0]; exact h')
      · refine .inr ⟨e0.trans e0', ?_⟩
        rcases h with h | ⟨e1, h⟩
        · rcases h' with h' | ⟨e1', h'⟩
          · exact .inl (by omega)
          · exact .inl (by omega)
        · rcases h' with h' | ⟨e1', h'⟩
          · exact .inl (by omega)
          · refine .inr ⟨e1.trans e1', ?_⟩
            rcases h with h | ⟨e2, h⟩
            · rcases h' with h' | ⟨e2', h'⟩
              · exact .inl (by omega)
              · exact .inl (by omega)
            · rcases h' with h' | ⟨e2', h'⟩
              · exact .inl (by omega)
              · refine .inr ⟨e2.trans e2', ?_⟩
                rcases h with h | ⟨e3, h⟩
                · rcases h' with h' | ⟨e3', h'⟩
                  · exact .inl (by omega)
                  · exact .inl (by omega)
                · rcases h' with h' | ⟨e3', h'⟩
                  · exact .inl (by omega)
                  · exact .inr ⟨e3.trans e3', less_trans _ _ _ h h'⟩
  total x y := by
    rw [bef_lex, bef_lex]
    unfold Lex
    by_cases h0 : x.f0.toList = y.f0.toList
    · rcases Int.lt_trichotomy x.f1 y.f1 with q | q | q
      · exact .inl (.inr ⟨h0, .inl q⟩)
      · rcases Int.lt_trichotomy x.f2 y.f2 with p | p | p
        · exact .inl (.inr ⟨h0, .inr ⟨q, .inl p⟩⟩)
        · rcases Int.lt_trichotomy x.f3 y.f3 with r | r | r
          · exact .inl (.inr ⟨h0, .inr ⟨q, .inr ⟨p, .inl r⟩⟩⟩)
          · cases h4 : Op.bytesLess x.f4.toList y.f4.toList with
            | true => exact .inl (.inr ⟨h0, .inr ⟨q, .inr ⟨p, .inr ⟨r, rfl⟩⟩⟩⟩)
            | false =>
              cases h5 : Op.bytesLess y.f4.toList x.f4.toList with
              | true => exact .inr (.inr (.inr ⟨h0.symm, .inr ⟨q.symm, .inr ⟨p.symm, .inr ⟨r.symm, rfl⟩⟩⟩⟩))
              | false => exact .inr (.inl (s24_eq h0 q p r (less_eq _ _ h4 h5)))
          · exact .inr (.inr (.inr ⟨h0.symm, .inr ⟨q.symm, .inr ⟨p.symm, .inl r⟩⟩⟩))
        · exact .inr (.inr (.inr ⟨h0.symm, .inr ⟨q.symm, .inl p⟩⟩))
      · exact .inr (.inr (.inr ⟨h0.symm, .inl q⟩))
    · cases h4 : Op.bytesLess x.f0.toList y.f0.toList with
      | true => exact .inl (.inl rfl)
      | false =>
        cases h5 : Op.bytesLess y.f0.toList x.f0.toList with
        | true => exact .inr (.inr (.inl rfl))
        | false => exact absurd (less_eq _ _ h4 h5) h0
end Go.Proofs.YtlamgdibnnmbmaaDoor.PSort
end
