/- Part 25 of the proof of NoteReadsCardSaid: The law NoteReads: for all arguments it returns true; each argument reads behind the call as it read before. Out of the plain theorem of YtlamgdibnnmbmaaDoorPureNoteReads and the printed contract. -/
import Derived.Test.YtlamgdibnnmbmaaDoorQNoteReads23
section
namespace Go.Proofs.YtlamgdibnnmbmaaDoor.PRead
open Go.RowKit Go.Proofs.YtlamgdibnnmbmaaDoorW.PrintWords Go.Proofs.YtlamgdibnnmbmaaDoorW.PrintLast Go.Proofs.YtlamgdibnnmbmaaDoorW.PrintMore
set_option linter.unusedVariables false
set_option linter.unusedSimpArgs false
set_option linter.unusedSectionVars false
def nm (e : Int) : ByteArray := if e < 0 then ⟨#[]⟩ else nameWords.getD e.toNat ⟨#[]⟩
theorem Name_is (e : Int) : note_Name.f e = some (nm e) := rfl
theorem Word_is (e : Int) : Ev (fun k => maskref1_NoteWord.f k e) (nm e) := by
  obtain ⟨r, h1, h2⟩ := NoteWord_ev e
  rw [Name_is] at h2
  injection h2 with h2
  rw [h2]; exact h1
theorem toList_nil (s : ByteArray) : s.toList = [] ↔ s.size = 0 := by
  rw [ByteArray.toList_eq, size_list, List.length_eq_zero_iff]
theorem nm_none (e : Int) : ((nm e).toList == ([] : List UInt8)) = decide (e < 1 ∨ e > 22) := by
  rw [Bool.eq_iff_iff, beq_iff_eq, decide_eq_true_iff, toList_nil]
  unfold nm
  by_cases h0 : e < 0
  · rw [if_pos h0]; exact ⟨fun _ => by omega, fun _ => rfl⟩
  · rw [if_neg h0]
    have h : ∀ i : Fin 23, ((nameWords.getD i.1 ⟨#[]⟩).size = 0 ↔ i.1 < 1) := by decide
    rcases Nat.lt_or_ge e.toNat 23 with h1 | h1
    · have := h ⟨_, h1⟩
      simp only at this
      rw [this]; omega
    · rw [List.getD_eq_getElem?_getD, List.getElem?_eq_none (by exact h1)]
      exact ⟨fun _ => by omega, fun _ => rfl⟩
section
variable (f : ByteArray) (hf : f.size ≤ 140737488351232) (line col e : Int) (t : ByteArray) (ht : t.size ≤ 140737488351232)
def chkV : Int := if fileB f.data.toList = true then if line < 1 ∨ line > 16000 ∨ col < 1 ∨ col > 16001 ∨ e < 1 ∨ e > 22 then 2 else if wordB t.data.toList = true then 0 else 4 else 9
include hf ht
theorem Check_ev : Ev (fun k => note_Check.f k f line col e t) (chkV f line col e t) := by
  unfold note_Check.f chkV
  refine Ev.bind (File_ev f hf) ?_
  have j0 : ∀ b : Bool, Ev (fun k => note_Check.j0 k b f line col e t) (if b = true then 2 else if wordB t.data.toList = true then 0 else 4) := by
    intro b
    refine Ev.step (fun k => by rw [note_Check.j0]) ?_
    cases b with
    | true => exact Ev.pos rfl (Ev.now _)
    | false =>
      refine Ev.neg (by decide) (Ev.bind (word_ev t ht) ?_)
      rw [if_neg (show ¬ (false = true) by decide)]
      by_cases h : wordB t.data.toList = true
      · exact Ev.pos h ((Ev.now _).eq (if_pos h).symm)
      · exact Ev.neg h ((Ev.now _).eq (if_neg h).symm)
  by_cases h : fileB f.data.toList = true
  · rw [if_pos h]
    refine Ev.pos h ?_
    by_cases h1 : line < 1
    · rw [if_pos (.inl h1)]; exact Ev.pos h1 (j0 true)
    refine Ev.neg h1 ?_
    by_cases h2 : line > 16000
    · rw [if_pos (.inr (.inl h2))]; exact Ev.pos h2 (j0 true)
    refine Ev.neg h2 ?_
    by_cases h3 : col < 1
    · rw [if_pos (.inr (.inr (.inl h3)))]; exact Ev.pos h3 (j0 true)
    refine Ev.neg h3 ?_
    by_cases h4 : col > 16001
    · rw [if_pos (.inr (.inr (.inr (.inl h4))))]; exact Ev.pos h4 (j0 true)
    refine Ev.neg h4 (Ev.bnd (Name_is e) ((j0 _).eq ?_))
    rw [nm_none]
    by_cases h5 : e < 1 ∨ e > 22
    · rw [decide_eq_true h5, if_pos rfl, if_pos (.inr (.inr (.inr (.inr h5))))]
    · rw [decide_eq_false h5, if_neg (by decide), if_neg (show ¬ (line < 1 ∨ line > 16000 ∨ col < 1 ∨ col > 16001 ∨ e < 1 ∨ e > 22) by omega)]
  · rw [if_neg h]; exact Ev.neg h (Ev.now _)
theorem Fault_ev : Ev (fun k => maskref1_NoteFault.f k f line col e t) (chkV f line col e t) := by
  unfold maskref1_NoteFault.f chkV
  refine Ev.bind (FileName_ev f hf) ?_
  have j0 : ∀ b : Bool, Ev (fun k => maskref1_NoteFault.j0 k b f line col e t) (if b = true then 2 else if wordB t.data.toList = true then 0 else 4) := by
    intro b
    refine Ev.step (fun k => by rw [maskref1_NoteFault.j0]) ?_
    cases b with
    | true => exact Ev.pos rfl (Ev.now _)
    | false =>
      refine Ev.neg (by decide) ?_
      rw [if_neg (show ¬ (false = true) by decide)]
      unfold wordB
      rw [← size_list]
      by_cases h : (t.size : Int) > 200
      · rw [decide_eq_false (by omega), Bool.false_and, if_neg (show ¬ (false = true) by decide)]; exact Ev.pos h (Ev.now _)
      · rw [decide_eq_true (by omega), Bool.true_and]
        refine Ev.neg h (Ev.bind (within_ev t ht 32 126 _ (by decide)) ?_)
        by_cases h : t.data.toList.all (inB 32 126 []) = true
        · exact Ev.pos h ((Ev.now _).eq (if_pos h).symm)
        · exact Ev.neg h ((Ev.now _).eq (if_neg h).symm)
  by_cases h : fileB f.data.toList = true
  · rw [if_pos h]
    refine Ev.pos h ?_
    by_cases h1 : line < 1
    · rw [if_pos (.inl h1)]; exact Ev.pos h1 (j0 true)
    refine Ev.neg h1 ?_
    by_cases h2 : line > 16000
    · rw [if_pos (.inr (.inl h2))]; exact Ev.pos h2 (j0 true)
    refine Ev.neg h2 ?_
    by_cases h3 : col < 1
    · rw [if_pos (.inr (.inr (.inl h3)))]; exact Ev.pos h3 (j0 true)
    refine Ev.neg h3 ?_
    by_cases h4 : col > 16001
    · rw [if_pos (.inr (.inr (.inr (.inl h4))))]; exact Ev.pos h4 (j0 true)
    refine Ev.neg h4 ?_
    by_cases h5 : e < 1
    · rw [if_pos (.inr (.inr (.inr (.inr (.inl h5)))))]; exact Ev.pos h5 (j0 true)
    refine Ev.neg h5 ((j0 _).eq ?_)
    by_cases h6 : e > 22
    · rw [decide_eq_true h6, if_pos rfl, if_pos (.inr (.inr (.inr (.inr (.inr h6)))))]
    · rw [decide_eq_false h6, if_neg (by decide), if_neg (show ¬ (line < 1 ∨ line > 16000 ∨ col < 1 ∨ col > 16001 ∨ e < 1 ∨ e > 22) by omega)]
  · rw [if_neg h]; exact Ev.neg h (Ev.now _)
theorem chk_ok (h : chkV f line col e t = 0) : f.size ≤ 60 ∧ 1 ≤ line ∧ line ≤ 16000 ∧ 1 ≤ col ∧ col ≤ 16001 ∧ t.size ≤ 200 := by
  unfold chkV at h
  split at h
  · rename_i h1
    split at h
    · cases h
    · rename_i h2
      split at h
      · rename_i h3
        unfold fileB at h1
        unfold wordB at h3
        rw [Bool.and_eq_true, decide_eq_true_iff, ← size_list] at h1 h3
        omega
      · cases h
  · cases h
end
end Go.Proofs.YtlamgdibnnmbmaaDoor.PRead
end
