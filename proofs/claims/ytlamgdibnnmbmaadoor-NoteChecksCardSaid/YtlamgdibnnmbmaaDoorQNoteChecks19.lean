/- Part 20 of the proof of NoteChecksCardSaid: The law NoteChecks: for all arguments it returns true; each argument reads behind the call as it read before. Out of the plain theorem of YtlamgdibnnmbmaaDoorPureNoteChecks and the printed contract. -/
import Derived.Test.YtlamgdibnnmbmaaDoorQNoteChecks18
section
namespace Go.Proofs.YtlamgdibnnmbmaaDoor.PChk
open Go.RowKit Go.Proofs.YtlamgdibnnmbmaaDoorW.PrintWords Go.Proofs.YtlamgdibnnmbmaaDoorW.PrintLast Go.Proofs.YtlamgdibnnmbmaaDoorW.PrintMore
set_option linter.unusedVariables false
set_option linter.unusedSimpArgs false
def nm (e : Int) : ByteArray := if e < 0 then ⟨#[]⟩ else nameWords.getD e.toNat ⟨#[]⟩
theorem Name_is (e : Int) : note_Name.f e = some (nm e) := rfl
theorem Word_is (e : Int) : Ev (fun k => maskref1_NoteWord.f k e) (nm e) := by
  obtain ⟨r, h1, h2⟩ := NoteWord_ev e
  rw [Name_is] at h2
  injection h2 with h2
  rw [h2]; exact h1
theorem nm_size (e : Int) : (nm e).size ≤ 20 := by
  unfold nm
  split
  · decide
  · have h : ∀ i : Fin 23, (nameWords.getD i.1 ⟨#[]⟩).size ≤ 20 := by decide
    rcases Nat.lt_or_ge e.toNat 23 with h1 | h1
    · exact h ⟨_, h1⟩
    · rw [List.getD_eq_getElem?_getD, List.getElem?_eq_none (by exact h1)]; decide
theorem toList_nil (s : ByteArray) : s.toList = [] ↔ s.size = 0 := by
  rw [ByteArray.toList_eq, size_list, List.length_eq_zero_iff]
theorem nm_none (e : Int) : ((nm e).toList == ([] : List UInt8)) = decide (e < 1 ∨ e > 22) := by
  rw [Bool.eq_iff_iff, beq_iff_eq, decide_eq_true_iff, toList_nil]
  unfold nm
  by_cases h0 : e < 0
  · rw [if_pos h0]; exact ⟨fun _ => by omega, fun _ => rfl⟩
  · rw [if_neg h0]
    have h : ∀ i : Fin 23, ((nameWords.getD i.1 ⟨#[]⟩).size = 0 ↔ i.1 < 1) := by decide
    rcases Nat.lt_or_ge e.toNat 23 with h1 | h1
    · have := h ⟨_, h1⟩
      simp only at this
      rw [this]; omega
    · rw [List.getD_eq_getElem?_getD, List.getElem?_eq_none (by exact h1)]
      exact ⟨fun _ => by omega, fun _ => rfl⟩
section
variable (f : ByteArray) (hf : f.size ≤ 140737488351232) (line col e : Int) (t : ByteArray) (ht : t.size ≤ 140737488351232)
def chkV : Int := if fileB f.data.toList = true then if line < 1 ∨ line > 16000 ∨ col < 1 ∨ col > 16001 ∨ e < 1 ∨ e > 22 then 2 else if wordB t.data.toList = true then 0 else 4 else 9
include hf ht
theorem Check_ev : Ev (fun k => note_Check.f k f line col e t) (chkV f line col e t) := by
  unfold note_Check.f chkV
  refine Ev.bind (File_ev f hf) ?_
  have j0 : ∀ b : Bool, Ev (fun k => note_Check.j0 k b f line col e t) (if b = true then 2 else if wordB t.data.toList = true then 0 else 4) := by
    intro b
    refine Ev.step (fun k => by rw [note_Check.j0]) ?_
    cases b with
    | true => exact Ev.pos rfl (Ev.now _)
    | false =>
      refine Ev.neg (by decide) (Ev.bind (word_ev t ht) ?_)
      rw [if_neg (show ¬ (false = true) by decide)]
      by_cases h : wordB t.data.toList = true
      · exact Ev.pos h ((Ev.now _).eq (if_pos h).symm)
      · exact Ev.neg h ((Ev.now _).eq (if_neg h).symm)
  by_cases h : fileB f.data.toList = true
  · rw [if_pos h]
    refine Ev.pos h ?_
    by_cases h1 : line < 1
    · rw [if_pos (.inl h1)]; exact Ev.pos h1 (j0 true)
    refine Ev.neg h1 ?_
    by_cases h2 : line > 16000
    · rw [if_pos (.inr (.inl h2))]; exact Ev.pos h2 (j0 true)
    refine Ev.neg h2 ?_
    by_cases h3 : col < 1
    · rw [if_pos (.inr (.inr (.inl h3)))]; exact Ev.pos h3 (j0 true)
    refine Ev.neg h3 ?_
    by_cases h4 : col > 16001
    · rw [if_pos (.inr (.inr (.inr (.inl h4))))]; exact Ev.pos h4 (j0 true)
    refine Ev.neg h4 (Ev.bnd (Name_is e) ((j0 _).eq ?_))
    rw [nm_none]
    by_cases h5 : e < 1 ∨ e > 22
    · rw [decide_eq_true h5, if_pos rfl, if_pos (.inr (.inr (.inr (.inr h5))))]
    · rw [decide_eq_false h5, if_neg (by decide), if_neg (show ¬ (line < 1 ∨ line > 16000 ∨ col < 1 ∨ col > 16001 ∨ e < 1 ∨ e > 22) by omega)]
  · rw [if_neg h]; exact Ev.neg h (Ev.now _)
theorem Fault_ev : Ev (fun k => maskref1_NoteFault.f k f line col e t) (chkV f line col e t) := by
  unfold maskref1_NoteFault.f chkV
  refine Ev.bind (FileName_ev f hf) ?_
  have j0 : ∀ b : Bool, Ev (fun k => maskref1_NoteFault.j0 k b f line col e t) (if b = true then 2 else if wordB t.data.toList = true then 0 else 4) := by
    intro b
    refine Ev.step (fun k => by rw [maskref1_NoteFault.j0]) ?_
    cases b with
    | true => exact Ev.pos rfl (Ev.now _)
    | false =>
      refine Ev.neg (by decide) ?_
      rw [if_neg (show ¬ (false = true) by decide)]
      unfold wordB
      rw [← size_list]
      by_cases h : (t.size : Int) > 200
      · rw [decide_eq_false (by omega), Bool.false_and, if_neg (show ¬ (false = true) by decide)]; exact Ev.pos h (Ev.now _)
      · rw [decide_eq_true (by omega), Bool.true_and]
        refine Ev.neg h (Ev.bind (within_ev t ht 32 126 _ (by decide)) ?_)
        by_cases h : t.data.toList.all (inB 32 126 []) = true
        · exact Ev.pos h ((Ev.now _).eq (if_pos h).symm)
        · exact Ev.neg h ((Ev.now _).eq (if_neg h).symm)
  by_cases h : fileB f.data.toList = true
  · rw [if_pos h]
    refine Ev.pos h ?_
    by_cases h1 : line < 1
    · rw [if_pos (.inl h1)]; exact Ev.pos h1 (j0 true)
    refine Ev.neg h1 ?_
    by_cases h2 : line > 16000
    · rw [if_pos (.inr (.inl h2))]; exact Ev.pos h2 (j0 true)
    refine Ev.neg h2 ?_
    by_cases h3 : col < 1
    · rw [if_pos (.inr (.inr (.inl h3)))]; exact Ev.pos h3 (j0 true)
    refine Ev.neg h3 ?_
    by_cases h4 : col > 16001
    · rw [if_pos (.inr (.inr (.inr (.inl h4))))]; exact Ev.pos h4 (j0 true)
    refine Ev.neg h4 ?_
    by_cases h5 : e < 1
    · rw [if_pos (.inr (.inr (.inr (.inr (.inl h5)))))]; exact Ev.pos h5 (j0 true)
    refine Ev.neg h5 ((j0 _).eq ?_)
    by_cases h6 : e > 22
    · rw [decide_eq_true h6, if_pos rfl, if_pos (.inr (.inr (.inr (.inr (.inr h6)))))]
    · rw [decide_eq_false h6, if_neg (by decide), if_neg (show ¬ (line < 1 ∨ line > 16000 ∨ col < 1 ∨ col > 16001 ∨ e < 1 ∨ e > 22) by omega)]
  · rw [if_neg h]; exact Ev.neg h (Ev.now _)
theorem chk_ok (h : chkV f line col e t = 0) : f.size ≤ 60 ∧ 1 ≤ line ∧ line ≤ 16000 ∧ 1 ≤ col ∧ col ≤ 16001 ∧ t.size ≤ 200 := by
  unfold chkV at h
  split at h
  · rename_i h1
    split at h
    · cases h
    · rename_i h2
      split at h
      · rename_i h3
        unfold fileB at h1
        unfold wordB at h3
        rw [Bool.and_eq_true, decide_eq_true_iff, ← size_list] at h1 h3
        omega
      · cases h
  · cases h
end
def txt (f A B C t : ByteArray) : ByteArray :=
  if t.toList = ([] : List UInt8) then (((((f ++ (⟨#[58]⟩ : ByteArray)) ++ A) ++ (⟨#[58]⟩ : ByteArray)) ++ B) ++ (⟨#[58, 32]⟩ : ByteArray)) ++ C
  else ((((((f ++ (⟨#[58]⟩ : ByteArray)) ++ A) ++ (⟨#[58]⟩ : ByteArray)) ++ B) ++ (⟨#[58, 32]⟩ : ByteArray)) ++ C) ++ ((⟨#[32]⟩ : ByteArray) ++ t)
theorem itoa_is (n : Int) (h : 1 ≤ n ∧ n ≤ 20000) : strconv_Itoa_all.f n = some (ofL (Lib.decDigits n.toNat)) ∧ Ev (fun k => maskref1_decimal.f k n) (ofL (Lib.decDigits n.toNat)) ∧ (ofL (Lib.decDigits n.toNat)).size ≤ 20001 := by
  obtain ⟨m, rfl⟩ := Int.eq_ofNat_of_zero_le (show 0 ≤ n by omega)
  obtain ⟨h1, h2⟩ := decimal_ev m (by omega)
  rw [Int.toNat_natCast]
  refine ⟨?_, h1, ?_⟩
  · unfold strconv_Itoa_all.f Lib.itoa
    rw [if_pos (by omega), if_neg (by omega), Int.toNat_natCast]; rfl
  · show (Lib.decDigits m).length ≤ _; omega
section
variable (f : ByteArray) (line col e : Int) (t : ByteArray)
theorem Text_ev (hf : f.size ≤ 140737488351232) (ht : t.size ≤ 140737488351232) : Ev (fun k => note_Text.f k f line col e t) (if chkV f line col e t = 0 then (txt f (ofL (Lib.decDigits line.toNat)) (ofL (Lib.decDigits col.toNat)) (nm e) t, 0) else ((⟨#[]⟩ : ByteArray), chkV f line col e t)) := by
  unfold note_Text.f
  refine Ev.bind (Check_ev f hf line col e t ht) ?_
  by_cases h : chkV f line col e t = 0
  · refine Ev.eq ?_ (if_pos h).symm
    refine Ev.pos h ?_
    obtain ⟨z1, z2, z3, z4, z5, z6⟩ := chk_ok f hf line col e t ht h
    obtain ⟨i1, _, i3⟩ := itoa_is line (by omega)
    obtain ⟨k1, _, k3⟩ := itoa_is col (by omega)
    have n3 := nm_size e
    have s1 : (⟨#[58]⟩ : ByteArray).size = 1 := rfl
    have s2 : (⟨#[58, 32]⟩ : ByteArray).size = 2 := rfl
    have s3 : (⟨#[32]⟩ : ByteArray).size = 1 := rfl
    generalize ofL (Lib.decDigits line.toNat) = A at i1 i3
    generalize ofL (Lib.decDigits col.toNat) = B at k1 k3
    refine Ev.pos (by omega) (Ev.bnd i1 (Ev.pos (by simp only [ByteArray.size_append]; omega) (Ev.pos (by simp only [ByteArray.size_append]; omega) (Ev.bnd k1 (Ev.pos (by simp only [ByteArray.size_append]; omega) (Ev.pos (by simp only [ByteArray.size_append]; omega) (Ev.bnd (Name_is e) (Ev.pos (by simp only [ByteArray.size_append]; omega) ?_))))))))
    unfold txt
    by_cases h2 : t.toList = ([] : List UInt8)
    · exact Ev.pos h2 ((Ev.now _).eq (by rw [if_pos h2]))
    · exact Ev.neg h2 (Ev.pos (by omega) (Ev.pos (by simp only [ByteArray.size_append]; omega) ((Ev.now _).eq (by rw [if_neg h2]))))
  · exact Ev.neg h ((Ev.now _).eq (if_neg h).symm)
theorem NoteText_ev (hf : f.size ≤ 140737488351232) (ht : t.size ≤ 140737488351232) (h : chkV f line col e t = 0) : Ev (fun k => maskref1_NoteText.f k f line col e t) (txt f (ofL (Lib.decDigits line.toNat)) (ofL (Lib.decDigits col.toNat)) (nm e) t) := by
  unfold maskref1_NoteText.f
  obtain ⟨z1, z2, z3, z4, z5, z6⟩ := chk_ok f hf line col e t ht h
  obtain ⟨_, i1, i3⟩ := itoa_is line (by omega)
  obtain ⟨_, k1, k3⟩ := itoa_is col (by omega)
  have n3 := nm_size e
  have s1 : (⟨#[58]⟩ : ByteArray).size = 1 := rfl
  have s2 : (⟨#[58, 32]⟩ : ByteArray).size = 2 := rfl
  have s3 : (⟨#[32]⟩ : ByteArray).size = 1 := rfl
  generalize ofL (Lib.decDigits line.toNat) = A at i1 i3
  generalize ofL (Lib.decDigits col.toNat) = B at k1 k3
  refine Ev.pos (by omega) (Ev.bind i1 (Ev.pos (by simp only [ByteArray.size_append]; omega) (Ev.pos (by simp only [ByteArray.size_append]; omega) (Ev.bind k1 (Ev.pos (by simp only [ByteArray.size_append]; omega) (Ev.pos (by simp only [ByteArray.size_append]; omega) (Ev.bind (Word_is e) (Ev.pos (by simp only [ByteArray.size_append]; omega) ?_))))))))
  unfold txt
  by_cases h2 : t.toList = ([] : List UInt8)
  · exact Ev.pos h2 ((Ev.now _).eq (if_pos h2).symm)
  · exact Ev.neg h2 (Ev.pos (by omega) (Ev.pos (by simp only [ByteArray.size_append]; omega) ((Ev.now _).eq (if_neg h2).symm)))
end
theorem told_at : masklaw1_told.f 60 = some true := by kernel_rfl
theorem told_ev : Ev (fun k => masklaw1_told.f k) true := Ev.of masklaw1_told.mono told_at
theorem NoteChecks_pure (f : ByteArray) (line col e : Int) (t : ByteArray) (hf : f.size ≤ 140737488351232) (_ : (Lit.int .i64 line).wf = true) (_ : (Lit.int .i64 col).wf = true) (_ : (Lit.int .i64 e).wf = true) (ht : t.size ≤ 140737488351232) : ∃ k, masklaw1_NoteChecks.f k f line col e t = some true := by
  refine Ev.rounds (g := fun k => masklaw1_NoteChecks.f k f line col e t) ?_
  unfold masklaw1_NoteChecks.f
  refine Ev.bind (Fault_ev f hf line col e t ht) (Ev.bind (Text_ev f line col e t hf ht) (Ev.bind told_ev (Ev.pos rfl (Ev.bind (File_ev f hf) (Ev.bind (FileName_ev f hf) ?_)))))
  refine Ev.neg (by rw [bne_self_eq_false]; decide) (Ev.bnd (Name_is e) (Ev.bind (Word_is e) (Ev.pos rfl (Ev.bind (Check_ev f hf line col e t ht) (Ev.pos rfl ?_)))))
  refine Ev.step (fun k => by rw [masklaw1_NoteChecks.j0]) ?_
  by_cases h : chkV f line col e t = 0
  · rw [if_pos h]
    refine Ev.neg (by rw [h]; simp) (Ev.pos h (Ev.bind (NoteText_ev f line col e t hf ht h) ((Ev.now _).eq ?_)))
    exact beq_self_eq_true _
  · rw [if_neg h]
    refine Ev.neg (by rw [bne_self_eq_false]; decide) (Ev.neg h ((Ev.now _).eq ?_))
    show ((⟨#[]⟩ : ByteArray).toList == ([] : List UInt8)) = true
    rw [ByteArray.toList_eq]; rfl
end Go.Proofs.YtlamgdibnnmbmaaDoor.PChk
end
