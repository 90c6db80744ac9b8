/- Part 23 of the proof of NoteReadsCardSaid: The law NoteReads: for all arguments it returns true; each argument reads behind the call as it read before. Out of the plain theorem of YtlamgdibnnmbmaaDoorPureNoteReads and the printed contract. -/
import Derived.Test.YtlamgdibnnmbmaaDoorQNoteReads8
import Derived.Test.YtlamgdibnnmbmaaDoorQNoteReads21
import Derived.KernelRfl
section
namespace Go.Proofs.YtlamgdibnnmbmaaDoor.PRead
open Go.RowKit Go.Proofs.YtlamgdibnnmbmaaDoorW.PrintWords Go.Proofs.YtlamgdibnnmbmaaDoorW.PrintLast Go.Proofs.YtlamgdibnnmbmaaDoorW.PrintMore
set_option linter.unusedVariables false
set_option linter.unusedSimpArgs false
set_option linter.unusedSectionVars false
theorem bt_none (s : ByteArray) (i : Nat) (h : s.data.toList.drop i = []) : s.size ≤ i := by
  rw [size_list]; exact List.drop_eq_nil_iff.1 h
theorem u8_lit (c d : UInt8) : (c.toNat : Int) = (d.toNat : Int) ↔ c = d := by
  constructor
  · intro h; exact UInt8.toNat_inj.1 (by omega)
  · intro h; rw [h]
def inB (lo hi : Int) (but : List UInt8) (c : UInt8) : Bool := (!(decide ((c.toNat : Int) < lo) || decide ((c.toNat : Int) > hi))) && !but.contains c
section
variable (s : ByteArray) (hs : s.size ≤ 140737488351232) (lo hi : Int) (but : ByteArray) (hb : but.size ≤ 100)
include hs hb
theorem within_l1 (c : UInt8) (i : Nat) (hc : bt s (i : Int) = (c.toNat : Int)) (hi2 : i < s.size) (R : Bool) : ∀ (q : List UInt8) (j : Nat), but.data.toList.drop j = q → j ≤ but.size →
    Ev (fun k => maskref1_within.l0 k s lo hi but (s.size : Int) ((i : Int) + 1)) R →
    Ev (fun k => maskref1_within.l1 k s lo hi but (i : Int) (s.size : Int) (i : Int) (but.size : Int) (j : Int)) (!q.contains c && R) := by
  intro q
  induction q with
  | nil =>
    intro j hj hjl h
    have := bt_none but j hj
    refine Ev.step (fun k => by rw [maskref1_within.l1]) (Ev.neg (by omega) ?_)
    rw [w64 (n := (i : Int) + 1) (by omega)]
    exact h
  | cons d q ih =>
    intro j hj hjl h
    obtain ⟨hlt, hd, hj'⟩ := bt_drop but j hj
    refine Ev.step (fun k => by rw [maskref1_within.l1]) (Ev.pos (by omega) (Ev.pos (by omega) (Ev.pos (by omega) (Ev.pos (by omega) (Ev.pos (by omega) ?_)))))
    rw [hc, hd, w64 (n := (j : Int) + 1) (by omega), List.contains_cons]
    by_cases he : c = d
    · subst he
      rw [beq_self_eq_true, Bool.true_or]
      exact Ev.pos rfl (Ev.now _)
    · refine Ev.neg (fun h => he ((u8_lit c d).1 h)) ?_
      rw [beq_eq_false_iff_ne.2 he, Bool.false_or]
      exact ih (j + 1) hj' (by omega) h
theorem within_l0 : ∀ (r : List UInt8) (i : Nat), s.data.toList.drop i = r → i ≤ s.size → Ev (fun k => maskref1_within.l0 k s lo hi but (s.size : Int) (i : Int)) (r.all (inB lo hi but.data.toList)) := by
  intro r
  induction r with
  | nil =>
    intro i hr hi2
    have := bt_none s i hr
    refine Ev.step (fun k => by rw [maskref1_within.l0]) ?_; exact Ev.neg (by omega) (Ev.now _)
  | cons c r ih =>
    intro i hr hi2
    obtain ⟨hlt, hc, hr'⟩ := bt_drop s i hr
    have ih := ih (i + 1) hr' (by omega)
    have j1 : ∀ b : Bool, Ev (fun k => maskref1_within.j1 k s lo hi but (i : Int) (s.size : Int) (i : Int) b) (((!b) && !but.data.toList.contains c) && r.all (inB lo hi but.data.toList)) := by
      intro b
      refine Ev.step (fun k => by rw [maskref1_within.j1]) ?_
      cases b with
      | true => exact Ev.pos rfl (Ev.now _)
      | false =>
        refine Ev.neg (by decide) ((within_l1 s hs lo hi but hb c i hc hlt _ but.data.toList 0 (List.drop_zero ..) (Nat.zero_le _) ih).eq ?_)
        rw [Bool.not_false, Bool.true_and]
    refine Ev.step (fun k => by rw [maskref1_within.l0]) (Ev.pos (by omega) (Ev.pos (by omega) (Ev.pos (by omega) ?_)))
    rw [hc, List.all_cons]
    unfold inB at j1 ⊢
    by_cases h1 : (c.toNat : Int) < lo
    · refine Ev.pos h1 ((j1 true).eq ?_)
      rw [decide_eq_true h1, Bool.true_or]
    · refine Ev.neg h1 ((j1 _).eq ?_)
      rw [decide_eq_false h1, Bool.false_or]
theorem within_ev : Ev (fun k => maskref1_within.f k s lo hi but) (s.data.toList.all (inB lo hi but.data.toList)) := by
  unfold maskref1_within.f
  exact within_l0 s hs lo hi but hb _ 0 (List.drop_zero ..) (Nat.zero_le _)
end
section
variable (s : ByteArray) (hs : s.size ≤ 140737488351232)
include hs
theorem file_l0 : ∀ (r : List UInt8) (i : Nat), s.data.toList.drop i = r → i ≤ s.size → Ev (fun k => note_File.l0 k s (s.size : Int) (i : Int)) (r.all (inB 33 126 [58, 34])) := by
  intro r
  induction r with
  | nil =>
    intro i hr hi2
    have := bt_none s i hr
    refine Ev.step (fun k => by rw [note_File.l0]) ?_; exact Ev.neg (by omega) (Ev.now _)
  | cons c r ih =>
    intro i hr hi2
    obtain ⟨hlt, hc, hr'⟩ := bt_drop s i hr
    have ih := ih (i + 1) hr' (by omega)
    have j2 : ∀ b : Bool, Ev (fun k => note_File.j2 k s (s.size : Int) (i : Int) b) (!b && r.all (inB 33 126 [58, 34])) := by
      intro b
      refine Ev.step (fun k => by rw [note_File.j2]) ?_
      cases b with
      | true => exact Ev.pos rfl (Ev.now _)
      | false =>
        refine Ev.neg (by decide) ?_
        rw [w64 (n := (i : Int) + 1) (by omega), Bool.not_false, Bool.true_and]
        exact ih
    refine Ev.step (fun k => by rw [note_File.l0]) (Ev.pos (by omega) (Ev.pos (by omega) (Ev.pos (by omega) ?_)))
    rw [hc, List.all_cons]
    have hin : inB 33 126 [58, 34] c = !(decide ((c.toNat : Int) < 33) || (decide ((c.toNat : Int) > 126) || (decide ((c.toNat : Int) = 58) || ((c.toNat : Int) == 34)))) := by
      unfold inB
      rw [List.contains_cons, List.contains_cons, List.contains_nil, Bool.or_false]
      have e1 : (c == 58) = decide ((c.toNat : Int) = 58) := by rw [Bool.eq_iff_iff, beq_iff_eq, decide_eq_true_iff]; exact (u8_lit c 58).symm
      have e2 : (c == 34) = ((c.toNat : Int) == 34) := by rw [Bool.eq_iff_iff, beq_iff_eq, beq_iff_eq]; exact (u8_lit c 34).symm
      rw [e1, e2]
      cases decide ((c.toNat : Int) < 33) <;> cases decide ((c.toNat : Int) > 126) <;> cases decide ((c.toNat : Int) = 58) <;> rfl
    rw [hin]
    by_cases h1 : (c.toNat : Int) < 33
    · refine Ev.pos h1 ((j2 true).eq ?_); rw [decide_eq_true h1]; rfl
    · refine Ev.neg h1 ?_
      rw [decide_eq_false h1, Bool.false_or]
      by_cases h2 : (c.toNat : Int) > 126
      · refine Ev.pos h2 ((j2 true).eq ?_); rw [decide_eq_true h2]; rfl
      · refine Ev.neg h2 ?_
        rw [decide_eq_false h2, Bool.false_or]
        by_cases h3 : (c.toNat : Int) = 58
        · refine Ev.pos h3 ((j2 true).eq ?_); rw [decide_eq_true h3]; rfl
        · refine Ev.neg h3 ((j2 _).eq ?_)
          rw [decide_eq_false h3, Bool.false_or]
theorem word_l0 : ∀ (r : List UInt8) (i : Nat), s.data.toList.drop i = r → i ≤ s.size → Ev (fun k => note_word.l0 k s (s.size : Int) (i : Int)) (r.all (inB 32 126 [])) := by
  intro r
  induction r with
  | nil =>
    intro i hr hi2
    have := bt_none s i hr
    refine Ev.step (fun k => by rw [note_word.l0]) ?_; exact Ev.neg (by omega) (Ev.now _)
  | cons c r ih =>
    intro i hr hi2
    obtain ⟨hlt, hc, hr'⟩ := bt_drop s i hr
    have ih := ih (i + 1) hr' (by omega)
    refine Ev.step (fun k => by rw [note_word.l0]) (Ev.pos (by omega) (Ev.pos (by omega) (Ev.pos (by omega) ?_)))
    rw [hc, List.all_cons]
    have hin : inB 32 126 [] c = !(decide ((c.toNat : Int) < 32) || decide ((c.toNat : Int) > 126)) := by
      unfold inB
      rw [List.contains_nil, Bool.not_false, Bool.and_true]
    rw [hin]
    by_cases h1 : (c.toNat : Int) < 32
    · refine Ev.pos h1 ((Ev.now _).eq ?_); rw [decide_eq_true h1]; rfl
    · refine Ev.neg h1 ?_
      rw [decide_eq_false h1, Bool.false_or]
      by_cases h2 : (c.toNat : Int) > 126
      · refine Ev.pos h2 ((Ev.now _).eq ?_); rw [decide_eq_true h2]; rfl
      · refine Ev.neg h2 ?_
        rw [w64 (n := (i : Int) + 1) (by omega)]
        refine ih.eq ?_
        rw [decide_eq_false h2]; rfl
def fileB (l : List UInt8) : Bool := decide (1 ≤ l.length ∧ l.length ≤ 60) && l.all (inB 33 126 [58, 34])
def wordB (l : List UInt8) : Bool := decide (l.length ≤ 200) && l.all (inB 32 126 [])
theorem File_ev : Ev (fun k => note_File.f k s) (fileB s.data.toList) := by
  unfold note_File.f fileB
  rw [← size_list]
  have j0 : ∀ b : Bool, Ev (fun k => note_File.j0 k s b) (!b && s.data.toList.all (inB 33 126 [58, 34])) := by
    intro b
    refine Ev.step (fun k => by rw [note_File.j0]) ?_
    cases b with
    | true => exact Ev.pos rfl (Ev.now _)
    | false =>
      refine Ev.neg (by decide) ?_
      rw [Bool.not_false, Bool.true_and]
      exact file_l0 s hs _ 0 (List.drop_zero ..) (Nat.zero_le _)
  by_cases h1 : (s.size : Int) < 1
  · refine Ev.pos h1 ((j0 true).eq ?_)
    rw [decide_eq_false (by omega)]; rfl
  · refine Ev.neg h1 ((j0 _).eq ?_)
    by_cases h2 : (s.size : Int) > 60
    · rw [decide_eq_true h2, decide_eq_false (by omega)]; rfl
    · rw [decide_eq_false h2, decide_eq_true (by omega)]; rfl
theorem FileName_ev : Ev (fun k => maskref1_FileName.f k s) (fileB s.data.toList) := by
  unfold maskref1_FileName.f fileB
  rw [← size_list]
  by_cases h1 : (s.size : Int) ≥ 1
  · refine Ev.pos h1 ?_
    by_cases h2 : (s.size : Int) ≤ 60
    · refine Ev.pos h2 (Ev.bind (within_ev s hs 33 126 _ (by decide)) ((Ev.now _).eq ?_))
      rw [decide_eq_true (by omega), Bool.true_and]
    · refine Ev.neg h2 ((Ev.now _).eq ?_)
      rw [decide_eq_false (by omega), Bool.false_and]
  · refine Ev.neg h1 ((Ev.now _).eq ?_)
    rw [decide_eq_false (by omega), Bool.false_and]
theorem word_ev : Ev (fun k => note_word.f k s) (wordB s.data.toList) := by
  unfold note_word.f wordB
  rw [← size_list]
  by_cases h : (s.size : Int) > 200
  · refine Ev.pos h ((Ev.now _).eq ?_)
    rw [decide_eq_false (by omega), Bool.false_and]
  · refine Ev.neg h ((word_l0 s hs _ 0 (List.drop_zero ..) (Nat.zero_le _)).eq ?_)
    rw [decide_eq_true (by omega), Bool.true_and]
end
end Go.Proofs.YtlamgdibnnmbmaaDoor.PRead
end
