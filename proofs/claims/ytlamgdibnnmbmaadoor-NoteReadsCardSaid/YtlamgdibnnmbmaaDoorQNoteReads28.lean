/- Part 29 of the proof of NoteReadsCardSaid: The law NoteReads: for all arguments it returns true; each argument reads behind the call as it read before. Out of the plain theorem of YtlamgdibnnmbmaaDoorPureNoteReads and the printed contract. -/
import Derived.Test.YtlamgdibnnmbmaaDoorQNoteReads27
section
namespace Go.Proofs.YtlamgdibnnmbmaaDoor.PRead
open Go.RowKit Go.Proofs.YtlamgdibnnmbmaaDoorW.PrintWords Go.Proofs.YtlamgdibnnmbmaaDoorW.PrintLast Go.Proofs.YtlamgdibnnmbmaaDoorW.PrintMore
set_option linter.unusedVariables false
set_option linter.unusedSimpArgs false
set_option linter.unusedSectionVars false
def refN (l : List UInt8) : Int := ((min (valD 0 l) 1000000 : Nat) : Int)
def progN (l : List UInt8) : Int := ((valD 0 (l.take 18) : Nat) : Int)
def readV (num : List UInt8 → Int) (l : List UInt8) : Res := match p3 l with
  | none => synE
  | some (a, b, c, d) => if numB b = true then if numB c = true then tailV (ofL a) (num b) (num c) d else synE else synE
section
variable (l : List UInt8) (hl : l.length ≤ 1000)
include hl
theorem j2_syn (x6 : Int) (f : ByteArray) (v w c : Int) (t : ByteArray) : Ev (fun k => maskref1_NoteRead.j2 k (ofL l) x6 true f v w c t) synE := by
  refine Ev.step (fun k => by rw [maskref1_NoteRead.j2]) ?_
  exact Ev.pos rfl (Ev.now _)
theorem at_colon (j : Nat) {b : List UInt8} (hj : j ≤ l.length) (h : (cutC 58 (l.drop j)).2 = some b) : j + (cutC 58 (l.drop j)).1.length + 1 ≤ l.length ∧ bt (ofL l) ((j + (cutC 58 (l.drop j)).1.length : Nat) : Int) = 58 ∧
    (ofL l).extract j (j + (cutC 58 (l.drop j)).1.length) = ofL (cutC 58 (l.drop j)).1 ∧ l.drop (j + (cutC 58 (l.drop j)).1.length + 1) = b := by
  have e := cutC_some 58 h
  have hd : l.drop (j + (cutC 58 (l.drop j)).1.length) = 58 :: b := by
    rw [← List.drop_drop]
    generalize (cutC 58 (l.drop j)).1 = a at e
    rw [e]
    exact List.drop_left' rfl
  obtain ⟨h1, h2, h3⟩ := bt_drop (ofL l) _ hd
  refine ⟨h1, h2, ?_, h3⟩
  refine ba_ext ?_
  rw [extract_list]
  show (l.take _).drop j = _
  rw [← List.take_drop]
  generalize (cutC 58 (l.drop j)).1 = a at e
  rw [e]
  exact List.take_left' rfl
section
variable (p : Int) (hp : p < 3) (j : Nat) (f : ByteArray) (v w : Int)
include hp
theorem scan_end (i : Int) : Ev (fun k => maskref1_NoteRead.j1 k (ofL l) p (j : Int) i false f v w 0 ⟨#[]⟩) synE := by
  refine Ev.step (fun k => by rw [maskref1_NoteRead.j1]) ?_
  refine Ev.neg (by decide) (Ev.pos hp ?_)
  exact j2_syn l hl _ _ _ _ _ _
theorem scan_none : ∀ (r : List UInt8) (i : Nat), l.drop i = r → i ≤ l.length → (cutC 58 r).2 = none → Ev (fun k => maskref1_NoteRead.l0 k (ofL l) p (j : Int) (i : Int) f v w 0 ⟨#[]⟩) synE := by
  have hz : (ofL l).size = l.length := rfl
  intro r
  induction r with
  | nil =>
    intro i hr hi h
    have := bt_none (ofL l) i hr
    refine Ev.step (fun k => by rw [maskref1_NoteRead.l0]) ?_
    exact Ev.neg (by omega) (scan_end l hl p hp j f v w _)
  | cons c r ih =>
    intro i hr hi h
    obtain ⟨hlt, hc, hr'⟩ := bt_drop (ofL l) i hr
    unfold cutC at h
    by_cases h1 : c = 58
    · rw [if_pos h1] at h; cases h
    · rw [if_neg h1] at h
      refine Ev.step (fun k => by rw [maskref1_NoteRead.l0]) (Ev.pos (by omega) ?_)
      rw [decide_eq_true hp]
      refine Ev.step (fun k => by rw [maskref1_NoteRead.j1]) ?_
      refine Ev.pos rfl (Ev.pos (by omega) (Ev.pos (by omega) ?_))
      rw [hc]
      refine Ev.neg (fun e => h1 ((u8_lit c 58).1 e)) ?_
      rw [w64 (n := (i : Int) + 1) (by omega)]
      exact ih (i + 1) hr' (by omega) h
theorem scan_some {b : List UInt8} {R : Res} : ∀ (r : List UInt8) (i : Nat), l.drop i = r → i ≤ l.length → (cutC 58 r).2 = some b → Ev (fun k => maskref1_NoteRead.j1 k (ofL l) p (j : Int) ((i + (cutC 58 r).1.length : Nat) : Int) true f v w 0 ⟨#[]⟩) R → Ev (fun k => maskref1_NoteRead.l0 k (ofL l) p (j : Int) (i : Int) f v w 0 ⟨#[]⟩) R := by
  have hz : (ofL l).size = l.length := rfl
  intro r
  induction r with
  | nil => intro i hr hi h; cases h
  | cons c r ih =>
    intro i hr hi h hR
    obtain ⟨hlt, hc, hr'⟩ := bt_drop (ofL l) i hr
    refine Ev.step (fun k => by rw [maskref1_NoteRead.l0]) (Ev.pos (by omega) ?_)
    rw [decide_eq_true hp]
    unfold cutC at h hR
    by_cases h1 : c = 58
    · rw [if_pos h1] at hR; exact hR
    · rw [if_neg h1] at h hR
      refine Ev.step (fun k => by rw [maskref1_NoteRead.j1]) ?_
      refine Ev.pos rfl (Ev.pos (by omega) (Ev.pos (by omega) ?_))
      rw [hc]
      refine Ev.neg (fun e => h1 ((u8_lit c 58).1 e)) ?_
      rw [w64 (n := (i : Int) + 1) (by omega)]
      refine ih (i + 1) hr' (by omega) h ?_
      rw [show i + 1 + (cutC 58 r).1.length = i + ((cutC 58 r).1.length + 1) by omega]
      exact hR
end
theorem part0 (j : Nat) (hj : j ≤ l.length) (f : ByteArray) (v w : Int) {b : List UInt8} {R : Res} (h : (cutC 58 (l.drop j)).2 = some b)
    (hR : Ev (fun k => maskref1_NoteRead.l0 k (ofL l) 1 ((j + (cutC 58 (l.drop j)).1.length + 1 : Nat) : Int) ((j + (cutC 58 (l.drop j)).1.length + 1 : Nat) : Int) (ofL (cutC 58 (l.drop j)).1) v w 0 ⟨#[]⟩) R) :
    Ev (fun k => maskref1_NoteRead.l0 k (ofL l) 0 (j : Int) (j : Int) f v w 0 ⟨#[]⟩) R := by
  have hz : (ofL l).size = l.length := rfl
  obtain ⟨h1, h2, h3, h4⟩ := at_colon l hl j hj h
  refine scan_some l hl 0 (by decide) j f v w (l.drop j) j rfl hj h ?_
  generalize (cutC 58 (l.drop j)).1 = a at h1 h2 h3 h4 hR
  refine Ev.step (fun k => by rw [maskref1_NoteRead.j1]) ?_
  refine Ev.pos rfl (Ev.pos (by omega) (Ev.pos (by omega) (Ev.pos h2 (Ev.pos (by omega) (Ev.pos (by omega) (Ev.pos (by omega) (Ev.pos rfl ?_)))))))
  have ec : ((j + a.length : Nat) : Int) + 1 = ((j + a.length + 1 : Nat) : Int) := rfl
  rw [w64 (n := ((j + a.length : Nat) : Int) + 1) (by omega), w64 (n := (0 : Int) + 1) (by omega), Int.toNat_natCast, Int.toNat_natCast, h3, ec]
  exact hR
theorem partN (j : Nat) (hj : j ≤ l.length) (p : Int) (hp : p = 1 ∨ p = 2) (f : ByteArray) (v w : Int) {b : List UInt8} {R : Res} (h : (cutC 58 (l.drop j)).2 = some b)
    (hF : numB (cutC 58 (l.drop j)).1 = false → R = synE)
    (hR : numB (cutC 58 (l.drop j)).1 = true → Ev (fun k => maskref1_NoteRead.l0 k (ofL l) (p + 1) ((j + (cutC 58 (l.drop j)).1.length + 1 : Nat) : Int) ((j + (cutC 58 (l.drop j)).1.length + 1 : Nat) : Int) f (if p = 1 then refN (cutC 58 (l.drop j)).1 else v) (if p = 1 then w else refN (cutC 58 (l.drop j)).1) 0 ⟨#[]⟩) R) :
    Ev (fun k => maskref1_NoteRead.l0 k (ofL l) p (j : Int) (j : Int) f v w 0 ⟨#[]⟩) R := by
  have hz : (ofL l).size = l.length := rfl
  obtain ⟨h1, h2, h3, h4⟩ := at_colon l hl j hj h
  refine scan_some l hl p (by omega) j f v w (l.drop j) j rfl hj h ?_
  have ha := cutC_len 58 (l.drop j)
  have ha2 : (l.drop j).length ≤ l.length := by rw [List.length_drop]; omega
  generalize (cutC 58 (l.drop j)).1 = a at h1 h2 h3 h4 hR hF ha
  refine Ev.step (fun k => by rw [maskref1_NoteRead.j1]) ?_
  refine Ev.pos rfl (Ev.pos (by omega) (Ev.pos (by omega) (Ev.pos h2 (Ev.pos (by omega) (Ev.pos (by omega) (Ev.pos (by omega) (Ev.neg (by omega) ?_)))))))
  have ec : ((j + a.length : Nat) : Int) + 1 = ((j + a.length + 1 : Nat) : Int) := rfl
  rw [w64 (n := ((j + a.length : Nat) : Int) + 1) (by omega), w64 (n := p + 1) (by omega), Int.toNat_natCast, Int.toNat_natCast, h3, ec]
  have hpl := plain_ev (ofL a) (by rw [size_ofL]; omega)
  rw [show (ofL a).data.toList = a from rfl] at hpl
  refine Ev.bind hpl ?_
  cases hn : numB a with
  | false =>
    rw [if_neg (show ¬ (false = true) by decide)]
    exact Ev.neg (by decide) ((Ev.now _).eq (hF hn).symm)
  | true =>
    rw [if_pos rfl]
    have hR := hR hn
    refine Ev.pos rfl ?_
    show Ev (fun k => if p = 1 then maskref1_NoteRead.l0 k (ofL l) (p + 1) _ _ f (refN a) w 0 ⟨#[]⟩ else maskref1_NoteRead.l0 k (ofL l) (p + 1) _ _ f v (refN a) 0 ⟨#[]⟩) R
    rcases hp with rfl | rfl
    · exact Ev.pos rfl hR
    · exact Ev.neg (by decide) hR
theorem last_ev (j : Nat) (hj : j ≤ l.length) (f : ByteArray) (hf : f.size ≤ 140737488351232) (v w : Int) : Ev (fun k => maskref1_NoteRead.l0 k (ofL l) 3 (j : Int) (j : Int) f v w 0 ⟨#[]⟩) (tailV f v w (l.drop j)) := by
  have hz : (ofL l).size = l.length := rfl
  have main : Ev (fun k => maskref1_NoteRead.j1 k (ofL l) 3 (j : Int) (j : Int) false f v w 0 ⟨#[]⟩) (tailV f v w (l.drop j)) := by
    refine Ev.step (fun k => by rw [maskref1_NoteRead.j1]) ?_
    refine Ev.neg (by decide) (Ev.neg (by decide) ?_)
    cases hd : l.drop j with
    | nil =>
      have := bt_none (ofL l) j hd
      exact Ev.pos (by omega) (j2_syn l hl _ _ _ _ _ _)
    | cons c m =>
      obtain ⟨h1, h2, h3⟩ := bt_drop (ofL l) j hd
      refine Ev.neg (by omega) (Ev.pos (by omega) (Ev.pos (by omega) ?_))
      rw [h2]
      by_cases hc : c = 32
      · subst hc
        refine Ev.step (fun k => by rw [maskref1_NoteRead.j2]) ?_
        refine Ev.neg (by decide) ?_
        rw [w64 (n := (j : Int) + 1) (by omega)]
        refine Ev.pos (by omega) (Ev.pos (by omega) ?_)
        have he : (ofL l).extract ((j : Int) + 1).toNat (ofL l).size = ofL m := by
          refine ba_ext ?_
          rw [extract_list, show ((j : Int) + 1).toNat = j + 1 by omega]
          show (l.take l.length).drop (j + 1) = m
          rw [List.take_length]; exact h3
        rw [he]
        have hm : m.length ≤ 1000 := by
          have := congrArg List.length hd
          rw [List.length_drop, List.length_cons] at this; omega
        exact rest_ev m hm f v w hf
      · have hne : ((c.toNat : Int) != 32) = true := bne_iff_ne.2 fun h => hc ((u8_lit c 32).1 h)
        rw [hne, tailV, if_neg hc]
        exact j2_syn l hl _ _ _ _ _ _
  refine Ev.step (fun k => by rw [maskref1_NoteRead.l0]) ?_
  by_cases h : (j : Int) < ((ofL l).size : Int)
  · exact Ev.pos h main
  · exact Ev.neg h main
theorem ref_ev : Ev (fun k => maskref1_NoteRead.f k (ofL l)) (readV refN l) := by
  unfold maskref1_NoteRead.f
  show Ev (fun k => maskref1_NoteRead.l0 k (ofL l) 0 ((0 : Nat) : Int) ((0 : Nat) : Int) ⟨#[]⟩ 0 0 0 ⟨#[]⟩) _
  unfold readV p3
  cases h1 : (cutC 58 l).2 with
  | none => exact scan_none l hl 0 (by decide) 0 _ _ _ l 0 rfl (Nat.zero_le _) h1
  | some r1 =>
    obtain ⟨s1, _, _, s4⟩ := at_colon l hl 0 (b := r1) (Nat.zero_le _) (by rw [List.drop_zero]; exact h1)
    refine part0 l hl 0 (Nat.zero_le _) _ _ _ (b := r1) (by rw [List.drop_zero]; exact h1) ?_
    rw [List.drop_zero] at s1 s4 ⊢
    have ha : (ofL (cutC 58 l).1).size ≤ 140737488351232 := by have := cutC_len 58 l; rw [size_ofL]; omega
    generalize 0 + (cutC 58 l).1.length + 1 = j1 at s1 s4 ⊢
    rw [Option.bind_some]
    have hj1 : j1 ≤ l.length := s1
    cases h2 : (cutC 58 r1).2 with
    | none => exact scan_none l hl 1 (by decide) j1 _ _ _ r1 j1 s4 hj1 h2
    | some r2 =>
      rw [Option.bind_some]
      have h2' : (cutC 58 (l.drop j1)).2 = some r2 := by rw [s4]; exact h2
      obtain ⟨t1, _, _, t4⟩ := at_colon l hl j1 hj1 h2'
      refine partN l hl j1 hj1 1 (.inl rfl) _ _ _ h2' ?_ ?_
      · intro hn
        rw [s4] at hn
        cases h3 : (cutC 58 r2).2 with
        | none => rfl
        | some r3 =>
          rw [Option.bind_some]
          simp only []
          rw [hn, if_neg (by decide)]
      · intro hn
        rw [s4] at hn t1 t4 ⊢
        rw [if_pos rfl, if_pos rfl]
        generalize j1 + (cutC 58 r1).1.length + 1 = j2 at t1 t4 ⊢
        have hj2 : j2 ≤ l.length := t1
        cases h3 : (cutC 58 r2).2 with
        | none => exact scan_none l hl 2 (by decide) j2 _ _ _ r2 j2 t4 hj2 h3
        | some r3 =>
          rw [Option.bind_some]
          simp only []
          rw [if_pos hn]
          have h3' : (cutC 58 (l.drop j2)).2 = some r3 := by rw [t4]; exact h3
          obtain ⟨u1, _, _, u4⟩ := at_colon l hl j2 hj2 h3'
          refine partN l hl j2 hj2 2 (.inr rfl) _ _ _ h3' ?_ ?_
          · intro hm
            rw [t4] at hm
            rw [hm, if_neg (by decide)]
          · intro hm
            rw [t4] at hm u1 u4 ⊢
            rw [if_neg (by decide), if_neg (by decide), if_pos hm]
            generalize j2 + (cutC 58 r2).1.length + 1 = j3 at u1 u4 ⊢
            have := last_ev l hl j3 u1 (ofL (cutC 58 l).1) ha (refN (cutC 58 r1).1) (refN (cutC 58 r2).1)
            rw [u4] at this
            exact this
end
end Go.Proofs.YtlamgdibnnmbmaaDoor.PRead
end
