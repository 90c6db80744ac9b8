/- Part 30 of the proof of NoteReadsCardSaid: The law NoteReads: for all arguments it returns true; each argument reads behind the call as it read before. Out of the plain theorem of YtlamgdibnnmbmaaDoorPureNoteReads and the printed contract. -/
import Derived.Test.YtlamgdibnnmbmaaDoorQNoteReads28
section
namespace Go.Proofs.YtlamgdibnnmbmaaDoor.PRead
open Go.RowKit Go.Proofs.YtlamgdibnnmbmaaDoorW.PrintWords Go.Proofs.YtlamgdibnnmbmaaDoorW.PrintLast Go.Proofs.YtlamgdibnnmbmaaDoorW.PrintMore
set_option linter.unusedVariables false
set_option linter.unusedSimpArgs false
set_option linter.unusedSectionVars false
section
variable (A B C D : ByteArray) (v w : Int) (N T : ByteArray) (hA : A.size ≤ 140737488351232) (hT : T.size ≤ 140737488351232)
include hA hT
theorem check_fin (e : Int) : Ev (fun k => (note_Check.f k A v w e T).bind fun t134 => (if t134 = 0 then (some (A, v, w, e, T, 0)) else (some ((⟨#[]⟩ : ByteArray), 0, 0, 0, (⟨#[]⟩ : ByteArray), t134)))) (fin A v w e T) := by
  refine Ev.bind (Check_ev A hA v w e T hT) ?_
  unfold fin
  by_cases h : chkV A v w e T = 0
  · exact Ev.pos h ((Ev.now _).eq (if_pos h).symm)
  · exact Ev.neg h ((Ev.now _).eq (if_neg h).symm)
theorem nm_nil (e : Nat) : ((nm (e : Int)).toList = ([] : List UInt8)) ↔ (e < 1 ∨ e > 22) := by
  have h := nm_none (e : Int)
  rw [Bool.eq_iff_iff, beq_iff_eq, decide_eq_true_iff] at h
  rw [h]; omega
theorem l0_step (e : Nat) (he : 1 ≤ e ∧ e ≤ 22) {R : Res} (hF : nl e = N.data.toList → R = fin A v w (e : Int) T)
    (h : nl e ≠ N.data.toList → Ev (fun k => note_Read.l0 k [A, B, C, D] v w N T ((e + 1 : Nat) : Int)) R) : Ev (fun k => note_Read.l0 k [A, B, C, D] v w N T (e : Int)) R := by
  refine Ev.step (fun k => by rw [note_Read.l0]) (Ev.bnd (Name_is (e : Int)) ?_)
  refine Ev.neg (fun q => by have := (nm_nil A T hA hT e).1 q; omega) (Ev.bnd (Name_is (e : Int)) ?_)
  have ec : (e : Int) + 1 = ((e + 1 : Nat) : Int) := rfl
  rw [w64 (n := (e : Int) + 1) (by omega), ec]
  by_cases h1 : nl e = N.data.toList
  · refine Ev.pos (tl_iff.2 h1) ?_
    have q4 : (0 : Int) < (([A, B, C, D] : List ByteArray).length : Int) := by simp only [List.length_cons, List.length_nil]; omega
    refine Ev.pos q4 ?_
    rw [hF h1]
    exact check_fin A v w T hA hT (e : Int)
  · exact Ev.neg (fun q => h1 (tl_iff.1 q)) (h h1)
theorem l0_end : Ev (fun k => note_Read.l0 k [A, B, C, D] v w N T ((23 : Nat) : Int)) synE := by
  refine Ev.step (fun k => by rw [note_Read.l0]) (Ev.bnd (Name_is _) ?_)
  exact Ev.pos ((nm_nil A T hA hT 23).2 (by omega)) (Ev.now _)
theorem l0_some {c : Nat} (hc : codeOf N.data.toList = some c) : ∀ (n e : Nat), e + n = 22 → 1 ≤ e → e ≤ c → Ev (fun k => note_Read.l0 k [A, B, C, D] v w N T (e : Int)) (fin A v w (c : Int) T) := by
  obtain ⟨h1, h2, h3, h4⟩ := codeOf_some hc
  intro n
  induction n with
  | zero =>
    intro e he he1 hec
    refine l0_step A B C D v w N T hA hT e (by omega) (fun q => by rw [h4 e he1 (by omega) q]) (fun q => ?_)
    obtain rfl : e = c := by omega
    exact absurd h3 q
  | succ n ih =>
    intro e he he1 hec
    refine l0_step A B C D v w N T hA hT e (by omega) (fun q => by rw [h4 e he1 (by omega) q]) (fun q => ?_)
    refine ih (e + 1) (by omega) (by omega) ?_
    rcases Nat.lt_or_ge e c with h5 | h5
    · exact h5
    · obtain rfl : e = c := by omega
      exact absurd h3 q
theorem l0_none (hc : codeOf N.data.toList = none) : ∀ (n e : Nat), e + n = 23 → 1 ≤ e → Ev (fun k => note_Read.l0 k [A, B, C, D] v w N T (e : Int)) synE := by
  have h4 := codeOf_none hc
  intro n
  induction n with
  | zero =>
    intro e he he1
    obtain rfl : e = 23 := by omega
    exact l0_end A B C D v w N T hA hT
  | succ n ih =>
    intro e he he1
    exact l0_step A B C D v w N T hA hT e (by omega) (fun q => absurd q (h4 e he1 (by omega))) (fun q => ih (e + 1) (by omega) (by omega))
theorem j1_ev : Ev (fun k => note_Read.j1 k [A, B, C, D] v w N T false) (match codeOf N.data.toList with | some c => fin A v w (c : Int) T | none => synE) := by
  refine Ev.step (fun k => by rw [note_Read.j1]) ?_
  refine Ev.neg (by decide) ?_
  cases hc : codeOf N.data.toList with
  | none => exact l0_none A B C D v w N T hA hT hc 22 1 rfl (Nat.le_refl _)
  | some c => exact l0_some A B C D v w N T hA hT hc 21 1 rfl (Nat.le_refl _) (codeOf_some hc).1
end
section
variable (a b c d : List UInt8) (ha : a.length ≤ 1000) (hb : b.length ≤ 1000) (hc : c.length ≤ 1000) (hd : d.length ≤ 1000)
theorem j1_syn (x4 : List ByteArray) (v w : Int) (N T : ByteArray) : Ev (fun k => note_Read.j1 k x4 v w N T true) synE := by
  refine Ev.step (fun k => by rw [note_Read.j1]) ?_
  exact Ev.pos rfl (Ev.now _)
theorem j0_syn (x4 : List ByteArray) : Ev (fun k => note_Read.j0 k x4 true) synE := by
  refine Ev.step (fun k => by rw [note_Read.j0]) ?_
  exact Ev.pos rfl (Ev.now _)
include ha hb hc hd
theorem j0_ev (hd1 : Lib.hasPrefix d [32] = true) : Ev (fun k => note_Read.j0 k [ofL a, ofL b, ofL c, ofL d] false) (if numB b = true then if numB c = true then tailV (ofL a) (progN b) (progN c) d else synE else synE) := by
  obtain ⟨m, rfl⟩ : ∃ m, d = 32 :: m := by
    unfold Lib.hasPrefix at hd1
    cases d with
    | nil => cases hd1
    | cons x m =>
      simp [List.isPrefixOf] at hd1
      exact ⟨m, by rw [hd1]⟩
  have hm : m.length ≤ 1000 := by rw [List.length_cons] at hd; omega
  have r1 : rdOf ByteArray.empty [ofL a, ofL b, ofL c, ofL (32 :: m)] 1 = ofL b := rfl
  have r2 : rdOf ByteArray.empty [ofL a, ofL b, ofL c, ofL (32 :: m)] 2 = ofL c := rfl
  have r3 : rdOf ByteArray.empty [ofL a, ofL b, ofL c, ofL (32 :: m)] 3 = ofL (32 :: m) := rfl
  have q4 : (([ofL a, ofL b, ofL c, ofL (32 :: m)] : List ByteArray).length : Int) = 4 := rfl
  refine Ev.step (fun k => by rw [note_Read.j0]) ?_
  rw [r1, r2, r3, q4]
  have n1 := number_ev (ofL b) (by rw [size_ofL]; omega)
  have n2 := number_ev (ofL c) (by rw [size_ofL]; omega)
  rw [show (ofL b).data.toList = b from rfl] at n1
  rw [show (ofL c).data.toList = c from rfl] at n2
  refine Ev.neg (by decide) (Ev.pos (by decide) (Ev.bind n1 ?_))
  refine Ev.pos (by decide) (Ev.bind n2 ?_)
  refine Ev.pos (by decide) (Ev.pos (by rw [size_ofL, List.length_cons]; omega) ?_)
  have he : (ofL (32 :: m)).extract 1 (ofL (32 :: m)).size = ofL m := by
    refine ba_ext ?_
    rw [extract_list]
    show ((32 :: m).take (32 :: m).length).drop 1 = m
    rw [List.take_length]; rfl
  rw [he]
  have hcut : strings_Cut.f (ofL m) (⟨#[32]⟩ : ByteArray) = some (ofL (cutC 32 m).1, ofL ((cutC 32 m).2.getD []), (cutC 32 m).2.isSome) := by
    unfold strings_Cut.f
    rw [if_pos (by rw [size_ofL]; omega)]
    have e := cut_is 32 m
    rw [show (ofL m).data.toList = m from rfl, show (⟨#[32]⟩ : ByteArray).data.toList = [32] from rfl, e]
    rfl
  refine Ev.bnd hcut ?_
  have hA : (ofL a).size ≤ 140737488351232 := by rw [size_ofL]; omega
  have hT : (ofL ((cutC 32 m).2.getD [])).size ≤ 140737488351232 := by
    rw [size_ofL]
    cases h : (cutC 32 m).2 with
    | none => exact Nat.zero_le _
    | some t =>
      have := congrArg List.length (cutC_some 32 h)
      rw [List.length_append, List.length_cons] at this
      rw [Option.getD_some]; omega
  cases hn1 : numB b with
  | false =>
    rw [if_neg (show ¬ (false = true) by decide), if_neg (show ¬ (false = true) by decide)]
    exact Ev.neg (by decide) (j1_syn _ _ _ _ _)
  | true =>
    rw [if_pos rfl, if_pos rfl]
    refine Ev.pos rfl ?_
    cases hn2 : numB c with
    | false =>
      rw [if_neg (show ¬ (false = true) by decide), if_neg (show ¬ (false = true) by decide)]
      exact Ev.neg (by decide) (j1_syn _ _ _ _ _)
    | true =>
      rw [if_pos rfl, if_pos rfl]
      refine Ev.pos rfl ?_
      have main := j1_ev (ofL a) (ofL b) (ofL c) (ofL (32 :: m)) (progN b) (progN c) (ofL (cutC 32 m).1) (ofL ((cutC 32 m).2.getD [])) hA hT
      rw [show (ofL (cutC 32 m).1).data.toList = (cutC 32 m).1 from rfl] at main
      rw [tailV, if_pos rfl]
      unfold nameV
      cases h : (cutC 32 m).2 with
      | none =>
        rw [h] at main
        exact Ev.neg (by simp) main
      | some t =>
        rw [h] at main
        refine Ev.pos rfl ?_
        cases t with
        | nil =>
          have e0 : ((ofL ((some ([] : List UInt8)).getD [])).toList == ([] : List UInt8)) = true := by rw [ByteArray.toList_eq]; rfl
          refine (j1_syn [ofL a, ofL b, ofL c, ofL (32 :: m)] (progN b) (progN c) (ofL (cutC 32 m).1) (ofL ((some ([] : List UInt8)).getD []))).congr fun k => ?_
          show note_Read.j1 k _ _ _ _ _ ((ofL ((some ([] : List UInt8)).getD [])).toList == ([] : List UInt8)) = _
          rw [e0]; rfl
        | cons x y =>
          have e0 : ((ofL ((some (x :: y)).getD [])).toList == ([] : List UInt8)) = false := by rw [ByteArray.toList_eq]; rfl
          refine main.congr fun k => ?_
          show note_Read.j1 k _ _ _ _ _ ((ofL ((some (x :: y)).getD [])).toList == ([] : List UInt8)) = _
          rw [e0]; rfl
end
section
variable (l : List UInt8) (hl : l.length ≤ 1000)
include hl
theorem prog_ev : Ev (fun k => note_Read.f k (ofL l)) (readV progN l) := by
  unfold note_Read.f
  have hs : strings_SplitN.f (ofL l) (⟨#[58]⟩ : ByteArray) 4 = some (Lib.splitB ⟨#[58]⟩ 0 (min 4 (l.length + 1) - 1) (ofL l)) := by
    unfold strings_SplitN.f
    rw [if_pos ⟨by rw [size_ofL]; omega, by decide, by decide, by decide⟩]; rfl
  refine Ev.bnd hs ?_
  unfold readV
  cases h : p3 l with
  | none =>
    have := split_short l (min 4 (l.length + 1) - 1) h (by omega)
    exact Ev.pos (by omega) (j0_syn _)
  | some q =>
    obtain ⟨a, b, c, d⟩ := q
    have hlen : 3 ≤ l.length ∧ a.length ≤ l.length ∧ b.length ≤ l.length ∧ c.length ≤ l.length ∧ d.length ≤ l.length := by
      unfold p3 at h
      obtain ⟨r1, h1, h⟩ := Option.bind_eq_some_iff.1 h
      obtain ⟨r2, h2, h⟩ := Option.bind_eq_some_iff.1 h
      obtain ⟨r3, h3, h⟩ := Option.bind_eq_some_iff.1 h
      injection h with h
      injection h with e1 h
      injection h with e2 h
      injection h with e3 e4
      have c1 := congrArg List.length (cutC_some 58 h1)
      have c2 := congrArg List.length (cutC_some 58 h2)
      have c3 := congrArg List.length (cutC_some 58 h3)
      rw [List.length_append, List.length_cons] at c1 c2 c3
      rw [e1] at c1
      rw [e2] at c2
      rw [e3] at c3
      rw [e4] at c3
      omega
    have hsp := split_full l
    rw [h] at hsp
    rw [show min 4 (l.length + 1) - 1 = 3 by omega, hsp]
    have q4 : (([ofL a, ofL b, ofL c, ofL d] : List ByteArray).length : Int) = 4 := rfl
    rw [q4]
    have r3 : rdOf ByteArray.empty [ofL a, ofL b, ofL c, ofL d] 3 = ofL d := rfl
    rw [r3]
    refine Ev.neg (by decide) (Ev.pos (by decide) (Ev.bnd (r := Lib.hasPrefix d [32]) rfl ?_))
    simp only []
    cases hp : Lib.hasPrefix d [32] with
    | true => exact j0_ev a b c d (by omega) (by omega) (by omega) (by omega) hp
    | false =>
      refine (j0_syn _).eq ?_
      have ht : ∀ A v w, tailV A v w d = synE := by
        intro A v w
        cases d with
        | nil => rfl
        | cons x m =>
          rw [tailV]
          by_cases hx : x = 32
          · subst hx
            unfold Lib.hasPrefix at hp
            simp [List.isPrefixOf] at hp
          · rw [if_neg hx]
      rw [ht]
      split
      · split <;> rfl
      · rfl
end
theorem chk_agree (f : ByteArray) {v1 v2 w1 w2 : Int} (e : Int) (t : ByteArray) (hv : agree v1 v2) (hw : agree w1 w2) : chkV f v1 w1 e t = chkV f v2 w2 e t := by
  unfold chkV agree at *
  by_cases h : fileB f.data.toList = true
  · rw [if_pos h, if_pos h]
    by_cases h1 : v1 < 1 ∨ v1 > 16000 ∨ w1 < 1 ∨ w1 > 16001 ∨ e < 1 ∨ e > 22
    · rw [if_pos h1, if_pos (show v2 < 1 ∨ v2 > 16000 ∨ w2 < 1 ∨ w2 > 16001 ∨ e < 1 ∨ e > 22 by omega)]
    · rw [if_neg h1, if_neg (show ¬ (v2 < 1 ∨ v2 > 16000 ∨ w2 < 1 ∨ w2 > 16001 ∨ e < 1 ∨ e > 22) by omega)]
  · rw [if_neg h, if_neg h]
theorem fin_agree (f : ByteArray) {v1 v2 w1 w2 : Int} (e : Int) (t : ByteArray) (hf : f.size ≤ 140737488351232) (ht : t.size ≤ 140737488351232) (hv : agree v1 v2) (hw : agree w1 w2) : fin f v1 w1 e t = fin f v2 w2 e t := by
  unfold fin
  have hc := chk_agree f e t hv hw
  by_cases h : chkV f v1 w1 e t = 0
  · have h2 := hc ▸ h
    obtain ⟨_, a1, a2, a3, a4, _⟩ := chk_ok f hf v1 w1 e t ht h
    unfold agree at hv hw
    obtain rfl : v1 = v2 := by omega
    obtain rfl : w1 = w2 := by omega
    rfl
  · have h2 : ¬ chkV f v2 w2 e t = 0 := fun q => h (hc.trans q)
    rw [if_neg h, if_neg h2, hc]
theorem read_same (l : List UInt8) (hl : l.length ≤ 1000) : readV progN l = readV refN l := by
  unfold readV
  cases h : p3 l with
  | none => rfl
  | some q =>
    obtain ⟨a, b, c, d⟩ := q
    simp only []
    cases hb : numB b with
    | false => rw [if_neg (show ¬ (false = true) by decide), if_neg (show ¬ (false = true) by decide)]
    | true =>
      cases hc : numB c with
      | false => rw [if_neg (show ¬ (false = true) by decide), if_neg (show ¬ (false = true) by decide)]
      | true =>
        rw [if_pos rfl, if_pos rfl, if_pos rfl, if_pos rfl]
        have g1 := numbers_agree b hb
        have g2 := numbers_agree c hc
        have hlen : a.length ≤ l.length ∧ d.length ≤ l.length := by
          unfold p3 at h
          obtain ⟨r1, h1, h⟩ := Option.bind_eq_some_iff.1 h
          obtain ⟨r2, h2, h⟩ := Option.bind_eq_some_iff.1 h
          obtain ⟨r3, h3, h⟩ := Option.bind_eq_some_iff.1 h
          injection h with h
          injection h with e1 h
          injection h with e2 h
          injection h with e3 e4
          have c1 := congrArg List.length (cutC_some 58 h1)
          have c2 := congrArg List.length (cutC_some 58 h2)
          have c3 := congrArg List.length (cutC_some 58 h3)
          rw [List.length_append, List.length_cons] at c1 c2 c3
          rw [e1] at c1
          rw [e4] at c3
          omega
        cases d with
        | nil => rfl
        | cons x m =>
          rw [tailV, tailV]
          by_cases hx : x = 32
          · rw [if_pos hx, if_pos hx]
            have hn : ∀ N T : List UInt8, T.length ≤ 1000 → nameV (ofL a) (progN b) (progN c) N T = nameV (ofL a) (refN b) (refN c) N T := by
              intro N T hT
              unfold nameV
              cases codeOf N with
              | none => rfl
              | some e => exact fin_agree (ofL a) _ (ofL T) (by rw [size_ofL]; omega) (by rw [size_ofL]; omega) g1 g2
            rw [List.length_cons] at hlen
            cases h2 : (cutC 32 m).2 with
            | none => exact hn _ _ (Nat.zero_le _)
            | some t =>
              have c1 := congrArg List.length (cutC_some 32 h2)
              rw [List.length_append, List.length_cons] at c1
              cases t with
              | nil => rfl
              | cons y z => exact hn _ _ (by omega)
          · rw [if_neg hx, if_neg hx]
theorem told_at : masklaw1_told.f 60 = some true := by kernel_rfl
theorem told_ev : Ev (fun k => masklaw1_told.f k) true := Ev.of masklaw1_told.mono told_at
theorem NoteReads_pure (s : ByteArray) (hs : s.size ≤ 140737488351232) : ∃ k, masklaw1_NoteReads.f k s = some true := by
  refine Ev.rounds (g := fun k => masklaw1_NoteReads.f k s) ?_
  unfold masklaw1_NoteReads.f
  refine Ev.bind told_ev (Ev.pos rfl ?_)
  refine Ev.step (fun k => by rw [masklaw1_NoteReads.j0]) ?_
  by_cases h : (s.size : Int) > 1000
  · rw [decide_eq_true h]
    exact Ev.pos rfl (Ev.bind told_ev (Ev.now _))
  · rw [decide_eq_false h]
    refine Ev.neg (by decide) ?_
    obtain ⟨l, rfl⟩ : ∃ l, s = ofL l := ⟨s.data.toList, ba_ext rfl⟩
    have hl : l.length ≤ 1000 := by rw [size_ofL] at h; omega
    refine Ev.bind (prog_ev l hl) (Ev.bind (ref_ev l hl) ?_)
    rw [read_same l hl]
    generalize readV refN l = R
    exact Ev.pos (by simp) ((Ev.now _).eq (by simp))
end Go.Proofs.YtlamgdibnnmbmaaDoor.PRead
end
