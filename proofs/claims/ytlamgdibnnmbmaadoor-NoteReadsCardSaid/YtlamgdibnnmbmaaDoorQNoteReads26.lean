/- Part 27 of the proof of NoteReadsCardSaid: The law NoteReads: for all arguments it returns true; each argument reads behind the call as it read before. Out of the plain theorem of YtlamgdibnnmbmaaDoorPureNoteReads and the printed contract. -/
import Derived.Test.YtlamgdibnnmbmaaDoorQNoteReads25
section
namespace Go.Proofs.YtlamgdibnnmbmaaDoor.PRead
open Go.RowKit Go.Proofs.YtlamgdibnnmbmaaDoorW.PrintWords Go.Proofs.YtlamgdibnnmbmaaDoorW.PrintLast Go.Proofs.YtlamgdibnnmbmaaDoorW.PrintMore
set_option linter.unusedVariables false
set_option linter.unusedSimpArgs false
set_option linter.unusedSectionVars false
def numB : List UInt8 → Bool
  | [] => false
  | c :: r => !(!r.isEmpty && (c == 48)) && digits (c :: r)
section
variable (s : ByteArray) (hs : s.size ≤ 140737488351232)
include hs
theorem num_l0 (R : Int × Bool) (hR : digits s.data.toList = true → Ev (fun k => note_number.l0 k s (s.size : Int) (s.size : Int)) R) (hF : digits s.data.toList = false → R = (0, false)) :
    ∀ (r : List UInt8) (i : Nat), s.data.toList.drop i = r → i ≤ s.size → digits (s.data.toList.take i) = true → Ev (fun k => note_number.l0 k s (s.size : Int) (i : Int)) R := by
  intro r
  induction r with
  | nil =>
    intro i hr hi2 hd
    have := bt_none s i hr
    obtain rfl : i = s.size := by omega
    exact hR (by rw [size_list, List.take_length] at hd; exact hd)
  | cons c r ih =>
    intro i hr hi2 hd
    obtain ⟨hlt, hc, hr'⟩ := bt_drop s i hr
    have hl : i < s.data.toList.length := by rw [← size_list]; exact hlt
    have hcc : s.data.toList[i]'hl = c := by
      rw [List.drop_eq_getElem_cons hl] at hr
      exact (List.cons.inj hr).1
    have hspl : s.data.toList = s.data.toList.take i ++ c :: r := by rw [← hr, List.take_append_drop]
    have hdig : digits s.data.toList = (inB 48 57 [] c && r.all (inB 48 57 [])) := by
      rw [hspl]
      unfold digits at hd ⊢
      rw [List.all_append, hd, Bool.true_and, List.all_cons]
    refine Ev.step (fun k => by rw [note_number.l0]) (Ev.pos (by omega) (Ev.pos (by omega) (Ev.pos (by omega) ?_)))
    rw [hc]
    by_cases h1 : (c.toNat : Int) < 48
    · refine Ev.pos h1 ((Ev.now _).eq (hF ?_).symm)
      rw [hdig]
      unfold inB
      rw [decide_eq_true h1]; rfl
    refine Ev.neg h1 ?_
    by_cases h2 : (c.toNat : Int) > 57
    · refine Ev.pos h2 ((Ev.now _).eq (hF ?_).symm)
      rw [hdig]
      unfold inB
      rw [decide_eq_false h1, decide_eq_true h2]; rfl
    refine Ev.neg h2 ?_
    rw [w64 (n := (i : Int) + 1) (by omega)]
    refine ih (i + 1) hr' (by omega) ?_
    rw [List.take_succ_eq_append_getElem hl, hcc]
    unfold digits at hd ⊢
    rw [List.all_append, hd, Bool.true_and, List.all_cons, List.all_nil, Bool.and_true]
    unfold inB
    rw [decide_eq_false h1, decide_eq_false h2]; rfl
theorem number_ev : Ev (fun k => note_number.f k s) (if numB s.data.toList = true then (((valD 0 (s.data.toList.take 18) : Nat) : Int), true) else (0, false)) := by
  unfold note_number.f
  have hz := size_list s
  have hb0 : ∀ c r, s.data.toList = c :: r → bt s 0 = (c.toNat : Int) := fun c r h => (bt_drop s 0 (by rw [List.drop_zero]; exact h)).2.1
  have j0 : ∀ b : Bool, s.data.toList ≠ [] → Ev (fun k => note_number.j0 k s b) (if (!b && digits s.data.toList) = true then (((valD 0 (s.data.toList.take 18) : Nat) : Int), true) else (0, false)) := by
    intro b hne
    refine Ev.step (fun k => by rw [note_number.j0]) ?_
    cases b with
    | true => exact Ev.pos rfl (Ev.now _)
    | false =>
      refine Ev.neg (by decide) ?_
      rw [Bool.not_false, Bool.true_and]
      refine num_l0 s hs _ (fun hd => ?_) (fun hd => by rw [hd]; rfl) s.data.toList 0 (List.drop_zero ..) (Nat.zero_le _) (by rfl)
      rw [if_pos hd]
      have hm : mn (s.size : Int) 18 = ((min s.size 18 : Nat) : Int) := by unfold mn; omega
      refine Ev.step (fun k => by rw [note_number.l0]) (Ev.neg (by omega) ?_)
      rw [hm]
      refine Ev.pos (by omega) (Ev.pos (by omega) (Ev.bnd (r := (((valD 0 (s.data.toList.take 18) : Nat) : Int), ())) ?_ (Ev.now _)))
      unfold strconv_Atoi.f
      have he : (s.extract 0 (min s.size 18)).data.toList = s.data.toList.take 18 := by
        rw [extract_list, List.drop_zero, size_list]
        rcases Nat.le_total s.data.toList.length 18 with h | h
        · rw [Nat.min_eq_left h, List.take_length, List.take_of_length_le h]
        · rw [Nat.min_eq_right h]
      rw [Int.toNat_natCast, if_pos (by rw [size_list, he, List.length_take]; omega), he, atoi_is]
      · rfl
      · unfold digits at hd ⊢
        rw [List.all_eq_true] at hd ⊢
        exact fun x hx => hd x (List.mem_of_mem_take hx)
      · cases h : s.data.toList with
        | nil => exact absurd h hne
        | cons c r => simp
  have ht : ∀ {a : ByteArray}, a.toList = ([] : List UInt8) ↔ a.data.toList = [] := fun {a} => by rw [ByteArray.toList_eq]
  cases h : s.data.toList with
  | nil =>
    refine Ev.pos (ht.2 h) ?_
    refine Ev.step (fun k => by rw [note_number.j0]) ?_
    exact Ev.pos rfl (Ev.now _)
  | cons c r =>
    have hne : s.data.toList ≠ [] := by rw [h]; exact List.cons_ne_nil _ _
    rw [h, List.length_cons] at hz
    have key : numB (c :: r) = (!(!r.isEmpty && (c == 48)) && digits (c :: r)) := rfl
    refine Ev.neg (fun e => hne (ht.1 e)) ?_
    rw [key]
    by_cases h1 : (s.size : Int) > 1
    · refine Ev.pos h1 (Ev.pos (by omega) ((j0 _ hne).eq ?_))
      have hr : r.isEmpty = false := by
        cases r with
        | nil => simp at hz; omega
        | cons _ _ => rfl
      have hc : (bt s 0 == 48) = (c == 48) := by
        rw [hb0 c r h, Bool.eq_iff_iff, beq_iff_eq, beq_iff_eq]
        exact u8_lit c 48
      rw [hr, hc, h]; rfl
    · refine Ev.neg h1 ((j0 _ hne).eq ?_)
      have hr : r.isEmpty = true := by
        cases r with
        | nil => rfl
        | cons _ _ => rw [List.length_cons] at hz; omega
      rw [hr, h]; rfl
theorem plain_l0 (hd : digits s.data.toList = true) : ∀ (r : List UInt8) (i : Nat), s.data.toList.drop i = r → i ≤ s.size → ∀ x : Nat,
    Ev (fun k => maskref1_plainNumber.l0 k s ((min x 1000000 : Nat) : Int) (s.size : Int) (i : Int)) (((min (valD x r) 1000000 : Nat) : Int), true) := by
  intro r
  induction r with
  | nil =>
    intro i hr hi2 x
    have := bt_none s i hr
    refine Ev.step (fun k => by rw [maskref1_plainNumber.l0]) ?_
    exact Ev.neg (by omega) (Ev.now _)
  | cons c r ih =>
    intro i hr hi2 x
    obtain ⟨hlt, hc, hr'⟩ := bt_drop s i hr
    have hcd : inB 48 57 [] c = true := by
      unfold digits at hd
      rw [List.all_eq_true] at hd
      exact hd c (List.mem_of_mem_drop (by rw [hr]; exact List.mem_cons_self))
    obtain ⟨d1, d2⟩ := digit_is hcd
    refine Ev.step (fun k => by rw [maskref1_plainNumber.l0]) (Ev.pos (by omega) (Ev.pos (by omega) (Ev.pos (by omega) ?_)))
    rw [hc, w64 (n := (i : Int) + 1) (by omega)]
    refine (ih (i + 1) hr' (by omega) (x * 10 + (c.toNat - 48))).congr (fun k => ?_)
    congr 1
    rw [w64 (n := 10 * _) (by omega), w64 (by omega)]
    unfold mn
    omega
theorem plain_ev : Ev (fun k => maskref1_plainNumber.f k s) (if numB s.data.toList = true then (((min (valD 0 s.data.toList) 1000000 : Nat) : Int), true) else (0, false)) := by
  unfold maskref1_plainNumber.f
  have hz := size_list s
  have hb0 : ∀ c r, s.data.toList = c :: r → bt s 0 = (c.toNat : Int) := fun c r h => (bt_drop s 0 (by rw [List.drop_zero]; exact h)).2.1
  have ht : ∀ {a : ByteArray}, a.toList = ([] : List UInt8) ↔ a.data.toList = [] := fun {a} => by rw [ByteArray.toList_eq]
  have jt : Ev (fun k => maskref1_plainNumber.j0 k s true) (0, false) := by
    refine Ev.step (fun k => by rw [maskref1_plainNumber.j0]) ?_
    exact Ev.pos rfl (Ev.now _)
  have j0 : Ev (fun k => (maskref1_within.f k s 48 57 (⟨#[]⟩ : ByteArray)).bind fun t => (maskref1_plainNumber.j0 k s (!t))) (if digits s.data.toList = true then (((min (valD 0 s.data.toList) 1000000 : Nat) : Int), true) else (0, false)) := by
    refine Ev.bind (within_ev s hs 48 57 _ (by decide)) ?_
    show Ev (fun k => maskref1_plainNumber.j0 k s (!digits s.data.toList)) _
    cases hd : digits s.data.toList with
    | false => exact jt
    | true =>
      refine Ev.step (fun k => by rw [maskref1_plainNumber.j0]) ?_
      exact Ev.neg (by decide) (plain_l0 s hs hd s.data.toList 0 (List.drop_zero ..) (Nat.zero_le _) 0)
  cases h : s.data.toList with
  | nil => exact Ev.pos (ht.2 h) jt
  | cons c r =>
    have hne : s.data.toList ≠ [] := by rw [h]; exact List.cons_ne_nil _ _
    rw [h, List.length_cons] at hz
    rw [h] at j0
    have key : numB (c :: r) = (!(!r.isEmpty && (c == 48)) && digits (c :: r)) := rfl
    refine Ev.neg (fun e => hne (ht.1 e)) ?_
    rw [key]
    by_cases h1 : (s.size : Int) > 1
    · refine Ev.pos h1 (Ev.pos (by omega) ?_)
      have hr : r.isEmpty = false := by
        cases r with
        | nil => simp at hz; omega
        | cons _ _ => rfl
      rw [hb0 c r h, hr]
      by_cases h2 : c = 48
      · subst h2
        exact Ev.pos (by decide) jt
      · refine Ev.neg (fun e => h2 ((u8_lit c 48).1 e)) (j0.eq ?_)
        rw [beq_eq_false_iff_ne.2 h2]; rfl
    · refine Ev.neg h1 (j0.eq ?_)
      have hr : r.isEmpty = true := by
        cases r with
        | nil => rfl
        | cons _ _ => rw [List.length_cons] at hz; omega
      rw [hr]; rfl
end
def agree (v w : Int) : Prop := v = w ∨ (v > 16001 ∧ w > 16001)
theorem numbers_agree (l : List UInt8) (h : numB l = true) : agree ((valD 0 (l.take 18) : Nat) : Int) ((min (valD 0 l) 1000000 : Nat) : Int) := by
  match l, h with
  | c :: r, h =>
    unfold agree
    rcases Nat.le_total (c :: r).length 18 with h1 | h1
    · rw [List.take_of_length_le h1]; omega
    · unfold numB at h
      rw [Bool.and_eq_true] at h
      obtain ⟨h2, h3⟩ := h
      have hr : r.isEmpty = false := by
        cases r with
        | nil => simp at h1
        | cons _ _ => rfl
      rw [hr] at h2
      have hc : c ≠ 48 := by simpa using h2
      unfold digits at h3
      rw [List.all_cons, Bool.and_eq_true] at h3
      obtain ⟨d1, d2⟩ := digit_is h3.1
      have hc' : c.toNat ≠ 48 := fun e => hc (UInt8.toNat_inj.1 e)
      have e1 : valD 0 ((c :: r).take 18) = valD (c.toNat - 48) (r.take 17) := by
        show valD (0 * 10 + (c.toNat - 48)) (r.take 17) = _
        rw [Nat.zero_mul, Nat.zero_add]
      have g1 := valD_pow (r.take 17) (c.toNat - 48) (by omega)
      rw [← e1, List.length_take] at g1
      have g2 : valD 0 (c :: r) = valD (valD 0 ((c :: r).take 18)) ((c :: r).drop 18) := by rw [← valD_append, List.take_append_drop]
      have g3 := valD_ge ((c :: r).drop 18) (valD 0 ((c :: r).take 18))
      rw [← g2] at g3
      rw [List.length_cons] at h1
      rw [Nat.min_eq_left (by omega)] at g1
      generalize valD 0 ((c :: r).take 18) = X at g1 g3
      generalize valD 0 (c :: r) = Y at g3
      clear e1 g2
      omega
end Go.Proofs.YtlamgdibnnmbmaaDoor.PRead
end
