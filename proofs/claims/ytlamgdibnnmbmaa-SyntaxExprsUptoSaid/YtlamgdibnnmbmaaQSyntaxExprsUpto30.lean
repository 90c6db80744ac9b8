/- Part 31 of the proof of SyntaxExprsUptoSaid: The law SyntaxExprs, where the tree that it reads is of bulk at most 1048576: it returns true; the tree reads behind the call as it read before. Out of the plain theorem of YtlamgdibnnmbmaaPureSyntaxExprs and the printed contract. -/
import Derived.Test.YtlamgdibnnmbmaaQSyntaxExprsUpto26
import Derived.Test.YtlamgdibnnmbmaaQSyntaxExprsUpto28
import Derived.Test.YtlamgdibnnmbmaaQSyntaxExprsUpto29
section
namespace Go.Proofs.Ytlamgdibnnmbmaa.PSyn
open Go.RowKit Go.Proofs.YtlamgdibnnmbmaaW.PrintWords Go.Proofs.YtlamgdibnnmbmaaW.PrintLast Go.Proofs.YtlamgdibnnmbmaaW.PrintMore
set_option linter.unusedVariables false
set_option linter.unusedSimpArgs false
def quotB (c : UInt8) : Bool := decide ((c.toNat : Int) > 32) && (decide ((c.toNat : Int) ≤ 126) && !([46, 91, 93, 96, 34, 92] : List UInt8).contains c)
theorem quotable_is (c : UInt8) : lex_quotable.f (c.toNat : Int) = some (quotB c) := by
  unfold lex_quotable.f quotB
  rw [indexByte_is]
  by_cases h1 : (c.toNat : Int) > 32
  · rw [if_pos h1, decide_eq_true h1, Bool.true_and]
    by_cases h2 : (c.toNat : Int) ≤ 126
    · rw [if_pos h2, decide_eq_true h2, Bool.true_and, Lib.contains_iff_indexByte]
      show some _ = some _
      congr 1
      rw [← decide_not, decide_eq_decide]
      show Lib.indexByte [46, 91, 93, 96, 34, 92] c < 0 ↔ _
      omega
    · rw [if_neg h2, decide_eq_false h2, Bool.false_and]
  · rw [if_neg h1, decide_eq_false h1, Bool.false_and]
def quotedB (l : List UInt8) : Bool := decide (1 ≤ l.length ∧ l.length ≤ 40) && l.all quotB
theorem Quoted_l0 (s : ByteArray) (hs : s.size ≤ 1048576) : ∀ (r : List UInt8) (i : Nat), s.data.toList.drop i = r → i ≤ s.size → Ev (fun k => lex_Quoted.l0 k s (s.size : Int) (i : Int)) (r.all quotB) := by
  intro r
  induction r with
  | nil =>
    intro i hr hi
    have := bt_none s i hr
    refine Ev.step (fun k => by rw [lex_Quoted.l0]) ?_; exact Ev.neg (by omega) (Ev.now _)
  | cons c r ih =>
    intro i hr hi
    obtain ⟨hlt, hb, hr'⟩ := bt_cons s i hr
    refine Ev.step (fun k => by rw [lex_Quoted.l0]) (Ev.pos (by omega) (Ev.pos (by omega) (Ev.pos (by omega) ?_)))
    rw [hb, w64 (n := (i : Int) + 1) (by omega)]
    refine Ev.bnd (quotable_is c) ?_
    rw [List.all_cons]
    cases quotB c with
    | true => exact Ev.pos rfl (ih (i + 1) hr' (by omega))
    | false => exact Ev.neg (by decide) (Ev.now _)
theorem size_list (s : ByteArray) : s.data.toList.length = s.size := by simp
theorem Quoted_ev (s : ByteArray) (hs : s.size ≤ 1048576) : Ev (fun k => lex_Quoted.f k s) (quotedB s.data.toList) := by
  unfold lex_Quoted.f quotedB
  rw [size_list]
  have no : ¬ (1 ≤ s.size ∧ s.size ≤ 40) → Ev (fun k => lex_Quoted.j0 k s true) (decide (1 ≤ s.size ∧ s.size ≤ 40) && s.data.toList.all quotB) := by
    intro h
    rw [decide_eq_false h]
    refine Ev.step (fun k => by rw [lex_Quoted.j0]) ?_; exact Ev.pos rfl (Ev.now _)
  by_cases h1 : (s.size : Int) < 1
  · exact Ev.pos h1 (no (by omega))
  · refine Ev.neg h1 ?_
    by_cases h2 : (s.size : Int) > 40
    · rw [decide_eq_true h2]; exact no (by omega)
    · rw [decide_eq_false h2, decide_eq_true (show 1 ≤ s.size ∧ s.size ≤ 40 by omega), Bool.true_and]
      refine Ev.step (fun k => by rw [lex_Quoted.j0]) ?_; exact Ev.neg (by decide) (Quoted_l0 s hs _ 0 (List.drop_zero ..) (Nat.zero_le _))
def inB (lo hi : Int) (but : List UInt8) (c : UInt8) : Bool := (!(decide ((c.toNat : Int) < lo) || decide ((c.toNat : Int) > hi))) && !but.contains c
section
variable (s : ByteArray) (hs : s.size ≤ 1048576) (lo hi : Int) (but : ByteArray) (hb : but.size ≤ 100)
include hs hb
theorem within_l1 (c : UInt8) (i : Nat) (hc : bt s (i : Int) = (c.toNat : Int)) (hi2 : i < s.size) (R : Bool) : ∀ (q : List UInt8) (j : Nat), but.data.toList.drop j = q → j ≤ but.size →
    Ev (fun k => maskref1_within.l0 k s lo hi but (s.size : Int) ((i : Int) + 1)) R →
    Ev (fun k => maskref1_within.l1 k s lo hi but (i : Int) (s.size : Int) (i : Int) (but.size : Int) (j : Int)) (!q.contains c && R) := by
  intro q
  induction q with
  | nil =>
    intro j hj hjl h
    have := bt_none but j hj
    refine Ev.step (fun k => by rw [maskref1_within.l1]) (Ev.neg (by omega) ?_)
    rw [w64 (n := (i : Int) + 1) (by omega)]
    exact h
  | cons d q ih =>
    intro j hj hjl h
    obtain ⟨hlt, hd, hj'⟩ := bt_cons but j hj
    refine Ev.step (fun k => by rw [maskref1_within.l1]) (Ev.pos (by omega) (Ev.pos (by omega) (Ev.pos (by omega) (Ev.pos (by omega) (Ev.pos (by omega) ?_)))))
    rw [hc, hd, w64 (n := (j : Int) + 1) (by omega), List.contains_cons]
    by_cases he : c = d
    · subst he
      rw [beq_self_eq_true, Bool.true_or]
      exact Ev.pos rfl (Ev.now _)
    · refine Ev.neg (fun h => he ((u8_lit c d).1 h)) ?_
      rw [beq_eq_false_iff_ne.2 he, Bool.false_or]
      exact ih (j + 1) hj' (by omega) h
theorem within_l0 : ∀ (r : List UInt8) (i : Nat), s.data.toList.drop i = r → i ≤ s.size → Ev (fun k => maskref1_within.l0 k s lo hi but (s.size : Int) (i : Int)) (r.all (inB lo hi but.data.toList)) := by
  intro r
  induction r with
  | nil =>
    intro i hr hi2
    have := bt_none s i hr
    refine Ev.step (fun k => by rw [maskref1_within.l0]) ?_; exact Ev.neg (by omega) (Ev.now _)
  | cons c r ih =>
    intro i hr hi2
    obtain ⟨hlt, hc, hr'⟩ := bt_cons s i hr
    have ih := ih (i + 1) hr' (by omega)
    have j1 : ∀ b : Bool, Ev (fun k => maskref1_within.j1 k s lo hi but (i : Int) (s.size : Int) (i : Int) b) (((!b) && !but.data.toList.contains c) && r.all (inB lo hi but.data.toList)) := by
      intro b
      refine Ev.step (fun k => by rw [maskref1_within.j1]) ?_
      cases b with
      | true => exact Ev.pos rfl (Ev.now _)
      | false =>
        refine Ev.neg (by decide) ((within_l1 s hs lo hi but hb c i hc hlt _ but.data.toList 0 (List.drop_zero ..) (Nat.zero_le _) ih).eq ?_)
        rw [Bool.not_false, Bool.true_and]
    refine Ev.step (fun k => by rw [maskref1_within.l0]) (Ev.pos (by omega) (Ev.pos (by omega) (Ev.pos (by omega) ?_)))
    rw [hc, List.all_cons]
    unfold inB at j1 ⊢
    by_cases h1 : (c.toNat : Int) < lo
    · refine Ev.pos h1 ((j1 true).eq ?_)
      rw [decide_eq_true h1, Bool.true_or]
    · refine Ev.neg h1 ((j1 _).eq ?_)
      rw [decide_eq_false h1, Bool.false_or]
theorem within_ev : Ev (fun k => maskref1_within.f k s lo hi but) (s.data.toList.all (inB lo hi but.data.toList)) := by
  unfold maskref1_within.f
  exact within_l0 s hs lo hi but hb _ 0 (List.drop_zero ..) (Nat.zero_le _)
end
theorem quot_in : ∀ n : Fin 256, inB 33 126 [46, 91, 93, 34, 92, 96] (UInt8.ofNat n.1) = quotB (UInt8.ofNat n.1) := by decide +kernel
theorem inB_quot (c : UInt8) : inB 33 126 [46, 91, 93, 34, 92, 96] c = quotB c := by
  have := quot_in ⟨c.toNat, c.toNat_lt⟩
  simpa using this
theorem inQuoted_ev (c : UInt8) : Ev (fun k => maskref1_inQuoted.f k (c.toNat : Int)) (quotB c) := by
  unfold maskref1_inQuoted.f
  have e : strOfNums (([(c.toNat : Int)] : List Int)) = ofL [c] := by
    unfold strOfNums ofL
    simp
  rw [e]
  refine Ev.bind (within_ev (ofL [c]) (by rw [ofL_size, List.length_singleton]; decide) 33 126 _ (by decide)) ((Ev.now _).eq ?_)
  show [c].all (inB 33 126 [46, 91, 93, 34, 92, 96]) = quotB c
  simp [inB_quot]
theorem run_l0 (s : ByteArray) (hs : s.size ≤ 1048576) : ∀ (r : List UInt8) (i : Nat), s.data.toList.drop i = r → i ≤ s.size → Ev (fun k => maskref1_run__inQuoted.l0 k s (s.size : Int) (i : Int)) ((i + (r.takeWhile quotB).length : Nat) : Int) := by
  intro r
  induction r with
  | nil =>
    intro i hr hi
    have := bt_none s i hr
    refine Ev.step (fun k => by rw [maskref1_run__inQuoted.l0]) ?_; exact Ev.neg (by omega) ((Ev.now _).eq (by simp; omega))
  | cons c r ih =>
    intro i hr hi
    obtain ⟨hlt, hb, hr'⟩ := bt_cons s i hr
    refine Ev.step (fun k => by rw [maskref1_run__inQuoted.l0]) (Ev.pos (by omega) (Ev.pos (by omega) (Ev.pos (by omega) ?_)))
    rw [hb, w64 (n := (i : Int) + 1) (by omega)]
    refine Ev.bind (inQuoted_ev c) ?_
    by_cases hq : quotB c = true
    · refine Ev.pos hq ((ih (i + 1) hr' (by omega)).eq ?_)
      rw [List.takeWhile_cons_of_pos hq, List.length_cons]
      omega
    · refine Ev.neg hq ((Ev.now _).eq ?_)
      rw [List.takeWhile_cons_of_neg hq]; rfl
theorem takeWhile_all (f : UInt8 → Bool) : ∀ l : List UInt8, (l.takeWhile f).length = l.length ↔ l.all f = true
  | [] => by simp
  | c :: l => by
    have ih := takeWhile_all f l
    rw [List.all_cons]
    by_cases h : f c = true
    · rw [List.takeWhile_cons_of_pos h, List.length_cons, List.length_cons, h, Bool.true_and, ← ih]; omega
    · rw [List.takeWhile_cons_of_neg h, Bool.eq_false_iff.2 h]; simp
theorem QuotedName_ev (s : ByteArray) (hs : s.size ≤ 1048576) : Ev (fun k => maskref1_QuotedName.f k s) (quotedB s.data.toList) := by
  unfold maskref1_QuotedName.f quotedB
  rw [size_list]
  by_cases h1 : (s.size : Int) ≥ 1
  · refine Ev.pos h1 ?_
    by_cases h2 : (s.size : Int) ≤ 40
    · refine Ev.pos h2 ?_
      unfold maskref1_run__inQuoted.f
      refine Ev.bind (run_l0 s hs _ 0 (List.drop_zero ..) (Nat.zero_le _)) ((Ev.now _).eq ?_)
      rw [decide_eq_true (show 1 ≤ s.size ∧ s.size ≤ 40 by omega), Bool.true_and, Bool.eq_iff_iff, beq_iff_eq, ← takeWhile_all, size_list, Nat.zero_add]
      omega
    · rw [decide_eq_false (show ¬ (1 ≤ s.size ∧ s.size ≤ 40) by omega)]
      exact Ev.neg h2 (Ev.now _)
  · rw [decide_eq_false (show ¬ (1 ≤ s.size ∧ s.size ≤ 40) by omega)]
    exact Ev.neg h1 (Ev.now _)
theorem Contains_is (s : ByteArray) (c : UInt8) : strings_Contains.f s (ofL [c]) = some (s.data.toList.contains c) := by
  unfold strings_Contains.f
  rw [if_pos (show (ofL [c]).size = 1 from rfl), Lib.contains_iff_indexByte, bt_ofL0, toU8]
def nz (W V X : Int) : Bool := !(W == 0) || (!(V == 0) || (!(X == 0)))
def fieldS (U name text : List UInt8) (W : Int) (v x : Nat) (sg : Bool) : Int :=
  if (U.contains 78 != (name != [])) = true then 4
  else if (U.contains 78 && !quotedB name) = true then 9
  else if (if U.contains 86 then !okB W v x else nz W v x) = true then 4
  else if (sg && (!U.contains 86 && !U.contains 83)) = true then 4
  else if (text != [] && !U.contains 88) = true then 4
  else if text.length > 200 then 3
  else if text.all (inB 32 126 []) = true then 0 else 4
theorem inB_text (c : UInt8) : inB 32 126 [] c = (!decide ((c.toNat : Int) < 32) && !decide ((c.toNat : Int) > 126)) := by
  unfold inB
  simp
section
variable (u : ByteArray) (hu : u.size ≤ 100000) (A B C : Int) (name text : ByteArray) (hn : name.size ≤ 1048576) (ht : text.size ≤ 1048576) (W : Int) (v x : Nat) (hv : v < 2 ^ 64) (hx : x < 2 ^ 64) (sg : Bool) (kids : List S27)
include hu hn ht hv hx
theorem fields_l0 : ∀ (r : List UInt8) (i : Nat), text.data.toList.drop i = r → i ≤ text.size → Ev (fun k => syntax_fields.l0 k (text.size : Int) (i : Int) A B C name text W v x sg kids) (if r.all (inB 32 126 []) = true then 0 else 4) := by
  have _ := hu
  have _ := hn
  have _ := hv
  have _ := hx
  intro r
  induction r with
  | nil =>
    intro i hr hi
    have := bt_none text i hr
    refine Ev.step (fun k => by rw [syntax_fields.l0]) ?_; exact Ev.neg (by omega) (Ev.now _)
  | cons c r ih =>
    intro i hr hi
    obtain ⟨hlt, hb, hr'⟩ := bt_cons text i hr
    refine Ev.step (fun k => by rw [syntax_fields.l0]) (Ev.pos (by omega) (Ev.pos (by omega) (Ev.pos (by omega) ?_)))
    rw [hb, w64 (n := (i : Int) + 1) (by omega), List.all_cons, inB_text]
    by_cases h1 : (c.toNat : Int) < 32
    · refine Ev.pos h1 ((Ev.now _).eq ?_)
      rw [decide_eq_true h1]; rfl
    · refine Ev.neg h1 ?_
      by_cases h2 : (c.toNat : Int) > 126
      · refine Ev.pos h2 ((Ev.now _).eq ?_)
        rw [decide_eq_true h2, decide_eq_false h1]; rfl
      · refine Ev.neg h2 ((ih (i + 1) hr' (by omega)).eq ?_)
        rw [decide_eq_false h2, decide_eq_false h1]; rfl
theorem fields_ev : Ev (fun k => syntax_fields.f k u A B C name text W v x sg kids) (fieldS u.data.toList name.data.toList text.data.toList W v x sg) := by
  have cN : strings_Contains.f u (⟨#[78]⟩ : ByteArray) = some (u.data.toList.contains 78) := Contains_is u 78
  have cV : strings_Contains.f u (⟨#[86]⟩ : ByteArray) = some (u.data.toList.contains 86) := Contains_is u 86
  have cS : strings_Contains.f u (⟨#[83]⟩ : ByteArray) = some (u.data.toList.contains 83) := Contains_is u 83
  have cX : strings_Contains.f u (⟨#[88]⟩ : ByteArray) = some (u.data.toList.contains 88) := Contains_is u 88
  unfold syntax_fields.f fieldS
  refine Ev.bnd cN (Ev.bnd cV ?_)
  generalize u.data.toList.contains 78 = bN
  generalize hV : u.data.toList.contains 86 = bV
  have e0 : name.toList = name.data.toList := ByteArray.toList_eq ..
  have e1 : text.toList = text.data.toList := ByteArray.toList_eq ..
  rw [e0]
  have j4t : Ev (fun k => syntax_fields.j4 k true A B C name text W v x sg kids) 4 := by refine Ev.step (fun k => by rw [syntax_fields.j4]) ?_; exact Ev.pos rfl (Ev.now _)
  have j4f : Ev (fun k => syntax_fields.j4 k false A B C name text W v x sg kids) (if text.data.toList.length > 200 then 3 else if text.data.toList.all (inB 32 126 []) = true then 0 else 4) := by
    refine Ev.step (fun k => by rw [syntax_fields.j4]) (Ev.neg (by decide) ?_)
    rw [size_list]
    by_cases h : text.size > 200
    · rw [if_pos h]; exact Ev.pos (by omega) (Ev.now _)
    · rw [if_neg h]
      exact Ev.neg (by omega) (fields_l0 u hu A B C name text hn ht W v x hv hx sg kids _ 0 (List.drop_zero ..) (Nat.zero_le _))
  have j3t : Ev (fun k => syntax_fields.j3 k u true A B C name text W v x sg kids) 4 := by refine Ev.step (fun k => by rw [syntax_fields.j3]) ?_; exact Ev.pos rfl j4t
  have j3f : Ev (fun k => syntax_fields.j3 k u false A B C name text W v x sg kids) (if (text.data.toList != [] && !u.data.toList.contains 88) = true then 4 else if text.data.toList.length > 200 then 3 else if text.data.toList.all (inB 32 126 []) = true then 0 else 4) := by
    refine Ev.step (fun k => by rw [syntax_fields.j3]) (Ev.neg (by decide) ?_)
    rw [e1]
    by_cases h : text.data.toList = []
    · refine Ev.pos h (j4f.eq ?_)
      rw [h]; rfl
    · refine Ev.neg h (Ev.bnd cX ?_)
      have : (text.data.toList != []) = true := by simpa using h
      rw [this, Bool.true_and]
      cases u.data.toList.contains 88
      · exact j4t
      · exact j4f
  have j2t : Ev (fun k => syntax_fields.j2 k u bV true A B C name text W v x sg kids) 4 := by refine Ev.step (fun k => by rw [syntax_fields.j2]) ?_; exact Ev.pos rfl j4t
  have j2f : Ev (fun k => syntax_fields.j2 k u bV false A B C name text W v x sg kids) (if (sg && (!bV && !u.data.toList.contains 83)) = true then 4 else if (text.data.toList != [] && !u.data.toList.contains 88) = true then 4 else if text.data.toList.length > 200 then 3 else if text.data.toList.all (inB 32 126 []) = true then 0 else 4) := by
    refine Ev.step (fun k => by rw [syntax_fields.j2]) (Ev.neg (by decide) ?_)
    cases sg with
    | false => exact Ev.neg (by decide) j3f
    | true =>
      refine Ev.pos rfl ?_
      cases bV with
      | true => exact Ev.pos rfl j3f
      | false =>
        refine Ev.neg (by decide) (Ev.bnd cS ?_)
        cases u.data.toList.contains 83
        · exact j3t
        · exact j3f
  have j0f : Ev (fun k => syntax_fields.j0 k u bV false A B C name text W v x sg kids) (if (if bV then !okB W v x else nz W v x) = true then 4 else if (sg && (!bV && !u.data.toList.contains 83)) = true then 4 else if (text.data.toList != [] && !u.data.toList.contains 88) = true then 4 else if text.data.toList.length > 200 then 3 else if text.data.toList.all (inB 32 126 []) = true then 0 else 4) := by
    refine Ev.step (fun k => by rw [syntax_fields.j0]) (Ev.neg (by decide) ?_)
    cases bV with
    | true =>
      refine Ev.pos rfl (Ev.bind (Check_ev W v x hv hx) ?_)
      refine Ev.step (fun k => by rw [syntax_fields.j1]) ?_
      by_cases hok : okB W v x = true
      · obtain ⟨w, rfl, h1, h2, _⟩ := okB_nat hok
        rw [if_neg (show ¬ ((w : Int) < 1 ∨ (w : Int) > 64) by omega), if_pos hok, hok]
        exact Ev.neg (by decide) (Ev.pos rfl j2f)
      · have hne : ((if W < 1 ∨ W > 64 then (2 : Int) else if okB W v x = true then 0 else 4) != 0) = true := by
          rw [if_neg hok]; split <;> rfl
        rw [hne, Bool.eq_false_iff.2 hok]
        exact Ev.pos rfl j4t
    | false =>
      refine Ev.neg (by decide) (Ev.step (fun k => by rw [syntax_fields.j1]) (Ev.neg (by decide) (Ev.neg (by decide) ?_)))
      show Ev (fun k => syntax_fields.j2 k u false (nz W v x) A B C name text W v x sg kids) _
      cases nz W v x
      · exact j2f
      · exact j2t
  by_cases h1 : (bN != (name.data.toList != [])) = true
  · rw [if_pos h1]; exact Ev.pos h1 (Ev.now _)
  · rw [if_neg h1]
    refine Ev.neg h1 ?_
    cases bN with
    | false => exact Ev.neg (by decide) j0f
    | true =>
      refine Ev.pos rfl (Ev.bind (Quoted_ev name hn) ?_)
      cases quotedB name.data.toList
      · refine Ev.step (fun k => by rw [syntax_fields.j0]) ?_; exact Ev.pos rfl (Ev.now _)
      · exact j0f
theorem fieldFault_ev : Ev (fun k => maskref1_fieldFault.f k u A B C name text W v x sg kids) (fieldS u.data.toList name.data.toList text.data.toList W v x sg) := by
  have cN := contains_ev u 78 hu
  have cV := contains_ev u 86 hu
  have cS := contains_ev u 83 hu
  have cX := contains_ev u 88 hu
  unfold maskref1_fieldFault.f fieldS
  refine Ev.bind cV (Ev.bind cN ?_)
  generalize u.data.toList.contains 78 = bN
  generalize hV : u.data.toList.contains 86 = bV
  have e0 : name.toList = name.data.toList := ByteArray.toList_eq ..
  have e1 : text.toList = text.data.toList := ByteArray.toList_eq ..
  rw [e0]
  have j3t : Ev (fun k => maskref1_fieldFault.j3 k true A B C name text W v x sg kids) 4 := by refine Ev.step (fun k => by rw [maskref1_fieldFault.j3]) ?_; exact Ev.pos rfl (Ev.now _)
  have j3f : Ev (fun k => maskref1_fieldFault.j3 k false A B C name text W v x sg kids) (if text.data.toList.length > 200 then 3 else if text.data.toList.all (inB 32 126 []) = true then 0 else 4) := by
    refine Ev.step (fun k => by rw [maskref1_fieldFault.j3]) (Ev.neg (by decide) ?_)
    rw [size_list]
    by_cases h : text.size > 200
    · rw [if_pos h]; exact Ev.pos (by omega) (Ev.now _)
    · rw [if_neg h]
      refine Ev.neg (by omega) (Ev.bind (within_ev text ht 32 126 _ (by decide)) ?_)
      show Ev (fun k => if (text.data.toList.all (inB 32 126 [])) = true then some 0 else some 4) _
      generalize (text.data.toList.all (inB 32 126 [])) = b
      cases b
      · exact Ev.neg (by decide) (Ev.now _)
      · exact Ev.pos rfl (Ev.now _)
  have j2t : Ev (fun k => maskref1_fieldFault.j2 k u true A B C name text W v x sg kids) 4 := by refine Ev.step (fun k => by rw [maskref1_fieldFault.j2]) ?_; exact Ev.pos rfl (Ev.now _)
  have j2f : Ev (fun k => maskref1_fieldFault.j2 k u false A B C name text W v x sg kids) (if (text.data.toList != [] && !u.data.toList.contains 88) = true then 4 else if text.data.toList.length > 200 then 3 else if text.data.toList.all (inB 32 126 []) = true then 0 else 4) := by
    refine Ev.step (fun k => by rw [maskref1_fieldFault.j2]) (Ev.neg (by decide) ?_)
    rw [e1]
    by_cases h : text.data.toList = []
    · refine Ev.pos h (j3f.eq ?_)
      rw [h]; rfl
    · refine Ev.neg h (Ev.bind cX ?_)
      have : (text.data.toList != []) = true := by simpa using h
      rw [this, Bool.true_and]
      cases u.data.toList.contains 88
      · exact j3t
      · exact j3f
  have j1t : Ev (fun k => maskref1_fieldFault.j1 k u bV true A B C name text W v x sg kids) 4 := by refine Ev.step (fun k => by rw [maskref1_fieldFault.j1]) ?_; exact Ev.pos rfl (Ev.now _)
  have j1f : Ev (fun k => maskref1_fieldFault.j1 k u bV false A B C name text W v x sg kids) (if (sg && (!bV && !u.data.toList.contains 83)) = true then 4 else if (text.data.toList != [] && !u.data.toList.contains 88) = true then 4 else if text.data.toList.length > 200 then 3 else if text.data.toList.all (inB 32 126 []) = true then 0 else 4) := by
    refine Ev.step (fun k => by rw [maskref1_fieldFault.j1]) (Ev.neg (by decide) ?_)
    cases sg with
    | false => exact Ev.neg (by decide) j2f
    | true =>
      refine Ev.pos rfl ?_
      cases bV with
      | true => exact Ev.pos rfl j2f
      | false =>
        refine Ev.neg (by decide) (Ev.bind cS ?_)
        cases u.data.toList.contains 83
        · exact j2t
        · exact j2f
  have j0f : Ev (fun k => maskref1_fieldFault.j0 k u bV false A B C name text W v x sg kids) (if (if bV then !okB W v x else nz W v x) = true then 4 else if (sg && (!bV && !u.data.toList.contains 83)) = true then 4 else if (text.data.toList != [] && !u.data.toList.contains 88) = true then 4 else if text.data.toList.length > 200 then 3 else if text.data.toList.all (inB 32 126 []) = true then 0 else 4) := by
    refine Ev.step (fun k => by rw [maskref1_fieldFault.j0]) (Ev.neg (by decide) ?_)
    cases bV with
    | true =>
      refine Ev.pos rfl (Ev.bind (Valid_ev W v x hv hx) ?_)
      cases okB W v x
      · exact Ev.neg (by decide) j1t
      · exact Ev.pos rfl j1f
    | false =>
      refine Ev.neg (by decide) ?_
      show Ev (fun k => maskref1_fieldFault.j1 k u false (nz W v x) A B C name text W v x sg kids) _
      cases nz W v x
      · exact j1f
      · exact j1t
  by_cases h1 : (bN != (name.data.toList != [])) = true
  · rw [if_pos h1]; exact Ev.pos h1 (Ev.now _)
  · rw [if_neg h1]
    refine Ev.neg h1 ?_
    by_cases h2 : name.data.toList = []
    · refine Ev.pos h2 (j0f.eq ?_)
      have : bN = false := by
        cases bN with
        | false => rfl
        | true => exact absurd (by rw [h2]; rfl) h1
      rw [this]; rfl
    · have : bN = true := by
        cases bN with
        | true => rfl
        | false => exact absurd (by simpa using h2) h1
      subst this
      refine Ev.neg h2 (Ev.bind (QuotedName_ev name hn) ?_)
      cases quotedB name.data.toList
      · refine Ev.step (fun k => by rw [maskref1_fieldFault.j0]) ?_; exact Ev.pos rfl (Ev.now _)
      · exact j0f
end
end Go.Proofs.Ytlamgdibnnmbmaa.PSyn
end
