/- Part 27 of the proof of SyntaxExprsUptoSaid: The law SyntaxExprs, where the tree that it reads is of bulk at most 1048576: it returns true; the tree reads behind the call as it read before. Out of the plain theorem of YtlamgdibnnmbmaaPureSyntaxExprs and the printed contract. -/
import Derived.Test.YtlamgdibnnmbmaaQSyntaxExprsUpto25
section
namespace Go.Proofs.Ytlamgdibnnmbmaa.PSyn
open Go.RowKit Go.Proofs.YtlamgdibnnmbmaaW.PrintWords Go.Proofs.YtlamgdibnnmbmaaW.PrintLast Go.Proofs.YtlamgdibnnmbmaaW.PrintMore
set_option linter.unusedVariables false
set_option linter.unusedSimpArgs false
theorem cls_same : ∀ i ∈ List.range 122, (rd_T73 formsL (i : Int)).f0.data.toList = (rd_T89 shapesL (i : Int)).f0.data.toList := by decide +kernel
theorem cls_small : ∀ i ∈ List.range 122, (rd_T73 formsL (i : Int)).f0.data.toList.length ≤ 100 := by decide +kernel
def toB (l : List UInt8) : List ByteArray := l.map fun c => ofL [c]
theorem toB_length (l : List UInt8) : (toB l).length = l.length := by simp [toB]
theorem toB_snoc (l : List UInt8) (c : UInt8) : toB l ++ [ofL [c]] = toB (l ++ [c]) := by simp [toB]
def resB (r : List UInt8 × Bool) : List ByteArray × Bool := (toB r.1, r.2)
theorem ofL_size (l : List UInt8) : (ofL l).size = l.length := rfl
theorem ofL_tail (c : UInt8) (r : List UInt8) : (ofL (c :: r)).extract 1 (ofL (c :: r)).size = ofL r := ba_ext (by rw [extract_list]; simp [ofL, ByteArray.size])
theorem ofL_head (c : UInt8) (r : List UInt8) : (ofL (c :: r)).extract 0 1 = ofL [c] := ba_ext (by rw [extract_list]; simp [ofL])
theorem bt_ofL0 (c : UInt8) (r : List UInt8) : bt (ofL (c :: r)) 0 = (c.toNat : Int) := (bt_cons (ofL (c :: r)) 0 (r := r) (c := c) rfl).2.1
theorem u8_lit (m : UInt8) (n : UInt8) : ((m.toNat : Int) = (n.toNat : Int)) ↔ m = n := ⟨fun h => UInt8.toNat_inj.1 (by omega), fun h => by rw [h]⟩
section
variable (kids : List S27) (hk : kids.length ≤ 2000000)
include hk
theorem taken_many (P : ByteArray) (c m : UInt8) (hm : m = 42 ∨ m = 43) (R : List ByteArray × Bool) : ∀ (ks : List Int) (out : List UInt8) (n : Nat), n ≤ out.length → (kids.map S27.f0).drop out.length = ks → out.length ≤ kids.length →
    Ev (fun k => maskref1_taken.j6 k formsL P kids (toB (out ++ List.replicate (ks.takeWhile fun k => decide (k ≠ 0) && hasB k c).length c)) (ofL [m]) ((n + (ks.takeWhile fun k => decide (k ≠ 0) && hasB k c).length : Nat) : Int)) R →
    Ev (fun k => maskref1_taken.l1 k formsL P kids (toB out) (ofL [c]) (ofL [m]) (n : Int)) R := by
  intro ks
  induction ks with
  | nil =>
    intro out n hn hd hl hj
    have := kind_none kids hd
    simp only [List.takeWhile_nil, List.length_nil, List.replicate_zero, List.append_nil] at hj
    refine Ev.step (fun k => by rw [maskref1_taken.l1]) ?_
    rw [toB_length]
    exact Ev.neg (by omega) hj
  | cons q r ih =>
    intro out n hn hd hl hj
    obtain ⟨hlt, hq, hr⟩ := kind_at kids hd
    have j5 : ∀ b : Bool, (decide (q ≠ 0) && hasB q c) = b → Ev (fun k => maskref1_taken.j5 k formsL P kids (toB out) (ofL [c]) (ofL [m]) (n : Int) b) R := by
      intro b hb
      refine Ev.step (fun k => by rw [maskref1_taken.j5]) ?_
      cases b with
      | false =>
        rw [List.takeWhile_cons_of_neg (by rw [hb]; decide)] at hj
        simp only [List.length_nil, List.replicate_zero, List.append_nil, Nat.add_zero] at hj
        exact Ev.neg (by decide) hj
      | true =>
        rw [List.takeWhile_cons_of_pos (by rw [hb])] at hj
        refine Ev.pos rfl (Ev.pos (by rw [toB_length]; omega) ?_)
        rw [toB_snoc, w64 (n := (n : Int) + 1) (by omega)]
        refine ih (out ++ [c]) (n + 1) (by simp; omega) (by rw [List.length_append]; exact hr) (by simp; omega) ?_
        rw [List.append_assoc, show [c] ++ List.replicate (List.takeWhile (fun k => decide (k ≠ 0) && hasB k c) r).length c = List.replicate (List.takeWhile (fun k => decide (k ≠ 0) && hasB k c) r).length.succ c from rfl]
        rw [List.length_cons] at hj
        rw [show n + 1 + (List.takeWhile (fun k => decide (k ≠ 0) && hasB k c) r).length = n + ((List.takeWhile (fun k => decide (k ≠ 0) && hasB k c) r).length + 1) by omega]
        exact hj
    have j4 : ∀ y1 y2 y3 y4 y5 y6 y7 y8 y9, Ev (fun k => maskref1_taken.j4 k formsL P kids (toB out) (ofL [c]) (ofL [m]) (n : Int) true q y1 y2 y3 y4 y5 y6 y7 y8 y9) R := by
      intro y1 y2 y3 y4 y5 y6 y7 y8 y9
      refine Ev.step (fun k => by rw [maskref1_taken.j4]) (Ev.pos rfl ?_)
      by_cases h0 : q = 0
      · exact Ev.pos h0 (j5 false (by rw [h0]; rfl))
      · refine Ev.neg h0 ?_
        rw [forms_len]
        by_cases hp : q > 0
        · refine Ev.pos hp ?_
          by_cases hl2 : q < ((122 : Nat) : Int)
          · refine Ev.pos hl2 (Ev.pos (by omega) ?_)
            have hqn : q.toNat ∈ List.range 122 := List.mem_range.2 (by omega)
            have hqe : ((q.toNat : Nat) : Int) = q := by omega
            have hs := cls_small _ hqn
            have he := cls_same _ hqn
            rw [hqe] at hs he
            refine Ev.bind (contains_ev _ c (by simpa using (show (rd_T73 formsL q).f0.data.toList.length ≤ 100000 by omega))) ?_
            refine j5 _ ?_
            rw [he, decide_eq_true h0, Bool.true_and]
            unfold hasB
            rw [decide_eq_true (show 0 ≤ q ∧ q < 122 from ⟨by omega, by omega⟩), Bool.true_and]; rfl
          · refine Ev.neg hl2 (j5 false ?_)
            unfold hasB
            rw [decide_eq_false (show ¬ (0 ≤ q ∧ q < 122) by omega), Bool.false_and, Bool.and_false]
        · refine Ev.neg hp (j5 false ?_)
          unfold hasB
          rw [decide_eq_false (show ¬ (0 ≤ q ∧ q < 122) by omega), Bool.false_and, Bool.and_false]
    refine Ev.step (fun k => by rw [maskref1_taken.l1]) ?_
    rw [toB_length]
    refine Ev.pos (by omega) (Ev.pos (by omega) ?_)
    rw [hq, ofL_toList]
    rcases hm with rfl | rfl
    · exact Ev.pos rfl (j4 ..)
    · exact Ev.neg (by decide) (j4 ..)
theorem taken_one (P : ByteArray) (c m : UInt8) (ms : List UInt8) (hm : ¬ (m = 42 ∨ m = 43)) (hms : ms = [m] ∨ (ms = [] ∧ m = 0)) (R : List ByteArray × Bool) (ks : List Int) (out : List UInt8) (hd : (kids.map S27.f0).drop out.length = ks) (hl : out.length ≤ kids.length)
    (hj : Ev (fun k => maskref1_taken.j6 k formsL P kids (toB (out ++ List.replicate (takenN c m ks) c)) (ofL ms) (takenN c m ks : Int)) R) :
    Ev (fun k => maskref1_taken.l1 k formsL P kids (toB out) (ofL [c]) (ofL ms) 0) R := by
  have n42 : ¬ (ms = [42]) := by
    rcases hms with rfl | ⟨rfl, _⟩
    · intro h; injection h with h; exact hm (.inl h)
    · simp
  have n43 : (ms == ([43] : List UInt8)) = false := by
    rw [beq_eq_false_iff_ne]
    rcases hms with rfl | ⟨rfl, _⟩
    · intro h; injection h with h; exact hm (.inr h)
    · simp
  have e63 : (ms == ([63] : List UInt8)) = decide (m = 63) := by
    rw [Bool.eq_iff_iff, beq_iff_eq, decide_eq_true_iff]
    rcases hms with rfl | ⟨rfl, rfl⟩
    · simp
    · decide
  unfold takenN at hj
  rw [if_neg hm] at hj
  have round : ∀ (o : List UInt8) (n : Int) (F : Nat → Option (List ByteArray × Bool)) , o.length < kids.length → (∀ y1 y2 y3 y4 y5 y6 y7 y8 y9, Ev (fun k => maskref1_taken.j4 k formsL P kids (toB o) (ofL [c]) (ofL ms) n false (rd_T27 kids (o.length : Int)).f0 y1 y2 y3 y4 y5 y6 y7 y8 y9) R) → Ev (fun k => maskref1_taken.l1 k formsL P kids (toB o) (ofL [c]) (ofL ms) n) R := by
    intro o n _ hlt h
    refine Ev.step (fun k => by rw [maskref1_taken.l1]) ?_
    rw [toB_length, ofL_toList, n43]
    exact Ev.pos (by omega) (Ev.pos (by omega) (Ev.neg n42 (h ..)))
  have fin : ∀ (o : List UInt8) (n : Int), Ev (fun k => maskref1_taken.j6 k formsL P kids (toB o) (ofL ms) n) R → Ev (fun k => maskref1_taken.j5 k formsL P kids (toB o) (ofL [c]) (ofL ms) n false) R := fun o n h =>
    Ev.step (fun k => by rw [maskref1_taken.j5]) (Ev.neg (by decide) h)
  have stop : ∀ o : List UInt8, Ev (fun k => maskref1_taken.j6 k formsL P kids (toB o) (ofL ms) 1) R → Ev (fun k => maskref1_taken.l1 k formsL P kids (toB o) (ofL [c]) (ofL ms) 1) R := by
    intro o h
    by_cases hlt : o.length < kids.length
    · refine round o 1 (fun _ => none) hlt ?_
      intro y1 y2 y3 y4 y5 y6 y7 y8 y9
      exact Ev.step (fun k => by rw [maskref1_taken.j4]) (Ev.neg (by decide) (Ev.neg (by decide) (fin _ _ h)))
    · refine Ev.step (fun k => by rw [maskref1_taken.l1]) ?_
      rw [toB_length]
      exact Ev.neg (by omega) h
  cases ks with
  | nil =>
    have := kind_none kids hd
    simp only [List.replicate_zero, List.append_nil] at hj
    refine Ev.step (fun k => by rw [maskref1_taken.l1]) ?_
    rw [toB_length]
    exact Ev.neg (by omega) hj
  | cons q r =>
    obtain ⟨hlt, hq, hr⟩ := kind_at kids hd
    have yes : (q ≠ 0 ∨ m = 63) → Ev (fun k => maskref1_taken.j5 k formsL P kids (toB out) (ofL [c]) (ofL ms) 0 true) R := by
      intro h
      simp only [h, if_true, List.replicate_one] at hj
      refine Ev.step (fun k => by rw [maskref1_taken.j5]) (Ev.pos rfl (Ev.pos (by rw [toB_length]; omega) ?_))
      rw [toB_snoc, w64 (n := (0 : Int) + 1) (by omega)]
      exact stop _ hj
    refine round out 0 (fun _ => none) hlt ?_
    intro y1 y2 y3 y4 y5 y6 y7 y8 y9
    refine Ev.step (fun k => by rw [maskref1_taken.j4]) (Ev.neg (by decide) (Ev.pos rfl ?_))
    rw [hq, ofL_toList, e63]
    by_cases h0 : q = 0
    · refine Ev.pos h0 ?_
      by_cases h63 : m = 63
      · rw [decide_eq_true h63]; exact yes (.inr h63)
      · rw [decide_eq_false h63]
        have : ¬ (q ≠ 0 ∨ m = 63) := by rintro (h | h) <;> contradiction
        simp only [this, if_false, List.replicate_zero, List.append_nil] at hj
        exact fin _ _ hj
    · exact Ev.neg h0 (yes (.inl h0))
theorem taken_elem (P : List UInt8) (c m : UInt8) (ms : List UInt8) (hms : ms = [m] ∨ (ms = [] ∧ m = 0)) (ps : List (UInt8 × UInt8)) (ks : List Int) (out : List UInt8) (hd : (kids.map S27.f0).drop out.length = ks) (hl : out.length ≤ kids.length)
    (hn : Ev (fun k => maskref1_taken.l0 k formsL (ofL P) kids (toB (out ++ List.replicate (takenN c m ks) c))) (resB (matchS ps (ks.drop (takenN c m ks)) (out ++ List.replicate (takenN c m ks) c)))) :
    Ev (fun k => maskref1_taken.j2 k formsL (ofL P) kids (toB out) (ofL [c]) (ofL ms)) (resB (matchS ((c, m) :: ps) ks out)) := by
  have e42 : ms = [42] ↔ m = 42 := by
    rcases hms with rfl | ⟨rfl, rfl⟩
    · simp
    · decide
  have j6 : Ev (fun k => maskref1_taken.j6 k formsL (ofL P) kids (toB (out ++ List.replicate (takenN c m ks) c)) (ofL ms) (takenN c m ks : Int)) (resB (matchS ((c, m) :: ps) ks out)) := by
    refine Ev.step (fun k => by rw [maskref1_taken.j6]) ?_
    rw [matchS, ofL_toList]
    by_cases h0 : takenN c m ks = 0
    · refine Ev.pos (by omega) ?_
      by_cases h42 : m = 42
      · rw [if_neg (fun h => h.2 h42)]
        exact Ev.pos (e42.2 h42) hn
      · rw [if_pos ⟨h0, h42⟩]
        exact Ev.neg (fun h => h42 (e42.1 h)) (Ev.now _)
    · rw [if_neg (fun h => h0 h.1)]
      exact Ev.neg (by omega) hn
  refine Ev.step (fun k => by rw [maskref1_taken.j2]) ?_
  by_cases hm : m = 42 ∨ m = 43
  · obtain rfl : ms = [m] := by
      rcases hms with h | ⟨_, rfl⟩
      · exact h
      · exact absurd hm (by decide)
    have e : takenN c m ks = (ks.takeWhile fun k => decide (k ≠ 0) && hasB k c).length := by unfold takenN; rw [if_pos hm]
    rw [e] at j6
    exact taken_many kids hk (ofL P) c m hm _ ks out 0 (Nat.zero_le _) hd hl (by rw [Nat.zero_add]; exact j6)
  · exact taken_one kids hk (ofL P) c m ms hm hms _ ks out hd hl j6
theorem taken_l0 : ∀ (n : Nat) (pl : List UInt8) (out : List UInt8) (ks : List Int), pl.length ≤ n → (kids.map S27.f0).drop out.length = ks → out.length ≤ kids.length →
    Ev (fun k => maskref1_taken.l0 k formsL (ofL pl) kids (toB out)) (resB (matchS (parseP pl) ks out)) := by
  intro n
  induction n with
  | zero =>
    intro pl out ks hn hd hl
    have : pl = [] := List.length_eq_zero_iff.1 (by omega)
    subst this
    refine Ev.step (fun k => by rw [maskref1_taken.l0]) (Ev.pos (by rw [ofL_toList]) ((Ev.now _).eq ?_))
    rw [toB_length, parseP, matchS]
    unfold resB
    congr 1
    rw [← hd, Bool.eq_iff_iff, beq_iff_eq, List.isEmpty_iff, List.drop_eq_nil_iff, List.length_map]
    omega
  | succ n ih =>
    intro pl out ks hn hd hl
    cases pl with
    | nil => exact ih [] out ks (Nat.zero_le _) hd hl
    | cons c rest =>
      have hkl : ks.length = kids.length - out.length := by rw [← hd]; simp
      have next : ∀ (m : UInt8) (q : List UInt8), q.length ≤ n →
          Ev (fun k => maskref1_taken.l0 k formsL (ofL q) kids (toB (out ++ List.replicate (takenN c m ks) c))) (resB (matchS (parseP q) (ks.drop (takenN c m ks)) (out ++ List.replicate (takenN c m ks) c))) := by
        intro m q hq
        have ht := takenN_le c m ks
        refine ih q _ _ hq ?_ (by rw [List.length_append, List.length_replicate]; omega)
        rw [List.length_append, List.length_replicate, ← List.drop_drop, hd]
      have plain : parseP (c :: rest) = (c, 0) :: parseP rest → Ev (fun k => maskref1_taken.j1 k formsL (ofL rest) kids (toB out) (ofL [c]) (⟨#[]⟩ : ByteArray) false) (resB (matchS (parseP (c :: rest)) ks out)) := by
        intro e
        rw [e]
        refine Ev.step (fun k => by rw [maskref1_taken.j1]) (Ev.neg (by decide) ?_)
        exact taken_elem kids hk rest c 0 [] (.inr ⟨rfl, rfl⟩) _ ks out hd hl (next 0 rest (by simpa using hn))
      refine Ev.step (fun k => by rw [maskref1_taken.l0]) ?_
      rw [ofL_toList, ofL_tail, ofL_head, ofL_toList, ofL_size, ofL_size]
      refine Ev.neg (by simp) (Ev.pos (by omega) (Ev.pos (by rw [List.length_cons]; omega) ?_))
      cases rest with
      | nil => exact Ev.pos rfl (plain (by simp [parseP]))
      | cons m r =>
        refine Ev.neg (by simp) (Ev.pos (by rw [List.length_cons]; omega) ?_)
        rw [bt_ofL0]
        have mark : (m = 42 ∨ m = 43 ∨ m = 63) → Ev (fun k => maskref1_taken.j1 k formsL (ofL (m :: r)) kids (toB out) (ofL [c]) (⟨#[]⟩ : ByteArray) true) (resB (matchS (parseP (c :: m :: r)) ks out)) := by
          intro hm
          have e : parseP (c :: m :: r) = (c, m) :: parseP r := by rw [parseP]; rw [if_pos hm]
          rw [e]
          refine Ev.step (fun k => by rw [maskref1_taken.j1]) (Ev.pos rfl (Ev.pos (by omega) ?_))
          rw [ofL_tail, ofL_head, ofL_size]
          refine Ev.pos (by rw [List.length_cons]; omega) ?_
          exact taken_elem kids hk r c m [m] (.inl rfl) _ ks out hd hl (next m r (by simp at hn; omega))
        have l42 : ((m.toNat : Int) = 42) ↔ m = 42 := u8_lit m 42
        have l43 : ((m.toNat : Int) = 43) ↔ m = 43 := u8_lit m 43
        have l63 : ((m.toNat : Int) = 63) ↔ m = 63 := u8_lit m 63
        by_cases h42 : m = 42
        · exact Ev.pos (l42.2 h42) (mark (.inl h42))
        refine Ev.neg (fun h => h42 (l42.1 h)) ?_
        by_cases h43 : m = 43
        · exact Ev.pos (l43.2 h43) (mark (.inr (.inl h43)))
        refine Ev.neg (fun h => h43 (l43.1 h)) ?_
        by_cases h63 : m = 63
        · rw [show ((m.toNat : Int) == 63) = true from beq_iff_eq.2 (l63.2 h63)]
          exact mark (.inr (.inr h63))
        · rw [show ((m.toNat : Int) == 63) = false from beq_eq_false_iff_ne.2 (fun h => h63 (l63.1 h))]
          exact plain (by rw [parseP]; rw [if_neg (by simp [h42, h43, h63])])
theorem taken_ev (pl : List UInt8) : Ev (fun k => maskref1_taken.f k formsL (ofL pl) kids) (resB (matchS (parseP pl) (kids.map S27.f0) [])) := by
  unfold maskref1_taken.f
  exact taken_l0 kids hk _ pl [] _ (Nat.le_refl _) (List.drop_zero ..) (Nat.zero_le _)
end
end Go.Proofs.Ytlamgdibnnmbmaa.PSyn
end
