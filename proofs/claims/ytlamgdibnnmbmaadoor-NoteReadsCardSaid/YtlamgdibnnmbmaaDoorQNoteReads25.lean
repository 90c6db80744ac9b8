/- Part 26 of the proof of NoteReadsCardSaid: The law NoteReads: for all arguments it returns true; each argument reads behind the call as it read before. Out of the plain theorem of YtlamgdibnnmbmaaDoorPureNoteReads and the printed contract. -/
import Derived.Test.YtlamgdibnnmbmaaDoorQNoteReads24
import Derived.Lib.IndexBytes
section
namespace Go.Proofs.YtlamgdibnnmbmaaDoor.PRead
open Go.RowKit Go.Proofs.YtlamgdibnnmbmaaDoorW.PrintWords Go.Proofs.YtlamgdibnnmbmaaDoorW.PrintLast Go.Proofs.YtlamgdibnnmbmaaDoorW.PrintMore
set_option linter.unusedVariables false
set_option linter.unusedSimpArgs false
set_option linter.unusedSectionVars false
def cutC (c : UInt8) : List UInt8 → List UInt8 × Option (List UInt8)
  | [] => ([], none)
  | x :: r => if x = c then ([], some r) else (x :: (cutC c r).1, (cutC c r).2)
theorem cutC_none (c : UInt8) : ∀ {l : List UInt8}, (cutC c l).2 = none → (cutC c l).1 = l
  | [], _ => rfl
  | x :: r, h => by
    unfold cutC at h ⊢
    split at h
    · cases h
    · rename_i h1
      rw [if_neg h1]
      exact congrArg _ (cutC_none c h)
theorem cutC_some (c : UInt8) : ∀ {l b : List UInt8}, (cutC c l).2 = some b → l = (cutC c l).1 ++ c :: b
  | [], _, h => by cases h
  | x :: r, b, h => by
    unfold cutC at h ⊢
    split at h
    · rename_i h1
      rw [if_pos h1, h1]
      injection h with h
      rw [h]; rfl
    · rename_i h1
      rw [if_neg h1]
      exact congrArg _ (cutC_some c h)
theorem index_cut (c : UInt8) : ∀ l : List UInt8, Lib.index l [c] = match (cutC c l).2 with | none => -1 | some _ => ((cutC c l).1.length : Int)
  | [] => by rfl
  | x :: r => by
    rw [Lib.index, index_cut c r]
    conv => rhs; rw [cutC]
    by_cases h : x = c
    · subst h
      simp [List.isPrefixOf]
    · have hp : List.isPrefixOf [c] (x :: r) = false := by simp [List.isPrefixOf]; exact fun e => h e.symm
      rw [hp, if_neg h]
      cases h2 : (cutC c r).2 with
      | none => rfl
      | some b =>
        have : ¬ ((((cutC c r).1.length : Int) == -1) = true) := by rw [beq_iff_eq]; omega
        simp only [Bool.false_eq_true, if_false, List.length_cons]
        rw [if_neg this]; omega
theorem cut_is (c : UInt8) (l : List UInt8) : Lib.cut l [c] = ((cutC c l).1, ((cutC c l).2.getD []), (cutC c l).2.isSome) := by
  unfold Lib.cut
  rw [index_cut]
  cases h : (cutC c l).2 with
  | none =>
    rw [cutC_none c h]; rfl
  | some b =>
    have e := cutC_some c h
    simp only []
    rw [if_pos (by omega), Int.toNat_natCast]
    generalize (cutC c l).1 = a at e
    subst e
    simp
theorem cutC_len (c : UInt8) (l : List UInt8) : (cutC c l).1.length ≤ l.length := by
  induction l with
  | nil => exact Nat.le_refl _
  | cons x r ih =>
    unfold cutC
    split
    · exact Nat.zero_le _
    · exact Nat.succ_le_succ ih
def p3 (l : List UInt8) : Option (List UInt8 × List UInt8 × List UInt8 × List UInt8) :=
  (cutC 58 l).2.bind fun r1 => (cutC 58 r1).2.bind fun r2 => (cutC 58 r2).2.bind fun r3 => some ((cutC 58 l).1, (cutC 58 r1).1, (cutC 58 r2).1, r3)
theorem splitB_cut (k : Nat) (l : List UInt8) : Lib.splitB ⟨#[58]⟩ 0 (k + 1) (ofL l) = match (cutC 58 l).2 with | none => [ofL l] | some r => ofL (cutC 58 l).1 :: Lib.splitB ⟨#[58]⟩ 0 k (ofL r) := by
  have hi : Lib.indexB (ofL l) ⟨#[58]⟩ = Lib.index l [58] := rfl
  rw [index_cut] at hi
  cases h : (cutC 58 l).2 with
  | none =>
    rw [h] at hi
    exact Lib.splitB_miss _ _ _ _ hi
  | some r =>
    rw [h] at hi
    rw [Lib.splitB_hit _ _ _ _ _ hi]
    have e := cutC_some 58 h
    have e1 : (ofL l).extract 0 ((cutC 58 l).1.length + 0) = ofL (cutC 58 l).1 := by
      refine ba_ext ?_
      rw [extract_list]
      show (l.take _).drop 0 = _
      generalize (cutC 58 l).1 = a at e
      rw [e]; simp
    have e2 : (ofL l).extract ((cutC 58 l).1.length + (⟨#[58]⟩ : ByteArray).size) (ofL l).size = ofL r := by
      refine ba_ext ?_
      rw [extract_list]
      show (l.take l.length).drop ((cutC 58 l).1.length + 1) = _
      generalize (cutC 58 l).1 = a at e
      rw [e, List.take_length, show a ++ 58 :: r = (a ++ [58]) ++ r by simp]
      exact List.drop_left' (by simp)
    rw [e1, e2]
theorem split_full (l : List UInt8) : Lib.splitB ⟨#[58]⟩ 0 3 (ofL l) = match p3 l with
    | some (a, b, c, d) => [ofL a, ofL b, ofL c, ofL d]
    | none => Lib.splitB ⟨#[58]⟩ 0 3 (ofL l) := by
  cases h : p3 l with
  | none => rfl
  | some x =>
    obtain ⟨a, b, c, d⟩ := x
    unfold p3 at h
    obtain ⟨r1, h1, h⟩ := Option.bind_eq_some_iff.1 h
    obtain ⟨r2, h2, h⟩ := Option.bind_eq_some_iff.1 h
    obtain ⟨r3, h3, h⟩ := Option.bind_eq_some_iff.1 h
    injection h with h
    injection h with e1 h
    injection h with e2 h
    injection h with e3 e4
    simp only []
    rw [splitB_cut, h1, ← e1, ← e2, ← e3, ← e4]
    simp only []
    rw [splitB_cut, h2]
    simp only []
    rw [splitB_cut, h3]
    rfl
theorem split_short (l : List UInt8) (k : Nat) (h : p3 l = none) (hk : k ≤ 3) : (Lib.splitB ⟨#[58]⟩ 0 k (ofL l)).length < 4 := by
  match k, hk with
  | 0, _ => have := Lib.splitB_length_le ⟨#[58]⟩ 0 0 (ofL l); omega
  | 1, _ => have := Lib.splitB_length_le ⟨#[58]⟩ 0 1 (ofL l); omega
  | 2, _ => have := Lib.splitB_length_le ⟨#[58]⟩ 0 2 (ofL l); omega
  | 3, _ =>
    unfold p3 at h
    rw [splitB_cut]
    cases h1 : (cutC 58 l).2 with
    | none => simp
    | some r1 =>
      rw [h1, Option.bind_some] at h
      simp only []
      rw [splitB_cut]
      cases h2 : (cutC 58 r1).2 with
      | none => simp
      | some r2 =>
        rw [h2, Option.bind_some] at h
        simp only []
        rw [splitB_cut]
        cases h3 : (cutC 58 r2).2 with
        | none => simp
        | some r3 => rw [h3, Option.bind_some] at h; cases h
def valD (acc : Nat) (l : List UInt8) : Nat := l.foldl (fun n c => n * 10 + (c.toNat - 48)) acc
def digits (l : List UInt8) : Bool := l.all (inB 48 57 [])
theorem digit_is {c : UInt8} (h : inB 48 57 [] c = true) : 48 ≤ c.toNat ∧ c.toNat ≤ 57 := by
  unfold inB at h
  rw [List.contains_nil, Bool.not_false, Bool.and_true, Bool.not_eq_true', Bool.or_eq_false_iff, decide_eq_false_iff_not, decide_eq_false_iff_not] at h
  omega
theorem decFrom_is : ∀ (l : List UInt8) (acc : Nat), digits l = true → Lib.decFrom acc l = some (valD acc l)
  | [], _, _ => rfl
  | c :: r, acc, h => by
    unfold digits at h
    rw [List.all_cons, Bool.and_eq_true] at h
    obtain ⟨h1, h2⟩ := digit_is h.1
    rw [Lib.decFrom, Lib.digitVal, if_pos ⟨h1, h2⟩]
    exact decFrom_is r _ h.2
theorem atoi_is (l : List UInt8) (h : digits l = true) (h0 : l ≠ []) : Lib.atoi l = some ((valD 0 l : Nat) : Int) := by
  match l, h0 with
  | c :: r, _ =>
    have h' := h
    unfold digits at h'
    rw [List.all_cons, Bool.and_eq_true] at h'
    obtain ⟨h1, h2⟩ := digit_is h'.1
    have n1 : ¬ ((c == 45) = true) := fun e => by rw [beq_iff_eq.1 e] at h1; exact absurd h1 (by decide)
    have n2 : ¬ ((c == 43) = true) := fun e => by rw [beq_iff_eq.1 e] at h1; exact absurd h1 (by decide)
    rw [Lib.atoi, if_neg n1, if_neg n2, Lib.decNat]
    simp only [List.isEmpty_cons, Bool.false_eq_true, if_false]
    rw [decFrom_is _ _ h]; rfl
theorem valD_ge (l : List UInt8) : ∀ acc, acc ≤ valD acc l := by
  induction l with
  | nil => exact fun acc => Nat.le_refl _
  | cons c r ih => exact fun acc => Nat.le_trans (show acc ≤ acc * 10 + (c.toNat - 48) by omega) (ih _)
theorem valD_append (l m : List UInt8) (acc : Nat) : valD acc (l ++ m) = valD (valD acc l) m := by unfold valD; rw [List.foldl_append]
theorem valD_pow (l : List UInt8) : ∀ acc, 1 ≤ acc → 10 ^ l.length ≤ valD acc l := by
  induction l with
  | nil => exact fun acc h => h
  | cons c r ih =>
    intro acc h
    have h1 : ∀ (r : List UInt8) (a b : Nat), a ≤ b → valD a r ≤ valD b r := by
      intro r
      induction r with
      | nil => exact fun a b h => h
      | cons d r ih => exact fun a b h => ih _ _ (show a * 10 + (d.toNat - 48) ≤ b * 10 + (d.toNat - 48) by omega)
    have h2 : ∀ (r : List UInt8) (a : Nat), 10 ^ r.length * a ≤ valD a r := by
      intro r
      induction r with
      | nil => intro a; show 1 * a ≤ a; omega
      | cons d r ih =>
        intro a
        have := ih (a * 10 + (d.toNat - 48))
        refine Nat.le_trans ?_ this
        rw [List.length_cons, Nat.pow_succ, Nat.mul_assoc]
        exact Nat.mul_le_mul_left _ (by omega)
    exact Nat.le_trans (Nat.le_mul_of_pos_right _ h) (h2 (c :: r) acc)
end Go.Proofs.YtlamgdibnnmbmaaDoor.PRead
end
