/- Part 25 of the proof of SyntaxExprsUptoSaid: The law SyntaxExprs, where the tree that it reads is of bulk at most 1048576: it returns true; the tree reads behind the call as it read before. Out of the plain theorem of YtlamgdibnnmbmaaPureSyntaxExprs and the printed contract. -/
import Derived.Test.YtlamgdibnnmbmaaQSyntaxExprsUpto20
import Derived.Test.YtlamgdibnnmbmaaQSyntaxExprsUpto23
import Derived.Lib.IndexAny
section
namespace Go.Proofs.Ytlamgdibnnmbmaa.PSyn
open Go.RowKit Go.Proofs.YtlamgdibnnmbmaaW.PrintWords Go.Proofs.YtlamgdibnnmbmaaW.PrintLast Go.Proofs.YtlamgdibnnmbmaaW.PrintMore
set_option linter.unusedVariables false
set_option linter.unusedSimpArgs false
theorem toU8 (c : UInt8) : ((c.toNat : Nat) : Int).toNat.toUInt8 = c := by rw [Int.toNat_natCast]; exact UInt8.ofNat_toNat
theorem indexByte_is (s : ByteArray) (c : UInt8) : strings_IndexByte.f s (c.toNat : Int) = some (Lib.indexByte s.data.toList c) := by
  unfold strings_IndexByte.f; rw [toU8]
def clsOf (kind : Int) : List UInt8 := (rd_T89 shapesL kind).f0.data.toList
def hasB (kind : Int) (c : UInt8) : Bool := decide (0 ≤ kind ∧ kind < 122) && (clsOf kind).contains c
theorem shapes_len : shapesL.length = 122 := by decide +kernel
theorem forms_len : formsL.length = 122 := by decide +kernel
theorem has_is (kind : Int) (c : UInt8) : syntax_has.f shapesL kind (c.toNat : Int) = some (hasB kind c) := by
  unfold syntax_has.f hasB
  rw [shapes_len, indexByte_is]
  by_cases h1 : kind ≥ 0
  · rw [if_pos h1]
    by_cases h2 : kind < ((122 : Nat) : Int)
    · rw [if_pos h2, if_pos h1]
      show some (decide (Lib.indexByte (clsOf kind) c ≥ 0)) = _
      rw [Lib.contains_iff_indexByte, decide_eq_true (show 0 ≤ kind ∧ kind < 122 from ⟨h1, by omega⟩), Bool.true_and]
    · rw [if_neg h2, decide_eq_false (fun h => h2 (by omega)), Bool.false_and]
  · rw [if_neg h1, decide_eq_false (fun h => h1 h.1), Bool.false_and]
theorem contains_l0 (s : ByteArray) (c : UInt8) (hs : s.size ≤ 100000) : ∀ (rest : List UInt8) (i : Nat), s.data.toList.drop i = rest → i ≤ s.size → Ev (fun k => maskref1_contains.l0 k s (ofL [c]) (i : Int)) (rest.contains c) := by
  have e1 : (ofL [c]).size = 1 := rfl
  intro rest
  induction rest with
  | nil =>
    intro i hr hi
    have := bt_none s i hr
    refine Ev.step (fun k => by rw [maskref1_contains.l0]) ?_
    rw [e1, w64 (n := (i : Int) + ((1 : Nat) : Int)) (by omega)]
    exact Ev.neg (by omega) (Ev.now _)
  | cons b r ih =>
    intro i hr hi
    obtain ⟨hlt, hb, hr'⟩ := bt_cons s i hr
    have ih := ih (i + 1) hr' (by omega)
    refine Ev.step (fun k => by rw [maskref1_contains.l0]) ?_
    rw [e1, w64 (n := (i : Int) + ((1 : Nat) : Int)) (by omega), w64 (n := (i : Int) + 1) (by omega)]
    refine Ev.pos (by omega) (Ev.pos (by omega) (Ev.pos (by omega) ?_))
    have he : (s.extract (i : Int).toNat ((i : Int) + ((1 : Nat) : Int)).toNat).toList = [b] := by
      rw [ByteArray.toList_eq, extract_list, show ((i : Int) + ((1 : Nat) : Int)).toNat = i + 1 by omega, Int.toNat_natCast]
      have hl : i < s.data.toList.length := by simpa using hlt
      rw [List.take_succ_eq_append_getElem hl, List.drop_append_of_le_length (by simp; omega)]
      rw [List.drop_eq_getElem_cons hl] at hr
      injection hr with h1 _
      rw [h1, List.drop_eq_nil_of_le (by simp; omega)]; rfl
    rw [he, ofL_toList]
    by_cases hbc : b = c
    · subst hbc
      exact Ev.pos rfl ((Ev.now _).eq (by simp))
    · refine Ev.neg (by simpa using hbc) (ih.eq ?_)
      rw [List.contains_cons]
      have : (c == b) = false := beq_eq_false_iff_ne.mpr (fun h => hbc h.symm)
      rw [this, Bool.false_or]
theorem contains_ev (s : ByteArray) (c : UInt8) (hs : s.size ≤ 100000) : Ev (fun k => maskref1_contains.f k s (ofL [c])) (s.data.toList.contains c) := by
  unfold maskref1_contains.f
  exact contains_l0 s c hs _ 0 (List.drop_zero ..) (Nat.zero_le _)
def parseP : List UInt8 → List (UInt8 × UInt8)
  | [] => []
  | [c] => [(c, 0)]
  | c :: m :: r => if m = 42 ∨ m = 43 ∨ m = 63 then (c, m) :: parseP r else (c, 0) :: parseP (m :: r)
def takenN (c m : UInt8) (ks : List Int) : Nat :=
  if m = 42 ∨ m = 43 then (ks.takeWhile fun k => decide (k ≠ 0) && hasB k c).length
  else match ks with
    | [] => 0
    | k :: _ => if k ≠ 0 ∨ m = 63 then 1 else 0
def matchS : List (UInt8 × UInt8) → List Int → List UInt8 → List UInt8 × Bool
  | [], ks, out => (out, ks.isEmpty)
  | (c, m) :: ps, ks, out => if takenN c m ks = 0 ∧ m ≠ 42 then ([], false) else matchS ps (ks.drop (takenN c m ks)) (out ++ List.replicate (takenN c m ks) c)
def toI (l : List UInt8) : List Int := l.map fun c => (c.toNat : Int)
theorem toI_length (l : List UInt8) : (toI l).length = l.length := by simp [toI]
theorem toI_snoc (l : List UInt8) (c : UInt8) : toI l ++ [(c.toNat : Int)] = toI (l ++ [c]) := by simp [toI]
theorem kind_at (kids : List S27) {i : Nat} {k : Int} {r : List Int} (h : (kids.map S27.f0).drop i = k :: r) : i < kids.length ∧ (rd_T27 kids (i : Int)).f0 = k ∧ (kids.map S27.f0).drop (i + 1) = r := by
  have hl : i < (kids.map S27.f0).length := by
    rcases Nat.lt_or_ge i (kids.map S27.f0).length with h1 | h1
    · exact h1
    · rw [List.drop_eq_nil_of_le h1] at h; cases h
  rw [List.drop_eq_getElem_cons hl] at h
  injection h with h1 h2
  have hl' : i < kids.length := by simpa using hl
  refine ⟨hl', ?_, h2⟩
  rw [rd27 _ _ hl', ← h1, List.getElem_map]
theorem kind_none (kids : List S27) {i : Nat} (h : (kids.map S27.f0).drop i = []) : kids.length ≤ i := by
  have := List.drop_eq_nil_iff.1 h
  simpa using this
section
variable (pat : ByteArray) (kids : List S27) (hk : kids.length ≤ 2000000)
include hk
theorem match_many (c m : UInt8) (hm : m = 42 ∨ m = 43) (x9 from_ : Int) (R : List Int × Bool) : ∀ (ks : List Int) (out : List UInt8), (kids.map S27.f0).drop out.length = ks → out.length ≤ kids.length →
    Ev (fun k => syntax_match.j6 k shapesL pat kids (toI (out ++ List.replicate (ks.takeWhile fun k => decide (k ≠ 0) && hasB k c).length c)) x9 (m.toNat : Int) from_) R →
    Ev (fun k => syntax_match.l1 k shapesL pat kids (toI out) x9 (c.toNat : Int) (m.toNat : Int) from_) R := by
  have hm42 : ((m.toNat : Int) = 42 ∨ (m.toNat : Int) = 43) := by
    rcases hm with rfl | rfl
    · exact .inl rfl
    · exact .inr rfl
  have hm63 : (m.toNat : Int) ≠ 63 := by rcases hm with rfl | rfl <;> decide
  intro ks
  induction ks with
  | nil =>
    intro out hd hl hj
    have := kind_none kids hd
    simp only [List.takeWhile_nil, List.length_nil, List.replicate_zero, List.append_nil] at hj
    refine Ev.step (fun k => by rw [syntax_match.l1]) ?_
    rw [toI_length]
    refine Ev.neg (by omega) ?_
    exact Ev.step (fun k => by rw [syntax_match.j4]) (Ev.neg (by decide) hj)
  | cons q r ih =>
    intro out hd hl hj
    obtain ⟨hlt, hq, hr⟩ := kind_at kids hd
    have j5 : ∀ b : Bool, (decide (q ≠ 0) && hasB q c) = !b → Ev (fun k => syntax_match.j5 k shapesL pat kids (toI out) x9 (c.toNat : Int) (m.toNat : Int) from_ b) R := by
      intro b hb
      refine Ev.step (fun k => by rw [syntax_match.j5]) ?_
      cases b with
      | true =>
        rw [List.takeWhile_cons_of_neg (by rw [hb]; decide)] at hj
        simp only [List.length_nil, List.replicate_zero, List.append_nil] at hj
        exact Ev.pos rfl hj
      | false =>
        rw [List.takeWhile_cons_of_pos (by rw [hb]; rfl)] at hj
        refine Ev.neg (by decide) (Ev.pos (by rw [toI_length]; omega) ?_)
        rw [toI_snoc]
        refine ih (out ++ [c]) (by rw [List.length_append]; exact hr) (by simp; omega) ?_
        rw [List.append_assoc, show [c] ++ List.replicate (List.takeWhile (fun k => decide (k ≠ 0) && hasB k c) r).length c = List.replicate (List.takeWhile (fun k => decide (k ≠ 0) && hasB k c) r).length.succ c from rfl]
        exact hj
    have j4 : Ev (fun k => syntax_match.j4 k shapesL pat kids (toI out) x9 (c.toNat : Int) (m.toNat : Int) from_ true) R := by
      refine Ev.step (fun k => by rw [syntax_match.j4]) ?_
      rw [toI_length, hq]
      refine Ev.pos rfl (Ev.pos (by omega) (Ev.pos (by omega) ?_))
      by_cases h0 : q = 0
      · exact Ev.pos h0 (Ev.neg hm63 (j5 true (by rw [h0]; rfl)))
      · refine Ev.neg h0 ?_
        have hh : ∀ b, hasB q c = b → Ev (fun k => syntax_match.j5 k shapesL pat kids (toI out) x9 (c.toNat : Int) (m.toNat : Int) from_ (!b)) R := fun b hb => j5 (!b) (by rw [hb, decide_eq_true h0]; cases b <;> rfl)
        by_cases h42 : (m.toNat : Int) = 42
        · exact Ev.pos h42 (Ev.bnd (has_is q c) (hh _ rfl))
        · have h43 : (m.toNat : Int) = 43 := hm42.resolve_left h42
          exact Ev.neg h42 (Ev.pos h43 (Ev.bnd (has_is q c) (hh _ rfl)))
    refine Ev.step (fun k => by rw [syntax_match.l1]) ?_
    rw [toI_length]
    refine Ev.pos (by omega) ?_
    by_cases h42 : (m.toNat : Int) = 42
    · exact Ev.pos h42 j4
    · exact Ev.neg h42 (Ev.pos (hm42.resolve_left h42) j4)
theorem match_one (c m : UInt8) (hm : ¬ (m = 42 ∨ m = 43)) (x9 : Int) (R : List Int × Bool) (ks : List Int) (out : List UInt8) (hd : (kids.map S27.f0).drop out.length = ks) (hl : out.length ≤ kids.length)
    (hj : Ev (fun k => syntax_match.j6 k shapesL pat kids (toI (out ++ List.replicate (takenN c m ks) c)) x9 (m.toNat : Int) (out.length : Int)) R) :
    Ev (fun k => syntax_match.l1 k shapesL pat kids (toI out) x9 (c.toNat : Int) (m.toNat : Int) (out.length : Int)) R := by
  have n42 : (m.toNat : Int) ≠ 42 := fun h => hm (.inl (UInt8.toNat_inj.1 (by have : (42 : UInt8).toNat = 42 := rfl; omega)))
  have n43 : (m.toNat : Int) ≠ 43 := fun h => hm (.inr (UInt8.toNat_inj.1 (by have : (43 : UInt8).toNat = 43 := rfl; omega)))
  have e63 : ((m.toNat : Int) = 63) ↔ m = 63 := ⟨fun h => UInt8.toNat_inj.1 (by have : (63 : UInt8).toNat = 63 := rfl; omega), fun h => by rw [h]; rfl⟩
  unfold takenN at hj
  rw [if_neg hm] at hj
  have stop : ∀ o : List UInt8, o.length ≠ out.length → Ev (fun k => syntax_match.j6 k shapesL pat kids (toI o) x9 (m.toNat : Int) (out.length : Int)) R → Ev (fun k => syntax_match.l1 k shapesL pat kids (toI o) x9 (c.toNat : Int) (m.toNat : Int) (out.length : Int)) R := by
    intro o ho h
    have j4 : Ev (fun k => syntax_match.j4 k shapesL pat kids (toI o) x9 (c.toNat : Int) (m.toNat : Int) (out.length : Int) false) R := Ev.step (fun k => by rw [syntax_match.j4]) (Ev.neg (by decide) h)
    refine Ev.step (fun k => by rw [syntax_match.l1]) ?_
    rw [toI_length]
    by_cases hlt : (o.length : Int) < (kids.length : Int)
    · refine Ev.pos hlt (Ev.neg n42 (Ev.neg n43 ?_))
      rw [show ((o.length : Int) == (out.length : Int)) = false from beq_eq_false_iff_ne.mpr (by omega)]
      exact j4
    · exact Ev.neg hlt j4
  cases ks with
  | nil =>
    have := kind_none kids hd
    simp only [List.replicate_zero, List.append_nil] at hj
    refine Ev.step (fun k => by rw [syntax_match.l1]) ?_
    rw [toI_length]
    refine Ev.neg (by omega) ?_
    exact Ev.step (fun k => by rw [syntax_match.j4]) (Ev.neg (by decide) hj)
  | cons q r =>
    obtain ⟨hlt, hq, hr⟩ := kind_at kids hd
    have yes : (q ≠ 0 ∨ m = 63) → Ev (fun k => syntax_match.j5 k shapesL pat kids (toI out) x9 (c.toNat : Int) (m.toNat : Int) (out.length : Int) false) R := by
      intro h
      simp only [h, if_true, List.replicate_one] at hj
      refine Ev.step (fun k => by rw [syntax_match.j5]) (Ev.neg (by decide) (Ev.pos (by rw [toI_length]; omega) ?_))
      rw [toI_snoc]
      exact stop _ (by simp) hj
    refine Ev.step (fun k => by rw [syntax_match.l1]) ?_
    rw [toI_length]
    refine Ev.pos (by omega) (Ev.neg n42 (Ev.neg n43 ?_))
    rw [beq_self_eq_true]
    refine Ev.step (fun k => by rw [syntax_match.j4]) ?_
    rw [toI_length, hq]
    refine Ev.pos rfl (Ev.pos (by omega) (Ev.pos (by omega) ?_))
    by_cases h0 : q = 0
    · refine Ev.pos h0 ?_
      by_cases h63 : m = 63
      · exact Ev.pos (e63.2 h63) (yes (.inr h63))
      · refine Ev.neg (fun h => h63 (e63.1 h)) ?_
        have : ¬ (q ≠ 0 ∨ m = 63) := by rintro (h | h) <;> contradiction
        simp only [this, if_false, List.replicate_zero, List.append_nil] at hj
        exact Ev.step (fun k => by rw [syntax_match.j5]) (Ev.pos rfl hj)
    · exact Ev.neg h0 (Ev.neg n42 (Ev.neg n43 (yes (.inl h0))))
end
end Go.Proofs.Ytlamgdibnnmbmaa.PSyn
end
