/- Part 26 of the proof of SyntaxExprsUptoSaid: The law SyntaxExprs, where the tree that it reads is of bulk at most 1048576: it returns true; the tree reads behind the call as it read before. Out of the plain theorem of YtlamgdibnnmbmaaPureSyntaxExprs and the printed contract. -/
import Derived.Test.YtlamgdibnnmbmaaQSyntaxExprsUpto24
section
namespace Go.Proofs.Ytlamgdibnnmbmaa.PSyn
open Go.RowKit Go.Proofs.YtlamgdibnnmbmaaW.PrintWords Go.Proofs.YtlamgdibnnmbmaaW.PrintLast Go.Proofs.YtlamgdibnnmbmaaW.PrintMore
set_option linter.unusedVariables false
set_option linter.unusedSimpArgs false
theorem takenN_le (c m : UInt8) (ks : List Int) : takenN c m ks ≤ ks.length := by
  unfold takenN
  split
  · exact (List.takeWhile_sublist _).length_le
  · cases ks with
    | nil => exact Nat.le_refl _
    | cons q r => simp only; split <;> simp
def resI (r : List UInt8 × Bool) : List Int × Bool := (toI r.1, r.2)
section
variable (pat : ByteArray) (hp : pat.size ≤ 100000) (kids : List S27) (hk : kids.length ≤ 2000000)
include hp hk
theorem match_elem (c m : UInt8) (j : Nat) (hj : j ≤ pat.size) (ps : List (UInt8 × UInt8)) (ks : List Int) (out : List UInt8) (hd : (kids.map S27.f0).drop out.length = ks) (hl : out.length ≤ kids.length)
    (hn : Ev (fun k => syntax_match.l0 k shapesL pat kids (toI (out ++ List.replicate (takenN c m ks) c)) ((j + 1 : Nat) : Int)) (resI (matchS ps (ks.drop (takenN c m ks)) (out ++ List.replicate (takenN c m ks) c)))) :
    Ev (fun k => syntax_match.j2 k shapesL pat kids (toI out) (j : Int) (c.toNat : Int) (m.toNat : Int)) (resI (matchS ((c, m) :: ps) ks out)) := by
  have j6 : Ev (fun k => syntax_match.j6 k shapesL pat kids (toI (out ++ List.replicate (takenN c m ks) c)) (j : Int) (m.toNat : Int) (out.length : Int)) (resI (matchS ((c, m) :: ps) ks out)) := by
    refine Ev.step (fun k => by rw [syntax_match.j6]) ?_
    rw [toI_length, List.length_append, List.length_replicate, w64 (n := (j : Int) + 1) (by omega)]
    rw [matchS]
    have e42 : ((m.toNat : Int) = 42) ↔ m = 42 := ⟨fun h => UInt8.toNat_inj.1 (by have : (42 : UInt8).toNat = 42 := rfl; omega), fun h => by rw [h]; rfl⟩
    by_cases h42 : m = 42
    · rw [if_neg (fun h => h.2 h42)]
      exact Ev.pos (e42.2 h42) hn
    · refine Ev.neg (fun h => h42 (e42.1 h)) ?_
      by_cases h0 : takenN c m ks = 0
      · rw [if_pos ⟨h0, h42⟩]
        exact Ev.pos (by omega) (Ev.now _)
      · rw [if_neg (fun h => h0 h.1)]
        exact Ev.neg (by omega) hn
  refine Ev.step (fun k => by rw [syntax_match.j2]) ?_
  rw [toI_length]
  by_cases hm : m = 42 ∨ m = 43
  · have e : takenN c m ks = (ks.takeWhile fun k => decide (k ≠ 0) && hasB k c).length := by unfold takenN; rw [if_pos hm]
    rw [e] at j6
    exact match_many pat kids hk c m hm (j : Int) (out.length : Int) _ ks out hd hl j6
  · exact match_one pat kids hk c m hm (j : Int) _ ks out hd hl j6
theorem match_l0 : ∀ (n : Nat) (pl : List UInt8) (i : Nat) (out : List UInt8) (ks : List Int), pl.length ≤ n → pat.data.toList.drop i = pl → i ≤ pat.size → (kids.map S27.f0).drop out.length = ks → out.length ≤ kids.length →
    Ev (fun k => syntax_match.l0 k shapesL pat kids (toI out) (i : Int)) (resI (matchS (parseP pl) ks out)) := by
  intro n
  induction n with
  | zero =>
    intro pl i out ks hn hpl hi hd hl
    have : pl = [] := List.length_eq_zero_iff.1 (by omega)
    subst this
    have hi2 := bt_none pat i hpl
    refine Ev.step (fun k => by rw [syntax_match.l0]) (Ev.neg (by omega) ((Ev.now _).eq ?_))
    rw [toI_length, parseP, matchS]
    unfold resI
    congr 1
    rw [← hd, Bool.eq_iff_iff, beq_iff_eq, List.isEmpty_iff, List.drop_eq_nil_iff, List.length_map]
    omega
  | succ n ih =>
    intro pl i out ks hn hpl hi hd hl
    cases pl with
    | nil => exact ih [] i out ks (Nat.zero_le _) hpl hi hd hl
    | cons c rest =>
      obtain ⟨hlt, hb, hr⟩ := bt_cons pat i hpl
      have hkl : ks.length = kids.length - out.length := by rw [← hd]; simp
      have next : ∀ (m : UInt8) (j : Nat) (q : List UInt8), q.length ≤ n → pat.data.toList.drop (j + 1) = q → j + 1 ≤ pat.size →
          Ev (fun k => syntax_match.l0 k shapesL pat kids (toI (out ++ List.replicate (takenN c m ks) c)) ((j + 1 : Nat) : Int)) (resI (matchS (parseP q) (ks.drop (takenN c m ks)) (out ++ List.replicate (takenN c m ks) c))) := by
        intro m j q hq hdq hj
        have ht := takenN_le c m ks
        refine ih q (j + 1) _ _ hq hdq hj ?_ (by rw [List.length_append, List.length_replicate]; omega)
        rw [List.length_append, List.length_replicate, ← List.drop_drop, hd]
      have plain : parseP (c :: rest) = (c, 0) :: parseP rest → Ev (fun k => syntax_match.j1 k shapesL pat kids (toI out) (i : Int) (c.toNat : Int) 0 false) (resI (matchS (parseP (c :: rest)) ks out)) := by
        intro e
        rw [e]
        refine Ev.step (fun k => by rw [syntax_match.j1]) (Ev.neg (by decide) ?_)
        exact match_elem pat hp kids hk c 0 i hi _ ks out hd hl (next 0 i rest (by simpa using hn) hr (by omega))
      refine Ev.step (fun k => by rw [syntax_match.l0]) (Ev.pos (by omega) (Ev.pos (by omega) ?_))
      rw [hb, w64 (n := (i : Int) + 1) (by omega)]
      cases rest with
      | nil =>
        have := bt_none pat (i + 1) hr
        exact Ev.neg (by omega) (plain (by simp [parseP]))
      | cons m r =>
        obtain ⟨hlt2, hb2, hr2⟩ := bt_cons pat (i + 1) hr
        have hb2' : bt pat ((i : Int) + 1) = (m.toNat : Int) := hb2
        refine Ev.pos (by omega) (Ev.pos (by omega) ?_)
        rw [hb2']
        refine Ev.bnd (indexByte_is _ m) ?_
        have e3 : decide (Lib.indexByte (⟨#[42, 43, 63]⟩ : ByteArray).data.toList m ≥ 0) = ([42, 43, 63] : List UInt8).contains m := by
          rw [Lib.contains_iff_indexByte]
        rw [e3]
        by_cases hm : m = 42 ∨ m = 43 ∨ m = 63
        · have hc : ([42, 43, 63] : List UInt8).contains m = true := by rcases hm with rfl | rfl | rfl <;> rfl
          have e : parseP (c :: m :: r) = (c, m) :: parseP r := by rw [parseP]; rw [if_pos hm]
          rw [hc, e]
          refine Ev.step (fun k => by rw [syntax_match.j1]) (Ev.pos rfl ?_)
          rw [w64 (n := (i : Int) + 1) (by omega)]
          refine Ev.pos (by omega) (Ev.pos (by omega) ?_)
          rw [hb2']
          refine match_elem pat hp kids hk c m (i + 1) (by omega) _ ks out hd hl (next m (i + 1) r (by simp at hn; omega) hr2 (by omega))
        · have hc : ([42, 43, 63] : List UInt8).contains m = false := by
            rw [Bool.eq_false_iff]
            intro h
            apply hm
            simpa using h
          rw [hc]
          exact plain (by rw [parseP]; rw [if_neg hm])
theorem match_ev : Ev (fun k => syntax_match.f k shapesL pat kids) (resI (matchS (parseP pat.data.toList) (kids.map S27.f0) [])) := by
  unfold syntax_match.f
  exact match_l0 pat hp kids hk _ pat.data.toList 0 [] _ (Nat.le_refl _) (List.drop_zero ..) (Nat.zero_le _) (List.drop_zero ..) (Nat.zero_le _)
end
end Go.Proofs.Ytlamgdibnnmbmaa.PSyn
end
