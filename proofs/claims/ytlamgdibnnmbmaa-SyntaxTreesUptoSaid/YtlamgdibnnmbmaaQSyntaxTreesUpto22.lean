/- Part 23 of the proof of SyntaxTreesUptoSaid: The law SyntaxTrees, where the trees that it reads are of bulk at most 1048576: it returns true; the trees read behind the call as it read before. Out of the plain theorem of YtlamgdibnnmbmaaTr5. -/
import Derived.Test.YtlamgdibnnmbmaaQSyntaxTreesUpto18
import Derived.Test.YtlamgdibnnmbmaaQSyntaxTreesUpto20
import Derived.Test.YtlamgdibnnmbmaaQSyntaxTreesUpto21
section
namespace Go.Proofs.Ytlamgdibnnmbmaa.PSyn
open Go.RowKit Go.Proofs.YtlamgdibnnmbmaaW.PrintWords Go.Proofs.YtlamgdibnnmbmaaW.PrintLast Go.Proofs.YtlamgdibnnmbmaaW.PrintMore
set_option linter.unusedVariables false
set_option linter.unusedSimpArgs false
def eqF (a b : S27) : Bool := decide (a.f0 = b.f0) && (decide (a.f3.toList = b.f3.toList) && (decide (a.f4.toList = b.f4.toList) && ((a.f5.f0 == b.f5.f0 && (a.f5.f1 == b.f5.f1 && (a.f5.f2 == b.f5.f2))) && (a.f6 == b.f6))))
mutual
def S27.same : S27 → S27 → Bool
  | ⟨a0, a1, a2, a3, a4, a5, a6, kids⟩, b => eqF ⟨a0, a1, a2, a3, a4, a5, a6, []⟩ b && sameAll kids b.f7
def sameAll : List S27 → List S27 → Bool
  | [], [] => true
  | [], _ :: _ => false
  | _ :: _, [] => false
  | a :: l, b :: m => a.same b && sameAll l m
end
theorem same_eq : ∀ a b : S27, a.same b = (eqF a b && sameAll a.f7 b.f7)
  | ⟨_, _, _, _, _, _, _, _⟩, _ => by simp only [S27.same]; rfl
theorem sameAll_len : ∀ l m : List S27, l.length ≠ m.length → sameAll l m = false
  | [], [], h => absurd rfl h
  | [], _ :: _, _ => by simp only [sameAll]
  | _ :: _, [], _ => by simp only [sameAll]
  | a :: l, b :: m, h => by
    simp only [sameAll]
    rw [sameAll_len l m (fun e => h (by simp [e])), Bool.and_false]
theorem eqF_self (a : S27) : eqF a a = true := by unfold eqF; simp
mutual
theorem same_self : ∀ a : S27, a.same a = true
  | ⟨a0, a1, a2, a3, a4, a5, a6, kids⟩ => by
    simp only [S27.same]
    rw [sameAll_self kids, Bool.and_true]
    exact eqF_self ⟨a0, a1, a2, a3, a4, a5, a6, []⟩
theorem sameAll_self : ∀ l : List S27, sameAll l l = true
  | [] => by simp only [sameAll]
  | a :: l => by simp only [sameAll]; rw [same_self a, sameAll_self l]; rfl
end
def sameF (k : Nat) (a b : S27) : Option Bool := SameR.f k a.f0 a.f1 a.f2 a.f3 a.f4 a.f5.f0 a.f5.f1 a.f5.f2 a.f6 a.f7 b.f0 b.f1 b.f2 b.f3 b.f4 b.f5.f0 b.f5.f1 b.f5.f2 b.f6 b.f7
def refF (k : Nat) (a b : S27) : Option Bool := maskref1_SameTree.f k a.f0 a.f1 a.f2 a.f3 a.f4 a.f5.f0 a.f5.f1 a.f5.f2 a.f6 a.f7 b.f0 b.f1 b.f2 b.f3 b.f4 b.f5.f0 b.f5.f1 b.f5.f2 b.f6 b.f7
theorem eqFn_l0 (us bs : List S27) (hl : us.length = bs.length) (hn : us.length ≤ 1048576) (hk : ∀ x y, x ∈ us → Ev (fun k => sameF k x y) (x.same y)) : ∀ (r : List S27) (i : Nat), us.drop i = r → Ev (fun k => EqFn.l0 k bs us (us.length : Int) (i : Int)) (sameAll r (bs.drop i)) := by
  intro r
  induction r with
  | nil =>
    intro i hr
    have hi : us.length ≤ i := List.drop_eq_nil_iff.1 hr
    refine Ev.step (fun k => by rw [EqFn.l0_succ]) (Ev.neg (by omega) ((Ev.now _).eq ?_))
    rw [List.drop_eq_nil_of_le (by omega)]; simp only [sameAll]
  | cons x r ih =>
    intro i hr
    obtain ⟨hi, hx, hr'⟩ := rd27_cons _ _ hr
    have hxm : x ∈ us := by
      have : x ∈ us.drop i := by rw [hr]; exact List.mem_cons_self
      exact List.mem_of_mem_drop this
    have hib : i < bs.length := by omega
    have hb : bs.drop i = bs[i] :: bs.drop (i + 1) := List.drop_eq_getElem_cons hib
    refine Ev.step (fun k => by rw [EqFn.l0_succ]) (Ev.pos (by omega) (Ev.pos (by omega) (Ev.pos (by omega) (Ev.pos (by omega) ?_))))
    rw [hx, rd27 bs i hib, hb]
    refine Ev.bind (hk x bs[i] hxm) ?_
    simp only [sameAll]
    cases h : x.same bs[i] with
    | false => exact Ev.neg (by decide) ((Ev.now _).eq (by simp))
    | true =>
      refine Ev.pos rfl ?_
      rw [w64 (n := (i : Int) + 1) (by omega), Bool.true_and]
      exact ih (i + 1) hr'
theorem eqFn_ev (us bs : List S27) (hn : us.length ≤ 1048576) (hk : ∀ x y, x ∈ us → Ev (fun k => sameF k x y) (x.same y)) : Ev (fun k => EqFn.f k us bs) (sameAll us bs) := by
  unfold EqFn.f
  by_cases hl : us.length = bs.length
  · exact Ev.pos (by omega) (by simpa using eqFn_l0 us bs hl hn hk us 0 rfl)
  · exact Ev.neg (by omega) ((Ev.now _).eq (sameAll_len us bs hl).symm)
theorem mem_bulk : ∀ (l : List S27) (x : S27), x ∈ l → x.bulk ≤ bulkAll l
  | a :: l, x, h => by
    simp only [bulkAll]
    rcases List.mem_cons.1 h with rfl | h
    · omega
    · have := mem_bulk l x h; omega
theorem same_ev (n : Nat) : ∀ a b : S27, a.bulk ≤ n → a.bulk ≤ 1048576 → Ev (fun k => sameF k a b) (a.same b) := by
  induction n with
  | zero => intro a b h; have := bulk_pos a; omega
  | succ n ih =>
    intro a b ha hB
    have hkb := kids_bulk a
    have hlen := length_le a.f7
    have hE := eqFn_ev a.f7 b.f7 (by omega) (fun x y hx => ih x y (by have := mem_bulk _ _ hx; omega) (by have := mem_bulk _ _ hx; omega))
    unfold sameF SameR.f
    rw [same_eq]
    unfold eqF
    by_cases h0 : a.f0 = b.f0
    · refine Ev.pos h0 ?_
      rw [decide_eq_true h0, Bool.true_and]
      by_cases h1 : a.f3.toList = b.f3.toList
      · refine Ev.pos h1 ?_
        rw [decide_eq_true h1, Bool.true_and]
        by_cases h2 : a.f4.toList = b.f4.toList
        · refine Ev.pos h2 ?_
          rw [decide_eq_true h2, Bool.true_and]
          by_cases h3 : (a.f5.f0 == b.f5.f0 && (a.f5.f1 == b.f5.f1 && (a.f5.f2 == b.f5.f2))) = true
          · refine Ev.pos h3 ?_
            rw [h3, Bool.true_and]
            by_cases h4 : (a.f6 == b.f6) = true
            · refine Ev.pos h4 ?_
              rw [h4, Bool.true_and]
              exact Ev.bind hE (Ev.now _)
            · exact Ev.neg h4 ((Ev.now _).eq (by rw [Bool.eq_false_iff.2 h4]; rfl))
          · exact Ev.neg h3 ((Ev.now _).eq (by rw [Bool.eq_false_iff.2 h3]; rfl))
        · exact Ev.neg h2 ((Ev.now _).eq (by rw [decide_eq_false h2]; rfl))
      · exact Ev.neg h1 ((Ev.now _).eq (by rw [decide_eq_false h1]; rfl))
    · exact Ev.neg h0 ((Ev.now _).eq (by rw [decide_eq_false h0]; rfl))
theorem ref_ev (n : Nat) : ∀ a b : S27, a.bulk ≤ n → a.bulk ≤ 1048576 → Ev (fun k => refF k a b) (a.same b) := by
  induction n with
  | zero => intro a b h; have := bulk_pos a; omega
  | succ n ih =>
    intro a b ha hB
    have hkb := kids_bulk a
    have hlen := length_le a.f7
    have loop : ∀ (r : List S27) (i : Nat), a.f7.drop i = r → a.f7.length = b.f7.length → Ev (fun k => maskref1_SameTree.l0 k (a.f7.length : Int) (i : Int) a.f0 a.f1 a.f2 a.f3 a.f4 a.f5.f0 a.f5.f1 a.f5.f2 a.f6 a.f7 b.f0 b.f1 b.f2 b.f3 b.f4 b.f5.f0 b.f5.f1 b.f5.f2 b.f6 b.f7) (sameAll r (b.f7.drop i)) := by
      intro r
      induction r with
      | nil =>
        intro i hr hl
        have hi : a.f7.length ≤ i := List.drop_eq_nil_iff.1 hr
        refine Ev.step (fun k => by rw [maskref1_SameTree.l0]) (Ev.neg (by omega) ((Ev.now _).eq ?_))
        rw [List.drop_eq_nil_of_le (by omega)]; simp only [sameAll]
      | cons x r ihr =>
        intro i hr hl
        obtain ⟨hi, hx, hr'⟩ := rd27_cons _ _ hr
        have hxm : x ∈ a.f7 := by
          have : x ∈ a.f7.drop i := by rw [hr]; exact List.mem_cons_self
          exact List.mem_of_mem_drop this
        have hxb := mem_bulk _ _ hxm
        have hib : i < b.f7.length := by omega
        have hb : b.f7.drop i = b.f7[i] :: b.f7.drop (i + 1) := List.drop_eq_getElem_cons hib
        refine Ev.step (fun k => by rw [maskref1_SameTree.l0]) (Ev.pos (by omega) (Ev.pos (by omega) (Ev.pos (by omega) (Ev.pos (by omega) ?_))))
        rw [hx, rd27 b.f7 i hib, hb]
        refine Ev.bind (show Ev (fun k => refF k x b.f7[i]) _ from ih x b.f7[i] (by omega) (by omega)) ?_
        simp only [sameAll]
        cases h : x.same b.f7[i] with
        | false => exact Ev.neg (by decide) ((Ev.now _).eq (by simp))
        | true =>
          refine Ev.pos rfl ?_
          rw [w64 (n := (i : Int) + 1) (by omega), Bool.true_and]
          exact ihr (i + 1) hr' hl
    have j0 : ∀ q : Bool, (q = false → a.f7.length = b.f7.length) → Ev (fun k => maskref1_SameTree.j0 k q a.f0 a.f1 a.f2 a.f3 a.f4 a.f5.f0 a.f5.f1 a.f5.f2 a.f6 a.f7 b.f0 b.f1 b.f2 b.f3 b.f4 b.f5.f0 b.f5.f1 b.f5.f2 b.f6 b.f7) (!q && sameAll a.f7 b.f7) := by
      intro q hq
      refine Ev.step (fun k => by rw [maskref1_SameTree.j0]) ?_
      cases q with
      | true => exact Ev.pos rfl (Ev.now _)
      | false => exact Ev.neg (by decide) ((loop a.f7 0 rfl (hq rfl)).eq (by simp))
    have jt := (j0 true (fun h => by cases h)).eq (show (!true && sameAll a.f7 b.f7) = false from rfl)
    refine Ev.step (fun k => by rw [refF, maskref1_SameTree.f]) ?_
    rw [same_eq]
    unfold eqF
    by_cases h0 : a.f0 = b.f0
    · refine Ev.pos h0 ?_
      rw [decide_eq_true h0, Bool.true_and]
      by_cases h1 : a.f3.toList = b.f3.toList
      · refine Ev.pos h1 ?_
        rw [decide_eq_true h1, Bool.true_and]
        by_cases h2 : a.f4.toList = b.f4.toList
        · refine Ev.pos h2 ?_
          rw [decide_eq_true h2, Bool.true_and]
          have e3 : (!(a.f5.f0 == b.f5.f0) || (!(a.f5.f1 == b.f5.f1) || (!(a.f5.f2 == b.f5.f2)))) = !(a.f5.f0 == b.f5.f0 && (a.f5.f1 == b.f5.f1 && (a.f5.f2 == b.f5.f2))) := by
            cases (a.f5.f0 == b.f5.f0) <;> cases (a.f5.f1 == b.f5.f1) <;> cases (a.f5.f2 == b.f5.f2) <;> rfl
          rw [e3]
          cases h3 : (a.f5.f0 == b.f5.f0 && (a.f5.f1 == b.f5.f1 && (a.f5.f2 == b.f5.f2))) with
          | true =>
            refine Ev.neg (by decide) ?_
            rw [Bool.true_and]
            cases h4 : (a.f6 == b.f6) with
            | true =>
              refine Ev.neg (by rw [bne, h4]; decide) ?_
              rw [Bool.true_and]
              refine (j0 _ (fun h => ?_)).eq ?_
              · have := bne_eq_false_iff_eq.1 h; omega
              · by_cases hl : a.f7.length = b.f7.length
                · rw [hl, bne_self_eq_false]; rfl
                · rw [sameAll_len _ _ hl, Bool.and_false]
            | false => exact Ev.pos (by rw [bne, h4]; rfl) jt
          | false => exact Ev.pos rfl jt
        · exact Ev.neg h2 (jt.eq (by rw [decide_eq_false h2]; rfl))
      · exact Ev.neg h1 (jt.eq (by rw [decide_eq_false h1]; rfl))
    · exact Ev.neg h0 (jt.eq (by rw [decide_eq_false h0]; rfl))
theorem file_ev (a b : S27) (hB : a.bulk ≤ 1048576) : Ev (fun k => EqFn.f k [a] [b]) (a.same b) := by
  have := eqFn_ev [a] [b] (by simp) (fun x y hx => by
    obtain rfl := List.mem_singleton.1 hx
    exact same_ev _ x y (Nat.le_refl _) hB)
  refine this.eq ?_
  simp only [sameAll, Bool.and_true]
end Go.Proofs.Ytlamgdibnnmbmaa.PSyn
end
