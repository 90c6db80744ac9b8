/- Part 10 of the proof of NoteSortsCardSaid: The law NoteSorts: for all arguments it returns true; each argument reads behind the call as it read before. Out of the plain theorem of YtlamgdibnnmbmaaDoorPureNoteSorts and the printed contract. -/

section
namespace Go.Proofs.YtlamgdibnnmbmaaDoor.Ns
set_option linter.unusedVariables false
set_option linter.unusedSectionVars false
section
variable {α : Type} [DecidableEq α] (lt : α → α → Bool)
structure Total (lt : α → α → Bool) : Prop where
  irrefl : ∀ x, lt x x = false
  trans : ∀ x y z, lt x y = true → lt y z = true → lt x z = true
  total : ∀ x y, lt x y = true ∨ x = y ∨ lt y x = true
def above (last : Option α) (n : α) : Bool := match last with | none => true | some m => lt m n
def bet (b : Option α) (n : α) : Bool := match b with | none => true | some m => lt n m
def best (last : Option α) (l : List α) : Option α := l.foldl (fun b n => if (above lt last n && bet lt b n) = true then some n else b) none
theorem best_go (hO : Total lt) (last : Option α) : ∀ (l : List α) (b : Option α), (∀ m, b = some m → above lt last m = true) →
    match l.foldl (fun b n => if (above lt last n && bet lt b n) = true then some n else b) b with
    | none => b = none ∧ ∀ n ∈ l, above lt last n = false
    | some m => above lt last m = true ∧ (m ∈ l ∨ b = some m) ∧ (∀ n ∈ l, above lt last n = true → lt n m = false) ∧ (∀ q, b = some q → lt q m = false)
  | [], b, hb => by
    cases b with
    | none => exact ⟨rfl, fun n h => by cases h⟩
    | some q => exact ⟨hb q rfl, .inr rfl, (fun n h => by cases h), fun p hp => by injection hp with hp; rw [hp]; exact hO.irrefl _⟩
  | x :: l, b, hb => by
    rw [List.foldl_cons]
    by_cases hx : (above lt last x && bet lt b x) = true
    · rw [if_pos hx]
      have hx1 := (Bool.and_eq_true _ _ ▸ hx).1
      have hx2 := (Bool.and_eq_true _ _ ▸ hx).2
      have ih := best_go hO last l (some x) (fun m hm => by injection hm with hm; rw [← hm]; exact hx1)
      revert ih
      generalize l.foldl _ (some x) = r
      cases r with
      | none => intro ih; cases ih.1
      | some m =>
        rintro ⟨a1, a2, a3, a4⟩
        refine ⟨a1, .inl ?_, fun n hn hab => ?_, fun q hq => ?_⟩
        · rcases a2 with a2 | a2
          · exact List.mem_cons_of_mem _ a2
          · injection a2 with a2; rw [← a2]; exact List.mem_cons_self
        · rcases List.mem_cons.1 hn with e | e
          · rw [e]; exact a4 x rfl
          · exact a3 n e hab
        · have hxq : lt x q = true := by unfold bet at hx2; rw [hq] at hx2; exact hx2
          have hxm := a4 x rfl
          cases hqm : lt q m with
          | false => rfl
          | true => rw [hO.trans _ _ _ hxq hqm] at hxm; cases hxm
    · rw [if_neg hx]
      have ih := best_go hO last l b hb
      revert ih
      generalize l.foldl _ b = r
      cases r with
      | none =>
        rintro ⟨a1, a2⟩
        refine ⟨a1, fun n hn => ?_⟩
        rcases List.mem_cons.1 hn with e | e
        · rw [e]
          rw [a1] at hx
          unfold bet at hx
          simpa using hx
        · exact a2 n e
      | some m =>
        rintro ⟨a1, a2, a3, a4⟩
        refine ⟨a1, a2.imp (fun h => List.mem_cons_of_mem _ h) id, fun n hn hab => ?_, a4⟩
        rcases List.mem_cons.1 hn with e | e
        · rw [e] at hab ⊢
          rw [hab, Bool.true_and] at hx
          cases b with
          | none => exact absurd rfl hx
          | some q =>
            have hq := a4 q rfl
            unfold bet at hx
            cases hxm : lt x m with
            | false => rfl
            | true =>
              rcases hO.total q x with p | p | p
              · rw [hO.trans _ _ _ p hxm] at hq; cases hq
              · rw [p, hxm] at hq; cases hq
              · exact absurd p hx
        · exact a3 n e hab
theorem best_is (hO : Total lt) {l D : List α} (hD : D.Pairwise (fun x y => lt x y = true)) (hm : ∀ a, a ∈ D ↔ a ∈ l) (i : Nat) (hi : i ≤ D.length) : best lt (if i = 0 then none else D[i - 1]?) l = D[i]? := by
  have hrise : ∀ a b (ha : a < D.length) (hb : b < D.length), a < b → lt D[a] D[b] = true := fun a b ha hb h => List.pairwise_iff_getElem.1 hD a b ha hb h
  have hab : ∀ j (hj : j < D.length), i ≤ j → above lt (if i = 0 then none else D[i - 1]?) D[j] = true := by
    intro j hj hij
    by_cases h0 : i = 0
    · rw [if_pos h0]; rfl
    · rw [if_neg h0, List.getElem?_eq_getElem (by omega)]
      exact hrise (i - 1) j (by omega) hj (by omega)
  have hnot : ∀ j (hj : j < D.length), j < i → above lt (if i = 0 then none else D[i - 1]?) D[j] = false := by
    intro j hj hij
    rw [if_neg (by omega), List.getElem?_eq_getElem (by omega)]
    show lt D[i - 1] D[j] = false
    cases h : lt D[i - 1] D[j] with
    | false => rfl
    | true =>
      rcases Nat.lt_or_ge j (i - 1) with q | q
      · have := hO.trans _ _ _ (hrise j (i - 1) hj (by omega) q) h
        rw [hO.irrefl] at this; cases this
      · have e : j = i - 1 := by omega
        subst e
        rw [hO.irrefl] at h; cases h
  have key := best_go lt hO (if i = 0 then none else D[i - 1]?) l none (fun m h => by cases h)
  unfold best
  revert key
  generalize l.foldl _ none = r
  cases r with
  | none =>
    rintro ⟨_, a⟩
    rcases Nat.lt_or_ge i D.length with h | h
    · have := a D[i] ((hm _).1 (List.getElem_mem h))
      rw [hab i h (Nat.le_refl _)] at this; cases this
    · rw [List.getElem?_eq_none h]
  | some m =>
    rintro ⟨a1, a2, a3, _⟩
    have hmem : m ∈ D := (hm m).2 (a2.resolve_right (by simp))
    obtain ⟨j, hj, rfl⟩ := List.getElem_of_mem hmem
    have hji : i ≤ j := by
      rcases Nat.lt_or_ge j i with q | q
      · rw [hnot j hj q] at a1; cases a1
      · exact q
    rcases Nat.lt_or_ge i j with q | q
    · have := a3 D[i] ((hm _).1 (List.getElem_mem (by omega))) (hab i (by omega) (Nat.le_refl _))
      rw [hrise i j (by omega) hj q] at this; cases this
    · have e : j = i := by omega
      subst e
      rw [List.getElem?_eq_getElem hj]
end
end Go.Proofs.YtlamgdibnnmbmaaDoor.Ns
end
