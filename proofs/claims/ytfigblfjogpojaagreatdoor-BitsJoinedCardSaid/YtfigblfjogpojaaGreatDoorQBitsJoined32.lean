/- Part 33 of the proof of BitsJoinedCardSaid: The law BitsJoined: for all arguments it returns true; each argument reads behind the call as it read before. Out of the plain theorem of YtfigblfjogpojaaGreatDoorPureBitsJoined and the printed contract. -/
import Derived.Test.YtfigblfjogpojaaGreatDoorQBitsJoined19
import Derived.Test.YtfigblfjogpojaaGreatDoorQBitsJoined30
import Derived.Test.YtfigblfjogpojaaGreatDoorQBitsJoined31
import Derived.Test.YtfigblfjogpojaaGreatDoorQBitsJoined23
section
namespace Go.Proofs.YtfigblfjogpojaaGreatDoor.PBits
open Go.RowKit Go.Proofs.YtfigblfjogpojaaGreatDoorW.PrintWords Go.Proofs.YtfigblfjogpojaaGreatDoorW.PrintLast Go.Proofs.YtfigblfjogpojaaGreatDoorW.PrintMore Go.Proofs.YtfigblfjogpojaaGreatDoor.Bz
set_option linter.unusedVariables false
set_option linter.unusedSimpArgs false
theorem inv_l0 (w v x : Nat) (hw : w ≤ 64) (d : Nat) : ∀ i : Nat, i + d = w → Ev (fun k => maskref1_inverse.l0 k (lst (fun j => notS (st v x j)) i) (vs w v x) (w : Int) (i : Int)) (lst (fun j => notS (st v x j)) w) := by
  induction d with
  | zero =>
    intro i hi
    obtain rfl : i = w := by omega
    exact Ev.step (fun k => by rw [maskref1_inverse.l0]) (Ev.neg (by omega) (Ev.now _))
  | succ d ih =>
    intro i hi
    have ih := ih (i + 1) (by omega)
    refine Ev.step (fun k => by rw [maskref1_inverse.l0]) (Ev.pos (by omega) (Ev.pos (by omega) (Ev.pos (by rw [vs_length]; omega) ?_)))
    refine Ev.bnd (NotOf_is _) (Ev.pos (by rw [lst_length]; omega) ?_)
    rw [rd_vs _ _ _ _ (by omega), w64 (n := (i : Int) + 1) (by omega)]
    rw [lst_succ] at ih
    exact ih
theorem inv_ev {w v x : Nat} (hw : w ≤ 64) : Ev (fun k => maskref1_inverse.f k (vs w v x)) (lst (fun j => notS (st v x j)) w) := by
  unfold maskref1_inverse.f
  rw [vs_length]
  exact inv_l0 w v x hw w 0 (by omega)
section
variable (w va xa vb xb : Nat) (hw : w ≤ 64)
include hw
theorem eachAnd_l0 (d : Nat) : ∀ i : Nat, i + d = w → Ev (fun k => maskref1_each__AndOf.l0 k (vs w va xa) (vs w vb xb) (lst (fun j => andS (st va xa j) (st vb xb j)) i) (w : Int) (i : Int)) (lst (fun j => andS (st va xa j) (st vb xb j)) w) := by
  induction d with
  | zero =>
    intro i hi
    obtain rfl : i = w := by omega
    exact Ev.step (fun k => by rw [maskref1_each__AndOf.l0]) (Ev.neg (by omega) (Ev.now _))
  | succ d ih =>
    intro i hi
    have ih := ih (i + 1) (by omega)
    refine Ev.step (fun k => by rw [maskref1_each__AndOf.l0]) (Ev.pos (by omega) (Ev.pos (by omega) (Ev.pos (by rw [vs_length]; omega) (Ev.pos (by rw [vs_length]; omega) ?_))))
    refine Ev.bind (AndOf_ev _ _) (Ev.pos (by rw [lst_length]; omega) ?_)
    rw [rd_vs _ _ _ _ (by omega), rd_vs _ _ _ _ (by omega), w64 (n := (i : Int) + 1) (by omega)]
    rw [lst_succ] at ih
    exact ih
theorem eachOr_l0 (d : Nat) : ∀ i : Nat, i + d = w → Ev (fun k => maskref1_each__OrOf.l0 k (vs w va xa) (vs w vb xb) (lst (fun j => orS (st va xa j) (st vb xb j)) i) (w : Int) (i : Int)) (lst (fun j => orS (st va xa j) (st vb xb j)) w) := by
  induction d with
  | zero =>
    intro i hi
    obtain rfl : i = w := by omega
    exact Ev.step (fun k => by rw [maskref1_each__OrOf.l0]) (Ev.neg (by omega) (Ev.now _))
  | succ d ih =>
    intro i hi
    have ih := ih (i + 1) (by omega)
    refine Ev.step (fun k => by rw [maskref1_each__OrOf.l0]) (Ev.pos (by omega) (Ev.pos (by omega) (Ev.pos (by rw [vs_length]; omega) (Ev.pos (by rw [vs_length]; omega) ?_))))
    refine Ev.bind (OrOf_ev _ _) (Ev.pos (by rw [lst_length]; omega) ?_)
    rw [rd_vs _ _ _ _ (by omega), rd_vs _ _ _ _ (by omega), w64 (n := (i : Int) + 1) (by omega)]
    rw [lst_succ] at ih
    exact ih
theorem eachXor_l0 (d : Nat) : ∀ i : Nat, i + d = w → Ev (fun k => maskref1_each__XorOf.l0 k (vs w va xa) (vs w vb xb) (lst (fun j => xorS (st va xa j) (st vb xb j)) i) (w : Int) (i : Int)) (lst (fun j => xorS (st va xa j) (st vb xb j)) w) := by
  induction d with
  | zero =>
    intro i hi
    obtain rfl : i = w := by omega
    exact Ev.step (fun k => by rw [maskref1_each__XorOf.l0]) (Ev.neg (by omega) (Ev.now _))
  | succ d ih =>
    intro i hi
    have ih := ih (i + 1) (by omega)
    refine Ev.step (fun k => by rw [maskref1_each__XorOf.l0]) (Ev.pos (by omega) (Ev.pos (by omega) (Ev.pos (by rw [vs_length]; omega) (Ev.pos (by rw [vs_length]; omega) ?_))))
    refine Ev.bind (XorOf_ev _ _) (Ev.pos (by rw [lst_length]; omega) ?_)
    rw [rd_vs _ _ _ _ (by omega), rd_vs _ _ _ _ (by omega), w64 (n := (i : Int) + 1) (by omega)]
    rw [lst_succ] at ih
    exact ih
theorem eachAnd_ev : Ev (fun k => maskref1_each__AndOf.f k (vs w va xa) (vs w vb xb)) (lst (fun j => andS (st va xa j) (st vb xb j)) w) := by
  unfold maskref1_each__AndOf.f
  rw [vs_length]
  exact eachAnd_l0 w va xa vb xb hw w 0 (by omega)
theorem eachOr_ev : Ev (fun k => maskref1_each__OrOf.f k (vs w va xa) (vs w vb xb)) (lst (fun j => orS (st va xa j) (st vb xb j)) w) := by
  unfold maskref1_each__OrOf.f
  rw [vs_length]
  exact eachOr_l0 w va xa vb xb hw w 0 (by omega)
theorem eachXor_ev : Ev (fun k => maskref1_each__XorOf.f k (vs w va xa) (vs w vb xb)) (lst (fun j => xorS (st va xa j) (st vb xb j)) w) := by
  unfold maskref1_each__XorOf.f
  rw [vs_length]
  exact eachXor_l0 w va xa vb xb hw w 0 (by omega)
end
def foldS (g : Int → Int → Int) (v x : Nat) : Nat → Int
  | 0 => st v x 0
  | n + 1 => g (foldS g v x n) (st v x (n + 1))
def nrm (c : Int) : Int := if c = 122 then 120 else c
theorem rd_drop1 (w v x i : Nat) (h : i + 1 < w) : rd ((vs w v x).drop 1) (i : Int) = st v x (i + 1) := by
  rw [rd_nat, List.getD_eq_getElem?_getD, List.getElem?_drop, Nat.add_comm 1 i, ← List.getD_eq_getElem?_getD, vs_getD _ _ _ _ h]
section
variable (w v x : Nat) (hw : w ≤ 64) (h1 : 1 ≤ w)
include hw h1
theorem foldAnd_l0 (d : Nat) : ∀ i : Nat, i + d = w - 1 → Ev (fun k => maskref1_fold__AndOf.l0 k (foldS andS v x i) ((vs w v x).drop 1) ((w - 1 : Nat) : Int) (i : Int)) [nrm (foldS andS v x (w - 1))] := by
  induction d with
  | zero =>
    intro i hi
    obtain rfl : i = w - 1 := by omega
    refine Ev.step (fun k => by rw [maskref1_fold__AndOf.l0]) (Ev.neg (by omega) ?_)
    unfold nrm
    exact dite (foldS andS v x (w - 1) = 122) (fun h => Ev.pos h ((Ev.now _).eq (by rw [if_pos h]))) (fun h => Ev.neg h ((Ev.now _).eq (by rw [if_neg h])))
  | succ d ih =>
    intro i hi
    have ih := ih (i + 1) (by omega)
    refine Ev.step (fun k => by rw [maskref1_fold__AndOf.l0]) (Ev.pos (by omega) (Ev.pos (by omega) (Ev.pos (by rw [List.length_drop, vs_length]; omega) ?_)))
    refine Ev.bind (AndOf_ev _ _) ?_
    rw [rd_drop1 _ _ _ _ (by omega), w64 (n := (i : Int) + 1) (by omega)]
    exact ih
theorem foldOr_l0 (d : Nat) : ∀ i : Nat, i + d = w - 1 → Ev (fun k => maskref1_fold__OrOf.l0 k (foldS orS v x i) ((vs w v x).drop 1) ((w - 1 : Nat) : Int) (i : Int)) [nrm (foldS orS v x (w - 1))] := by
  induction d with
  | zero =>
    intro i hi
    obtain rfl : i = w - 1 := by omega
    refine Ev.step (fun k => by rw [maskref1_fold__OrOf.l0]) (Ev.neg (by omega) ?_)
    unfold nrm
    exact dite (foldS orS v x (w - 1) = 122) (fun h => Ev.pos h ((Ev.now _).eq (by rw [if_pos h]))) (fun h => Ev.neg h ((Ev.now _).eq (by rw [if_neg h])))
  | succ d ih =>
    intro i hi
    have ih := ih (i + 1) (by omega)
    refine Ev.step (fun k => by rw [maskref1_fold__OrOf.l0]) (Ev.pos (by omega) (Ev.pos (by omega) (Ev.pos (by rw [List.length_drop, vs_length]; omega) ?_)))
    refine Ev.bind (OrOf_ev _ _) ?_
    rw [rd_drop1 _ _ _ _ (by omega), w64 (n := (i : Int) + 1) (by omega)]
    exact ih
theorem foldXor_l0 (d : Nat) : ∀ i : Nat, i + d = w - 1 → Ev (fun k => maskref1_fold__XorOf.l0 k (foldS xorS v x i) ((vs w v x).drop 1) ((w - 1 : Nat) : Int) (i : Int)) [nrm (foldS xorS v x (w - 1))] := by
  induction d with
  | zero =>
    intro i hi
    obtain rfl : i = w - 1 := by omega
    refine Ev.step (fun k => by rw [maskref1_fold__XorOf.l0]) (Ev.neg (by omega) ?_)
    unfold nrm
    exact dite (foldS xorS v x (w - 1) = 122) (fun h => Ev.pos h ((Ev.now _).eq (by rw [if_pos h]))) (fun h => Ev.neg h ((Ev.now _).eq (by rw [if_neg h])))
  | succ d ih =>
    intro i hi
    have ih := ih (i + 1) (by omega)
    refine Ev.step (fun k => by rw [maskref1_fold__XorOf.l0]) (Ev.pos (by omega) (Ev.pos (by omega) (Ev.pos (by rw [List.length_drop, vs_length]; omega) ?_)))
    refine Ev.bind (XorOf_ev _ _) ?_
    rw [rd_drop1 _ _ _ _ (by omega), w64 (n := (i : Int) + 1) (by omega)]
    exact ih
theorem foldAnd_ev : Ev (fun k => maskref1_fold__AndOf.f k (vs w v x)) [nrm (foldS andS v x (w - 1))] := by
  unfold maskref1_fold__AndOf.f
  rw [vs_length, List.length_drop, vs_length, show (0 : Int) = ((0 : Nat) : Int) from rfl, rd_vs _ _ _ _ (by omega)]
  exact Ev.pos (by omega) (Ev.pos (by omega) (foldAnd_l0 w v x hw h1 (w - 1) 0 (by omega)))
theorem foldOr_ev : Ev (fun k => maskref1_fold__OrOf.f k (vs w v x)) [nrm (foldS orS v x (w - 1))] := by
  unfold maskref1_fold__OrOf.f
  rw [vs_length, List.length_drop, vs_length, show (0 : Int) = ((0 : Nat) : Int) from rfl, rd_vs _ _ _ _ (by omega)]
  exact Ev.pos (by omega) (Ev.pos (by omega) (foldOr_l0 w v x hw h1 (w - 1) 0 (by omega)))
theorem foldXor_ev : Ev (fun k => maskref1_fold__XorOf.f k (vs w v x)) [nrm (foldS xorS v x (w - 1))] := by
  unfold maskref1_fold__XorOf.f
  rw [vs_length, List.length_drop, vs_length, show (0 : Int) = ((0 : Nat) : Int) from rfl, rd_vs _ _ _ _ (by omega)]
  exact Ev.pos (by omega) (Ev.pos (by omega) (foldXor_l0 w v x hw h1 (w - 1) 0 (by omega)))
end
theorem andS_48 (a b : Int) : andS a b = 48 ↔ (a = 48 ∨ b = 48) := by
  unfold andS
  by_cases h : a = 48 ∨ b = 48
  · rw [if_pos h]; simp [h]
  · rw [if_neg h]
    by_cases h2 : a = 49 ∧ b = 49
    · rw [if_pos h2]; simp [h]
    · rw [if_neg h2]; simp [h]
theorem andS_49 (a b : Int) : andS a b = 49 ↔ (a = 49 ∧ b = 49) := by
  unfold andS
  by_cases h : a = 48 ∨ b = 48
  · rw [if_pos h]; constructor
    · intro e; cases e
    · rintro ⟨rfl, rfl⟩; rcases h with h | h <;> cases h
  · rw [if_neg h]
    by_cases h2 : a = 49 ∧ b = 49
    · rw [if_pos h2]; simp [h2]
    · rw [if_neg h2]; simp [h2]
theorem andS_is (a b : Int) : isSt (andS a b) := by
  unfold andS isSt; split
  · exact .inl rfl
  · split
    · exact .inr (.inl rfl)
    · exact .inr (.inr (.inl rfl))
theorem notS_is (a : Int) : isSt (notS a) := by
  unfold notS isSt; split
  · exact .inr (.inl rfl)
  · split
    · exact .inl rfl
    · exact .inr (.inr (.inl rfl))
theorem notS_48 (a : Int) : notS a = 48 ↔ a = 49 := by
  unfold notS
  by_cases h : a = 48
  · rw [if_pos h]; subst h; decide
  · rw [if_neg h]
    by_cases h2 : a = 49
    · rw [if_pos h2]; simp [h2]
    · rw [if_neg h2]; simp [h2]
theorem notS_49 (a : Int) : notS a = 49 ↔ a = 48 := by
  unfold notS
  by_cases h : a = 48
  · rw [if_pos h]; simp [h]
  · rw [if_neg h]
    by_cases h2 : a = 49
    · rw [if_pos h2]; simp [h]
    · rw [if_neg h2]; simp [h]
theorem orS_49 (a b : Int) : orS a b = 49 ↔ (a = 49 ∨ b = 49) := by
  unfold orS; rw [notS_49, andS_48, notS_48, notS_48]
theorem orS_48 (a b : Int) : orS a b = 48 ↔ (a = 48 ∧ b = 48) := by
  unfold orS; rw [notS_48, andS_49, notS_49, notS_49]
theorem orS_is (a b : Int) : isSt (orS a b) := notS_is _
theorem foldAnd_48 (v x : Nat) : ∀ n, foldS andS v x n = 48 ↔ ∃ i, i ≤ n ∧ st v x i = 48
  | 0 => ⟨fun h => ⟨0, Nat.le_refl _, h⟩, fun ⟨i, hi, h⟩ => by have e : i = 0 := (by omega); subst e; exact h⟩
  | n + 1 => by
    rw [foldS, andS_48, foldAnd_48 v x n]
    constructor
    · rintro (⟨i, hi, h⟩ | h)
      · exact ⟨i, by omega, h⟩
      · exact ⟨n + 1, Nat.le_refl _, h⟩
    · rintro ⟨i, hi, h⟩
      by_cases e : i = n + 1
      · subst e; exact .inr h
      · exact .inl ⟨i, by omega, h⟩
theorem foldAnd_49 (v x : Nat) : ∀ n, foldS andS v x n = 49 ↔ ∀ i, i ≤ n → st v x i = 49
  | 0 => ⟨fun h i hi => by have e : i = 0 := (by omega); subst e; exact h, fun h => h 0 (Nat.le_refl _)⟩
  | n + 1 => by
    rw [foldS, andS_49, foldAnd_49 v x n]
    constructor
    · rintro ⟨h1, h2⟩ i hi
      by_cases e : i = n + 1
      · subst e; exact h2
      · exact h1 i (by omega)
    · intro h
      exact ⟨fun i hi => h i (by omega), h (n + 1) (Nat.le_refl _)⟩
theorem foldOr_49 (v x : Nat) : ∀ n, foldS orS v x n = 49 ↔ ∃ i, i ≤ n ∧ st v x i = 49
  | 0 => ⟨fun h => ⟨0, Nat.le_refl _, h⟩, fun ⟨i, hi, h⟩ => by have e : i = 0 := (by omega); subst e; exact h⟩
  | n + 1 => by
    rw [foldS, orS_49, foldOr_49 v x n]
    constructor
    · rintro (⟨i, hi, h⟩ | h)
      · exact ⟨i, by omega, h⟩
      · exact ⟨n + 1, Nat.le_refl _, h⟩
    · rintro ⟨i, hi, h⟩
      by_cases e : i = n + 1
      · subst e; exact .inr h
      · exact .inl ⟨i, by omega, h⟩
theorem foldOr_48 (v x : Nat) : ∀ n, foldS orS v x n = 48 ↔ ∀ i, i ≤ n → st v x i = 48
  | 0 => ⟨fun h i hi => by have e : i = 0 := (by omega); subst e; exact h, fun h => h 0 (Nat.le_refl _)⟩
  | n + 1 => by
    rw [foldS, orS_48, foldOr_48 v x n]
    constructor
    · rintro ⟨h1, h2⟩ i hi
      by_cases e : i = n + 1
      · subst e; exact h2
      · exact h1 i (by omega)
    · intro h
      exact ⟨fun i hi => h i (by omega), h (n + 1) (Nat.le_refl _)⟩
theorem fold_is (g : Int → Int → Int) (hg : ∀ a b, isSt (g a b)) (v x : Nat) : ∀ n, isSt (foldS g v x n)
  | 0 => stb_is _ _
  | n + 1 => hg _ _
theorem xorS_is (a b : Int) : isSt (xorS a b) := orS_is _ _
theorem xorS_unk (a b : Int) (ha : isSt a) (hb : isSt b) (h : a = 120 ∨ a = 122 ∨ b = 120 ∨ b = 122) : xorS a b = 120 := by
  rcases ha with rfl | rfl | rfl | rfl <;> rcases hb with rfl | rfl | rfl | rfl <;> first | rfl | (exfalso; revert h; decide)
theorem foldXor_known (v x : Nat) : ∀ n, (∀ i, i ≤ n → x.testBit i = false) → foldS xorS v x n = kb (pb v (n + 1))
  | 0, h => by
    show st v x 0 = _
    unfold st stb kb
    rw [h 0 (Nat.le_refl _)]
    show _ = if (false ^^ v.testBit 0) = true then _ else _
    rw [Bool.false_xor]; rfl
  | n + 1, h => by
    have e : st v x (n + 1) = kb (v.testBit (n + 1)) := by unfold st stb kb; rw [h (n + 1) (Nat.le_refl _)]; rfl
    rw [foldS, foldXor_known v x n (fun i hi => h i (by omega)), e, xorS_kb]
    rfl
theorem foldXor_unk (v x : Nat) : ∀ n, (∃ i, i ≤ n ∧ x.testBit i = true) → foldS xorS v x n = 120 ∨ foldS xorS v x n = 122
  | 0, ⟨i, hi, h⟩ => by
    obtain rfl : i = 0 := by omega
    show st v x 0 = 120 ∨ st v x 0 = 122
    unfold st stb
    rw [h]
    cases v.testBit 0 <;> simp
  | n + 1, ⟨i, hi, h⟩ => by
    left
    rw [foldS]
    refine xorS_unk _ _ (fold_is _ xorS_is v x n) (stb_is _ _) ?_
    by_cases e : i = n + 1
    · subst e
      have : st v x (n + 1) = 120 ∨ st v x (n + 1) = 122 := by unfold st stb; rw [h]; cases v.testBit (n + 1) <;> simp
      rcases this with h | h
      · exact .inr (.inr (.inl h))
      · exact .inr (.inr (.inr h))
    · rcases foldXor_unk v x n ⟨i, by omega, h⟩ with h | h
      · exact .inl h
      · exact .inr (.inl h)
theorem st_48 (v x i : Nat) : st v x i = 48 ↔ (v.testBit i = false ∧ x.testBit i = false) := by
  unfold st stb; cases v.testBit i <;> cases x.testBit i <;> simp
theorem st_49 (v x i : Nat) : st v x i = 49 ↔ (v.testBit i = true ∧ x.testBit i = false) := by
  unfold st stb; cases v.testBit i <;> cases x.testBit i <;> simp
theorem some_unk {w x : Nat} (hx : x < 2 ^ w) : (∃ i, i < w ∧ x.testBit i = true) ↔ x ≠ 0 := by
  constructor
  · rintro ⟨i, _, h⟩ rfl
    rw [Nat.zero_testBit] at h; cases h
  · intro h
    obtain ⟨i, hi⟩ := Nat.exists_testBit_of_ne_zero h
    refine ⟨i, ?_, hi⟩
    rcases Nat.lt_or_ge i w with h | h
    · exact h
    · rw [bit_out hx h] at hi; cases hi
open Classical in
noncomputable def andT (w v x : Nat) : Int := if ∃ i, i < w ∧ v.testBit i = false ∧ x.testBit i = false then 102 else if x = 0 then 116 else 117
def xorT (v x : Nat) : Int := if x = 0 then bS (pb v 64) else 117
theorem nrm_and {w v x : Nat} (h1 : 1 ≤ w) (hx : x < 2 ^ w) : [nrm (foldS andS v x (w - 1))] = oneL (andT w v x) := by
  have f48 := foldAnd_48 v x (w - 1)
  have f49 := foldAnd_49 v x (w - 1)
  have fis := fold_is _ andS_is v x (w - 1)
  unfold andT
  by_cases h : ∃ i, i < w ∧ v.testBit i = false ∧ x.testBit i = false
  · rw [if_pos h]
    obtain ⟨i, hi, h2⟩ := h
    have : foldS andS v x (w - 1) = 48 := f48.2 ⟨i, by omega, (st_48 _ _ _).2 h2⟩
    rw [this]; rfl
  · rw [if_neg h]
    have n48 : foldS andS v x (w - 1) ≠ 48 := fun e => by
      obtain ⟨i, hi, h2⟩ := f48.1 e
      exact h ⟨i, by omega, (st_48 _ _ _).1 h2⟩
    by_cases h0 : x = 0
    · rw [if_pos h0]
      have : foldS andS v x (w - 1) = 49 := f49.2 fun i hi => (st_49 _ _ _).2 (by
        subst h0
        refine ⟨?_, Nat.zero_testBit _⟩
        cases hb : v.testBit i with
        | true => rfl
        | false => exact absurd ⟨i, by omega, hb, Nat.zero_testBit _⟩ h)
      rw [this]; rfl
    · rw [if_neg h0]
      have n49 : foldS andS v x (w - 1) ≠ 49 := fun e => by
        obtain ⟨i, hi, h2⟩ := (some_unk hx).2 h0
        have := ((st_49 _ _ _).1 (f49.1 e i (by omega))).2
        rw [h2] at this; cases this
      rcases fis with e | e | e | e
      · exact absurd e n48
      · exact absurd e n49
      · rw [e]; rfl
      · rw [e]; rfl
theorem nrm_or {w v x : Nat} (h1 : 1 ≤ w) (hv : v < 2 ^ w) (hx : x < 2 ^ w) : [nrm (foldS orS v x (w - 1))] = oneL (truS v x) := by
  have f48 := foldOr_48 v x (w - 1)
  have f49 := foldOr_49 v x (w - 1)
  have fis := fold_is _ orS_is v x (w - 1)
  unfold truS
  by_cases h : ∃ i, v.testBit i = true ∧ x.testBit i = false
  · rw [if_pos h]
    obtain ⟨i, h2⟩ := h
    have hi : i < w := by
      rcases Nat.lt_or_ge i w with h | h
      · exact h
      · rw [bit_out hv h] at h2; cases h2.1
    have : foldS orS v x (w - 1) = 49 := f49.2 ⟨i, by omega, (st_49 _ _ _).2 h2⟩
    rw [this]; rfl
  · rw [if_neg h]
    have n49 : foldS orS v x (w - 1) ≠ 49 := fun e => by
      obtain ⟨i, hi, h2⟩ := f49.1 e
      exact h ⟨i, (st_49 _ _ _).1 h2⟩
    by_cases h0 : x = 0
    · rw [if_pos h0]
      have : foldS orS v x (w - 1) = 48 := f48.2 fun i hi => (st_48 _ _ _).2 (by
        subst h0
        refine ⟨?_, Nat.zero_testBit _⟩
        cases hb : v.testBit i with
        | false => rfl
        | true => exact absurd ⟨i, hb, Nat.zero_testBit _⟩ h)
      rw [this]; rfl
    · rw [if_neg h0]
      have n48 : foldS orS v x (w - 1) ≠ 48 := fun e => by
        obtain ⟨i, hi, h2⟩ := (some_unk hx).2 h0
        have := ((st_48 _ _ _).1 (f48.1 e i (by omega))).2
        rw [h2] at this; cases this
      rcases fis with e | e | e | e
      · exact absurd e n48
      · exact absurd e n49
      · rw [e]; rfl
      · rw [e]; rfl
theorem nrm_xor {w v x : Nat} (h1 : 1 ≤ w) (h2 : w ≤ 64) (hv : v < 2 ^ w) (hx : x < 2 ^ w) : [nrm (foldS xorS v x (w - 1))] = oneL (xorT v x) := by
  unfold xorT
  by_cases h0 : x = 0
  · rw [if_pos h0, foldXor_known v x (w - 1) (fun i _ => by rw [h0]; exact Nat.zero_testBit _), show w - 1 + 1 = w by omega, ← pb_out hv 64 h2]
    cases pb v 64 <;> rfl
  · rw [if_neg h0]
    obtain ⟨i, hi, h3⟩ := (some_unk hx).2 h0
    rcases foldXor_unk v x (w - 1) ⟨i, by omega, h3⟩ with e | e <;> rw [e] <;> rfl
theorem not_lt {a : Nat} (ha : a < 2 ^ 64) : 18446744073709551615 ^^^ a < 2 ^ 64 := xor_lt (by decide) ha
theorem testBit_not {a i : Nat} (hi : i < 64) : (18446744073709551615 ^^^ a).testBit i = !a.testBit i := by
  rw [Nat.testBit_xor, testBit_max, decide_eq_true hi, Bool.true_xor]
theorem truth_tru (v x : Nat) : bits_truth.f (if truS v x = 116 then 1 else if truS v x = 102 then 0 else -1) = some (trip (truS v x)) := by
  unfold truS
  split
  · exact truth_1
  · split
    · exact truth_0
    · exact truth_n
section
variable {w v x : Nat} (h1 : 1 ≤ w) (h2 : w ≤ 64) (hv : v < 2 ^ w) (hx : x < 2 ^ w)
include h1 h2 hv hx
theorem Not_gives : Gives (fun k => bits_Not.f k (w : Int) (v : Int) (x : Int)) w (fun i => notS (st v x i)) ((andn (18446744073709551615 ^^^ v) x ||| x) &&& msk w) (x &&& msk w) := by
  have a1 := lt64 hv h2
  have a2 := lt64 hx h2
  have g := make3_gives (w := w) h2 (andn_lt (not_lt a1) : andn (18446744073709551615 ^^^ v) x < 2 ^ 64) a2
  refine ⟨?_, g.v, g.x, fun i hi => ?_⟩
  · unfold bits_Not.f
    refine Ev.bind (valid1 a1 a2) ?_
    rw [okB_of h1 h2 hv hx, not_n _ a1, andNot_n _ _ (not_lt a1) a2]
    exact Ev.pos rfl (Ev.bind g.ev (Ev.now _))
  · rw [g.st i hi, testBit_andn _ _ _ (not_lt a1) a2, testBit_not (by omega)]
    unfold st
    cases v.testBit i <;> cases x.testBit i <;> rfl
theorem RedAnd_ev : Ev (fun k => bits_RedAnd.f k (w : Int) (v : Int) (x : Int)) (trip (andT w v x)) := by
  have a1 := lt64 hv h2
  have a2 := lt64 hx h2
  unfold bits_RedAnd.f
  refine Ev.bind (valid1 a1 a2) ?_
  rw [okB_of h1 h2 hv hx, not_n _ a1, andNot_n _ _ (not_lt a1) a2]
  refine Ev.pos rfl (Ev.bnd (mask_is w) ?_)
  rw [and_n _ _ (andn_lt (not_lt a1)) (msk_lt w)]
  have z : andn (18446744073709551615 ^^^ v) x &&& msk w = 0 ↔ ¬ ∃ i, i < w ∧ v.testBit i = false ∧ x.testBit i = false := by
    rw [zero_iff (and_lt' (msk_lt' h2))]
    constructor
    · rintro h ⟨i, hi, b1, b2⟩
      have := h i hi
      rw [Nat.testBit_and, testBit_andn _ _ _ (not_lt a1) a2, testBit_not (by omega), b1, b2, bit_msk hi h2] at this
      cases this
    · intro h i hi
      rw [Nat.testBit_and, testBit_andn _ _ _ (not_lt a1) a2, testBit_not (by omega)]
      cases b1 : v.testBit i <;> cases b2 : x.testBit i <;> first | rfl | exact absurd ⟨i, hi, b1, b2⟩ h
  unfold andT
  by_cases h : ∃ i, i < w ∧ v.testBit i = false ∧ x.testBit i = false
  · rw [if_pos h]
    exact Ev.neg (fun e => (z.1 (by omega)) h) (Ev.bnd truth_0 (Ev.now _))
  · rw [if_neg h]
    have := z.2 h
    refine Ev.pos (by omega) ?_
    by_cases h0 : x = 0
    · rw [if_pos h0]; exact Ev.pos (by omega) (Ev.bnd truth_1 (Ev.now _))
    · rw [if_neg h0]; exact Ev.neg (by omega) (Ev.bnd truth_n (Ev.now _))
theorem RedOr_ev : Ev (fun k => bits_RedOr.f k (w : Int) (v : Int) (x : Int)) (trip (truS v x)) := by
  have a1 := lt64 hv h2
  have a2 := lt64 hx h2
  unfold bits_RedOr.f
  refine Ev.bind (valid1 a1 a2) ?_
  rw [okB_of h1 h2 hv hx]
  exact Ev.pos rfl (Ev.bind (True_ev h1 h2 hv hx) (Ev.bnd (truth_tru v x) (Ev.now _)))
theorem RedXor_ev : Ev (fun k => bits_RedXor.f k (w : Int) (v : Int) (x : Int)) (trip (xorT v x)) := by
  have a1 := lt64 hv h2
  have a2 := lt64 hx h2
  unfold bits_RedXor.f xorT
  refine Ev.bind (valid1 a1 a2) ?_
  rw [okB_of h1 h2 hv hx]
  refine Ev.pos rfl ?_
  by_cases h0 : x = 0
  · rw [if_pos h0]
    obtain ⟨c, hc, hc1, hc2⟩ := OnesCount_is v a1
    refine Ev.pos (by omega) (Ev.bnd hc ?_)
    rw [i64_and1]
    have e : (c : Int) % 2 = ((c % 2 : Nat) : Int) := rfl
    rw [e, hc2]
    cases pb v 64 with
    | true => exact Ev.bnd truth_1 (Ev.now _)
    | false => exact Ev.bnd truth_0 (Ev.now _)
  · rw [if_neg h0]
    exact Ev.neg (by omega) (Ev.bnd truth_n (Ev.now _))
theorem LNot_gives : Ev (fun k => bits_LNot.f k (w : Int) (v : Int) (x : Int)) (trip (oppS (truS v x))) := by
  have a1 := lt64 hv h2
  have a2 := lt64 hx h2
  have hT := True_ev h1 h2 hv hx
  unfold bits_LNot.f
  refine Ev.bind (valid1 a1 a2) ?_
  rw [okB_of h1 h2 hv hx]
  refine Ev.pos rfl (Ev.bind hT ?_)
  by_cases t1 : truS v x = 116
  · rw [if_pos t1, t1]
    exact Ev.pos (by decide) (Ev.bnd (show bits_truth.f (wrap64 (1 - 1)) = some (trip 102) by decide +kernel) (Ev.now _))
  · rw [if_neg t1]
    by_cases t2 : truS v x = 102
    · rw [if_pos t2, t2]
      exact Ev.pos (by decide) (Ev.bnd (show bits_truth.f (wrap64 (1 - 0)) = some (trip 116) by decide +kernel) (Ev.now _))
    · rw [if_neg t2]
      have e : oppS (truS v x) = 117 := by unfold oppS; rw [if_neg t1, if_neg t2]
      rw [e]
      exact Ev.neg (by decide) (Ev.bnd truth_n (Ev.now _))
end
section
variable {w va xa vb xb : Nat} (h : Two w va xa vb xb)
include h
theorem And_gives : ∃ V X, Gives (fun k => bits_And.f k (w : Int) (va : Int) (xa : Int) (w : Int) (vb : Int) (xb : Int)) w (fun i => andS (st va xa i) (st vb xb i)) V X := by
  have w64' := h.w64
  have a1 := lt64 h.va h.w64
  have a2 := lt64 h.xa h.w64
  have b1 := lt64 h.vb h.w64
  have b2 := lt64 h.xb h.w64
  have s1 : andn (andn (va &&& vb) xa) xb < 2 ^ 64 := andn_lt (andn_lt (and_lt a1))
  have s2 : andn (18446744073709551615 ^^^ va) xa ||| andn (18446744073709551615 ^^^ vb) xb < 2 ^ 64 := or_lt (andn_lt (not_lt a1)) (andn_lt (not_lt b1))
  have s3 : andn (xa ||| xb) (andn (18446744073709551615 ^^^ va) xa ||| andn (18446744073709551615 ^^^ vb) xb) < 2 ^ 64 := andn_lt (or_lt a2 b2)
  have g := make3_gives (w := w) h.w64 s1 s3
  refine ⟨_, _, ?_, g.v, g.x, fun i hi => ?_⟩
  · unfold bits_And.f
    refine Ev.bind h.alike (Ev.pos rfl ?_)
    rw [and_n _ _ a1 b1, andNot_n _ _ (and_lt a1) a2, andNot_n _ _ (andn_lt (and_lt a1)) b2, or_n _ _ a2 b2, not_n _ a1, not_n _ b1, andNot_n _ _ (not_lt a1) a2, andNot_n _ _ (not_lt b1) b2, or_n _ _ (andn_lt (not_lt a1)) (andn_lt (not_lt b1)), andNot_n _ _ (or_lt a2 b2) s2]
    exact Ev.bind g.ev (Ev.now _)
  · rw [g.st i hi, testBit_andn _ _ _ (or_lt a2 b2) s2, Nat.testBit_or, Nat.testBit_or, testBit_andn _ _ _ (not_lt a1) a2, testBit_andn _ _ _ (not_lt b1) b2, testBit_not (by omega), testBit_not (by omega), testBit_andn _ _ _ (andn_lt (and_lt a1)) b2, testBit_andn _ _ _ (and_lt a1) a2, Nat.testBit_and]
    unfold st
    cases va.testBit i <;> cases xa.testBit i <;> cases vb.testBit i <;> cases xb.testBit i <;> rfl
theorem Or_gives : ∃ V X, Gives (fun k => bits_Or.f k (w : Int) (va : Int) (xa : Int) (w : Int) (vb : Int) (xb : Int)) w (fun i => orS (st va xa i) (st vb xb i)) V X := by
  have w64' := h.w64
  have a1 := lt64 h.va h.w64
  have a2 := lt64 h.xa h.w64
  have b1 := lt64 h.vb h.w64
  have b2 := lt64 h.xb h.w64
  have s2 : andn va xa ||| andn vb xb < 2 ^ 64 := or_lt (andn_lt a1) (andn_lt b1)
  have s3 : andn (xa ||| xb) (andn va xa ||| andn vb xb) < 2 ^ 64 := andn_lt (or_lt a2 b2)
  have g := make3_gives (w := w) h.w64 s2 s3
  refine ⟨_, _, ?_, g.v, g.x, fun i hi => ?_⟩
  · unfold bits_Or.f
    refine Ev.bind h.alike (Ev.pos rfl ?_)
    rw [andNot_n _ _ a1 a2, andNot_n _ _ b1 b2, or_n _ _ (andn_lt a1) (andn_lt b1), or_n _ _ a2 b2, andNot_n _ _ (or_lt a2 b2) s2]
    exact Ev.bind g.ev (Ev.now _)
  · rw [g.st i hi, testBit_andn _ _ _ (or_lt a2 b2) s2, Nat.testBit_or, Nat.testBit_or, testBit_andn _ _ _ a1 a2, testBit_andn _ _ _ b1 b2]
    unfold st
    cases va.testBit i <;> cases xa.testBit i <;> cases vb.testBit i <;> cases xb.testBit i <;> rfl
theorem Xor_gives : ∃ V X, Gives (fun k => bits_Xor.f k (w : Int) (va : Int) (xa : Int) (w : Int) (vb : Int) (xb : Int)) w (fun i => xorS (st va xa i) (st vb xb i)) V X := by
  have w64' := h.w64
  have a1 := lt64 h.va h.w64
  have a2 := lt64 h.xa h.w64
  have b1 := lt64 h.vb h.w64
  have b2 := lt64 h.xb h.w64
  have s1 : andn (va ^^^ vb) (xa ||| xb) < 2 ^ 64 := andn_lt (xor_lt a1 b1)
  have s3 : xa ||| xb < 2 ^ 64 := or_lt a2 b2
  have g := make3_gives (w := w) h.w64 s1 s3
  refine ⟨_, _, ?_, g.v, g.x, fun i hi => ?_⟩
  · unfold bits_Xor.f
    refine Ev.bind h.alike (Ev.pos rfl ?_)
    rw [xor_n _ _ a1 b1, or_n _ _ a2 b2, andNot_n _ _ (xor_lt a1 b1) s3]
    exact Ev.bind g.ev (Ev.now _)
  · rw [g.st i hi, testBit_andn _ _ _ (xor_lt a1 b1) s3, Nat.testBit_or, Nat.testBit_xor]
    unfold st
    cases va.testBit i <;> cases xa.testBit i <;> cases vb.testBit i <;> cases xb.testBit i <;> rfl
end
def cAnd (a b : Int) : Int := if a = 102 ∨ b = 102 then 102 else if a = 116 ∧ b = 116 then 116 else 117
def cOr (a b : Int) : Int := if a = 116 ∨ b = 116 then 116 else if a = 102 ∧ b = 102 then 102 else 117
def isT (a : Int) : Prop := a = 116 ∨ a = 102 ∨ a = 117
theorem truS_isT (v x : Nat) : isT (truS v x) := by
  unfold truS isT; split
  · exact .inl rfl
  · split
    · exact .inr (.inl rfl)
    · exact .inr (.inr rfl)
def numT' (a : Int) : Int := if a = 116 then 1 else if a = 102 then 0 else -1
theorem refAnd_ev {a b : Int} (ha : isT a) (hb : isT b) : Ev (fun k => maskref1_fold__AndOf.f k (oneL a ++ oneL b)) (oneL (cAnd a b)) := by
  rcases ha with rfl | rfl | rfl <;> rcases hb with rfl | rfl | rfl <;> exact Ev.of (fun k => maskref1_fold__AndOf.mono _ k) (k := 9) (by decide +kernel)
theorem refOr_ev {a b : Int} (ha : isT a) (hb : isT b) : Ev (fun k => maskref1_fold__OrOf.f k (oneL a ++ oneL b)) (oneL (cOr a b)) := by
  rcases ha with rfl | rfl | rfl <;> rcases hb with rfl | rfl | rfl <;> exact Ev.of (fun k => maskref1_fold__OrOf.mono _ k) (k := 9) (by decide +kernel)
theorem oneL_length (a : Int) : (oneL a).length = 1 := by unfold oneL; split; rfl; split <;> rfl
theorem LAnd_j {a b : Int} (ha : isT a) (hb : isT b) : Ev (fun k => if numT' a = 0 then bits_LAnd.j0 k (numT' a) (numT' b) true else bits_LAnd.j0 k (numT' a) (numT' b) (numT' b == 0)) (trip (cAnd a b)) := by
  rcases ha with rfl | rfl | rfl <;> rcases hb with rfl | rfl | rfl <;> refine ⟨3, fun k hk => ?_⟩ <;> obtain ⟨k, rfl⟩ : ∃ n, k = n + 1 := ⟨k - 1, by omega⟩ <;> (simp only [bits_LAnd.j0]; decide +kernel)
theorem LOr_j {a b : Int} (ha : isT a) (hb : isT b) : Ev (fun k => if numT' a = 1 then bits_LOr.j0 k (numT' a) (numT' b) true else bits_LOr.j0 k (numT' a) (numT' b) (numT' b == 1)) (trip (cOr a b)) := by
  rcases ha with rfl | rfl | rfl <;> rcases hb with rfl | rfl | rfl <;> refine ⟨3, fun k hk => ?_⟩ <;> obtain ⟨k, rfl⟩ : ∃ n, k = n + 1 := ⟨k - 1, by omega⟩ <;> (simp only [bits_LOr.j0]; decide +kernel)
theorem LAnd_ev {w v x w' v' x' : Nat} (h : Any2 w v x w' v' x') : Ev (fun k => bits_LAnd.f k (w : Int) (v : Int) (x : Int) (w' : Int) (v' : Int) (x' : Int)) (trip (cAnd (truS v x) (truS v' x'))) := by
  unfold bits_LAnd.f
  refine Ev.bind h.valid (Ev.pos rfl ?_)
  refine Ev.bind (True_ev h.b1 h.b2 h.v h.x) (Ev.bind (True_ev h.n1 h.n2 h.vn h.xn) ?_)
  exact LAnd_j (truS_isT v x) (truS_isT v' x')
theorem LOr_ev {w v x w' v' x' : Nat} (h : Any2 w v x w' v' x') : Ev (fun k => bits_LOr.f k (w : Int) (v : Int) (x : Int) (w' : Int) (v' : Int) (x' : Int)) (trip (cOr (truS v x) (truS v' x'))) := by
  unfold bits_LOr.f
  refine Ev.bind h.valid (Ev.pos rfl ?_)
  refine Ev.bind (True_ev h.b1 h.b2 h.v h.x) (Ev.bind (True_ev h.n1 h.n2 h.vn h.xn) ?_)
  exact LOr_j (truS_isT v x) (truS_isT v' x')
end Go.Proofs.YtfigblfjogpojaaGreatDoor.PBits
end
