/- Part 22 of the proof of BitsTextsCardSaid: The law BitsTexts: for all arguments it returns true; each argument reads behind the call as it read before. Out of the plain theorem of YtfigblfjogpojaaDoorPureBitsTexts and the printed contract. -/
import Derived.Test.YtfigblfjogpojaaDoorQBitsTexts19
import Derived.Test.YtfigblfjogpojaaDoorQBitsTexts20
import Derived.Test.YtfigblfjogpojaaDoorQBitsTexts15
import Derived.Test.YtfigblfjogpojaaDoorQBitsTexts14
section
namespace Go.Proofs.YtfigblfjogpojaaDoor.PBits
open Go.RowKit Go.Proofs.YtfigblfjogpojaaDoorW.PrintWords Go.Proofs.YtfigblfjogpojaaDoorW.PrintLast Go.Proofs.YtfigblfjogpojaaDoorW.PrintMore Go.Proofs.YtfigblfjogpojaaDoor.Bz
set_option linter.unusedVariables false
set_option linter.unusedSimpArgs false
theorem Fill_l0 (c : Int) (n : Nat) (hn : n ≤ 1000) (d : Nat) : ∀ i : Nat, i + d = n → Ev (fun k => maskref1_Fill.l0 k c (List.replicate i c) (n : Int) (i : Int)) (List.replicate n c) := by
  induction d with
  | zero =>
    intro i hi
    obtain rfl : i = n := by omega
    exact Ev.step (fun k => by rw [maskref1_Fill.l0]) (Ev.neg (by omega) (Ev.now _))
  | succ d ih =>
    intro i hi
    have ih := ih (i + 1) (by omega)
    rw [List.replicate_succ'] at ih
    refine Ev.step (fun k => by rw [maskref1_Fill.l0]) (Ev.pos (by omega) (Ev.pos (by rw [List.length_replicate]; omega) ?_))
    rw [w64 (by omega)]
    exact ih
theorem Fill_ev (c : Int) (n : Nat) (hn : n ≤ 1000) : Ev (fun k => maskref1_Fill.f k (n : Int) c) (List.replicate n c) := by
  unfold maskref1_Fill.f
  exact Fill_l0 c n hn n 0 (by omega)
def kb (b : Bool) : Int := if b then 49 else 48
theorem st_kb (v i : Nat) : st v 0 i = kb (v.testBit i) := by unfold st stb kb; rw [Nat.zero_testBit]; rfl
def notS (a : Int) : Int := if a = 48 then 49 else if a = 49 then 48 else 120
def andS (a b : Int) : Int := if a = 48 ∨ b = 48 then 48 else if a = 49 ∧ b = 49 then 49 else 120
def orS (a b : Int) : Int := notS (andS (notS a) (notS b))
def xorS (a b : Int) : Int := orS (andS a (notS b)) (andS (notS a) b)
theorem NotOf_is (a : Int) : maskref1_NotOf.f a = some (notS a) := by
  unfold maskref1_NotOf.f notS
  split
  · rfl
  · split <;> rfl
theorem AndOf_ev (a b : Int) : Ev (fun k => maskref1_AndOf.f k a b) (andS a b) := by
  unfold maskref1_AndOf.f
  by_cases h : a = 48
  · exact Ev.pos h (Ev.step (fun k => by rw [maskref1_AndOf.j0]) (Ev.pos rfl ((Ev.now _).eq (by simp [andS, h]))))
  · refine Ev.neg h (Ev.step (fun k => by rw [maskref1_AndOf.j0]) ?_)
    by_cases h2 : b = 48
    · exact Ev.pos (by simp [h2]) ((Ev.now _).eq (by simp [andS, h2]))
    · refine Ev.neg (by simp [h2]) ?_
      by_cases h3 : a = 49
      · refine Ev.pos h3 ?_
        by_cases h4 : b = 49
        · exact Ev.pos h4 ((Ev.now _).eq (by simp [andS, h3, h4]))
        · exact Ev.neg h4 ((Ev.now _).eq (by simp [andS, h2, h3, h4]))
      · exact Ev.neg h3 ((Ev.now _).eq (by simp [andS, h, h2, h3]))
theorem OrOf_ev (a b : Int) : Ev (fun k => maskref1_OrOf.f k a b) (orS a b) := by
  unfold maskref1_OrOf.f
  exact Ev.bnd (NotOf_is a) (Ev.bnd (NotOf_is b) (Ev.bind (AndOf_ev _ _) (Ev.bnd (NotOf_is _) (Ev.now _))))
theorem XorOf_ev (a b : Int) : Ev (fun k => maskref1_XorOf.f k a b) (xorS a b) := by
  unfold maskref1_XorOf.f
  exact Ev.bnd (NotOf_is b) (Ev.bind (AndOf_ev _ _) (Ev.bnd (NotOf_is a) (Ev.bind (AndOf_ev _ _) (Ev.bind (OrOf_ev _ _) (Ev.now _)))))
theorem andS_kb (a b : Bool) : andS (kb a) (kb b) = kb (a && b) := by cases a <;> cases b <;> rfl
theorem orS_kb (a b : Bool) : orS (kb a) (kb b) = kb (a || b) := by cases a <;> cases b <;> rfl
theorem xorS_kb (a b : Bool) : xorS (kb a) (kb b) = kb (a ^^ b) := by cases a <;> cases b <;> rfl
theorem mn_nat (a b : Nat) : mn (a : Int) (b : Int) = ((min a b : Nat) : Int) := by unfold mn; split <;> omega
theorem Count_l0 (w v lim : Nat) (hv : v < 2 ^ w) (hw : w ≤ 64) (hl : lim ≤ 1000) : ∀ i : Nat, i ≤ w → Ev (fun k => maskref1_Count.l0 k (vs w v 0) (lim : Int) ((min (v >>> i) lim : Nat) : Int) ((i : Int) - 1)) ((min v lim : Nat) : Int) := by
  intro i
  induction i with
  | zero =>
    intro hi
    refine Ev.step (fun k => by rw [maskref1_Count.l0]) (Ev.neg (by omega) ((Ev.now _).eq ?_))
    rw [Nat.shiftRight_zero]
    exact w64 (by omega)
  | succ i ih =>
    intro hi
    have ih := ih (by omega)
    have e1 : ((i + 1 : Nat) : Int) - 1 = (i : Int) := by omega
    rw [e1]
    refine Ev.step (fun k => by rw [maskref1_Count.l0]) (Ev.pos (by omega) (Ev.pos (by omega) (Ev.pos (by rw [vs_length]; omega) ?_)))
    rw [rd_vs _ _ _ _ (by omega), w64 (by omega), st_kb, wrap_u64_nat lim (by omega)]
    have hq : v >>> i = 2 * (v >>> (i + 1)) + (if v.testBit i then 1 else 0) := by
      rw [Nat.testBit_eq_decide_div_mod_eq, Nat.shiftRight_eq_div_pow, Nat.shiftRight_eq_div_pow, Nat.pow_succ, ← Nat.div_div_eq_div_mul]
      simp only [decide_eq_true_eq]
      split <;> omega
    have h2 : IntKind.u64.wrap (2 * ((min (v >>> (i + 1)) lim : Nat) : Int)) = ((2 * min (v >>> (i + 1)) lim : Nat) : Int) := by
      have := wrap_u64_nat (2 * min (v >>> (i + 1)) lim) (by omega)
      simpa using this
    rw [h2]
    rw [hq] at ih
    cases hb : v.testBit i with
    | true =>
      refine Ev.pos (by unfold kb; rfl) ?_
      have h3 : IntKind.u64.wrap (((2 * min (v >>> (i + 1)) lim : Nat) : Int) + 1) = ((2 * min (v >>> (i + 1)) lim + 1 : Nat) : Int) := by
        have := wrap_u64_nat (2 * min (v >>> (i + 1)) lim + 1) (by omega)
        simpa using this
      rw [h3, mn_nat]
      rw [hb, if_pos rfl] at ih
      rw [show min (2 * min (v >>> (i + 1)) lim + 1) lim = min (2 * (v >>> (i + 1)) + 1) lim by omega]
      exact ih
    | false =>
      refine Ev.neg (by unfold kb; decide) ?_
      rw [mn_nat]
      rw [hb, if_neg (by decide), Nat.add_zero] at ih
      rw [show min (2 * min (v >>> (i + 1)) lim) lim = min (2 * (v >>> (i + 1))) lim by omega]
      exact ih
theorem Count_ev {w v lim : Nat} (hv : v < 2 ^ w) (hw : w ≤ 64) (hl : lim ≤ 1000) : Ev (fun k => maskref1_Count.f k (vs w v 0) (lim : Int)) ((min v lim : Nat) : Int) := by
  unfold maskref1_Count.f
  rw [vs_length, w64 (by omega)]
  have h := Count_l0 w v lim hv hw hl w (Nat.le_refl _)
  rw [Nat.shiftRight_eq_div_pow, Nat.div_eq_of_lt hv, Nat.zero_min] at h
  exact h
end Go.Proofs.YtfigblfjogpojaaDoor.PBits
end
