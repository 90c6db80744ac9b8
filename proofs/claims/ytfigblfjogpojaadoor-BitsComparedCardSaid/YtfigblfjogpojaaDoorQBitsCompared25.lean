/- Part 26 of the proof of BitsComparedCardSaid: The law BitsCompared: for all arguments it returns true; each argument reads behind the call as it read before. Out of the plain theorem of YtfigblfjogpojaaDoorPureBitsCompared and the printed contract. -/
import Derived.Test.YtfigblfjogpojaaDoorQBitsCompared23
import Derived.Lib.Bytes
import Derived.Test.YtfigblfjogpojaaDoorQBitsCompared24
section
namespace Go.Proofs.YtfigblfjogpojaaDoor.PBits
open Go.RowKit Go.Proofs.YtfigblfjogpojaaDoorW.PrintWords Go.Proofs.YtfigblfjogpojaaDoorW.PrintLast Go.Proofs.YtfigblfjogpojaaDoorW.PrintMore Go.Proofs.YtfigblfjogpojaaDoor.Bz
set_option linter.unusedVariables false
set_option linter.unusedSimpArgs false
def trip (c : Int) : Int × Int × Int := if c = 116 then (1, 1, 0) else if c = 102 then (1, 0, 0) else (1, 1, 1)
def oneL (c : Int) : List Int := if c = 116 then [49] else if c = 102 then [48] else [120]
def oppS (c : Int) : Int := if c = 116 then 102 else if c = 102 then 116 else 117
def bS (b : Bool) : Int := if b then 116 else 102
theorem One_is (c : Int) : maskref1_One.f c = some (oneL c) := by
  unfold maskref1_One.f oneL
  split
  · rfl
  · split <;> rfl
theorem Opp_is (c : Int) : maskref1_Opposite.f c = some (oppS c) := by
  unfold maskref1_Opposite.f oppS
  split
  · rfl
  · split <;> rfl
theorem truthOf_is (b : Bool) : maskref1_truthOf.f b = some (bS b) := by cases b <;> rfl
theorem B_one (c : Int) : Ev (fun k => maskref1_B.f k (oneL c)) (trip c) := by
  unfold oneL trip
  split
  · exact B_is (w := 1) (v := 1) (x := 0) (by decide) (by decide) rfl (by decide) (by decide) (by decide)
  · split
    · exact B_is (w := 1) (v := 0) (x := 0) (by decide) (by decide) rfl (by decide) (by decide) (by decide)
    · exact B_is (w := 1) (v := 1) (x := 1) (by decide) (by decide) rfl (by decide) (by decide) (by decide)
theorem truth_1 : bits_truth.f 1 = some (trip 116) := by decide +kernel
theorem truth_0 : bits_truth.f 0 = some (trip 102) := by decide +kernel
theorem truth_n : bits_truth.f (-1) = some (trip 117) := by decide +kernel
theorem LNot_ev (c : Int) : Ev (fun k => bits_LNot.f k (trip c).1 (trip c).2.1 (trip c).2.2) (trip (oppS c)) := by
  have hv : ∀ v x : Nat, v < 2 → x < 2 → Ev (fun k => bits_valid.f k ([(⟨1, (v : Int), (x : Int)⟩ : S24)] : List S24)) true := fun v x h1 h2 => (valid1 (W := 1) (by omega) (by omega)).eq (okB_of (w := 1) (by decide) (by decide) (by omega) (by omega))
  have key : ∀ v x : Nat, v < 2 → x < 2 → Ev (fun k => bits_LNot.f k 1 (v : Int) (x : Int)) (if truS v x = 116 then trip 102 else if truS v x = 102 then trip 116 else trip 117) := by
    intro v x h1 h2
    have hT : Ev (fun k => bits_True.f k 1 (v : Int) (x : Int)) _ := True_ev (w := 1) (by decide) (by decide) (v := v) (x := x) (by omega) (by omega)
    unfold bits_LNot.f
    refine Ev.bind (hv v x h1 h2) ?_
    refine Ev.pos rfl ?_
    refine Ev.bind hT ?_
    by_cases t1 : truS v x = 116
    · rw [if_pos t1, if_pos t1]
      refine Ev.pos (by decide) ?_
      exact Ev.bnd (show bits_truth.f (wrap64 (1 - 1)) = some (trip 102) by decide +kernel) (Ev.now _)
    · rw [if_neg t1, if_neg t1]
      by_cases t2 : truS v x = 102
      · rw [if_pos t2, if_pos t2]
        refine Ev.pos (by decide) ?_
        exact Ev.bnd (show bits_truth.f (wrap64 (1 - 0)) = some (trip 116) by decide +kernel) (Ev.now _)
      · rw [if_neg t2, if_neg t2]
        refine Ev.neg (by decide) ?_
        exact Ev.bnd truth_n (Ev.now _)
  have t10 : truS 1 0 = 116 := by unfold truS; rw [if_pos ⟨0, by decide, by decide⟩]
  have t00 : truS 0 0 = 102 := by unfold truS; rw [if_neg (by rintro ⟨i, h, _⟩; rw [Nat.zero_testBit] at h; cases h), if_pos rfl]
  have t11 : truS 1 1 = 117 := by unfold truS; rw [if_neg (by rintro ⟨i, h, h2⟩; rw [h] at h2; cases h2), if_neg (by decide)]
  unfold oppS
  by_cases c1 : c = 116
  · rw [if_pos c1, c1]
    exact (key 1 0 (by decide) (by decide)).eq (by rw [if_pos t10])
  · rw [if_neg c1]
    by_cases c2 : c = 102
    · rw [if_pos c2, c2]
      exact (key 0 0 (by decide) (by decide)).eq (by rw [t00]; rfl)
    · rw [if_neg c2, show trip c = (1, 1, 1) by unfold trip; rw [if_neg c1, if_neg c2]]
      exact (key 1 1 (by decide) (by decide)).eq (by rw [t11]; rfl)
theorem LNot_0 : Ev (fun k => bits_LNot.f k 0 0 0) (0, 0, 0) := by
  unfold bits_LNot.f
  refine Ev.bind ((valid1 (W := 0) (v := 0) (x := 0) (by decide) (by decide)).eq (show okB 0 0 0 = false by decide)) ?_
  exact Ev.neg (by decide) (Ev.now _)
open Classical in
noncomputable def cmpS (va xa vb xb : Nat) : Int := if ∃ i, xa.testBit i = false ∧ xb.testBit i = false ∧ va.testBit i ≠ vb.testBit i then 102 else if xa = 0 ∧ xb = 0 then 116 else 117
theorem or_zero {a b : Nat} : a ||| b = 0 ↔ a = 0 ∧ b = 0 := by
  constructor
  · intro h
    constructor <;> apply Nat.eq_of_testBit_eq <;> intro i <;> have := congrArg (fun n => Nat.testBit n i) h <;> simp only [Nat.testBit_or, Nat.zero_testBit, Bool.or_eq_false_iff] at this ⊢ <;> first | exact this.1 | exact this.2
  · rintro ⟨rfl, rfl⟩; rfl
open Classical in
theorem equal_is {w va xa vb xb : Nat} (h : Two w va xa vb xb) : bits_equal.f (w : Int) (va : Int) (xa : Int) (w : Int) (vb : Int) (xb : Int) = some (if cmpS va xa vb xb = 102 then 0 else if cmpS va xa vb xb = 116 then 1 else -1) := by
  have a1 := lt64 h.va h.w64
  have a2 := lt64 h.xa h.w64
  have b1 := lt64 h.vb h.w64
  have b2 := lt64 h.xb h.w64
  have s1 : va ^^^ vb < 2 ^ 64 := xor_lt a1 b1
  have s2 : xa ||| xb < 2 ^ 64 := or_lt a2 b2
  unfold bits_equal.f
  rw [xor_n _ _ a1 b1, or_n _ _ a2 b2, not_n _ s2, and_n _ _ s1 (xor_lt (by decide) s2)]
  have e : (va ^^^ vb) &&& (18446744073709551615 ^^^ (xa ||| xb)) = 0 ↔ ¬ ∃ i, xa.testBit i = false ∧ xb.testBit i = false ∧ va.testBit i ≠ vb.testBit i := by
    rw [zero_iff (and_lt (xor_lt h.va h.vb))]
    constructor
    · rintro h1 ⟨i, p, q, r⟩
      have hi : i < w := by
        rcases Nat.lt_or_ge i w with h2 | h2
        · exact h2
        · rw [bit_out h.va h2, bit_out h.vb h2] at r; exact absurd rfl r
      have h64 : i < 64 := by have := h.w64; omega
      have := h1 i hi
      rw [Nat.testBit_and, Nat.testBit_xor, Nat.testBit_xor, Nat.testBit_or, testBit_max, p, q] at this
      cases hx : va.testBit i <;> cases hy : vb.testBit i <;> simp [hx, hy, h64] at this r
    · intro h1 i hi
      have h64 : i < 64 := by have := h.w64; omega
      rw [Nat.testBit_and, Nat.testBit_xor, Nat.testBit_xor, Nat.testBit_or, testBit_max]
      cases hp : xa.testBit i <;> cases hq : xb.testBit i <;> cases hx : va.testBit i <;> cases hy : vb.testBit i <;> simp [h64] <;> exact absurd ⟨i, hp, hq, by rw [hx, hy]; decide⟩ h1
  unfold cmpS
  by_cases h1 : ∃ i, xa.testBit i = false ∧ xb.testBit i = false ∧ va.testBit i ≠ vb.testBit i
  · have h2 : ¬ ((va ^^^ vb) &&& (18446744073709551615 ^^^ (xa ||| xb)) = 0) := fun h2 => e.1 h2 h1
    rw [if_neg (by omega), if_pos h1, if_pos rfl]
  · have h2 := e.2 h1
    rw [if_pos (by omega), if_neg h1]
    by_cases h3 : xa = 0 ∧ xb = 0
    · have h4 := or_zero.2 h3
      rw [if_pos (by omega), if_pos h3]; rfl
    · have h4 : ¬ (xa ||| xb = 0) := fun h5 => h3 (or_zero.1 h5)
      rw [if_neg (by omega), if_neg h3]; rfl
theorem Eq_ev {w va xa vb xb : Nat} (h : Two w va xa vb xb) : Ev (fun k => bits_Eq.f k (w : Int) (va : Int) (xa : Int) (w : Int) (vb : Int) (xb : Int)) (trip (cmpS va xa vb xb)) := by
  unfold bits_Eq.f
  refine Ev.bind h.alike ?_
  refine Ev.pos rfl ?_
  refine Ev.bnd (equal_is h) ?_
  have hc : cmpS va xa vb xb = 102 ∨ cmpS va xa vb xb = 116 ∨ cmpS va xa vb xb = 117 := by
    unfold cmpS
    split
    · exact .inl rfl
    · split
      · exact .inr (.inl rfl)
      · exact .inr (.inr rfl)
  rcases hc with e | e | e <;> rw [e]
  · exact Ev.bnd truth_0 (Ev.now _)
  · exact Ev.bnd truth_1 (Ev.now _)
  · exact Ev.bnd truth_n (Ev.now _)
theorem known1 (c : Int) (hc : isSt c) : Ev (fun k => maskref1_Known.f k [c]) (c == 48 || c == 49) := by
  unfold maskref1_Known.f
  refine Ev.step (fun k => by rw [List.length_singleton, maskref1_Known.l0]) ?_
  rw [w64 (n := 0 + 1) (by decide)]
  refine Ev.pos (by omega) (Ev.pos (by omega) (Ev.pos (by simp) ?_))
  have last : ∀ b : Bool, b = true → Ev (fun k => maskref1_Known.l0 k [c] ((1 : Nat) : Int) (0 + 1)) b := by
    rintro _ rfl
    exact Ev.step (fun k => by rw [maskref1_Known.l0]) (Ev.neg (by omega) (Ev.now _))
  have hr : rd [c] 0 = c := rfl
  rw [hr]
  by_cases h1 : c = 48
  · exact Ev.pos h1 (last _ (by simp [h1]))
  · refine Ev.neg h1 ?_
    by_cases h2 : c = 49
    · exact Ev.pos h2 (last _ (by simp [h2]))
    · exact Ev.neg h2 ((Ev.now _).eq (by simp [h1, h2]))
theorem cut1 (w v x i : Nat) (hi : i < w) : ((vs w v x).take (i + 1)).drop i = [st v x i] := by
  apply List.ext_getElem
  · simp [vs_length]; omega
  · intro j h1 h2
    have hj : j = 0 := by simpa using h2
    subst hj
    rw [List.getElem_drop, List.getElem_take, vs_get _ _ _ _ (by omega)]; rfl
theorem st_known (v x i : Nat) : (st v x i == 48 || st v x i == 49) = !x.testBit i := by
  unfold st; cases v.testBit i <;> cases x.testBit i <;> rfl
open Classical in
noncomputable def cmpF (c : Int) (p q : Prop) : Int := if c = 102 ∨ p then 102 else if c = 116 ∧ q then 116 else 117
theorem cmpF_117 (P Q Q' : Prop) : cmpF 117 P Q = cmpF 117 P Q' := by unfold cmpF; rw [if_neg (show ¬ ((117 : Int) = 116 ∧ Q) from fun h => absurd h.1 (by decide)), if_neg (show ¬ ((117 : Int) = 116 ∧ Q') from fun h => absurd h.1 (by decide))]
theorem cmpF_116 (P Q : Prop) : cmpF 117 P Q = cmpF 116 P False := by
  unfold cmpF
  rw [if_neg (show ¬ ((117 : Int) = 116 ∧ Q) from fun h => absurd h.1 (by decide)), if_neg (show ¬ ((116 : Int) = 116 ∧ False) from fun h => h.2)]
  by_cases h : P
  · rw [if_pos (.inr h), if_pos (.inr h)]
  · rw [if_neg (by rintro (h1 | h1) <;> first | omega | exact h h1), if_neg (by rintro (h1 | h1) <;> first | omega | exact h h1)]
theorem cmpF_102 (P Q : Prop) : cmpF 102 P Q = 102 := by unfold cmpF; rw [if_pos (.inl rfl)]
theorem cmpF_T (c : Int) (Q : Prop) : cmpF c True Q = 102 := by unfold cmpF; rw [if_pos (.inr trivial)]
theorem or_F {A : Prop} (h : ¬ A) (P : Prop) : (A ∨ P) = P := propext ⟨fun k => k.resolve_left h, .inr⟩
theorem or_T {A : Prop} (h : A) (P : Prop) : (A ∨ P) = True := propext ⟨fun _ => trivial, fun _ => .inl h⟩
theorem and_F {A : Prop} (h : ¬ A) (P : Prop) : (A ∧ P) = False := propext ⟨fun k => h k.1, False.elim⟩
theorem and_T {A : Prop} (h : A) (P : Prop) : (A ∧ P) = P := propext ⟨fun k => k.2, fun k => ⟨h, k⟩⟩
theorem Compared_l0 {w va xa vb xb : Nat} (hw : w ≤ 64) (d : Nat) : ∀ (i : Nat) (c : Int), i + d = w → (c = 116 ∨ c = 117 ∨ c = 102) →
    Ev (fun k => maskref1_Compared.l0 k (vs w va xa) (vs w vb xb) c (w : Int) (i : Int))
      (cmpF c (∃ j, i ≤ j ∧ j < w ∧ xa.testBit j = false ∧ xb.testBit j = false ∧ va.testBit j ≠ vb.testBit j) (∀ j, i ≤ j → j < w → xa.testBit j = false ∧ xb.testBit j = false)) := by
  induction d with
  | zero =>
    intro i c hi hc
    obtain rfl : i = w := by omega
    refine Ev.step (fun k => by rw [maskref1_Compared.l0]) (Ev.neg (by omega) ((Ev.now _).eq ?_))
    rcases hc with rfl | rfl | rfl
    · unfold cmpF; rw [if_neg (by rintro (h | ⟨j, h1, h2, _⟩) <;> omega), if_pos ⟨rfl, fun j h1 h2 => by omega⟩]
    · unfold cmpF; rw [if_neg (by rintro (h | ⟨j, h1, h2, _⟩) <;> omega), if_neg (by rintro ⟨h, _⟩; omega)]
    · unfold cmpF; rw [if_pos (.inl rfl)]
  | succ d ih =>
    intro i c hi hc
    have hi2 : i < w := by omega
    have split1 : ∀ p : Nat → Prop, (∃ j, i ≤ j ∧ j < w ∧ p j) ↔ (p i ∨ ∃ j, i + 1 ≤ j ∧ j < w ∧ p j) := by
      intro p
      constructor
      · rintro ⟨j, h1, h2, h3⟩
        rcases Nat.lt_or_ge i j with h | h
        · exact .inr ⟨j, h, h2, h3⟩
        · exact .inl (by rw [show i = j by omega]; exact h3)
      · rintro (h | ⟨j, h1, h2, h3⟩)
        · exact ⟨i, Nat.le_refl _, hi2, h⟩
        · exact ⟨j, by omega, h2, h3⟩
    have split2 : ∀ p : Nat → Prop, (∀ j, i ≤ j → j < w → p j) ↔ (p i ∧ ∀ j, i + 1 ≤ j → j < w → p j) := by
      intro p
      constructor
      · intro h; exact ⟨h i (Nat.le_refl _) hi2, fun j h1 h2 => h j (by omega) h2⟩
      · rintro ⟨h1, h2⟩ j h3 h4
        rcases Nat.lt_or_ge i j with h | h
        · exact h2 j h h4
        · rw [show j = i by omega]; exact h1
    rw [split1 (fun j => xa.testBit j = false ∧ xb.testBit j = false ∧ va.testBit j ≠ vb.testBit j), split2 (fun j => xa.testBit j = false ∧ xb.testBit j = false)]
    have hw1 : wrap64 ((i : Int) + 1) = ((i + 1 : Nat) : Int) := w64 (by omega)
    have unk : (xa.testBit i && true || xb.testBit i) = true → Ev (fun k => maskref1_Compared.j1 k (vs w va xa) (vs w vb xb) c (i : Int) (w : Int) (i : Int) true)
        (cmpF c ((xa.testBit i = false ∧ xb.testBit i = false ∧ va.testBit i ≠ vb.testBit i) ∨ ∃ j, i + 1 ≤ j ∧ j < w ∧ xa.testBit j = false ∧ xb.testBit j = false ∧ va.testBit j ≠ vb.testBit j) ((xa.testBit i = false ∧ xb.testBit i = false) ∧ ∀ j, i + 1 ≤ j → j < w → xa.testBit j = false ∧ xb.testBit j = false)) := by
      intro hu
      have n1 : ¬ (xa.testBit i = false ∧ xb.testBit i = false) := by rintro ⟨p, q⟩; rw [p, q] at hu; cases hu
      have n2 : ¬ (xa.testBit i = false ∧ xb.testBit i = false ∧ va.testBit i ≠ vb.testBit i) := fun h => n1 ⟨h.1, h.2.1⟩
      refine Ev.step (fun k => by rw [maskref1_Compared.j1]) (Ev.pos rfl ?_)
      rw [hw1]
      rw [or_F n2, and_F n1]
      rcases hc with rfl | rfl | rfl
      · exact Ev.pos rfl ((ih (i + 1) 117 (by omega) (.inr (.inl rfl))).eq (cmpF_116 _ _))
      · exact Ev.neg (by decide) ((ih (i + 1) 117 (by omega) (.inr (.inl rfl))).eq (cmpF_117 _ _ _))
      · exact Ev.neg (by decide) ((ih (i + 1) 102 (by omega) (.inr (.inr rfl))).eq (by rw [cmpF_102, cmpF_102]))
    refine Ev.step (fun k => by rw [maskref1_Compared.l0]) ?_
    rw [hw1, vs_length, vs_length]
    refine Ev.pos (by omega) (Ev.pos (by omega) (Ev.pos (by omega) (Ev.pos (by omega) ?_)))
    rw [Int.toNat_natCast, Int.toNat_natCast, cut1 _ _ _ _ hi2, cut1 _ _ _ _ hi2]
    refine Ev.bind (known1 _ (stb_is _ _)) ?_
    rw [st_known]
    cases ha : xa.testBit i with
    | true =>
      rw [ha] at unk
      exact Ev.neg (by decide) (unk rfl)
    | false =>
      refine Ev.pos rfl (Ev.pos (by omega) (Ev.bind (known1 _ (stb_is _ _)) ?_))
      rw [st_known, Bool.not_not]
      cases hb : xb.testBit i with
      | true =>
        rw [ha, hb] at unk
        exact unk rfl
      | false =>
        refine Ev.step (fun k => by rw [maskref1_Compared.j1]) (Ev.neg (by decide) (Ev.pos (by omega) (Ev.pos (by rw [vs_length]; omega) (Ev.pos (by rw [vs_length]; omega) ?_))))
        rw [rd_vs _ _ _ _ hi2, rd_vs _ _ _ _ hi2, hw1]
        unfold st
        rw [ha, hb]
        by_cases hv : va.testBit i = vb.testBit i
        · rw [hv]
          refine Ev.pos rfl ((ih (i + 1) c (by omega) hc).eq ?_)
          rw [or_F (fun h => h.2.2 rfl), and_T ⟨rfl, rfl⟩]
        · refine Ev.neg (fun h => hv (stb_inj h).1) ((ih (i + 1) 102 (by omega) (.inr (.inr rfl))).eq ?_)
          rw [or_T ⟨rfl, rfl, hv⟩, cmpF_T, cmpF_102]
open Classical in
theorem Compared_ev {w va xa vb xb : Nat} (h : Two w va xa vb xb) : Ev (fun k => maskref1_Compared.f k (vs w va xa) (vs w vb xb)) (cmpS va xa vb xb) := by
  unfold maskref1_Compared.f
  rw [vs_length]
  refine (Compared_l0 (va := va) (xa := xa) (vb := vb) (xb := xb) h.w64 w 0 116 (by omega) (.inl rfl)).eq ?_
  unfold cmpS cmpF
  have e1 : ((116 : Int) = 102 ∨ ∃ j, 0 ≤ j ∧ j < w ∧ xa.testBit j = false ∧ xb.testBit j = false ∧ va.testBit j ≠ vb.testBit j) ↔ ∃ i, xa.testBit i = false ∧ xb.testBit i = false ∧ va.testBit i ≠ vb.testBit i := by
    constructor
    · rintro (h | ⟨j, _, _, p⟩)
      · omega
      · exact ⟨j, p⟩
    · rintro ⟨i, p⟩
      refine .inr ⟨i, Nat.zero_le _, ?_, p⟩
      rcases Nat.lt_or_ge i w with h2 | h2
      · exact h2
      · exact absurd (by rw [bit_out h.va h2, bit_out h.vb h2]) p.2.2
  have e2 : ((116 : Int) = 116 ∧ ∀ j, 0 ≤ j → j < w → xa.testBit j = false ∧ xb.testBit j = false) ↔ xa = 0 ∧ xb = 0 := by
    rw [zero_iff h.xa, zero_iff h.xb]
    exact ⟨fun p => ⟨fun i hi => (p.2 i (Nat.zero_le _) hi).1, fun i hi => (p.2 i (Nat.zero_le _) hi).2⟩, fun p => ⟨rfl, fun j _ hj => ⟨p.1 j hj, p.2 j hj⟩⟩⟩
  by_cases p : ∃ i, xa.testBit i = false ∧ xb.testBit i = false ∧ va.testBit i ≠ vb.testBit i
  · rw [if_pos (e1.2 p), if_pos p]
  · rw [if_neg (fun h => p (e1.1 h)), if_neg p]
    by_cases q : xa = 0 ∧ xb = 0
    · rw [if_pos (e2.2 q), if_pos q]
    · rw [if_neg (fun h => q (e2.1 h)), if_neg q]
end Go.Proofs.YtfigblfjogpojaaDoor.PBits
end
