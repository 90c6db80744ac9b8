/- Part 19 of the proof of BitsMadeCardSaid: The law BitsMade: for all arguments it returns true; each argument reads behind the call as it read before. Out of the plain theorem of YtfigblfjogpojaaDoorPureBitsMade and the printed contract. -/
import Derived.Test.YtfigblfjogpojaaDoorQBitsMade16
import Derived.Test.YtfigblfjogpojaaDoorQBitsMade17
import Derived.Test.YtfigblfjogpojaaDoorQBitsMade15
import Derived.Test.YtfigblfjogpojaaDoorQBitsMade14
section
namespace Go.Proofs.YtfigblfjogpojaaDoor.PBits
open Go.RowKit Go.Proofs.YtfigblfjogpojaaDoorW.PrintWords Go.Proofs.YtfigblfjogpojaaDoorW.PrintLast Go.Proofs.YtfigblfjogpojaaDoorW.PrintMore Go.Proofs.YtfigblfjogpojaaDoor.Bz
set_option linter.unusedVariables false
set_option linter.unusedSimpArgs false
theorem zero_iff {N w : Nat} (hN : N < 2 ^ w) : N = 0 ↔ ∀ i, i < w → N.testBit i = false := by
  constructor
  · rintro rfl i _; exact Nat.zero_testBit i
  · intro h
    apply Nat.eq_of_testBit_eq
    intro i
    rw [Nat.zero_testBit]
    by_cases hi : i < w
    · exact h i hi
    · exact bit_out hN (by omega)
theorem rd_nat (l : List Int) (i : Nat) : rd l (i : Int) = l.getD i 0 := by unfold rd; rw [Int.toNat_natCast]
open Classical in
noncomputable def truS (v x : Nat) : Int := if ∃ i, v.testBit i = true ∧ x.testBit i = false then 116 else if x = 0 then 102 else 117
open Classical in
theorem Truth_l0 (l : List Int) (hs : ∀ i, i < l.length → isSt (l.getD i 0)) (hn : l.length ≤ 64) (d : Nat) : ∀ (i : Nat) (c : Int), i + d = l.length →
    Ev (fun k => maskref1_Truth.l0 k c l (l.length : Int) (i : Int)) (if ∃ j, i ≤ j ∧ j < l.length ∧ l.getD j 0 = 49 then 116 else if ∃ j, i ≤ j ∧ j < l.length ∧ l.getD j 0 ≠ 48 then 117 else c) := by
  induction d with
  | zero =>
    intro i c hi
    refine Ev.step (fun k => by rw [maskref1_Truth.l0]) (Ev.neg (by omega) ((Ev.now _).eq ?_))
    rw [if_neg (by rintro ⟨j, h1, h2, _⟩; omega), if_neg (by rintro ⟨j, h1, h2, _⟩; omega)]
  | succ d ih =>
    intro i c hi
    refine Ev.step (fun k => by rw [maskref1_Truth.l0]) (Ev.pos (by omega) (Ev.pos (by omega) (Ev.pos (by omega) ?_)))
    rw [rd_nat, w64 (by omega)]
    by_cases h1 : l.getD i 0 = 49
    · refine Ev.pos h1 ((Ev.now _).eq ?_)
      rw [if_pos ⟨i, Nat.le_refl _, by omega, h1⟩]
    · refine Ev.neg h1 ?_
      by_cases h2 : l.getD i 0 = 48
      · refine Ev.pos h2 ((ih (i + 1) c (by omega)).eq ?_)
        have e1 : (∃ j, i + 1 ≤ j ∧ j < l.length ∧ l.getD j 0 = 49) ↔ (∃ j, i ≤ j ∧ j < l.length ∧ l.getD j 0 = 49) :=
          ⟨fun ⟨j, a, b, c⟩ => ⟨j, by omega, b, c⟩, fun ⟨j, a, b, c⟩ => ⟨j, by rcases Nat.lt_or_ge i j with h | h <;> first | omega | exact absurd (show l.getD i 0 = 49 by rw [show i = j by omega]; exact c) h1, b, c⟩⟩
        have e2 : (∃ j, i + 1 ≤ j ∧ j < l.length ∧ l.getD j 0 ≠ 48) ↔ (∃ j, i ≤ j ∧ j < l.length ∧ l.getD j 0 ≠ 48) :=
          ⟨fun ⟨j, a, b, c⟩ => ⟨j, by omega, b, c⟩, fun ⟨j, a, b, c⟩ => ⟨j, by rcases Nat.lt_or_ge i j with h | h <;> first | omega | exact absurd (show l.getD j 0 = 48 by rw [show j = i by omega]; exact h2) c, b, c⟩⟩
        simp only [e1, e2]
      · refine Ev.neg h2 ((ih (i + 1) 117 (by omega)).eq ?_)
        have e1 : (∃ j, i + 1 ≤ j ∧ j < l.length ∧ l.getD j 0 = 49) ↔ (∃ j, i ≤ j ∧ j < l.length ∧ l.getD j 0 = 49) :=
          ⟨fun ⟨j, a, b, c⟩ => ⟨j, by omega, b, c⟩, fun ⟨j, a, b, c⟩ => ⟨j, by rcases Nat.lt_or_ge i j with h | h <;> first | omega | exact absurd (show l.getD i 0 = 49 by rw [show i = j by omega]; exact c) h1, b, c⟩⟩
        simp only [e1]
        split
        · rfl
        · rw [if_pos (show ∃ j, i ≤ j ∧ j < l.length ∧ l.getD j 0 ≠ 48 from ⟨i, Nat.le_refl _, by omega, h2⟩)]
          split <;> rfl
open Classical in
theorem Truth_ev {w v x : Nat} (hv : v < 2 ^ w) (hx : x < 2 ^ w) (hw : w ≤ 64) : Ev (fun k => maskref1_Truth.f k (vs w v x)) (truS v x) := by
  unfold maskref1_Truth.f
  refine (Truth_l0 (vs w v x) (fun i hi => by rw [vs_length] at hi; rw [vs_getD _ _ _ _ hi]; exact stb_is _ _) (by rw [vs_length]; exact hw) _ 0 102 (by rw [Nat.zero_add])).eq ?_
  unfold truS
  rw [vs_length]
  have e1 : (∃ j, 0 ≤ j ∧ j < w ∧ (vs w v x).getD j 0 = 49) ↔ ∃ i, v.testBit i = true ∧ x.testBit i = false := by
    constructor
    · rintro ⟨j, _, h, e⟩
      rw [vs_getD _ _ _ _ h] at e
      unfold st stb at e
      cases h1 : v.testBit j <;> cases h2 : x.testBit j <;> simp [h1, h2] at e
      exact ⟨j, h1, h2⟩
    · rintro ⟨i, h1, h2⟩
      have hi : i < w := by
        rcases Nat.lt_or_ge i w with h | h
        · exact h
        · rw [bit_out hv h] at h1; cases h1
      exact ⟨i, Nat.zero_le _, hi, by rw [vs_getD _ _ _ _ hi]; unfold st stb; rw [h1, h2]; rfl⟩
  simp only [e1]
  by_cases h : ∃ i, v.testBit i = true ∧ x.testBit i = false
  · rw [if_pos h, if_pos h]
  · rw [if_neg h, if_neg h]
    have e2 : (∃ j, 0 ≤ j ∧ j < w ∧ (vs w v x).getD j 0 ≠ 48) ↔ x ≠ 0 := by
      have e3 := zero_iff hx
      constructor
      · rintro ⟨j, _, hj, e⟩ h0
        rw [vs_getD _ _ _ _ hj] at e
        unfold st stb at e
        rw [e3.1 h0 j hj] at e
        cases h4 : v.testBit j with
        | true => exact h ⟨j, h4, e3.1 h0 j hj⟩
        | false => rw [h4] at e; exact e rfl
      · intro h3
        refine Classical.byContradiction fun h4 => h3 (e3.2 fun i hi => ?_)
        rcases hb : x.testBit i with _ | _
        · rfl
        · refine absurd ⟨i, Nat.zero_le _, hi, ?_⟩ h4
          rw [vs_getD _ _ _ _ hi]; unfold st stb; rw [hb]
          cases v.testBit i <;> simp
    by_cases h4 : x = 0
    · rw [if_pos h4, if_neg (by rw [e2]; simpa using h4)]
    · rw [if_neg h4, if_pos (e2.2 h4)]
open Classical in
theorem True_ev {w v x : Nat} (h0 : 1 ≤ w) (hw : w ≤ 64) (hv : v < 2 ^ w) (hx : x < 2 ^ w) : Ev (fun k => bits_True.f k (w : Int) (v : Int) (x : Int)) (if truS v x = 116 then 1 else if truS v x = 102 then 0 else -1) := by
  have hv6 := lt64 hv hw
  have hx6 := lt64 hx hw
  have hok : okB (w : Int) v x = true := by
    unfold okB; rw [decide_eq_true_iff, Int.toNat_natCast]; exact ⟨by omega, by omega, hv, hx⟩
  unfold bits_True.f
  refine Ev.bind (valid1 hv6 hx6) ?_
  rw [hok]
  refine Ev.pos rfl ?_
  rw [andNot_n _ _ hv6 hx6]
  have e : andn v x = 0 ↔ ¬ ∃ i, v.testBit i = true ∧ x.testBit i = false := by
    rw [zero_iff (andn_lt hv)]
    constructor
    · rintro h ⟨i, h1, h2⟩
      have hi : i < w := by
        rcases Nat.lt_or_ge i w with h | h
        · exact h
        · rw [bit_out hv h] at h1; cases h1
      have := h i hi
      rw [testBit_andn _ _ _ hv6 hx6, h1, h2] at this; cases this
    · intro h i _
      rw [testBit_andn _ _ _ hv6 hx6]
      cases h1 : v.testBit i <;> cases h2 : x.testBit i <;> first | rfl | exact absurd ⟨i, h1, h2⟩ h
  by_cases h : ∃ i, v.testBit i = true ∧ x.testBit i = false
  · refine Ev.neg (by have : andn v x ≠ 0 := fun h1 => e.1 h1 h
                      omega) ((Ev.now _).eq ?_)
    simp [truS, h]
  · refine Ev.pos (by have : andn v x = 0 := e.2 h
                      omega) ?_
    by_cases h2 : x = 0
    · exact Ev.pos (by omega) ((Ev.now _).eq (by unfold truS; rw [if_neg h, if_pos h2, if_neg (by decide), if_pos rfl]))
    · exact Ev.neg (by omega) ((Ev.now _).eq (by unfold truS; rw [if_neg h, if_neg h2, if_neg (by decide), if_neg (by decide)]))
end Go.Proofs.YtfigblfjogpojaaDoor.PBits
end
