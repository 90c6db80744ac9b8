/- Part 35 of the proof of BitsNumbersCardSaid: The law BitsNumbers: for all arguments it returns true; each argument reads behind the call as it read before. Out of the plain theorem of YtfigblfjogpojaaDoorPureBitsNumbers and the printed contract. -/
import Derived.Test.YtfigblfjogpojaaDoorQBitsNumbers32
import Derived.Test.YtfigblfjogpojaaDoorQBitsNumbers33
section
namespace Go.Proofs.YtfigblfjogpojaaDoor.PBits
open Go.RowKit Go.Proofs.YtfigblfjogpojaaDoorW.PrintWords Go.Proofs.YtfigblfjogpojaaDoorW.PrintLast Go.Proofs.YtfigblfjogpojaaDoorW.PrintMore Go.Proofs.YtfigblfjogpojaaDoor.Bz
set_option linter.unusedVariables false
set_option linter.unusedSimpArgs false
def ngN (w a : Nat) (neg : Bool) : Nat := if neg then 2 ^ w - a else a
theorem ng_ev {w a : Nat} (hw : w ≤ 64) (ha : a < 2 ^ w) : Ev (fun k => maskref1_minus.f k (vs w 0 0) (vs w a 0)) (vs w (2 ^ w - a) 0) :=
  (minus_ev (a := 0) ha (by omega)).eq (by rw [Nat.zero_add])
theorem sgn_abs {w a : Nat} (h1 : 1 ≤ w) (ha : a < 2 ^ w) : sgn w a = (if a.testBit (w - 1) = true then -((ngN w a true : Nat) : Int) else ((ngN w a false : Nat) : Int)) := by
  have hp : (2 : Int) ^ w = ((2 ^ w : Nat) : Int) := by push_cast; rfl
  unfold sgn ngN
  rw [hp]
  split
  · rw [if_pos rfl]; omega
  · rw [if_neg (by decide)]
theorem ngN_lt {w a : Nat} {s : Bool} (h : s = true → 0 < a) (ha : a < 2 ^ w) : ngN w a s < 2 ^ w := by
  unfold ngN
  cases s with
  | true => have := h rfl; rw [if_pos rfl]; omega
  | false => rw [if_neg (by decide)]; exact ha
theorem ngN_pos {w a : Nat} {s : Bool} (ha : a < 2 ^ w) (h0 : 0 < a) : 0 < ngN w a s := by
  unfold ngN
  cases s with
  | true => rw [if_pos rfl]; omega
  | false => rw [if_neg (by decide)]; exact h0
def quoN (w a b : Nat) (na nb : Bool) : Nat := ngN w (ngN w a na / ngN w b nb) (na != nb)
def remN (w a b : Nat) (na nb : Bool) : Nat := ngN w (ngN w a na % ngN w b nb) na
theorem shared_j0 {w a b : Nat} {na nb : Bool} (h1 : 1 ≤ w) (hw : w ≤ 64) (ha : a < 2 ^ w) (hb : b < 2 ^ w) (hb0 : 0 < b) (ka : na = true → 0 < a) :
    Ev (fun k => maskref1_shared.j0 k (vs w a 0) (vs w b 0) (vs w 0 0) na nb) (vs w (quoN w a b na nb) 0, vs w (remN w a b na nb) 0) := by
  have A1 := ngN_lt ka ha
  have B1 : ngN w b nb < 2 ^ w := ngN_lt (fun _ => hb0) hb
  have B0 : 0 < ngN w b nb := ngN_pos hb hb0
  have ho := over_ev h1 hw A1 B1 B0
  have hq : ngN w a na / ngN w b nb < 2 ^ w := Nat.lt_of_le_of_lt (Nat.div_le_self _ _) A1
  have hr : ngN w a na % ngN w b nb < 2 ^ w := Nat.lt_of_le_of_lt (Nat.mod_le _ _) A1
  have j3 : ∀ q : List Int, Ev (fun k => maskref1_shared.j3 k (vs w 0 0) na q (vs w (ngN w a na % ngN w b nb) 0)) (q, vs w (remN w a b na nb) 0) := by
    intro q
    refine Ev.step (fun k => by rw [maskref1_shared.j3]) ?_
    unfold remN
    cases na with
    | true =>
      refine Ev.pos rfl (Ev.bind (ng_ev hw hr) ((Ev.now _).eq ?_))
      show _ = (q, vs w (if true = true then _ else _) 0)
      rw [if_pos rfl]
    | false => exact Ev.neg (by decide) (Ev.now _)
  have j2 : Ev (fun k => maskref1_shared.j2 k (vs w (ngN w a na) 0) (vs w (ngN w b nb) 0) (vs w 0 0) na nb) (vs w (quoN w a b na nb) 0, vs w (remN w a b na nb) 0) := by
    refine Ev.step (fun k => by rw [maskref1_shared.j2]) ?_
    refine Ev.bind ho ?_
    have hj := j3 (vs w (quoN w a b na nb) 0)
    unfold quoN at hj ⊢
    cases hne : (na != nb) with
    | true =>
      rw [hne] at hj
      exact Ev.pos rfl (Ev.bind (ng_ev hw hq) hj)
    | false =>
      rw [hne] at hj
      exact Ev.neg (by decide) hj
  have j1 : Ev (fun k => maskref1_shared.j1 k (vs w (ngN w a na) 0) (vs w b 0) (vs w 0 0) na nb) (vs w (quoN w a b na nb) 0, vs w (remN w a b na nb) 0) := by
    refine Ev.step (fun k => by rw [maskref1_shared.j1]) ?_
    cases nb with
    | true => exact Ev.pos rfl (Ev.bind (ng_ev hw hb) j2)
    | false => exact Ev.neg (by decide) j2
  refine Ev.step (fun k => by rw [maskref1_shared.j0]) ?_
  cases na with
  | true => exact Ev.pos rfl (Ev.bind (ng_ev hw ha) j1)
  | false => exact Ev.neg (by decide) j1
theorem shared_ev {w a b : Nat} (h1 : 1 ≤ w) (hw : w ≤ 64) (ha : a < 2 ^ w) (hb : b < 2 ^ w) (hb0 : 0 < b) (signed : Bool) :
    Ev (fun k => maskref1_shared.f k (vs w a 0) (vs w b 0) signed) (vs w (quoN w a b (signed && a.testBit (w - 1)) (signed && b.testBit (w - 1))) 0, vs w (remN w a b (signed && a.testBit (w - 1)) (signed && b.testBit (w - 1))) 0) := by
  have hf := Fill_ev 48 w (show w ≤ 1000 by omega)
  rw [zeros] at hf
  have ka : (signed && a.testBit (w - 1)) = true → 0 < a := by
    intro h
    rw [Bool.and_eq_true] at h
    exact Nat.pos_of_ne_zero (by rintro rfl; rw [Nat.zero_testBit] at h; cases h.2)
  have hj := shared_j0 (nb := (signed && b.testBit (w - 1))) h1 hw ha hb hb0 ka
  unfold maskref1_shared.f
  rw [vs_length, vs_length, w64 (n := (w : Int) - 1) (by omega), show (w : Int) - 1 = ((w - 1 : Nat) : Int) by omega, rd_vs _ _ _ _ (by omega), rd_vs _ _ _ _ (by omega), st_kb, st_kb]
  refine Ev.bind hf ?_
  cases signed with
  | true =>
    refine Ev.pos rfl (Ev.pos (by omega) (Ev.pos (by omega) (Ev.pos (by omega) (Ev.pos (by omega) ?_))))
    have k49 : ∀ c : Bool, (kb c == 49) = c := by intro c; cases c <;> rfl
    rw [k49, k49]
    simpa using hj
  | false => exact Ev.neg (by decide) (by simpa using hj)
end Go.Proofs.YtfigblfjogpojaaDoor.PBits
end
