/- Part 23 of the proof of NoteSortsCardSaid: The law NoteSorts: for all arguments it returns true; each argument reads behind the call as it read before. Out of the plain theorem of YtlamgdibnnmbmaaDoorPureNoteSorts and the printed contract. -/
import Derived.Test.YtlamgdibnnmbmaaDoorQNoteSorts21
section
namespace Go.Proofs.YtlamgdibnnmbmaaDoor.PSort
open Go.RowKit Go.Proofs.YtlamgdibnnmbmaaDoorW.PrintWords Go.Proofs.YtlamgdibnnmbmaaDoorW.PrintLast Go.Proofs.YtlamgdibnnmbmaaDoorW.PrintMore
set_option linter.unusedVariables false
set_option linter.unusedSectionVars false
theorem rd_at (l : List S24) (i : Nat) (h : i < l.length) : rd_T24 l (i : Int) = l[i] := by
  unfold rd_T24
  rw [Int.toNat_natCast, List.getD_eq_getElem?_getD, List.getElem?_eq_getElem h]; rfl
def stepB (last b : Option S24) (n : S24) : Option S24 := if (Ns.above bef last n && Ns.bet bef b n) = true then some n else b
section
variable (l : List S24) (hl : l.length ≤ 1000) (out : List S24) (ho : out.length < 20)
def lastO : Option S24 := if out.length = 0 then none else out[out.length - 1]?
def Rel (x4 : Int) (b : Option S24) : Prop := (b = none ∧ x4 = -1) ∨ ∃ j : Nat, ∃ h : j < l.length, x4 = (j : Int) ∧ b = some l[j]
include hl ho
theorem sorted_l1 {R : List S24} : ∀ d i, i + d = l.length → ∀ (x4 : Int) (b : Option S24), Rel l x4 b →
    ((l.drop i).foldl (stepB (lastO out)) b = none → R = out) → (∀ m, (l.drop i).foldl (stepB (lastO out)) b = some m → Ev (fun k => maskref1_Sorted.l0 k l (out ++ [m])) R) →
    Ev (fun k => maskref1_Sorted.l1 k l out x4 l (l.length : Int) (i : Int)) R := by
  intro d
  induction d with
  | zero =>
    intro i hi x4 b hr hN hS
    rw [List.drop_eq_nil_of_le (by omega)] at hN hS
    refine Ev.step (fun k => by rw [maskref1_Sorted.l1]) (Ev.neg (by omega) ?_)
    rcases hr with ⟨rfl, rfl⟩ | ⟨j, hj, rfl, rfl⟩
    · rw [hN rfl]; exact Ev.pos (by decide) (Ev.now _)
    · have h := hS _ rfl
      refine Ev.neg (by omega) (Ev.pos (by omega) (Ev.pos (by omega) (Ev.pos (by omega) ?_)))
      rw [rd_at l j hj]
      exact h
  | succ d ih =>
    intro i hi x4 b hr hN hS
    have hil : i < l.length := by omega
    rw [List.drop_eq_getElem_cons hil, List.foldl_cons] at hN hS
    have j2 : ∀ c : Bool, c = (Ns.above bef (lastO out) l[i] && Ns.bet bef b l[i]) → Ev (fun k => maskref1_Sorted.j2 k l out x4 (i : Int) l (l.length : Int) (i : Int) c) R := by
      intro c hc
      refine Ev.step (fun k => by rw [maskref1_Sorted.j2]) ?_
      rw [w64 (n := (i : Int) + 1) (by omega)]
      unfold stepB at hN hS
      rw [← hc] at hN hS
      cases c with
      | true =>
        rw [if_pos rfl] at hN hS
        exact Ev.pos rfl (ih (i + 1) (by omega) (i : Int) (some l[i]) (.inr ⟨i, hil, rfl, rfl⟩) hN hS)
      | false =>
        rw [if_neg (by decide)] at hN hS
        exact Ev.neg (by decide) (ih (i + 1) (by omega) x4 b hr hN hS)
    have low : ∀ {F : Nat → Option (List S24)}, Ns.above bef (lastO out) l[i] = true → Ev (fun k => if x4 < 0 then maskref1_Sorted.j2 k l out x4 (i : Int) l (l.length : Int) (i : Int) true else if 0 ≤ x4 then (if x4 < (l.length : Int) then ((maskref1_NoteBefore.f ((rd_T24 l (i : Int)).f0) ((rd_T24 l (i : Int)).f1) ((rd_T24 l (i : Int)).f2) ((rd_T24 l (i : Int)).f3) ((rd_T24 l (i : Int)).f4) ((rd_T24 l x4).f0) ((rd_T24 l x4).f1) ((rd_T24 l x4).f2) ((rd_T24 l x4).f3) ((rd_T24 l x4).f4)).bind fun t246 => (maskref1_Sorted.j2 k l out x4 (i : Int) l (l.length : Int) (i : Int) t246)) else none) else none) R := by
      intro F hab
      rcases hr with ⟨rfl, rfl⟩ | ⟨j, hj, rfl, rfl⟩
      · exact Ev.pos (by decide) (j2 true (by rw [hab]; rfl))
      · refine Ev.neg (by omega) (Ev.pos (by omega) (Ev.pos (by omega) (Ev.bnd (Before_is _ _) (j2 _ ?_))))
        rw [hab, Bool.true_and, rd_at l i hil, rd_at l j hj]; rfl
    refine Ev.step (fun k => by rw [maskref1_Sorted.l1]) (Ev.pos (by omega) (Ev.pos (by omega) (Ev.pos (by omega) ?_)))
    by_cases h0 : out.length = 0
    · refine Ev.pos (by omega) (low (F := fun _ => none) ?_)
      unfold lastO; rw [if_pos h0]; rfl
    · refine Ev.neg (by omega) ?_
      have e : wrap64 ((out.length : Int) - 1) = ((out.length - 1 : Nat) : Int) := by rw [w64 (by omega)]; omega
      have hlast : lastO out = some (out[out.length - 1]'(by omega)) := by unfold lastO; rw [if_neg h0, List.getElem?_eq_getElem (by omega)]
      rw [e]
      refine Ev.pos (by omega) (Ev.pos (by omega) (Ev.bnd (Before_is _ _) ?_))
      rw [rd_at out _ (by omega)]
      have hab : Ns.above bef (lastO out) l[i] = bef (out[out.length - 1]'(by omega)) (rd_T24 l (i : Int)) := by rw [hlast, rd_at l i hil]; rfl
      cases hb : bef (out[out.length - 1]'(by omega)) (rd_T24 l (i : Int)) with
      | true => exact Ev.pos rfl (low (F := fun _ => none) (hab.trans hb))
      | false => exact Ev.neg (by decide) (j2 false (by rw [hab, hb]; rfl))
end
theorem sorted_l0 (l : List S24) (hl : l.length ≤ 1000) {D : List S24} (hD : D.Pairwise (fun x y => bef x y = true)) (hm : ∀ a, a ∈ D ↔ a ∈ l) : ∀ d i, i + d = 20 → i ≤ D.length → Ev (fun k => maskref1_Sorted.l0 k l (D.take i)) (D.take 20) := by
  classical
  intro d
  induction d with
  | zero =>
    intro i hi hD2
    obtain rfl : i = 20 := by omega
    refine Ev.step (fun k => by rw [maskref1_Sorted.l0]) ?_
    exact Ev.neg (by rw [List.length_take]; omega) (Ev.now _)
  | succ d ih =>
    intro i hi hD2
    have hlen : (D.take i).length = i := by rw [List.length_take]; omega
    have hb := Ns.best_is bef bef_total hD hm i hD2
    have hlast : lastO (D.take i) = if i = 0 then none else D[i - 1]? := by
      unfold lastO
      rw [hlen]
      by_cases h0 : i = 0
      · rw [if_pos h0, if_pos h0]
      · rw [if_neg h0, if_neg h0, List.getElem?_take, if_pos (by omega)]
    have hbest : l.foldl (stepB (lastO (D.take i))) none = D[i]? := by rw [hlast]; exact hb
    refine Ev.step (fun k => by rw [maskref1_Sorted.l0]) (Ev.pos (by omega) ?_)
    refine sorted_l1 l hl (D.take i) (by omega) l.length 0 (by omega) (-1) none (.inl ⟨rfl, rfl⟩) (fun h => ?_) (fun m h => ?_)
    · rw [List.drop_zero, hbest] at h
      have : D.length ≤ i := List.getElem?_eq_none_iff.1 h
      rw [List.take_of_length_le (by omega), List.take_of_length_le (by omega)]
    · rw [List.drop_zero, hbest] at h
      obtain ⟨hlt, rfl⟩ := List.getElem?_eq_some_iff.1 h
      rw [← List.take_succ_eq_append_getElem hlt]
      exact ih (i + 1) (by omega) (by omega)
theorem Sorted_ev (l : List S24) (hl : l.length ≤ 1000) {D : List S24} (hD : D.Pairwise (fun x y => bef x y = true)) (hm : ∀ a, a ∈ D ↔ a ∈ l) : Ev (fun k => maskref1_Sorted.f k l) (D.take 20) :=
  sorted_l0 l hl hD hm 20 0 rfl (Nat.zero_le _)
end Go.Proofs.YtlamgdibnnmbmaaDoor.PSort
end
