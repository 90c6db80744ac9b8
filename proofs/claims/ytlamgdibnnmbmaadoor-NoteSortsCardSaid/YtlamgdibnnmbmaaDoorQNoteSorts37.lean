/- Part 38 of the proof of NoteSortsCardSaid: The law NoteSorts: for all arguments it returns true; each argument reads behind the call as it read before. Out of the plain theorem of YtlamgdibnnmbmaaDoorPureNoteSorts and the printed contract. -/
import Derived.Test.YtlamgdibnnmbmaaDoorQNoteSorts22
import Derived.Test.YtlamgdibnnmbmaaDoorQNoteSorts35
import Derived.Test.YtlamgdibnnmbmaaDoorQNoteSorts36
import Derived.KernelRfl
section
namespace Go.Proofs.YtlamgdibnnmbmaaDoor.PSort
open Go.RowKit Go.Proofs.YtlamgdibnnmbmaaDoorW.PrintWords Go.Proofs.YtlamgdibnnmbmaaDoorW.PrintLast Go.Proofs.YtlamgdibnnmbmaaDoorW.PrintMore
set_option linter.unusedVariables false
set_option linter.unusedSimpArgs false
theorem told_at : masklaw1_told.f 60 = some true := by kernel_rfl
theorem told_ev : Ev (fun k => masklaw1_told.f k) true := Ev.of masklaw1_told.mono told_at
theorem equal_l0 (l : List S24) (hl : l.length ≤ 1000) : ∀ d i, i + d = l.length → Ev (fun k => api_Note.l0 k l l (l.length : Int) (i : Int)) true := by
  intro d
  induction d with
  | zero => intro i hi; exact Ev.step (fun k => by rw [api_Note.l0]) (Ev.neg (by omega) (Ev.now _))
  | succ d ih =>
    intro i hi
    refine Ev.step (fun k => by rw [api_Note.l0]) (Ev.pos (by omega) (Ev.pos (by omega) (Ev.pos (by omega) (Ev.pos (by omega) (Ev.neg (by simp) ?_)))))
    rw [w64 (n := (i : Int) + 1) (by omega)]
    exact ih (i + 1) (by omega)
theorem equal_ev (l : List S24) (hl : l.length ≤ 1000) : Ev (fun k => api_Note.f k l l) true := by
  unfold api_Note.f
  exact Ev.pos rfl (equal_l0 l hl l.length 0 (by omega))
theorem sorts_ev (L : List S24) (hL : L.length ≤ 60) : Ev (fun k => masklaw1_NoteSorts.l0 k L (L.length : Int) (L.length : Int)) true := by
  refine Ev.step (fun k => by rw [masklaw1_NoteSorts.l0]) (Ev.neg (by omega) (Ev.bind told_ev (Ev.pos rfl ?_)))
  have hs : note_Sort.f L = some ((kept L).take 20) := by unfold note_Sort.f; rw [if_pos (by omega)]
  refine Ev.bnd hs (Ev.bind (Sorted_ev L (by omega) (kept_rises L) (fun a => mem_kept a L)) (Ev.bind (equal_ev _ ?_) (Ev.now _)))
  have := kept_len L
  rw [List.length_take]; omega
theorem inner_ev (L : List S24) (hL : L.length ≤ 60) (i : Nat) (hi : i < L.length) (h : Ev (fun k => masklaw1_NoteSorts.l0 k L (L.length : Int) ((i + 1 : Nat) : Int)) true) :
    ∀ d j, j + d = L.length → Ev (fun k => masklaw1_NoteSorts.l1 k L (i : Int) (L.length : Int) (i : Int) (L.length : Int) (j : Int)) true := by
  intro d
  induction d with
  | zero =>
    intro j hj
    refine Ev.step (fun k => by rw [masklaw1_NoteSorts.l1]) (Ev.neg (by omega) ?_)
    rw [w64 (n := (i : Int) + 1) (by omega)]
    exact h
  | succ d ih =>
    intro j hj
    have hjl : j < L.length := by omega
    have hnext := ih (j + 1) (by omega)
    have hsw := cmp_swap L[i] L[j]
    have hc := cmpN_cases L[i] L[j]
    have e1 : bef L[i] L[j] = decide (cmpN L[i] L[j] = -1) := rfl
    have e2 : bef L[j] L[i] = decide (cmpN L[j] L[i] = -1) := rfl
    have j3 : ∀ x, x = cmpN L[i] L[j] → Ev (fun k => masklaw1_NoteSorts.j3 k L (i : Int) (j : Int) x (L.length : Int) (i : Int) (L.length : Int) (j : Int)) true := by
      intro x hx
      refine Ev.step (fun k => by rw [masklaw1_NoteSorts.j3]) (Ev.pos (by omega) (Ev.pos (by omega) (Ev.pos (by omega) (Ev.pos (by omega) ?_))))
      refine Ev.bind (Cmp_ev _ _) ?_
      rw [rd_at L i hi, rd_at L j hjl]
      refine Ev.pos hx.symm ?_
      rw [w64 (n := (j : Int) + 1) (by omega)]
      exact hnext
    have j2 : ∀ x, (cmpN L[i] L[j] = 1 ∨ x = cmpN L[i] L[j]) → Ev (fun k => masklaw1_NoteSorts.j2 k L (i : Int) (j : Int) x (L.length : Int) (i : Int) (L.length : Int) (j : Int)) true := by
      intro x hx
      refine Ev.step (fun k => by rw [masklaw1_NoteSorts.j2]) (Ev.pos (by omega) (Ev.pos (by omega) (Ev.pos (by omega) (Ev.pos (by omega) ?_))))
      refine Ev.bnd (Before_is _ _) ?_
      rw [rd_at L i hi, rd_at L j hjl, e2]
      by_cases h1 : cmpN L[i] L[j] = 1
      · exact Ev.pos (by rw [decide_eq_true_iff]; omega) (j3 1 h1.symm)
      · refine Ev.neg (by rw [decide_eq_true_iff]; omega) (j3 x (hx.resolve_left h1))
    refine Ev.step (fun k => by rw [masklaw1_NoteSorts.l1]) (Ev.pos (by omega) (Ev.pos (by omega) (Ev.pos (by omega) (Ev.pos (by omega) (Ev.pos (by omega) ?_)))))
    refine Ev.bnd (Before_is _ _) ?_
    rw [rd_at L i hi, rd_at L j hjl, e1]
    by_cases h1 : cmpN L[i] L[j] = -1
    · exact Ev.pos (by rw [decide_eq_true_iff]; exact h1) (j2 (-1) (.inr h1.symm))
    · exact Ev.neg (by rw [decide_eq_true_iff]; exact h1) (j2 0 (by omega))
theorem outer_ev (L : List S24) (hL : L.length ≤ 60) : ∀ d i, i + d = L.length → Ev (fun k => masklaw1_NoteSorts.l0 k L (L.length : Int) (i : Int)) true := by
  intro d
  induction d with
  | zero =>
    intro i hi
    obtain rfl : i = L.length := by omega
    exact sorts_ev L hL
  | succ d ih =>
    intro i hi
    refine Ev.step (fun k => by rw [masklaw1_NoteSorts.l0]) (Ev.pos (by omega) ?_)
    exact inner_ev L hL i (by omega) (ih (i + 1) (by omega)) L.length 0 (by omega)
theorem NoteSorts_pure (l : List S24) (_hl : ∀ s ∈ l, ok24 s) : ∃ k, masklaw1_NoteSorts.f k l = some true := by
  refine Ev.rounds (g := fun k => masklaw1_NoteSorts.f k l) ?_
  unfold masklaw1_NoteSorts.f
  have h0 : 0 ≤ mn (l.length : Int) 60 := by unfold mn; omega
  have h1 : mn (l.length : Int) 60 ≤ (l.length : Int) := by unfold mn; omega
  refine Ev.pos h0 (Ev.pos h1 ?_)
  have hL : (l.take (mn (l.length : Int) 60).toNat).length ≤ 60 := by
    rw [List.length_take]; unfold mn; omega
  exact outer_ev _ hL _ 0 (Nat.zero_add _)
end Go.Proofs.YtlamgdibnnmbmaaDoor.PSort
end
