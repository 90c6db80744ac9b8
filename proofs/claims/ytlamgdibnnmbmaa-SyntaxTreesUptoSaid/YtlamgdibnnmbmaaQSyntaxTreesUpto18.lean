/- Part 19 of the proof of SyntaxTreesUptoSaid: The law SyntaxTrees, where the trees that it reads are of bulk at most 1048576: it returns true; the trees read behind the call as it read before. Out of the plain theorem of YtlamgdibnnmbmaaTr5. -/
import Derived.Test.YtlamgdibnnmbmaaQSyntaxTreesUpto14
import Derived.Test.YtlamgdibnnmbmaaQSyntaxTreesUpto17
section
namespace Go.Proofs.YtlamgdibnnmbmaaW.PrintWords
section
variable {α β : Type} {c : Prop} [Decidable c] {f g : Nat → Option α} {r : α}
theorem Ev.pos (h : c) (k : Ev f r) : Ev (fun n => if c then f n else g n) r := Ev.congr (fun n => if_pos h) k
theorem Ev.neg (h : ¬ c) (k : Ev g r) : Ev (fun n => if c then f n else g n) r := Ev.congr (fun n => if_neg h) k
theorem Ev.eq {s : α} (k : Ev f s) (h : s = r) : Ev f r := h ▸ k
end
end Go.Proofs.YtlamgdibnnmbmaaW.PrintWords
namespace Go.Proofs.Ytlamgdibnnmbmaa.PSyn
open Go.RowKit Go.Proofs.YtlamgdibnnmbmaaW.PrintWords Go.Proofs.YtlamgdibnnmbmaaW.PrintLast Go.Proofs.YtlamgdibnnmbmaaW.PrintMore
set_option linter.unusedVariables false
set_option linter.unusedSimpArgs false
theorem w64 {n : Int} (h : -9223372036854775808 ≤ n ∧ n ≤ 9223372036854775807) : wrap64 n = n := by unfold wrap64; omega
theorem mx_nat (a b : Nat) : mx (a : Int) (b : Int) = ((max a b : Nat) : Int) := by unfold mx; split <;> omega
theorem rd27 (l : List S27) (i : Nat) (h : i < l.length) : rd_T27 l (i : Int) = l[i] := by
  unfold rd_T27; rw [Int.toNat_natCast, List.getD_eq_getElem?_getD, List.getElem?_eq_getElem h]; rfl
theorem rd27_cons (l : List S27) (i : Nat) {a : S27} {r : List S27} (h : l.drop i = a :: r) : i < l.length ∧ rd_T27 l (i : Int) = a ∧ l.drop (i + 1) = r := by
  have hl : i < l.length := by
    rcases Nat.lt_or_ge i l.length with h1 | h1
    · exact h1
    · rw [List.drop_eq_nil_of_le h1] at h; cases h
  rw [List.drop_eq_getElem_cons hl] at h
  injection h with h1 h2
  exact ⟨hl, (rd27 l i hl).trans h1, h2⟩
mutual
def S27.cnt : S27 → Nat
  | ⟨_, _, _, _, _, _, _, kids⟩ => 1 + cntAll kids
def cntAll : List S27 → Nat
  | [] => 0
  | a :: l => a.cnt + cntAll l
end
mutual
def S27.dep : S27 → Nat
  | ⟨_, _, _, _, _, _, _, kids⟩ => depAll kids + 1
def depAll : List S27 → Nat
  | [] => 0
  | a :: l => max a.dep (depAll l)
end
mutual
theorem cnt_le : ∀ a : S27, a.cnt ≤ a.bulk
  | ⟨_, _, _, s, t, _, _, kids⟩ => by
    have := cntAll_le kids
    simp only [S27.cnt, S27.bulk]; omega
theorem cntAll_le : ∀ l : List S27, cntAll l ≤ bulkAll l
  | [] => Nat.le_refl _
  | a :: l => by
    have h1 := cnt_le a
    have h2 := cntAll_le l
    simp only [cntAll, bulkAll]; omega
end
mutual
theorem dep_le : ∀ a : S27, a.dep ≤ a.bulk
  | ⟨_, _, _, s, t, _, _, kids⟩ => by
    have := depAll_le kids
    simp only [S27.dep, S27.bulk]; omega
theorem depAll_le : ∀ l : List S27, depAll l ≤ bulkAll l
  | [] => Nat.le_refl _
  | a :: l => by
    have h1 := dep_le a
    have h2 := depAll_le l
    simp only [depAll, bulkAll]; omega
end
theorem bulk_pos : ∀ a : S27, 1 ≤ a.bulk
  | ⟨_, _, _, s, t, _, _, kids⟩ => by simp only [S27.bulk]; omega
theorem kids_bulk : ∀ a : S27, bulkAll a.f7 + 1 + a.f3.size + a.f4.size = a.bulk
  | ⟨_, _, _, s, t, _, _, kids⟩ => by simp only [S27.bulk]; omega
theorem length_le : ∀ l : List S27, l.length ≤ bulkAll l
  | [] => Nat.le_refl _
  | a :: l => by
    have h1 := bulk_pos a
    have h2 := length_le l
    simp only [List.length_cons, bulkAll]; omega
theorem bulk_drop (l : List S27) : ∀ i, bulkAll (l.drop i) ≤ bulkAll l := by
  induction l with
  | nil => intro i; simp [bulkAll]
  | cons a l ih =>
    intro i
    cases i with
    | zero => exact Nat.le_refl _
    | succ i => have := ih i; simp only [List.drop_succ_cons, bulkAll]; omega
def measF (k : Nat) (a : S27) : Option (Int × Int) := syntax_Measure.f k a.f0 a.f1 a.f2 a.f3 a.f4 a.f5.f0 a.f5.f1 a.f5.f2 a.f6 a.f7
def weighF (k : Nat) (a : S27) : Option (Int × Int) := maskref1_Weigh.f k a.f0 a.f1 a.f2 a.f3 a.f4 a.f5.f0 a.f5.f1 a.f5.f2 a.f6 a.f7
theorem cnt_eq : ∀ a : S27, a.cnt = 1 + cntAll a.f7
  | ⟨_, _, _, _, _, _, _, _⟩ => by simp only [S27.cnt]
theorem dep_eq : ∀ a : S27, a.dep = depAll a.f7 + 1
  | ⟨_, _, _, _, _, _, _, _⟩ => by simp only [S27.dep]
theorem meas_ev (n : Nat) : ∀ a : S27, a.bulk ≤ n → a.bulk ≤ 1048576 → Ev (fun k => measF k a) ((a.cnt : Int), (a.dep : Int)) := by
  induction n with
  | zero => intro a h; have := bulk_pos a; omega
  | succ n ih =>
    intro a ha hB
    have hkb := kids_bulk a
    have loop : ∀ (r : List S27) (i s d : Nat), a.f7.drop i = r → 1 ≤ d → s + bulkAll r ≤ 2097152 → d ≤ 2097152 →
        Ev (fun k => syntax_Measure.l0 k (s : Int) (d : Int) a.f7 (a.f7.length : Int) (i : Int)) (((s + cntAll r : Nat) : Int), ((max d (depAll r + 1) : Nat) : Int)) := by
      intro r
      induction r with
      | nil =>
        intro i s d hr hd hs hd2
        have hi : a.f7.length ≤ i := List.drop_eq_nil_iff.1 hr
        refine Ev.step (fun k => by rw [syntax_Measure.l0]) (Ev.neg (by omega) ((Ev.now _).eq ?_))
        simp only [cntAll, depAll]
        rw [Nat.max_eq_left (by omega), Nat.add_zero]
      | cons b r ihr =>
        intro i s d hr hd hs hd2
        obtain ⟨hi, hb, hr'⟩ := rd27_cons _ _ hr
        have hlen := length_le a.f7
        have hbb : b.bulk + bulkAll r ≤ bulkAll a.f7 := by
          have := bulk_drop a.f7 i
          rw [hr] at this; simpa only [bulkAll] using this
        have hc := cnt_le b
        have hdp := dep_le b
        simp only [bulkAll] at hs
        refine Ev.step (fun k => by rw [syntax_Measure.l0]) (Ev.pos (by omega) (Ev.pos (by omega) (Ev.pos (by omega) ?_)))
        rw [hb]
        refine Ev.bind (show Ev (fun k => syntax_Measure.f k b.f0 b.f1 b.f2 b.f3 b.f4 b.f5.f0 b.f5.f1 b.f5.f2 b.f6 b.f7) _ from ih b (by omega) (by omega)) ?_
        show Ev (fun k => syntax_Measure.l0 k (wrap64 ((s : Int) + (b.cnt : Int))) (mx (d : Int) (wrap64 ((b.dep : Int) + 1))) a.f7 (a.f7.length : Int) (wrap64 ((i : Int) + 1))) _
        rw [w64 (n := (s : Int) + (b.cnt : Int)) (by omega), w64 (n := (b.dep : Int) + 1) (by omega), w64 (n := (i : Int) + 1) (by omega)]
        have e := ihr (i + 1) (s + b.cnt) (max d (b.dep + 1)) hr' (by omega) (by omega) (by omega)
        rw [show (s : Int) + (b.cnt : Int) = ((s + b.cnt : Nat) : Int) from rfl, show (b.dep : Int) + 1 = ((b.dep + 1 : Nat) : Int) from rfl, mx_nat]
        refine e.eq ?_
        simp only [cntAll, depAll]
        rw [Nat.add_assoc, Nat.max_assoc, Nat.succ_max_succ]
    refine Ev.step (fun k => by rw [measF, syntax_Measure.f]) ?_
    have e := loop a.f7 0 1 1 rfl (Nat.le_refl _) (by omega) (by omega)
    refine e.eq ?_
    rw [cnt_eq, dep_eq, Nat.max_eq_right (by omega)]
theorem weigh_ev (n : Nat) : ∀ a : S27, a.bulk ≤ n → a.bulk ≤ 1048576 → Ev (fun k => weighF k a) ((a.cnt : Int), (a.dep : Int)) := by
  induction n with
  | zero => intro a h; have := bulk_pos a; omega
  | succ n ih =>
    intro a ha hB
    have hkb := kids_bulk a
    have loop : ∀ (r : List S27) (i s d : Nat), a.f7.drop i = r → s + bulkAll r ≤ 2097152 → d ≤ 2097152 →
        Ev (fun k => maskref1_Weigh.l0 k (s : Int) (d : Int) a.f7 (a.f7.length : Int) (i : Int)) (((s + cntAll r : Nat) : Int), ((max d (depAll r) + 1 : Nat) : Int)) := by
      intro r
      induction r with
      | nil =>
        intro i s d hr hs hd2
        have hi : a.f7.length ≤ i := List.drop_eq_nil_iff.1 hr
        refine Ev.step (fun k => by rw [maskref1_Weigh.l0]) (Ev.neg (by omega) ((Ev.now _).eq ?_))
        simp only [cntAll, depAll]
        rw [Nat.max_eq_left (by omega), Nat.add_zero, w64 (by omega)]; rfl
      | cons b r ihr =>
        intro i s d hr hs hd2
        obtain ⟨hi, hb, hr'⟩ := rd27_cons _ _ hr
        have hlen := length_le a.f7
        have hbb : b.bulk + bulkAll r ≤ bulkAll a.f7 := by
          have := bulk_drop a.f7 i
          rw [hr] at this; simpa only [bulkAll] using this
        have hc := cnt_le b
        have hdp := dep_le b
        simp only [bulkAll] at hs
        refine Ev.step (fun k => by rw [maskref1_Weigh.l0]) (Ev.pos (by omega) (Ev.pos (by omega) (Ev.pos (by omega) ?_)))
        rw [hb]
        refine Ev.bind (show Ev (fun k => maskref1_Weigh.f k b.f0 b.f1 b.f2 b.f3 b.f4 b.f5.f0 b.f5.f1 b.f5.f2 b.f6 b.f7) _ from ih b (by omega) (by omega)) ?_
        show Ev (fun k => maskref1_Weigh.l0 k (wrap64 ((s : Int) + (b.cnt : Int))) (mx (d : Int) (b.dep : Int)) a.f7 (a.f7.length : Int) (wrap64 ((i : Int) + 1))) _
        rw [w64 (n := (s : Int) + (b.cnt : Int)) (by omega), w64 (n := (i : Int) + 1) (by omega)]
        have e := ihr (i + 1) (s + b.cnt) (max d b.dep) hr' (by omega) (by omega)
        rw [show (s : Int) + (b.cnt : Int) = ((s + b.cnt : Nat) : Int) from rfl, mx_nat]
        refine e.eq ?_
        simp only [cntAll, depAll]
        rw [Nat.add_assoc, Nat.max_assoc]
    refine Ev.step (fun k => by rw [weighF, maskref1_Weigh.f]) ?_
    have e := loop a.f7 0 1 0 rfl (by omega) (by omega)
    refine e.eq ?_
    rw [cnt_eq, dep_eq, Nat.zero_max]
end Go.Proofs.Ytlamgdibnnmbmaa.PSyn
end
