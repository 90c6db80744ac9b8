/- Part 50 of the proof of BitsTextsCardSaid: The law BitsTexts: for all arguments it returns true; each argument reads behind the call as it read before. Out of the plain theorem of YtfigblfjogpojaaDoorPureBitsTexts and the printed contract. -/
import Derived.Test.YtfigblfjogpojaaDoorQBitsTexts47
import Derived.Test.YtfigblfjogpojaaDoorQBitsTexts48
section
namespace Go.Proofs.YtfigblfjogpojaaDoor.PBits
open Go.RowKit Go.Proofs.YtfigblfjogpojaaDoorW.PrintWords Go.Proofs.YtfigblfjogpojaaDoorW.PrintLast Go.Proofs.YtfigblfjogpojaaDoorW.PrintMore Go.Proofs.YtfigblfjogpojaaDoor.Bz
set_option linter.unusedVariables false
set_option linter.unusedSimpArgs false
set_option linter.unusedSectionVars false
section
variable (s : ByteArray) (hs : s.size ≤ 100)
theorem cap_pos (h0 : 1 ≤ dgt s 0) : ∀ k, (∀ i, i < k + 1 → isd s i) → 1 ≤ capN s (k + 1)
  | 0, h => by
    have e : capN s 1 = mn (10 * 0 + dgt s 0) 1000 := rfl
    rw [e]; unfold mn; split <;> omega
  | k + 1, h => by
    have ih := cap_pos h0 k (fun i hi => h i (by omega))
    obtain ⟨_, b1, b2⟩ := h (k + 1) (by omega)
    have hd : 0 ≤ dgt s (k + 1) := by unfold dgt; omega
    have e : capN s (k + 1 + 1) = mn (10 * capN s (k + 1) + dgt s (k + 1)) 1000 := rfl
    rw [e]; unfold mn; split <;> omega
include hs
theorem wide_is (k : Nat) (hk : 1 ≤ k) (hd : ∀ j, j < k → isd s j) (h0 : bt s 0 ≠ 48) : wide (capN s k) (if capN s k > 64 then 2 else 0) (letN s k) := by
  obtain ⟨a1, a2, a3, a4, a5, a6⟩ := nums_are s k hd
  have hf := hd 0 (by omega)
  have hp := cap_pos s (by unfold dgt; unfold isd at hf; have : bt s ((0 : Nat) : Int) = bt s 0 := rfl; omega) (k - 1) (fun i hi => hd i (by omega))
  rw [show k - 1 + 1 = k by omega] at hp
  unfold wide
  by_cases h : capN s k > 64
  · rw [if_pos h]
    refine .inr ⟨rfl, ?_, by omega⟩
    by_cases hl : letN s k < 1000
    · rw [a6 hl]; exact h
    · omega
  · rw [if_neg h]
    have e := a5 (by omega)
    exact .inl ⟨rfl, e.symm, by omega, by omega⟩
theorem read_same : ∃ R, Ev (fun k => bits_Read.f k s) R ∧ Ev (fun k => maskref1_ReadBits.f k s) R := by
  obtain ⟨k, hk, hd, hn⟩ : ∃ k, k ≤ s.size ∧ (∀ j, j < k → isd s j) ∧ ¬ isd s k := by
    have : ∀ d i, i + d = s.size → (∀ j, j < i → isd s j) → ∃ k, k ≤ s.size ∧ (∀ j, j < k → isd s j) ∧ ¬ isd s k := by
      intro d
      induction d with
      | zero => intro i hi h; exact ⟨i, by omega, h, fun a => by unfold isd at a; omega⟩
      | succ d ih =>
        intro i hi h
        by_cases hi2 : isd s i
        · refine ih (i + 1) (by omega) (fun j hj => ?_)
          rcases Nat.lt_or_ge j i with h3 | h3
          · exact h j h3
          · obtain rfl : j = i := by omega
            exact hi2
        · exact ⟨i, by omega, h, hi2⟩
    exact this s.size 0 (by omega) (fun j h => absurd h (by omega))
  have only : ∀ k', k' ≤ s.size → (∀ j, j < k' → isd s j) → ¬ isd s k' → k' = k := by
    intro k' h1 h2 h3
    rcases Nat.lt_trichotomy k' k with q | q | q
    · exact absurd (hd k' q) h3
    · exact q
    · exact absurd (h2 k q) hn
  obtain ⟨a1, a2, a3, a4, a5, a6⟩ := nums_are s k hd
  have sizeE : ∀ {R : Int × Int × Int}, Ev (fun n => bits_size.j1 n s (capN s k) (k : Int) false) R → Ev (fun n => bits_size.f n s) R := by
    intro R h
    unfold bits_size.f
    exact size_l0 s hs s.size 0 (by omega) (fun j h => absurd h (by omega)) (fun k' q1 q2 q3 => by rw [only k' q1 q2 q3]; exact h)
  have refE : ∀ {R : R4}, Ev (fun n => maskref1_ReadBits.j1 n s (k : Int) false) R → Ev (fun n => maskref1_ReadBits.f n s) R := by
    intro R h
    unfold maskref1_ReadBits.f
    exact first_l0 s hs s.size 0 (by omega) (fun j h => absurd h (by omega)) (fun k' q1 q2 q3 => by rw [only k' q1 q2 q3]; exact h)
  have j0t : ∀ (w k b : Int), Ev (fun n => bits_Read.j0 n s w k b true) syn4 := by
    intro w k b
    refine Ev.step (fun n => by rw [bits_Read.j0]) ?_
    exact Ev.pos rfl (Ev.now _)
  have r2t : Ev (fun n => maskref1_ReadBits.j2 n s (k : Int) true) syn4 := by
    refine Ev.step (fun n => by rw [maskref1_ReadBits.j2]) ?_
    exact Ev.pos rfl (Ev.now _)
  have s2t : Ev (fun n => bits_size.j2 n (capN s k) (k : Int) true) (0, 0, 10) := by
    refine Ev.step (fun n => by rw [bits_size.j2]) ?_
    exact Ev.pos rfl (Ev.now _)
  by_cases h0 : k = 0
  · refine ⟨syn4, ?_, refE ?_⟩
    · unfold bits_Read.f
      refine Ev.bind (sizeE (R := (0, 0, 10)) ?_) (Ev.pos rfl (j0t _ _ _))
      refine Ev.step (fun n => by rw [bits_size.j1]) ?_
      exact Ev.neg (by decide) (Ev.pos (by omega) s2t)
    · refine Ev.step (fun n => by rw [maskref1_ReadBits.j1]) ?_
      exact Ev.neg (by decide) (Ev.pos (by omega) r2t)
  by_cases h48 : bt s 0 = 48
  · refine ⟨syn4, ?_, refE ?_⟩
    · unfold bits_Read.f
      refine Ev.bind (sizeE (R := (0, 0, 10)) ?_) (Ev.pos rfl (j0t _ _ _))
      refine Ev.step (fun n => by rw [bits_size.j1]) ?_
      refine Ev.neg (by decide) (Ev.neg (by omega) (Ev.pos (by omega) ?_))
      rw [show (bt s 0 == 48) = true from beq_iff_eq.2 h48]
      exact s2t
    · refine Ev.step (fun n => by rw [maskref1_ReadBits.j1]) ?_
      exact Ev.neg (by decide) (Ev.neg (by omega) (Ev.pos (by omega) (Ev.pos h48 r2t)))
  have hw := wide_is s hs k (by omega) hd h48
  have hsz : Ev (fun n => bits_size.f n s) (capN s k, (k : Int), if capN s k > 64 then 2 else 0) := by
    refine sizeE ?_
    refine Ev.step (fun n => by rw [bits_size.j1]) ?_
    refine Ev.neg (by decide) (Ev.neg (by omega) (Ev.pos (by omega) ?_))
    rw [show (bt s 0 == 48) = false from beq_eq_false_iff_ne.2 h48]
    refine Ev.step (fun n => by rw [bits_size.j2]) ?_
    refine Ev.neg (by decide) ?_
    by_cases hc : capN s k > 64
    · exact Ev.pos hc ((Ev.now _).eq (by rw [if_pos hc]))
    · exact Ev.neg hc ((Ev.now _).eq (by rw [if_neg hc]))
  have hbad : ¬ (if capN s k > 64 then (2 : Int) else 0) = 10 := by split <;> omega
  generalize hBAD : (if capN s k > 64 then (2 : Int) else 0) = bad at hw hsz hbad
  by_cases hend : k = s.size
  · refine ⟨syn4, ?_, refE ?_⟩
    · unfold bits_Read.f
      exact Ev.bind hsz (Ev.neg hbad (Ev.pos (show (k : Int) ≥ (s.size : Int) by omega) (j0t _ _ _)))
    · refine Ev.step (fun n => by rw [maskref1_ReadBits.j1]) ?_
      exact Ev.neg (by decide) (Ev.neg (by omega) (Ev.pos (by omega) (Ev.neg h48 (Ev.pos (by omega) r2t))))
  have readE : ∀ {R : R4}, Ev (fun n => bits_Read.j0 n s (capN s k) (k : Int) bad (bt s (k : Int) != 39)) R → Ev (fun n => bits_Read.f n s) R := by
    intro R h
    unfold bits_Read.f
    exact Ev.bind hsz (Ev.neg hbad (Ev.neg (show ¬ ((k : Int) ≥ (s.size : Int)) by omega) (Ev.pos (show (0 : Int) ≤ (k : Int) by omega) (Ev.pos (show (k : Int) < (s.size : Int) by omega) h))))
  have refE2 : ∀ {R : R4}, Ev (fun n => maskref1_ReadBits.j2 n s (k : Int) (bt s (k : Int) != 39)) R → Ev (fun n => maskref1_ReadBits.f n s) R := by
    intro R h
    refine refE ?_
    refine Ev.step (fun n => by rw [maskref1_ReadBits.j1]) ?_
    exact Ev.neg (by decide) (Ev.neg (by omega) (Ev.pos (by omega) (Ev.neg h48 (Ev.neg (by omega) (Ev.pos (by omega) (Ev.pos (by omega) h))))))
  by_cases hq : bt s (k : Int) = 39
  · rw [show (bt s (k : Int) != 39) = false from bne_eq_false_iff_eq.2 hq] at readE refE2
    have e1 : wrap64 ((k : Int) + 1) = ((k + 1 : Nat) : Int) := by rw [w64 (by omega)]; rfl
    have hz : (s.extract (k + 1) s.size).size = s.size - (k + 1) := by rw [ByteArray.size_extract]; omega
    have hz0 : (s.extract 0 k).size = k := by rw [ByteArray.size_extract]; omega
    have go : ∀ (b : Bool), (b = true → 1 ≤ (s.extract (k + 1) s.size).size) → ((s.extract (k + 1) s.size).size > 0 → b = (bt (s.extract (k + 1) s.size) 0 == 115)) → (¬ (s.extract (k + 1) s.size).size > 0 → b = false) → ∃ R, Ev (fun k => bits_Read.f k s) R ∧ Ev (fun k => maskref1_ReadBits.f k s) R := by
      intro b hb1 hb2 hb3
      obtain ⟨R, r1, r2⟩ := sign_same (s.extract (k + 1) s.size) (by omega) hw b hb1
      refine ⟨R, readE ?_, refE2 ?_⟩
      · refine Ev.step (fun n => by rw [bits_Read.j0]) ?_
        rw [e1, Int.toNat_natCast]
        refine Ev.neg (by decide) (Ev.pos (by omega) (Ev.pos (by omega) ?_))
        by_cases hp : (s.extract (k + 1) s.size).size > 0
        · have eb := hb2 hp
          rw [eb] at r1
          exact Ev.pos (by omega) (Ev.pos (by omega) r1)
        · have eb := hb3 hp
          rw [eb] at r1
          exact Ev.neg (by omega) r1
      · refine Ev.step (fun n => by rw [maskref1_ReadBits.j2]) ?_
        rw [Int.toNat_natCast]
        refine Ev.neg (by decide) (Ev.pos (by omega) (Ev.pos (by omega) ?_))
        refine width_l1 s hs k hk hd ?_ k 0 (by omega)
        refine Ev.step (fun n => by rw [maskref1_ReadBits.l1]) ?_
        rw [hz0, e1, Int.toNat_natCast]
        refine Ev.neg (by omega) (Ev.pos (by omega) (Ev.pos (by omega) ?_))
        by_cases hp : (s.extract (k + 1) s.size).size > 0
        · have eb := hb2 hp
          rw [eb] at r2
          exact Ev.pos (by omega) (Ev.pos (by omega) r2)
        · have eb := hb3 hp
          rw [eb] at r2
          exact Ev.neg (by omega) r2
    by_cases hp : (s.extract (k + 1) s.size).size > 0
    · exact go _ (fun _ => hp) (fun _ => rfl) (fun h => absurd hp h)
    · exact go false (fun h => by cases h) (fun h => absurd h hp) (fun _ => rfl)
  · rw [show (bt s (k : Int) != 39) = true from bne_iff_ne.2 hq] at readE refE2
    exact ⟨syn4, readE (j0t _ _ _), refE2 r2t⟩
end
theorem BitsTexts_pure (a0_0 a0_1 a0_2 : Int) (s : ByteArray) (_ : (Lit.int .i64 a0_0).wf = true) (h1 : (Lit.int .u64 a0_1).wf = true) (h2 : (Lit.int .u64 a0_2).wf = true) (hs : s.size ≤ 140737488351232) :
    ∃ k, masklaw1_BitsTexts.f k a0_0 a0_1 a0_2 s = some true := by
  obtain ⟨v, rfl, b1⟩ := wf_u64 h1
  obtain ⟨x, rfl, b2⟩ := wf_u64 h2
  refine Ev.rounds (g := fun k => masklaw1_BitsTexts.f k a0_0 (v : Int) (x : Int) s) ?_
  unfold masklaw1_BitsTexts.f
  refine Ev.bind vectors_ev (Ev.pos rfl ?_)
  refine Ev.step (fun k => by rw [masklaw1_BitsTexts.j0]) ?_
  by_cases hl : (s.size : Int) > 100
  · rw [decide_eq_true hl]
    exact Ev.pos rfl (Ev.bind vectors_ev (Ev.now _))
  · rw [decide_eq_false hl]
    obtain ⟨R, r1, r2⟩ := read_same s (by omega)
    refine Ev.neg (by decide) (Ev.bind r1 (Ev.bind r2 (Ev.bind (Valid_ev a0_0 v x b1 b2) ?_)))
    cases hok : okB a0_0 v x with
    | true =>
      obtain ⟨w, rfl, c1, c2, c3, c4⟩ := okB_nat hok
      obtain ⟨t, t1, t2⟩ := Text_same c1 c2 c3 c4
      exact Ev.pos rfl (Ev.bind t2 (Ev.bind t1 (Ev.pos rfl (Ev.pos rfl ((Ev.now _).eq (by simp))))))
    | false =>
      refine Ev.neg (by decide) (Ev.bind (Text_none b1 b2 hok) (Ev.pos ?_ (Ev.pos rfl ((Ev.now _).eq (by simp)))))
      rw [ByteArray.toList_eq]
end Go.Proofs.YtfigblfjogpojaaDoor.PBits
end
