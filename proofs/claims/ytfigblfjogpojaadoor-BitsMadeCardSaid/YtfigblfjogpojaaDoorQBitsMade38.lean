/- Part 39 of the proof of BitsMadeCardSaid: The law BitsMade: for all arguments it returns true; each argument reads behind the call as it read before. Out of the plain theorem of YtfigblfjogpojaaDoorPureBitsMade and the printed contract. -/
import Derived.Test.YtfigblfjogpojaaDoorQBitsMade23
import Derived.Test.YtfigblfjogpojaaDoorQBitsMade29
import Derived.Test.YtfigblfjogpojaaDoorQBitsMade34
import Derived.Test.YtfigblfjogpojaaDoorQBitsMade37
section
namespace Go.Proofs.YtfigblfjogpojaaDoor.PBits
open Go.RowKit Go.Proofs.YtfigblfjogpojaaDoorW.PrintWords Go.Proofs.YtfigblfjogpojaaDoorW.PrintLast Go.Proofs.YtfigblfjogpojaaDoorW.PrintMore Go.Proofs.YtfigblfjogpojaaDoor.Bz
set_option linter.unusedVariables false
set_option linter.unusedSimpArgs false
set_option linter.unusedSectionVars false
section
variable {w v : Nat} (h1 : 1 ≤ w) (h2 : w ≤ 64) (hv : v < 2 ^ w)
include h1 h2 hv
theorem known_l0 (d : Nat) : ∀ j : Nat, j + d = 64 → Ev (fun k => masklaw1_known.l0 k (vs w v 0) (v : Int) (sgn w v) (j : Int)) true := by
  have hv6 := lt64 hv h2
  have hlen : ((vs w v 0).length : Int) = (w : Int) := by rw [vs_length]
  induction d with
  | zero =>
    intro j hj
    refine Ev.step (fun k => by rw [masklaw1_known.l0]) ?_
    exact Ev.neg (by omega) (Ev.now _)
  | succ d ih =>
    intro j hj
    have next : Ev (fun k => masklaw1_known.j4 k (vs w v 0) (v : Int) (sgn w v) (j : Int) false) true := by
      refine Ev.step (fun k => by rw [masklaw1_known.j4]) ?_
      refine Ev.neg (by decide) ?_
      rw [w64 (n := (j : Int) + 1) (by omega)]
      exact ih (j + 1) (by omega)
    have hm : mn (j : Int) (wrap64 (((vs w v 0).length : Int) - 1)) = ((min j (w - 1) : Nat) : Int) := by
      rw [hlen, w64 (n := (w : Int) - 1) (by omega)]
      unfold mn
      split <;> omega
    refine Ev.step (fun k => by rw [masklaw1_known.l0]) (Ev.pos (by omega) ?_)
    rw [hm, hlen, rd_vs w v 0 _ (by omega), sgn_bit h1 hv (by omega), bitof v j hv6]
    refine Ev.pos (by omega) (Ev.pos (by omega) (Ev.pos (by omega) ?_))
    refine Ev.neg ?_ ?_
    · unfold st stb
      rw [Nat.zero_testBit]
      cases v.testBit (min j (w - 1)) <;> decide
    · rcases Nat.lt_or_ge j w with h | h
      · refine Ev.pos (by omega) ?_
        rw [Nat.min_eq_left (show j ≤ w - 1 by omega)]
        refine Ev.pos ?_ (Ev.neg (by omega) next)
        cases v.testBit j <;> decide
      · refine Ev.neg (by omega) (Ev.pos (by omega) ?_)
        rw [bit_out hv h]
        exact next
end
section
variable {w v x : Nat} (h1 : 1 ≤ w) (h2 : w ≤ 64) (hv : v < 2 ^ w) (hx : x < 2 ^ w)
include h1 h2 hv hx
theorem known_j2 : Ev (fun k => masklaw1_known.j2 k (vs w v x) (if decide (x = 0) = true then (v : Int) else 0) (if decide (x = 0) = true then sgn w v else 0) false (w : Int) (v : Int) (x : Int)) true := by
  refine Ev.step (fun k => by rw [masklaw1_known.j2]) ?_
  refine Ev.neg (by decide) (Ev.bnd (r := true) rfl (Ev.bind (Truth_ev hv hx h2) ?_))
  have ht : truthT.f (truS v x) = some (if truS v x = 116 then 1 else if truS v x = 102 then 0 else -1) := by
    unfold truthT.f
    have hc : truS v x = 116 ∨ truS v x = 102 ∨ truS v x = 117 := by
      unfold truS
      split
      · exact .inl rfl
      · split
        · exact .inr (.inl rfl)
        · exact .inr (.inr rfl)
    rcases hc with e | e | e <;> rw [e] <;> decide
  refine Ev.bnd ht (Ev.bind (True_ev h1 h2 hv hx) (Ev.pos rfl (Ev.bind (Known_ev hx h2) ?_)))
  by_cases h0 : x = 0
  · subst h0
    rw [decide_eq_true rfl, if_pos rfl, if_pos rfl]
    exact Ev.pos rfl (known_l0 h1 h2 hv 64 0 (by omega))
  · rw [decide_eq_false h0, if_neg (by decide), if_neg (by decide)]
    exact Ev.neg (by decide) (Ev.pos rfl ((Ev.now _).eq rfl))
theorem known_j1 (i : Int) : Ev (fun k => masklaw1_known.j1 k i (vs w v x) (bitS w v x i) (w : Int) (v : Int) (x : Int)) true := by
  have hv6 := lt64 hv h2
  have hx6 := lt64 hx h2
  have hok : okB (w : Int) v x = true := by
    unfold okB; rw [decide_eq_true_iff, Int.toNat_natCast]; exact ⟨by omega, by omega, hv, hx⟩
  have u1 := Uint_ev (W := (w : Int)) hv6 hx6
  have u2 := Int_ev (W := (w : Int)) hv6 hx6
  have u3 := BKnown_ev (W := (w : Int)) hv6 hx6
  rw [hok, Bool.true_and] at u1 u2 u3
  rw [Int.toNat_natCast] at u2
  have mk := Known_ev (v := v) hx h2
  have main := known_j2 h1 h2 hv hx
  cases hd : decide (x = 0) with
  | true =>
    rw [hd] at u1 u2 u3 mk main
    rw [if_pos rfl] at u1 u2
    rw [if_pos rfl, if_pos rfl] at main
    refine Ev.step (fun k => by rw [masklaw1_known.j1]) (Ev.bind u1 (Ev.bind u2 (Ev.bind (Bit_ev h1 h2 hv hx i) ?_)))
    refine Ev.pos rfl (Ev.bind u3 (Ev.bind mk (Ev.neg (by decide) (Ev.bind mk (Ev.neg (by simp) (Ev.bind mk ?_))))))
    exact main
  | false =>
    rw [hd] at u1 u2 u3 mk main
    rw [if_neg (by decide)] at u1 u2
    rw [if_neg (by decide), if_neg (by decide)] at main
    refine Ev.step (fun k => by rw [masklaw1_known.j1]) (Ev.bind u1 (Ev.bind u2 (Ev.bind (Bit_ev h1 h2 hv hx i) ?_)))
    refine Ev.pos rfl (Ev.bind u3 (Ev.bind mk (Ev.neg (by decide) (Ev.bind mk (Ev.neg (by simp) (Ev.bind mk ?_))))))
    exact main
theorem known_ev (i : Int) : Ev (fun k => masklaw1_known.f k (w : Int) (v : Int) (x : Int) i) true := by
  have hv6 := lt64 hv h2
  have hx6 := lt64 hx h2
  have hlen : ((vs w v x).length : Int) = (w : Int) := by rw [vs_length]
  have main := known_j1 h1 h2 hv hx i
  unfold masklaw1_known.f
  refine Ev.bind (V_ev hv6 hx6 h2) ?_
  rw [hlen]
  have jf : (¬ (0 ≤ i ∧ i < (w : Int))) → Ev (fun k => masklaw1_known.j0 k i (vs w v x) 0 false (w : Int) (v : Int) (x : Int)) true := by
    intro h
    refine Ev.step (fun k => by rw [masklaw1_known.j0]) ?_
    refine Ev.neg (by decide) ?_
    unfold bitS at main
    rw [if_neg h] at main
    exact main
  by_cases a : i ≥ 0
  · refine Ev.pos a ?_
    by_cases b : i < (w : Int)
    · rw [decide_eq_true b]
      refine Ev.step (fun k => by rw [masklaw1_known.j0]) ?_
      refine Ev.pos rfl (Ev.pos a (Ev.pos (by rw [hlen]; exact b) ?_))
      obtain ⟨n, rfl⟩ := Int.eq_ofNat_of_zero_le a
      rw [rd_vs w v x n (by omega)]
      unfold bitS at main
      rw [if_pos ⟨a, b⟩, Int.toNat_natCast] at main
      exact main
    · rw [decide_eq_false b]
      exact jf (by omega)
  · exact Ev.neg a (jf (by omega))
end
theorem True_none {W : Int} {v x : Nat} (hv : v < 2 ^ 64) (hx : x < 2 ^ 64) (h : okB W v x = false) : Ev (fun k => bits_True.f k W (v : Int) (x : Int)) 0 := by
  unfold bits_True.f
  refine Ev.bind (valid1 hv hx) ?_
  rw [h]
  exact Ev.neg (by decide) (Ev.now _)
theorem okB_num {w n : Nat} (h1 : 1 ≤ w) (h2 : w ≤ 64) (hn : n < 2 ^ w) : okB (w : Int) n 0 = true := by
  unfold okB
  rw [decide_eq_true_iff, Int.toNat_natCast]
  exact ⟨by omega, by omega, hn, Nat.pos_of_ne_zero (by simp)⟩
theorem B_fill {w : Nat} (h1 : 1 ≤ w) (h2 : w ≤ 64) {c : Int} (hc : c = 48 ∨ c = 49 ∨ c = 120 ∨ c = 122) : Ev (fun k => maskref1_B.f k (List.replicate w c)) (allS w c) := by
  have hp : 0 < 2 ^ w := Nat.pos_of_ne_zero (by simp)
  have hg : ∀ i, i < w → (List.replicate w c).getD i 0 = c := by
    intro i hi
    rw [List.getD_eq_getElem?_getD, List.getElem?_replicate, if_pos hi]; rfl
  have hb : ∀ i, i < w → (msk w).testBit i = true := by
    intro i hi
    rw [testBit_msk, decide_eq_true_iff]; omega
  have hl : (List.replicate w c).length = w := List.length_replicate
  rcases hc with rfl | rfl | rfl | rfl
  · refine (B_is h1 h2 hl (v := 0) (x := 0) hp hp fun i hi => ?_).eq rfl
    rw [hg i hi]; unfold st; rw [Nat.zero_testBit]; rfl
  · refine (B_is h1 h2 hl (v := msk w) (x := 0) (msk_lt' h2) hp fun i hi => ?_).eq rfl
    rw [hg i hi]; unfold st; rw [Nat.zero_testBit, hb i hi]; rfl
  · refine (B_is h1 h2 hl (v := msk w) (x := msk w) (msk_lt' h2) (msk_lt' h2) fun i hi => ?_).eq rfl
    rw [hg i hi]; unfold st; rw [hb i hi]; rfl
  · refine (B_is h1 h2 hl (v := 0) (x := msk w) hp (msk_lt' h2) fun i hi => ?_).eq rfl
    rw [hg i hi]; unfold st; rw [Nat.zero_testBit, hb i hi]; rfl
section
variable {u : Nat} (hu : u < 2 ^ 64) (c : Int)
include hu
section
variable {w : Nat} (h1 : 1 ≤ w) (h2 : w ≤ 64)
include h1 h2
theorem j7_in (hc : c = 48 ∨ c = 49 ∨ c = 120 ∨ c = 122) : Ev (fun k => masklaw1_BitsMade.j7 k (w : Int) c false (w : Int) ((u % 2 ^ w : Nat) : Int) 0) true := by
  have hp : 0 < 2 ^ w := Nat.pos_of_ne_zero (by simp)
  have hn : u % 2 ^ w < 2 ^ w := Nat.mod_lt _ hp
  have hval := Valid_ev (w : Int) (u % 2 ^ w) 0 (lt64 hn h2) (by decide)
  rw [okB_num h1 h2 hn] at hval
  refine Ev.step (fun k => by rw [masklaw1_BitsMade.j7]) ?_
  refine Ev.neg (by decide) (Ev.bind hval ?_)
  refine Ev.pos rfl (Ev.bind (All_is h1 h2 c) (Ev.bind (Fill_ev c w (by omega)) (Ev.bind (B_fill h1 h2 hc) ((Ev.now _).eq ?_))))
  simp
theorem j7_out (hc : ¬ (c = 48 ∨ c = 49 ∨ c = 120 ∨ c = 122)) : Ev (fun k => masklaw1_BitsMade.j7 k (w : Int) c true (w : Int) ((u % 2 ^ w : Nat) : Int) 0) true := by
  have hp : 0 < 2 ^ w := Nat.pos_of_ne_zero (by simp)
  have hn : u % 2 ^ w < 2 ^ w := Nat.mod_lt _ hp
  have hval := Valid_ev (w : Int) (u % 2 ^ w) 0 (lt64 hn h2) (by decide)
  rw [okB_num h1 h2 hn] at hval
  refine Ev.step (fun k => by rw [masklaw1_BitsMade.j7]) ?_
  refine Ev.pos rfl (Ev.bind hval ?_)
  have hall : allS w c = (0, 0, 0) := by
    unfold allS
    rw [if_neg (by omega), if_neg (by omega), if_neg (by omega), if_neg (by omega)]
  refine Ev.pos rfl (Ev.bind (All_is h1 h2 c) ((Ev.now _).eq ?_))
  rw [hall]; rfl
theorem made_l0 (d : Nat) : ∀ j : Nat, j + d = w → Ev (fun k => masklaw1_BitsMade.l0 k (w : Int) (u : Int) c (w : Int) (j : Int) (w : Int) ((u % 2 ^ w : Nat) : Int) 0) true := by
  have hp : 0 < 2 ^ w := Nat.pos_of_ne_zero (by simp)
  have hn : u % 2 ^ w < 2 ^ w := Nat.mod_lt _ hp
  induction d with
  | zero =>
    intro j hj
    refine Ev.step (fun k => by rw [masklaw1_BitsMade.l0]) (Ev.neg (by omega) ?_)
    by_cases a1 : c = 48
    · exact Ev.pos a1 (j7_in hu c h1 h2 (.inl a1))
    refine Ev.neg a1 ?_
    by_cases a2 : c = 49
    · exact Ev.pos a2 (j7_in hu c h1 h2 (.inr (.inl a2)))
    refine Ev.neg a2 ?_
    by_cases a3 : c = 120
    · exact Ev.pos a3 (j7_in hu c h1 h2 (.inr (.inr (.inl a3))))
    refine Ev.neg a3 ?_
    by_cases a4 : c = 122
    · rw [show (c != 122) = false by rw [bne_eq_false_iff_eq]; exact a4]
      exact j7_in hu c h1 h2 (.inr (.inr (.inr a4)))
    · rw [show (c != 122) = true by rw [bne_iff_ne]; exact a4]
      exact j7_out hu c h1 h2 (by omega)
  | succ d ih =>
    intro j hj
    refine Ev.step (fun k => by rw [masklaw1_BitsMade.l0]) (Ev.pos (by omega) ?_)
    refine Ev.pos rfl (Ev.pos rfl (Ev.pos (by omega) ?_))
    rw [bitof _ j (lt64 hn h2), bitof u j hu, Nat.testBit_mod_two_pow, decide_eq_true (show j < w by omega), Bool.true_and, bne_self_eq_false]
    refine Ev.step (fun k => by rw [masklaw1_BitsMade.j6]) ?_
    refine Ev.neg (by decide) ?_
    rw [w64 (n := (j : Int) + 1) (by omega)]
    exact ih (j + 1) (by omega)
end
theorem made_j3 (W : Int) : Ev (fun k => masklaw1_BitsMade.j3 k W (u : Int) c) true := by
  have jt : (W < 1 ∨ W > 64) → Ev (fun k => masklaw1_BitsMade.j4 k W (u : Int) c true) true := by
    intro h
    have hof : bits_Of.f W (u : Int) = some (0, 0, 0) := by
      unfold bits_Of.f
      by_cases a : W < 1
      · rw [if_pos a]
      · rw [if_neg a, if_pos (by omega)]
    refine Ev.step (fun k => by rw [masklaw1_BitsMade.j4]) ?_
    refine Ev.pos rfl (Ev.bnd hof ?_)
    exact Ev.pos rfl (Ev.bind (All_out h c) (Ev.now _))
  refine Ev.step (fun k => by rw [masklaw1_BitsMade.j3]) ?_
  by_cases a : W < 1
  · exact Ev.pos a (jt (.inl a))
  · refine Ev.neg a ?_
    by_cases b : W > 64
    · rw [decide_eq_true b]; exact jt (.inr b)
    · rw [decide_eq_false b]
      obtain ⟨w, rfl⟩ := Int.eq_ofNat_of_zero_le (show 0 ≤ W by omega)
      refine Ev.step (fun k => by rw [masklaw1_BitsMade.j4]) ?_
      refine Ev.neg (by decide) (Ev.bnd (Of_is (by omega) (by omega) hu) ?_)
      exact made_l0 hu c (by omega) (by omega) w 0 (by omega)
theorem made_j2 (W : Int) : Ev (fun k => masklaw1_BitsMade.j2 k W (u : Int) c false) true := by
  refine Ev.step (fun k => by rw [masklaw1_BitsMade.j2]) ?_
  exact Ev.neg (by decide) (made_j3 hu c W)
theorem made_j1 (W' : Int) {W : Int} {v x : Nat} (hv : v < 2 ^ 64) (hx : x < 2 ^ 64) (i : Int) :
    Ev (fun k => masklaw1_BitsMade.j1 k i W' (u : Int) c (if W < 1 ∨ W > 64 then 2 else if okB W v x = true then 0 else 4) W (v : Int) (x : Int)) true := by
  refine Ev.step (fun k => by rw [masklaw1_BitsMade.j1]) (Ev.bind (Check_ev W v x hv hx) (Ev.pos rfl ?_))
  cases hok : okB W v x with
  | true =>
    obtain ⟨w, rfl, a1, a2, a3, a4⟩ := okB_nat hok
    rw [if_neg (show ¬ ((w : Int) < 1 ∨ (w : Int) > 64) by omega), if_pos rfl]
    exact Ev.pos rfl (Ev.bind (known_ev a1 a2 a3 a4 i) (Ev.pos rfl (made_j3 hu c W')))
  | false =>
    have hne : (if W < 1 ∨ W > 64 then (2 : Int) else if false = true then 0 else 4) ≠ 0 := by split <;> simp
    have u1 := Uint_ev (W := W) hv hx
    have u2 := Int_ev (W := W) hv hx
    have u3 := BKnown_ev (W := W) hv hx
    rw [hok, Bool.false_and] at u1 u2 u3
    rw [if_neg (by decide)] at u1 u2
    refine Ev.neg hne (Ev.bind u1 (Ev.bind u2 (Ev.bind (Bit_none hv hx hok i) ?_)))
    refine Ev.pos rfl (Ev.bind u3 (Ev.neg (by decide) (Ev.neg (by decide) (Ev.neg (by decide) (Ev.pos rfl (Ev.pos rfl (Ev.bind (True_none hv hx hok) ?_)))))))
    exact made_j2 hu c W'
end
theorem BitsMade_pure (a0_0 a0_1 a0_2 a1 a2 a3 a4 : Int) (_ : (Lit.int .i64 a0_0).wf = true) (h1 : (Lit.int .u64 a0_1).wf = true) (h2 : (Lit.int .u64 a0_2).wf = true) (_ : (Lit.int .i64 a1).wf = true) (_ : (Lit.int .i64 a2).wf = true) (h3 : (Lit.int .u64 a3).wf = true) (_ : (Lit.int .u8 a4).wf = true) :
    ∃ k, masklaw1_BitsMade.f k a0_0 a0_1 a0_2 a1 a2 a3 a4 = some true := by
  obtain ⟨v, rfl, b1⟩ := wf_u64 h1
  obtain ⟨x, rfl, b2⟩ := wf_u64 h2
  obtain ⟨u, rfl, b3⟩ := wf_u64 h3
  refine Ev.rounds (g := fun k => masklaw1_BitsMade.f k a0_0 (v : Int) (x : Int) a1 a2 (u : Int) a4) ?_
  unfold masklaw1_BitsMade.f
  refine Ev.bind vectors_ev (Ev.pos rfl ?_)
  have main := made_j1 b3 a4 a2 (W := a0_0) b1 b2 a1
  have jt : (a0_0 < 1 ∨ a0_0 > 64) → Ev (fun k => masklaw1_BitsMade.j0 k a1 a2 (u : Int) a4 0 true a0_0 (v : Int) (x : Int)) true := by
    intro h
    rw [if_pos h] at main
    refine Ev.step (fun k => by rw [masklaw1_BitsMade.j0]) ?_
    exact Ev.pos rfl main
  by_cases a : a0_0 < 1
  · exact Ev.pos a (jt (.inl a))
  · refine Ev.neg a ?_
    by_cases b : a0_0 > 64
    · rw [decide_eq_true b]; exact jt (.inr b)
    · rw [decide_eq_false b]
      rw [if_neg (show ¬ (a0_0 < 1 ∨ a0_0 > 64) by omega)] at main
      refine Ev.step (fun k => by rw [masklaw1_BitsMade.j0]) ?_
      refine Ev.neg (by decide) (Ev.bind (Valid_ev a0_0 v x b1 b2) ?_)
      cases hok : okB a0_0 v x with
      | true => rw [hok, if_pos rfl] at main; exact Ev.pos rfl main
      | false => rw [hok, if_neg (by decide)] at main; exact Ev.neg (by decide) main
end Go.Proofs.YtfigblfjogpojaaDoor.PBits
end
