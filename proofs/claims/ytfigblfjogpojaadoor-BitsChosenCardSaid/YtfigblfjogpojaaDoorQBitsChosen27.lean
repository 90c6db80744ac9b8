/- Part 28 of the proof of BitsChosenCardSaid: The law BitsChosen: for all arguments it returns true; each argument reads behind the call as it read before. Out of the plain theorem of YtfigblfjogpojaaDoorPureBitsChosen and the printed contract. -/
import Derived.Test.YtfigblfjogpojaaDoorQBitsChosen19
import Derived.Test.YtfigblfjogpojaaDoorQBitsChosen25
import Derived.Test.YtfigblfjogpojaaDoorQBitsChosen26
import Derived.OpenShut
section
namespace Go.Proofs.YtfigblfjogpojaaDoor.PBits
open Go.RowKit Go.Proofs.YtfigblfjogpojaaDoorW.PrintWords Go.Proofs.YtfigblfjogpojaaDoorW.PrintLast Go.Proofs.YtfigblfjogpojaaDoorW.PrintMore Go.Proofs.YtfigblfjogpojaaDoor.Bz
set_option linter.unusedVariables false
set_option linter.unusedSimpArgs false
theorem Cond_gives {w va xa vb xb wc vc xc : Nat} (h : Two w va xa vb xb) (c1 : 1 ≤ wc) (c2 : wc ≤ 64) (hv : vc < 2 ^ wc) (hx : xc < 2 ^ wc) :
    ∃ V X l, Ev (fun k => bits_Cond.f k (wc : Int) (vc : Int) (xc : Int) (w : Int) (va : Int) (xa : Int) (w : Int) (vb : Int) (xb : Int)) ((w : Int), ((V : Nat) : Int), ((X : Nat) : Int)) ∧
      Ev (fun k => maskref1_Chosen.f k (vs wc vc xc) (vs w va xa) (vs w vb xb)) l ∧ Ev (fun k => maskref1_B.f k l) ((w : Int), ((V : Nat) : Int), ((X : Nat) : Int)) := by
  have a1 := lt64 h.va h.w64
  have a2 := lt64 h.xa h.w64
  have b1 := lt64 h.vb h.w64
  have b2 := lt64 h.xb h.w64
  have hC : ∀ r : Int × Int × Int, Ev (fun k => bits_Cond.j0 k false (wc : Int) (vc : Int) (xc : Int) (w : Int) (va : Int) (xa : Int) (w : Int) (vb : Int) (xb : Int)) r → Ev (fun k => bits_Cond.f k (wc : Int) (vc : Int) (xc : Int) (w : Int) (va : Int) (xa : Int) (w : Int) (vb : Int) (xb : Int)) r := by
    intro r hr
    unfold bits_Cond.f
    exact Ev.bind (valid1 (lt64 hv c2) (lt64 hx c2)) (by rw [okB_of c1 c2 hv hx]; exact Ev.pos rfl (Ev.bind h.alike hr))
  have hT := True_ev c1 c2 hv hx
  have hU := Truth_ev hv hx c2
  by_cases t1 : truS vc xc = 116
  · refine ⟨va, xa, _, hC _ (Ev.step (fun k => by rw [bits_Cond.j0]) (Ev.neg (by decide) (Ev.bind hT ?_))), ?_, B_is h.w1 h.w64 (vs_length w va xa) h.va h.xa fun i hi => vs_getD _ _ _ _ hi⟩
    · rw [if_pos t1]; exact Ev.pos rfl (Ev.now _)
    · unfold maskref1_Chosen.f
      exact Ev.bind hU (Ev.pos t1 (Ev.now _))
  · by_cases t2 : truS vc xc = 102
    · refine ⟨vb, xb, _, hC _ (Ev.step (fun k => by rw [bits_Cond.j0]) (Ev.neg (by decide) (Ev.bind hT ?_))), ?_, B_is h.w1 h.w64 (vs_length w vb xb) h.vb h.xb fun i hi => vs_getD _ _ _ _ hi⟩
      · rw [if_neg t1, if_pos t2]; exact Ev.neg (by decide) (Ev.pos rfl (Ev.now _))
      · unfold maskref1_Chosen.f
        exact Ev.bind hU (Ev.neg t1 (Ev.pos t2 (Ev.now _)))
    · have n1 : andn (andn (va &&& vb) xa) xb < 2 ^ 64 := andn_lt (andn_lt (and_lt a1))
      have n2 : xa ||| xb ||| va ^^^ vb < 2 ^ 64 := or_lt (or_lt a2 b2) (xor_lt a1 b1)
      have g := make3_gives h.w64 n1 n2
      refine ⟨_, _, zipS chS (vs w va xa) (vs w vb xb) w, hC _ (Ev.step (fun k => by rw [bits_Cond.j0]) (Ev.neg (by decide) (Ev.bind hT ?_))), ?_, g.B h.w1 h.w64 (zipS_length _ _ _ _) ?_⟩
      · rw [if_neg t1, if_neg t2]
        refine Ev.neg (by decide) (Ev.neg (by decide) ?_)
        rw [and_n _ _ a1 b1, andNot_n _ _ (and_lt a1) a2, andNot_n _ _ (andn_lt (and_lt a1)) b2, or_n _ _ a2 b2, xor_n _ _ a1 b1, or_n _ _ (or_lt a2 b2) (xor_lt a1 b1)]
        exact Ev.bind g.ev (Ev.now _)
      · unfold maskref1_Chosen.f
        refine Ev.bind hU (Ev.neg t1 (Ev.neg t2 (Ev.bind (a := zipS chS (vs w va xa) (vs w vb xb) w) ?_ (Ev.now _))))
        unfold maskref1_each__Chosen_1.f
        rw [vs_length]
        exact each_Chosen _ _ w (vs_length _ _ _) (vs_length _ _ _) h.w64 w 0 (by omega)
      · intro i hi
        rw [zipS_getD _ _ _ _ _ hi, vs_getD _ _ _ _ hi, vs_getD _ _ _ _ hi]
        simp only [testBit_andn _ _ _ (andn_lt (a := va &&& vb) (b := xa) (and_lt a1)) b2, testBit_andn _ _ _ (and_lt (b := vb) a1) a2, Nat.testBit_and, Nat.testBit_or, Nat.testBit_xor]
        unfold st
        cases va.testBit i <;> cases xa.testBit i <;> cases vb.testBit i <;> cases xb.testBit i <;> rfl
theorem chosen_core (wa wb wc : Int) (va xa vb xb vc xc : Nat) (kind : Int) (ha : va < 2 ^ 64) (ha' : xa < 2 ^ 64) (hb : vb < 2 ^ 64) (hb' : xb < 2 ^ 64) (hc : vc < 2 ^ 64) (hc' : xc < 2 ^ 64) :
    Ev (fun k => masklaw1_BitsChosen.f k wc (vc : Int) (xc : Int) wa (va : Int) (xa : Int) wb (vb : Int) (xb : Int) kind) true := by
  have hal := alike_ev (W := wa) ha ha' (W' := wb) hb hb'
  have no : (okB wa va xa && okB wb vb xb && wa == wb) = false → Ev (fun k => masklaw1_BitsChosen.j0 k kind false wc (vc : Int) (xc : Int) wa (va : Int) (xa : Int) wb (vb : Int) (xb : Int)) true := by
    intro hn
    rw [hn] at hal
    refine Ev.step (fun k => by rw [masklaw1_BitsChosen.j0]) (Ev.neg (by decide) (Ev.step (fun k => by rw [masklaw1_BitsChosen.j1]) (Ev.neg (by decide) (Ev.step (fun k => by rw [masklaw1_BitsChosen.j2]) (Ev.neg (by decide) (Ev.step (fun k => by rw [masklaw1_BitsChosen.j3]) ?_))))))
    refine Ev.bind vectors_ev (Ev.pos rfl (Ev.bind (a := false) ?_ (Ev.neg (by decide) (Ev.pos rfl (Ev.bind (a := (0, 0, 0)) ?_ (Ev.pos rfl (Ev.bind (a := (0, 0, 0)) ?_ (Ev.now _))))))))
    · unfold bits_Fits.f; exact Ev.bind hal (Ev.neg (by decide) (Ev.now _))
    · unfold bits_Resolve.f; exact Ev.bind hal (Ev.neg (by decide) (Ev.now _))
    · have h0 : Ev (fun k => bits_Cond.j0 k true wc (vc : Int) (xc : Int) wa (va : Int) (xa : Int) wb (vb : Int) (xb : Int)) (0, 0, 0) := Ev.step (fun k => by rw [bits_Cond.j0]) (Ev.pos rfl (Ev.now _))
      unfold bits_Cond.f
      refine Ev.bind (valid1 hc hc') ?_
      cases okB wc vc xc with
      | true => exact Ev.pos rfl (Ev.bind hal h0)
      | false => exact Ev.neg (by decide) h0
  unfold masklaw1_BitsChosen.f
  refine Ev.bind (Valid_ev wa va xa ha ha') ?_
  by_cases ka : okB wa va xa = true
  case neg =>
    rw [Bool.not_eq_true] at ka
    rw [ka]; exact Ev.neg (by decide) (no (by rw [ka]; rfl))
  rw [ka]
  refine Ev.pos rfl (Ev.bind (Valid_ev wb vb xb hb hb') ?_)
  by_cases kb : okB wb vb xb = true
  case neg =>
    rw [Bool.not_eq_true] at kb
    rw [kb]; exact Ev.neg (by decide) (no (by rw [ka, kb]; rfl))
  rw [kb]
  refine Ev.pos rfl ?_
  by_cases hw : wa = wb
  case neg =>
    have e := beq_eq_false_iff_ne.mpr hw
    rw [e]; exact no (by rw [e]; simp)
  subst hw
  obtain ⟨w, rfl, w1, w64, h1, h2⟩ := okB_nat ka
  obtain ⟨w', hw', _, _, h3, h4⟩ := okB_nat kb
  obtain rfl : w' = w := by omega
  have h : Two w' va xa vb xb := ⟨w1, w64, h1, h2, h3, h4⟩
  obtain ⟨V, X, hR⟩ := Resolve_gives h
  have hF := Fits_ev h kind
  have hG := Fit_ev (vs w' va xa) (vs w' vb xb) w' (vs_length _ _ _) (vs_length _ _ _) w64 kind
  have hB : Ev (fun k => maskref1_B.f k (zipS resS (vs w' va xa) (vs w' vb xb) w')) ((w' : Int), (V : Int), (X : Int)) :=
    hR.B w1 w64 (zipS_length _ _ _ _) fun i hi => by rw [zipS_getD _ _ _ _ _ hi, vs_getD _ _ _ _ hi, vs_getD _ _ _ _ hi]
  have j3 : ∀ p q r : Int, Ev (fun k => bits_Cond.f k wc (vc : Int) (xc : Int) (w' : Int) (va : Int) (xa : Int) (w' : Int) (vb : Int) (xb : Int)) (p, q, r) →
      Ev (fun k => masklaw1_BitsChosen.j3 k kind true wc (vc : Int) (xc : Int) (w' : Int) (va : Int) (xa : Int) (w' : Int) (vb : Int) (xb : Int) p q r (w' : Int) (V : Int) (X : Int)) true := by
    intro p q r hC
    refine Ev.step (fun k => by rw [masklaw1_BitsChosen.j3]) ?_
    exact Ev.bind vectors_ev (Ev.pos rfl (Ev.bind hF (Ev.pos rfl (Ev.bind (V_ev ha ha' w64) (Ev.bind (V_ev hb hb' w64) (Ev.bind hG (Ev.pos (by simp) (Ev.bind hR.ev (Ev.pos (by simp) (Ev.bind hC ((Ev.now _).eq (by simp))))))))))))
  rw [show ((w' : Int) == (w' : Int)) = true by simp]
  refine Ev.step (fun k => by rw [masklaw1_BitsChosen.j0]) (Ev.pos rfl (Ev.bind (V_ev ha ha' w64) (Ev.bind (V_ev hb hb' w64) (Ev.bind (Resolved_ev _ _ w' (vs_length _ _ _) (vs_length _ _ _) w64) (Ev.bind hB ?_)))))
  refine Ev.step (fun k => by rw [masklaw1_BitsChosen.j1]) (Ev.pos rfl (Ev.bind (Valid_ev wc vc xc hc hc') (Ev.step (fun k => by rw [masklaw1_BitsChosen.j2]) ?_)))
  by_cases kc : okB wc vc xc = true
  · rw [kc]
    obtain ⟨u, rfl, u1, u64, g1, g2⟩ := okB_nat kc
    obtain ⟨P, Q, l, hC, hL, hM⟩ := Cond_gives h u1 u64 g1 g2
    exact Ev.pos rfl (Ev.bind (V_ev hc hc' u64) (Ev.bind (V_ev ha ha' w64) (Ev.bind (V_ev hb hb' w64) (Ev.bind hL (Ev.bind hM (j3 _ _ _ hC))))))
  · rw [Bool.not_eq_true] at kc
    rw [kc]
    refine Ev.neg (by decide) (j3 0 0 0 ?_)
    unfold bits_Cond.f
    refine Ev.bind (valid1 hc hc') ?_
    rw [kc]
    exact Ev.neg (by decide) (Ev.step (fun k => by rw [bits_Cond.j0]) (Ev.pos rfl (Ev.now _)))
theorem BitsChosen_pure (a0_0 a0_1 a0_2 a1_0 a1_1 a1_2 a2_0 a2_1 a2_2 a3 : Int) (_ : (Lit.int .i64 a0_0).wf = true) (h1 : (Lit.int .u64 a0_1).wf = true) (h2 : (Lit.int .u64 a0_2).wf = true)
    (_ : (Lit.int .i64 a1_0).wf = true) (h3 : (Lit.int .u64 a1_1).wf = true) (h4 : (Lit.int .u64 a1_2).wf = true) (_ : (Lit.int .i64 a2_0).wf = true) (h5 : (Lit.int .u64 a2_1).wf = true) (h6 : (Lit.int .u64 a2_2).wf = true) (_ : (Lit.int .i64 a3).wf = true) :
    ∃ k, masklaw1_BitsChosen.f k a0_0 a0_1 a0_2 a1_0 a1_1 a1_2 a2_0 a2_1 a2_2 a3 = some true := by
  obtain ⟨v1, rfl, b1⟩ := wf_u64 h1
  obtain ⟨v2, rfl, b2⟩ := wf_u64 h2
  obtain ⟨v3, rfl, b3⟩ := wf_u64 h3
  obtain ⟨v4, rfl, b4⟩ := wf_u64 h4
  obtain ⟨v5, rfl, b5⟩ := wf_u64 h5
  obtain ⟨v6, rfl, b6⟩ := wf_u64 h6
  exact (chosen_core a1_0 a2_0 a0_0 v3 v4 v5 v6 v1 v2 a3 b3 b4 b5 b6 b1 b2).rounds
end Go.Proofs.YtfigblfjogpojaaDoor.PBits
end
