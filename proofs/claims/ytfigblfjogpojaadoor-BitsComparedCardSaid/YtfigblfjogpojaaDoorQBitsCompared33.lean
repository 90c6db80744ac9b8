/- Part 34 of the proof of BitsComparedCardSaid: The law BitsCompared: for all arguments it returns true; each argument reads behind the call as it read before. Out of the plain theorem of YtfigblfjogpojaaDoorPureBitsCompared and the printed contract. -/
import Derived.Test.YtfigblfjogpojaaDoorQBitsCompared26
import Derived.Test.YtfigblfjogpojaaDoorQBitsCompared31
import Derived.Test.YtfigblfjogpojaaDoorQBitsCompared32
import Derived.OpenShut
section
namespace Go.Proofs.YtfigblfjogpojaaDoor.PComp
open Go.Proofs.YtfigblfjogpojaaDoor.PBits Go.RowKit Go.Proofs.YtfigblfjogpojaaDoorW.PrintWords Go.Proofs.YtfigblfjogpojaaDoorW.PrintLast Go.Proofs.YtfigblfjogpojaaDoorW.PrintMore Go.Proofs.YtfigblfjogpojaaDoor.Bz
set_option linter.unusedVariables false
set_option linter.unusedSimpArgs false
def OpOk (op : Int) (W : Int) (v x : Nat) (W' : Int) (v' x' : Nat) (signed : Bool) : Prop :=
  ((okB W v x && okB W' v' x' && ((op == 11 || op == 12 || op == 21 || op == 22 || op == 23) || W == W')) = true → ∃ (l : List Int) (a b c : Int), Ev (fun k => maskref1_Binary.f k op (vs W.toNat v x) (vs W'.toNat v' x') signed) l ∧ Ev (fun k => maskref1_B.f k l) (a, b, c) ∧
    Ev (fun k => masklaw1_binary.f k op W (v : Int) (x : Int) W' (v' : Int) (x' : Int) signed) (a, b, c)) ∧
  ((okB W v x && okB W' v' x' && ((op == 11 || op == 12 || op == 21 || op == 22 || op == 23) || W == W')) = false → Ev (fun k => masklaw1_binary.f k op W (v : Int) (x : Int) W' (v' : Int) (x' : Int) signed) (0, 0, 0))
theorem pair_l0 (W : Int) (v x : Nat) (W' : Int) (v' x' : Nat) (signed : Bool) (hv : v < 2 ^ 64) (hx : x < 2 ^ 64) (hv' : v' < 2 ^ 64) (hx' : x' < 2 ^ 64) (ops : List Int) (hn : ops.length ≤ 100)
    (ho : ∀ op ∈ ops, OpOk op W v x W' v' x' signed) (d : Nat) : ∀ i : Nat, i + d = ops.length → Ev (fun k => masklaw1_pair.l0 k signed ops (ops.length : Int) (i : Int) W (v : Int) (x : Int) W' (v' : Int) (x' : Int)) true := by
  induction d with
  | zero =>
    intro i hi
    exact Ev.step (fun k => by rw [masklaw1_pair.l0]) (Ev.neg (by omega) (Ev.now _))
  | succ d ih =>
    intro i hi
    have ih := ih (i + 1) (by omega)
    have hlt : i < ops.length := by omega
    obtain ⟨hyes, hno⟩ := ho _ (List.getElem_mem hlt)
    have hrd : rd ops (i : Int) = ops[i] := by rw [rd_nat, List.getD_eq_getElem?_getD, List.getElem?_eq_getElem hlt]; rfl
    generalize ops[i] = op at hyes hno hrd
    have j3 : ∀ a b c : Int, Ev (fun k => masklaw1_binary.f k op W (v : Int) (x : Int) W' (v' : Int) (x' : Int) signed) (a, b, c) →
        Ev (fun k => masklaw1_pair.j3 k signed op ops (ops.length : Int) (i : Int) W (v : Int) (x : Int) W' (v' : Int) (x' : Int) a b c) true := by
      intro a b c h
      refine Ev.step (fun k => by rw [masklaw1_pair.j3]) ?_
      refine Ev.bind h ?_
      refine Ev.neg (by simp) ?_
      rw [w64 (n := (i : Int) + 1) (by omega)]
      exact ih
    have j1 : Ev (fun k => masklaw1_pair.j1 k signed op (op == 11 || op == 12 || op == 21 || op == 22 || op == 23) ops (ops.length : Int) (i : Int) W (v : Int) (x : Int) W' (v' : Int) (x' : Int)) true := by
      generalize (op == 11 || op == 12 || op == 21 || op == 22 || op == 23) = loose at hyes hno
      have no : (okB W v x && okB W' v' x' && (loose || W == W')) = false → Ev (fun k => masklaw1_pair.j2 k signed op ops (ops.length : Int) (i : Int) false W (v : Int) (x : Int) W' (v' : Int) (x' : Int) 0 0 0) true :=
        fun h => Ev.step (fun k => by rw [masklaw1_pair.j2]) (Ev.neg (by decide) (j3 0 0 0 (hno h)))
      refine Ev.step (fun k => by rw [masklaw1_pair.j1]) (Ev.bind (Valid_ev W v x hv hx) ?_)
      by_cases k1 : okB W v x = true
      case neg =>
        rw [Bool.not_eq_true] at k1
        rw [k1]; exact Ev.neg (by decide) (no (by rw [k1]; rfl))
      rw [k1]
      refine Ev.pos rfl (Ev.bind (Valid_ev W' v' x' hv' hx') ?_)
      by_cases k2 : okB W' v' x' = true
      case neg =>
        rw [Bool.not_eq_true] at k2
        rw [k2]; exact Ev.neg (by decide) (no (by rw [k1, k2]; rfl))
      rw [k2]
      refine Ev.pos rfl ?_
      have yes : (loose || W == W') = true → Ev (fun k => masklaw1_pair.j2 k signed op ops (ops.length : Int) (i : Int) true W (v : Int) (x : Int) W' (v' : Int) (x' : Int) 0 0 0) true := by
        intro h
        obtain ⟨l, a, b, c, h1, h2, h3⟩ := hyes (by rw [k1, k2, h]; rfl)
        obtain ⟨w, rfl, b1, b2, c1, c2⟩ := okB_nat k1
        obtain ⟨w', rfl, b1', b2', c1', c2'⟩ := okB_nat k2
        refine Ev.step (fun k => by rw [masklaw1_pair.j2]) ?_
        refine Ev.pos rfl ?_
        refine Ev.bind (V_ev hv hx b2) ?_
        refine Ev.bind (V_ev hv' hx' b2') ?_
        refine Ev.bind h1 ?_
        refine Ev.bind h2 ?_
        exact j3 a b c h3
      cases loose with
      | true => exact Ev.pos rfl (yes rfl)
      | false =>
        refine Ev.neg (by decide) ?_
        cases hw : (W == W') with
        | true => exact yes (by rw [hw]; rfl)
        | false => exact no (by rw [k1, k2, hw]; rfl)
    refine Ev.step (fun k => by rw [masklaw1_pair.l0]) (Ev.pos (by omega) (Ev.pos (by omega) (Ev.pos (by omega) ?_)))
    rw [hrd]
    by_cases h1 : op = 11
    · refine Ev.pos h1 ?_; subst h1; exact j1
    · refine Ev.neg h1 ?_
      by_cases h2 : op = 12
      · refine Ev.pos h2 ?_; subst h2; exact j1
      · refine Ev.neg h2 ?_
        by_cases h3 : op = 21
        · refine Ev.pos h3 ?_; subst h3; exact j1
        · refine Ev.neg h3 ?_
          by_cases h4 : op = 22
          · refine Ev.pos h4 ?_; subst h4; exact j1
          · refine Ev.neg h4 ?_
            rw [beq_eq_false_iff_ne.mpr h1, beq_eq_false_iff_ne.mpr h2, beq_eq_false_iff_ne.mpr h3, beq_eq_false_iff_ne.mpr h4] at j1
            exact j1
theorem pair_ev {W : Int} {v x : Nat} {W' : Int} {v' x' : Nat} {signed : Bool} (hv : v < 2 ^ 64) (hx : x < 2 ^ 64) (hv' : v' < 2 ^ 64) (hx' : x' < 2 ^ 64) {ops : List Int} (hn : ops.length ≤ 100)
    (ho : ∀ op ∈ ops, OpOk op W v x W' v' x' signed) : Ev (fun k => masklaw1_pair.f k ops W (v : Int) (x : Int) W' (v' : Int) (x' : Int) signed) true := by
  unfold masklaw1_pair.f
  exact pair_l0 W v x W' v' x' signed hv hx hv' hx' ops hn ho ops.length 0 (by omega)
theorem two2 {W : Int} {v x : Nat} {W' : Int} {v' x' : Nat} (h : (okB W v x && okB W' v' x' && (false || W == W')) = true) : ∃ w : Nat, W = (w : Int) ∧ W' = (w : Int) ∧ Two w v x v' x' := by
  rw [Bool.and_eq_true, Bool.and_eq_true, Bool.false_or, beq_iff_eq] at h
  obtain ⟨w, e, b1, b2, c1, c2⟩ := okB_nat h.1.1
  obtain ⟨w', e', b1', b2', c1', c2'⟩ := okB_nat h.1.2
  obtain rfl : w' = w := by omega
  exact ⟨w', e, e', b1, b2, c1, c2, c1', c2'⟩
theorem tight_no {W : Int} {v x : Nat} {W' : Int} {v' x' : Nat} (h : (okB W v x && okB W' v' x' && (false || W == W')) = false) : (okB W v x && okB W' v' x' && W == W') = false := by simpa using h
section
variable (W : Int) (v x : Nat) (W' : Int) (v' x' : Nat) (signed : Bool) (hv : v < 2 ^ 64) (hx : x < 2 ^ 64) (hv' : v' < 2 ^ 64) (hx' : x' < 2 ^ 64)
include hv hx hv' hx'
theorem Eq_no (h : (okB W v x && okB W' v' x' && W == W') = false) : Ev (fun k => bits_Eq.f k W (v : Int) (x : Int) W' (v' : Int) (x' : Int)) (0, 0, 0) := by
  have hal := alike_ev (W := W) hv hx (W' := W') hv' hx'
  rw [h] at hal
  unfold bits_Eq.f
  exact Ev.bind hal (Ev.neg (by decide) (Ev.now _))
theorem CaseEq_no (h : (okB W v x && okB W' v' x' && W == W') = false) : Ev (fun k => bits_CaseEq.f k W (v : Int) (x : Int) W' (v' : Int) (x' : Int)) (0, 0, 0) := by
  have hal := alike_ev (W := W) hv hx (W' := W') hv' hx'
  rw [h] at hal
  unfold bits_CaseEq.f
  exact Ev.bind hal (Ev.neg (by decide) (Ev.now _))
theorem Lt_no (h : (okB W v x && okB W' v' x' && W == W') = false) : Ev (fun k => bits_Lt.f k W (v : Int) (x : Int) W' (v' : Int) (x' : Int) signed) (0, 0, 0) := by
  have hal := alike_ev (W := W) hv hx (W' := W') hv' hx'
  rw [h] at hal
  unfold bits_Lt.f
  exact Ev.bind hal (Ev.neg (by decide) (Ev.now _))
theorem ok24 : OpOk 24 W v x W' v' x' signed := by
  constructor
  · intro h
    obtain ⟨w, rfl, rfl, a⟩ := two2 h
    refine ⟨oneL (cmpS v x v' x'), _, _, _, ?_, B_one _, ?_⟩
    · rw [Int.toNat_natCast]
      unfold maskref1_Binary.f
      exact (Ev.neg (by decide) (Ev.neg (by decide) (Ev.neg (by decide) (Ev.neg (by decide) (Ev.neg (by decide) (Ev.neg (by decide) (Ev.neg (by decide) (Ev.neg (by decide) (Ev.pos rfl (Ev.bind (Compared_ev a) (Ev.bnd (One_is _) (Ev.now _))))))))))))
    · have hp : Ev (fun k => bits_Eq.f k (w : Int) (v : Int) (x : Int) (w : Int) (v' : Int) (x' : Int)) (trip (cmpS v x v' x')) := by
        exact Eq_ev a
      unfold masklaw1_binary.f
      exact (Ev.neg (by decide) (Ev.neg (by decide) (Ev.neg (by decide) (Ev.neg (by decide) (Ev.neg (by decide) (Ev.neg (by decide) (Ev.neg (by decide) (Ev.neg (by decide) (Ev.pos rfl (Ev.bind hp (Ev.now _)))))))))))
  · intro h
    have hno : Ev (fun k => bits_Eq.f k W (v : Int) (x : Int) W' (v' : Int) (x' : Int)) (0, 0, 0) := by
      exact Eq_no W v x W' v' x' hv hx hv' hx' (tight_no h)
    unfold masklaw1_binary.f
    exact (Ev.neg (by decide) (Ev.neg (by decide) (Ev.neg (by decide) (Ev.neg (by decide) (Ev.neg (by decide) (Ev.neg (by decide) (Ev.neg (by decide) (Ev.neg (by decide) (Ev.pos rfl (Ev.bind hno (Ev.now _)))))))))))
theorem ok25 : OpOk 25 W v x W' v' x' signed := by
  constructor
  · intro h
    obtain ⟨w, rfl, rfl, a⟩ := two2 h
    refine ⟨oneL (oppS (cmpS v x v' x')), _, _, _, ?_, B_one _, ?_⟩
    · rw [Int.toNat_natCast]
      unfold maskref1_Binary.f
      exact (Ev.neg (by decide) (Ev.neg (by decide) (Ev.neg (by decide) (Ev.neg (by decide) (Ev.neg (by decide) (Ev.neg (by decide) (Ev.neg (by decide) (Ev.neg (by decide) (Ev.neg (by decide) (Ev.pos rfl (Ev.bind (Compared_ev a) (Ev.bnd (Opp_is _) (Ev.bnd (One_is _) (Ev.now _))))))))))))))
    · have hp : Ev (fun k => bits_Ne.f k (w : Int) (v : Int) (x : Int) (w : Int) (v' : Int) (x' : Int)) (trip (oppS (cmpS v x v' x'))) := by
        unfold bits_Ne.f
        exact Ev.bind (Eq_ev a) (Ev.bind (LNot_ev _) (Ev.now _))
      unfold masklaw1_binary.f
      exact (Ev.neg (by decide) (Ev.neg (by decide) (Ev.neg (by decide) (Ev.neg (by decide) (Ev.neg (by decide) (Ev.neg (by decide) (Ev.neg (by decide) (Ev.neg (by decide) (Ev.neg (by decide) (Ev.pos rfl (Ev.bind hp (Ev.now _))))))))))))
  · intro h
    have hno : Ev (fun k => bits_Ne.f k W (v : Int) (x : Int) W' (v' : Int) (x' : Int)) (0, 0, 0) := by
      unfold bits_Ne.f
      exact Ev.bind (Eq_no W v x W' v' x' hv hx hv' hx' (tight_no h)) (Ev.bind LNot_0 (Ev.now _))
    unfold masklaw1_binary.f
    exact (Ev.neg (by decide) (Ev.neg (by decide) (Ev.neg (by decide) (Ev.neg (by decide) (Ev.neg (by decide) (Ev.neg (by decide) (Ev.neg (by decide) (Ev.neg (by decide) (Ev.neg (by decide) (Ev.pos rfl (Ev.bind hno (Ev.now _))))))))))))
theorem ok26 : OpOk 26 W v x W' v' x' signed := by
  constructor
  · intro h
    obtain ⟨w, rfl, rfl, a⟩ := two2 h
    refine ⟨oneL (bS (decide (v = v' ∧ x = x'))), _, _, _, ?_, B_one _, ?_⟩
    · rw [Int.toNat_natCast]
      unfold maskref1_Binary.f
      exact (Ev.neg (by decide) (Ev.neg (by decide) (Ev.neg (by decide) (Ev.neg (by decide) (Ev.neg (by decide) (Ev.neg (by decide) (Ev.neg (by decide) (Ev.neg (by decide) (Ev.neg (by decide) (Ev.neg (by decide) (Ev.pos rfl (Ev.bnd (same_is a.va a.xa a.vb a.xb) (Ev.bnd (truthOf_is _) (Ev.bnd (One_is _) (Ev.now _)))))))))))))))
    · have hp : Ev (fun k => bits_CaseEq.f k (w : Int) (v : Int) (x : Int) (w : Int) (v' : Int) (x' : Int)) (trip (bS (decide (v = v' ∧ x = x')))) := by
        exact CaseEq_ev a
      unfold masklaw1_binary.f
      exact (Ev.neg (by decide) (Ev.neg (by decide) (Ev.neg (by decide) (Ev.neg (by decide) (Ev.neg (by decide) (Ev.neg (by decide) (Ev.neg (by decide) (Ev.neg (by decide) (Ev.neg (by decide) (Ev.neg (by decide) (Ev.pos rfl (Ev.bind hp (Ev.now _)))))))))))))
  · intro h
    have hno : Ev (fun k => bits_CaseEq.f k W (v : Int) (x : Int) W' (v' : Int) (x' : Int)) (0, 0, 0) := by
      exact CaseEq_no W v x W' v' x' hv hx hv' hx' (tight_no h)
    unfold masklaw1_binary.f
    exact (Ev.neg (by decide) (Ev.neg (by decide) (Ev.neg (by decide) (Ev.neg (by decide) (Ev.neg (by decide) (Ev.neg (by decide) (Ev.neg (by decide) (Ev.neg (by decide) (Ev.neg (by decide) (Ev.neg (by decide) (Ev.pos rfl (Ev.bind hno (Ev.now _)))))))))))))
theorem ok27 : OpOk 27 W v x W' v' x' signed := by
  constructor
  · intro h
    obtain ⟨w, rfl, rfl, a⟩ := two2 h
    refine ⟨oneL (bS (!decide (v = v' ∧ x = x'))), _, _, _, ?_, B_one _, ?_⟩
    · rw [Int.toNat_natCast]
      unfold maskref1_Binary.f
      exact (Ev.neg (by decide) (Ev.neg (by decide) (Ev.neg (by decide) (Ev.neg (by decide) (Ev.neg (by decide) (Ev.neg (by decide) (Ev.neg (by decide) (Ev.neg (by decide) (Ev.neg (by decide) (Ev.neg (by decide) (Ev.neg (by decide) (Ev.pos rfl (Ev.bnd (same_is a.va a.xa a.vb a.xb) (Ev.bnd (truthOf_is _) (Ev.bnd (One_is _) (Ev.now _))))))))))))))))
    · have hp : Ev (fun k => bits_CaseNe.f k (w : Int) (v : Int) (x : Int) (w : Int) (v' : Int) (x' : Int)) (trip (bS (!decide (v = v' ∧ x = x')))) := by
        unfold bits_CaseNe.f
        refine Ev.bind (CaseEq_ev a) (Ev.bind (LNot_ev _) ((Ev.now _).eq ?_))
        cases decide (v = v' ∧ x = x') <;> rfl
      unfold masklaw1_binary.f
      exact (Ev.neg (by decide) (Ev.neg (by decide) (Ev.neg (by decide) (Ev.neg (by decide) (Ev.neg (by decide) (Ev.neg (by decide) (Ev.neg (by decide) (Ev.neg (by decide) (Ev.neg (by decide) (Ev.neg (by decide) (Ev.neg (by decide) (Ev.pos rfl (Ev.bind hp (Ev.now _))))))))))))))
  · intro h
    have hno : Ev (fun k => bits_CaseNe.f k W (v : Int) (x : Int) W' (v' : Int) (x' : Int)) (0, 0, 0) := by
      unfold bits_CaseNe.f
      exact Ev.bind (CaseEq_no W v x W' v' x' hv hx hv' hx' (tight_no h)) (Ev.bind LNot_0 (Ev.now _))
    unfold masklaw1_binary.f
    exact (Ev.neg (by decide) (Ev.neg (by decide) (Ev.neg (by decide) (Ev.neg (by decide) (Ev.neg (by decide) (Ev.neg (by decide) (Ev.neg (by decide) (Ev.neg (by decide) (Ev.neg (by decide) (Ev.neg (by decide) (Ev.neg (by decide) (Ev.pos rfl (Ev.bind hno (Ev.now _))))))))))))))
omit hv hx hv' hx'
theorem known_ref {w : Nat} (a : Two w v x v' x') (op : Int) (ho : op = 28 ∨ op = 29) : Ev (fun k => (maskref1_Known.f k (vs w v x)).bind fun t984 => (if t984 = true then ((maskref1_Known.f k (vs w v' x')).bind fun t985 => (maskref1_Binary.j1 k op (vs w v x) (vs w v' x') signed (!t985))) else (maskref1_Binary.j1 k op (vs w v x) (vs w v' x') signed true)))
    (oneL (if op = 28 then ltS w v x v' x' signed else oppS (ltS w v' x' v x signed))) := by
  have unk : ¬ (x = 0 ∧ x' = 0) → Ev (fun k => maskref1_Binary.j1 k op (vs w v x) (vs w v' x') signed true) (oneL (if op = 28 then ltS w v x v' x' signed else oppS (ltS w v' x' v x signed))) := by
    intro h
    have e1 : ltS w v x v' x' signed = 117 := by unfold ltS; rw [if_neg h]
    have e2 : ltS w v' x' v x signed = 117 := by unfold ltS; rw [if_neg (fun k => h ⟨k.2, k.1⟩)]
    refine Ev.step (fun k => by rw [maskref1_Binary.j1]) (Ev.pos rfl (Ev.bnd (One_is _) ((Ev.now _).eq ?_)))
    rw [e1, e2]
    split <;> rfl
  refine Ev.bind (Known_ev a.xa a.w64) ?_
  by_cases h1 : x = 0
  case neg =>
    rw [decide_eq_false h1]
    exact Ev.neg (by decide) (unk fun h => h1 h.1)
  rw [decide_eq_true h1]
  refine Ev.pos rfl (Ev.bind (Known_ev a.xb a.w64) ?_)
  by_cases h2 : x' = 0
  case neg =>
    rw [decide_eq_false h2]
    exact unk fun h => h2 h.2
  rw [decide_eq_true h2]
  subst h1; subst h2
  have w64 := a.w64
  refine Ev.step (fun k => by rw [maskref1_Binary.j1]) (Ev.neg (by decide) (Ev.bind (below_ev signed a.w1 (by omega) a.va a.vb) ?_))
  have e1 : ltS w v 0 v' 0 signed = bS (lessS w v v' signed) := by unfold ltS; rw [if_pos ⟨rfl, rfl⟩]
  have e2 : ltS w v' 0 v 0 signed = bS (lessS w v' v signed) := by unfold ltS; rw [if_pos ⟨rfl, rfl⟩]
  rw [e1, e2]
  have e3 := less_le a.w1 a.va a.vb signed
  rw [e3]
  cases lessS w v v' signed with
  | true =>
    refine Ev.pos rfl (Ev.bnd (truthOf_is _) (Ev.bnd (One_is _) ((Ev.now _).eq ?_)))
    split <;> rfl
  | false =>
    refine Ev.neg (by decide) ?_
    rcases ho with rfl | rfl
    · exact Ev.neg (by decide) (Ev.bnd (truthOf_is _) (Ev.bnd (One_is _) ((Ev.now _).eq (by rw [if_pos rfl]))))
    · refine Ev.pos rfl (Ev.bnd (same_is a.va a.xa a.vb a.xb) (Ev.bnd (truthOf_is _) (Ev.bnd (One_is _) ((Ev.now _).eq ?_))))
      rw [if_neg (by decide), if_neg (by decide)]
include hv hx hv' hx'
theorem ok28 : OpOk 28 W v x W' v' x' signed := by
  constructor
  · intro h
    obtain ⟨w, rfl, rfl, a⟩ := two2 h
    refine ⟨oneL (if (28 : Int) = 28 then ltS w v x v' x' signed else oppS (ltS w v' x' v x signed)), _, _, _, ?_, B_one _, ?_⟩
    · rw [Int.toNat_natCast]
      unfold maskref1_Binary.f
      have hk := known_ref v x v' x' signed a 28 (by decide)
      have hj : Ev (fun k => maskref1_Binary.j0 k 28 (vs w v x) (vs w v' x') signed true) _ := Ev.step (fun k => by rw [maskref1_Binary.j0]) (Ev.pos rfl hk)
      exact (Ev.neg (by decide) (Ev.neg (by decide) (Ev.neg (by decide) (Ev.neg (by decide) (Ev.neg (by decide) (Ev.neg (by decide) (Ev.neg (by decide) (Ev.neg (by decide) (Ev.neg (by decide) (Ev.neg (by decide) (Ev.neg (by decide) (Ev.neg (by decide) (Ev.pos rfl hj)))))))))))))
    · have hp : Ev (fun k => bits_Lt.f k (w : Int) (v : Int) (x : Int) (w : Int) (v' : Int) (x' : Int) signed) (trip (if (28 : Int) = 28 then ltS w v x v' x' signed else oppS (ltS w v' x' v x signed))) := by
        exact Lt_ev a signed
      unfold masklaw1_binary.f
      exact (Ev.neg (by decide) (Ev.neg (by decide) (Ev.neg (by decide) (Ev.neg (by decide) (Ev.neg (by decide) (Ev.neg (by decide) (Ev.neg (by decide) (Ev.neg (by decide) (Ev.neg (by decide) (Ev.neg (by decide) (Ev.neg (by decide) (Ev.neg (by decide) (Ev.pos rfl (Ev.bind hp (Ev.now _)))))))))))))))
  · intro h
    have hno : Ev (fun k => bits_Lt.f k W (v : Int) (x : Int) W' (v' : Int) (x' : Int) signed) (0, 0, 0) := by
      exact Lt_no W v x W' v' x' signed hv hx hv' hx' (tight_no h)
    unfold masklaw1_binary.f
    exact (Ev.neg (by decide) (Ev.neg (by decide) (Ev.neg (by decide) (Ev.neg (by decide) (Ev.neg (by decide) (Ev.neg (by decide) (Ev.neg (by decide) (Ev.neg (by decide) (Ev.neg (by decide) (Ev.neg (by decide) (Ev.neg (by decide) (Ev.neg (by decide) (Ev.pos rfl (Ev.bind hno (Ev.now _)))))))))))))))
theorem ok29 : OpOk 29 W v x W' v' x' signed := by
  constructor
  · intro h
    obtain ⟨w, rfl, rfl, a⟩ := two2 h
    refine ⟨oneL (if (29 : Int) = 28 then ltS w v x v' x' signed else oppS (ltS w v' x' v x signed)), _, _, _, ?_, B_one _, ?_⟩
    · rw [Int.toNat_natCast]
      unfold maskref1_Binary.f
      have hk := known_ref v x v' x' signed a 29 (by decide)
      have hj : Ev (fun k => maskref1_Binary.j0 k 29 (vs w v x) (vs w v' x') signed true) _ := Ev.step (fun k => by rw [maskref1_Binary.j0]) (Ev.pos rfl hk)
      exact (Ev.neg (by decide) (Ev.neg (by decide) (Ev.neg (by decide) (Ev.neg (by decide) (Ev.neg (by decide) (Ev.neg (by decide) (Ev.neg (by decide) (Ev.neg (by decide) (Ev.neg (by decide) (Ev.neg (by decide) (Ev.neg (by decide) (Ev.neg (by decide) (Ev.neg (by decide) hj)))))))))))))
    · have hp : Ev (fun k => bits_Le.f k (w : Int) (v : Int) (x : Int) (w : Int) (v' : Int) (x' : Int) signed) (trip (if (29 : Int) = 28 then ltS w v x v' x' signed else oppS (ltS w v' x' v x signed))) := by
        have b : Two w v' x' v x := ⟨a.w1, a.w64, a.vb, a.xb, a.va, a.xa⟩
        unfold bits_Le.f
        exact Ev.bind (Lt_ev b signed) (Ev.bind (LNot_ev _) (Ev.now _))
      unfold masklaw1_binary.f
      exact (Ev.neg (by decide) (Ev.neg (by decide) (Ev.neg (by decide) (Ev.neg (by decide) (Ev.neg (by decide) (Ev.neg (by decide) (Ev.neg (by decide) (Ev.neg (by decide) (Ev.neg (by decide) (Ev.neg (by decide) (Ev.neg (by decide) (Ev.neg (by decide) (Ev.neg (by decide) (Ev.pos rfl (Ev.bind hp (Ev.now _))))))))))))))))
  · intro h
    have hno : Ev (fun k => bits_Le.f k W (v : Int) (x : Int) W' (v' : Int) (x' : Int) signed) (0, 0, 0) := by
      have h2 : (okB W' v' x' && okB W v x && W' == W) = false := by
        have h3 := tight_no h
        rw [Bool.and_comm (okB W' v' x'), show (W' == W) = (W == W') from by rw [Bool.eq_iff_iff, beq_iff_eq, beq_iff_eq]; exact eq_comm]; exact h3
      unfold bits_Le.f
      exact Ev.bind (Lt_no W' v' x' W v x signed hv' hx' hv hx h2) (Ev.bind LNot_0 (Ev.now _))
    unfold masklaw1_binary.f
    exact (Ev.neg (by decide) (Ev.neg (by decide) (Ev.neg (by decide) (Ev.neg (by decide) (Ev.neg (by decide) (Ev.neg (by decide) (Ev.neg (by decide) (Ev.neg (by decide) (Ev.neg (by decide) (Ev.neg (by decide) (Ev.neg (by decide) (Ev.neg (by decide) (Ev.neg (by decide) (Ev.pos rfl (Ev.bind hno (Ev.now _))))))))))))))))
end
theorem BitsCompared_pure (a0_0 a0_1 a0_2 a1_0 a1_1 a1_2 : Int) (a2 : Bool) (_ : (Lit.int .i64 a0_0).wf = true) (h1 : (Lit.int .u64 a0_1).wf = true) (h2 : (Lit.int .u64 a0_2).wf = true) (_ : (Lit.int .i64 a1_0).wf = true) (h3 : (Lit.int .u64 a1_1).wf = true) (h4 : (Lit.int .u64 a1_2).wf = true) :
    ∃ k, masklaw1_BitsCompared.f k a0_0 a0_1 a0_2 a1_0 a1_1 a1_2 a2 = some true := by
  obtain ⟨v1, rfl, b1⟩ := wf_u64 h1
  obtain ⟨v2, rfl, b2⟩ := wf_u64 h2
  obtain ⟨v3, rfl, b3⟩ := wf_u64 h3
  obtain ⟨v4, rfl, b4⟩ := wf_u64 h4
  refine Ev.rounds (g := fun k => masklaw1_BitsCompared.f k a0_0 (v1 : Int) (v2 : Int) a1_0 (v3 : Int) (v4 : Int) a2) ?_
  unfold masklaw1_BitsCompared.f
  refine Ev.bind vectors_ev (Ev.pos rfl (Ev.bind (pair_ev b1 b2 b3 b4 (by decide) ?_) (Ev.now _)))
  intro op ho
  simp only [List.mem_cons, List.not_mem_nil, or_false] at ho
  rcases ho with rfl | rfl | rfl | rfl | rfl | rfl
  · exact ok24 _ _ _ _ _ _ _ b1 b2 b3 b4
  · exact ok25 _ _ _ _ _ _ _ b1 b2 b3 b4
  · exact ok26 _ _ _ _ _ _ _ b1 b2 b3 b4
  · exact ok27 _ _ _ _ _ _ _ b1 b2 b3 b4
  · exact ok28 _ _ _ _ _ _ _ b1 b2 b3 b4
  · exact ok29 _ _ _ _ _ _ _ b1 b2 b3 b4
end Go.Proofs.YtfigblfjogpojaaDoor.PComp
end
