/- Part 45 of the proof of BitsNumbersCardSaid: The law BitsNumbers: for all arguments it returns true; each argument reads behind the call as it read before. Out of the plain theorem of YtfigblfjogpojaaDoorPureBitsNumbers and the printed contract. -/
import Derived.Test.YtfigblfjogpojaaDoorQBitsNumbers37
import Derived.Test.YtfigblfjogpojaaDoorQBitsNumbers42
import Derived.Test.YtfigblfjogpojaaDoorQBitsNumbers43
import Derived.OpenShut
section
namespace Go.Proofs.YtfigblfjogpojaaDoor.PNum
open Go.Proofs.YtfigblfjogpojaaDoor.PBits Go.RowKit Go.Proofs.YtfigblfjogpojaaDoorW.PrintWords Go.Proofs.YtfigblfjogpojaaDoorW.PrintLast Go.Proofs.YtfigblfjogpojaaDoorW.PrintMore Go.Proofs.YtfigblfjogpojaaDoor.Bz
set_option linter.unusedVariables false
set_option linter.unusedSimpArgs false
def OpOk (op : Int) (W : Int) (v x : Nat) (W' : Int) (v' x' : Nat) (signed : Bool) : Prop :=
  ((okB W v x && okB W' v' x' && ((op == 11 || op == 12 || op == 21 || op == 22 || op == 23) || W == W')) = true → ∃ (l : List Int) (a b c : Int), Ev (fun k => maskref1_Binary.f k op (vs W.toNat v x) (vs W'.toNat v' x') signed) l ∧ Ev (fun k => maskref1_B.f k l) (a, b, c) ∧
    Ev (fun k => masklaw1_binary.f k op W (v : Int) (x : Int) W' (v' : Int) (x' : Int) signed) (a, b, c)) ∧
  ((okB W v x && okB W' v' x' && ((op == 11 || op == 12 || op == 21 || op == 22 || op == 23) || W == W')) = false → Ev (fun k => masklaw1_binary.f k op W (v : Int) (x : Int) W' (v' : Int) (x' : Int) signed) (0, 0, 0))
theorem pair_l0 (W : Int) (v x : Nat) (W' : Int) (v' x' : Nat) (signed : Bool) (hv : v < 2 ^ 64) (hx : x < 2 ^ 64) (hv' : v' < 2 ^ 64) (hx' : x' < 2 ^ 64) (ops : List Int) (hn : ops.length ≤ 100)
    (ho : ∀ op ∈ ops, OpOk op W v x W' v' x' signed) (d : Nat) : ∀ i : Nat, i + d = ops.length → Ev (fun k => masklaw1_pair.l0 k signed ops (ops.length : Int) (i : Int) W (v : Int) (x : Int) W' (v' : Int) (x' : Int)) true := by
  induction d with
  | zero =>
    intro i hi
    exact Ev.step (fun k => by rw [masklaw1_pair.l0]) (Ev.neg (by omega) (Ev.now _))
  | succ d ih =>
    intro i hi
    have ih := ih (i + 1) (by omega)
    have hlt : i < ops.length := by omega
    obtain ⟨hyes, hno⟩ := ho _ (List.getElem_mem hlt)
    have hrd : rd ops (i : Int) = ops[i] := by rw [rd_nat, List.getD_eq_getElem?_getD, List.getElem?_eq_getElem hlt]; rfl
    generalize ops[i] = op at hyes hno hrd
    have j3 : ∀ a b c : Int, Ev (fun k => masklaw1_binary.f k op W (v : Int) (x : Int) W' (v' : Int) (x' : Int) signed) (a, b, c) →
        Ev (fun k => masklaw1_pair.j3 k signed op ops (ops.length : Int) (i : Int) W (v : Int) (x : Int) W' (v' : Int) (x' : Int) a b c) true := by
      intro a b c h
      refine Ev.step (fun k => by rw [masklaw1_pair.j3]) ?_
      refine Ev.bind h ?_
      refine Ev.neg (by simp) ?_
      rw [w64 (n := (i : Int) + 1) (by omega)]
      exact ih
    have j1 : Ev (fun k => masklaw1_pair.j1 k signed op (op == 11 || op == 12 || op == 21 || op == 22 || op == 23) ops (ops.length : Int) (i : Int) W (v : Int) (x : Int) W' (v' : Int) (x' : Int)) true := by
      generalize (op == 11 || op == 12 || op == 21 || op == 22 || op == 23) = loose at hyes hno
      have no : (okB W v x && okB W' v' x' && (loose || W == W')) = false → Ev (fun k => masklaw1_pair.j2 k signed op ops (ops.length : Int) (i : Int) false W (v : Int) (x : Int) W' (v' : Int) (x' : Int) 0 0 0) true :=
        fun h => Ev.step (fun k => by rw [masklaw1_pair.j2]) (Ev.neg (by decide) (j3 0 0 0 (hno h)))
      refine Ev.step (fun k => by rw [masklaw1_pair.j1]) (Ev.bind (Valid_ev W v x hv hx) ?_)
      by_cases k1 : okB W v x = true
      case neg =>
        rw [Bool.not_eq_true] at k1
        rw [k1]; exact Ev.neg (by decide) (no (by rw [k1]; rfl))
      rw [k1]
      refine Ev.pos rfl (Ev.bind (Valid_ev W' v' x' hv' hx') ?_)
      by_cases k2 : okB W' v' x' = true
      case neg =>
        rw [Bool.not_eq_true] at k2
        rw [k2]; exact Ev.neg (by decide) (no (by rw [k1, k2]; rfl))
      rw [k2]
      refine Ev.pos rfl ?_
      have yes : (loose || W == W') = true → Ev (fun k => masklaw1_pair.j2 k signed op ops (ops.length : Int) (i : Int) true W (v : Int) (x : Int) W' (v' : Int) (x' : Int) 0 0 0) true := by
        intro h
        obtain ⟨l, a, b, c, h1, h2, h3⟩ := hyes (by rw [k1, k2, h]; rfl)
        obtain ⟨w, rfl, b1, b2, c1, c2⟩ := okB_nat k1
        obtain ⟨w', rfl, b1', b2', c1', c2'⟩ := okB_nat k2
        refine Ev.step (fun k => by rw [masklaw1_pair.j2]) ?_
        refine Ev.pos rfl ?_
        refine Ev.bind (V_ev hv hx b2) ?_
        refine Ev.bind (V_ev hv' hx' b2') ?_
        refine Ev.bind h1 ?_
        refine Ev.bind h2 ?_
        exact j3 a b c h3
      cases loose with
      | true => exact Ev.pos rfl (yes rfl)
      | false =>
        refine Ev.neg (by decide) ?_
        cases hw : (W == W') with
        | true => exact yes (by rw [hw]; rfl)
        | false => exact no (by rw [k1, k2, hw]; rfl)
    refine Ev.step (fun k => by rw [masklaw1_pair.l0]) (Ev.pos (by omega) (Ev.pos (by omega) (Ev.pos (by omega) ?_)))
    rw [hrd]
    by_cases h1 : op = 11
    · refine Ev.pos h1 ?_; subst h1; exact j1
    · refine Ev.neg h1 ?_
      by_cases h2 : op = 12
      · refine Ev.pos h2 ?_; subst h2; exact j1
      · refine Ev.neg h2 ?_
        by_cases h3 : op = 21
        · refine Ev.pos h3 ?_; subst h3; exact j1
        · refine Ev.neg h3 ?_
          by_cases h4 : op = 22
          · refine Ev.pos h4 ?_; subst h4; exact j1
          · refine Ev.neg h4 ?_
            rw [beq_eq_false_iff_ne.mpr h1, beq_eq_false_iff_ne.mpr h2, beq_eq_false_iff_ne.mpr h3, beq_eq_false_iff_ne.mpr h4] at j1
            exact j1
theorem pair_ev {W : Int} {v x : Nat} {W' : Int} {v' x' : Nat} {signed : Bool} (hv : v < 2 ^ 64) (hx : x < 2 ^ 64) (hv' : v' < 2 ^ 64) (hx' : x' < 2 ^ 64) {ops : List Int} (hn : ops.length ≤ 100)
    (ho : ∀ op ∈ ops, OpOk op W v x W' v' x' signed) : Ev (fun k => masklaw1_pair.f k ops W (v : Int) (x : Int) W' (v' : Int) (x' : Int) signed) true := by
  unfold masklaw1_pair.f
  exact pair_l0 W v x W' v' x' signed hv hx hv' hx' ops hn ho ops.length 0 (by omega)
theorem two2 {W : Int} {v x : Nat} {W' : Int} {v' x' : Nat} (h : (okB W v x && okB W' v' x' && (false || W == W')) = true) : ∃ w : Nat, W = (w : Int) ∧ W' = (w : Int) ∧ Two w v x v' x' := by
  rw [Bool.and_eq_true, Bool.and_eq_true, Bool.false_or, beq_iff_eq] at h
  obtain ⟨w, e, b1, b2, c1, c2⟩ := okB_nat h.1.1
  obtain ⟨w', e', b1', b2', c1', c2'⟩ := okB_nat h.1.2
  obtain rfl : w' = w := by omega
  exact ⟨w', e, e', b1, b2, c1, c2, c1', c2'⟩
theorem tight_no {W : Int} {v x : Nat} {W' : Int} {v' x' : Nat} (h : (okB W v x && okB W' v' x' && (false || W == W')) = false) : (okB W v x && okB W' v' x' && W == W') = false := by simpa using h
theorem Binary_num {w va xa vb xb : Nat} (h : Two w va xa vb xb) (op : Int) (ho : op = 16 ∨ op = 17 ∨ op = 18 ∨ op = 19 ∨ op = 20) (signed : Bool) :
    Ev (fun k => maskref1_Binary.f k op (vs w va xa) (vs w vb xb) signed) (if numOk op xa xb vb = true then vs w (numN op w va vb signed) 0 else List.replicate w 120) := by
  have hn := Number_ev h op ho signed
  have e : (op == 29) = false := by rcases ho with rfl | rfl | rfl | rfl | rfl <;> rfl
  have hj : Ev (fun k => maskref1_Binary.j0 k op (vs w va xa) (vs w vb xb) signed (op == 29)) (if numOk op xa xb vb = true then vs w (numN op w va vb signed) 0 else List.replicate w 120) := by
    rw [e]
    exact Ev.step (fun k => by rw [maskref1_Binary.j0]) (Ev.neg (by decide) (Ev.bind hn (Ev.now _)))
  unfold maskref1_Binary.f
  exact Ev.neg (by omega) (Ev.neg (by omega) (Ev.neg (by omega) (Ev.neg (by omega) (Ev.neg (by omega) (Ev.neg (by omega) (Ev.neg (by omega) (Ev.neg (by omega) (Ev.neg (by omega) (Ev.neg (by omega) (Ev.neg (by omega) (Ev.neg (by omega) (Ev.neg (by omega) (hj)))))))))))))
section
variable (W : Int) (v x : Nat) (W' : Int) (v' x' : Nat) (signed : Bool) (hv : v < 2 ^ 64) (hx : x < 2 ^ 64) (hv' : v' < 2 ^ 64) (hx' : x' < 2 ^ 64)
include hv hx hv' hx'
theorem ok16 : OpOk 16 W v x W' v' x' signed := by
  constructor
  · intro h
    obtain ⟨w, rfl, rfl, a⟩ := two2 h
    have hp := Add_gives a signed
    refine ⟨_, _, _, _, ?_, num_B a.w1 a.w64 16 v x v' x' signed, ?_⟩
    · rw [Int.toNat_natCast]
      exact Binary_num a 16 (by decide) signed
    · unfold masklaw1_binary.f
      exact Ev.neg (by decide) (Ev.neg (by decide) (Ev.neg (by decide) (Ev.neg (by decide) (Ev.neg (by decide) (Ev.neg (by decide) (Ev.neg (by decide) (Ev.neg (by decide) (Ev.neg (by decide) (Ev.neg (by decide) (Ev.neg (by decide) (Ev.neg (by decide) (Ev.neg (by decide) (Ev.neg (by decide) (Ev.pos rfl (Ev.bind hp (Ev.now _))))))))))))))))
  · intro h
    have hal := alike_ev (W := W) hv hx (W' := W') hv' hx'
    rw [tight_no h] at hal
    have hno : Ev (fun k => bits_Add.f k W (v : Int) (x : Int) W' (v' : Int) (x' : Int)) (0, 0, 0) := by
      unfold bits_Add.f bits_number__Add_1.f
      exact Ev.bind (Ev.bind hal (Ev.neg (by decide) (Ev.now _))) (Ev.now _)
    unfold masklaw1_binary.f
    exact Ev.neg (by decide) (Ev.neg (by decide) (Ev.neg (by decide) (Ev.neg (by decide) (Ev.neg (by decide) (Ev.neg (by decide) (Ev.neg (by decide) (Ev.neg (by decide) (Ev.neg (by decide) (Ev.neg (by decide) (Ev.neg (by decide) (Ev.neg (by decide) (Ev.neg (by decide) (Ev.neg (by decide) (Ev.pos rfl (Ev.bind hno (Ev.now _))))))))))))))))
theorem ok17 : OpOk 17 W v x W' v' x' signed := by
  constructor
  · intro h
    obtain ⟨w, rfl, rfl, a⟩ := two2 h
    have hp := Sub_gives a signed
    refine ⟨_, _, _, _, ?_, num_B a.w1 a.w64 17 v x v' x' signed, ?_⟩
    · rw [Int.toNat_natCast]
      exact Binary_num a 17 (by decide) signed
    · unfold masklaw1_binary.f
      exact Ev.neg (by decide) (Ev.neg (by decide) (Ev.neg (by decide) (Ev.neg (by decide) (Ev.neg (by decide) (Ev.neg (by decide) (Ev.neg (by decide) (Ev.neg (by decide) (Ev.neg (by decide) (Ev.neg (by decide) (Ev.neg (by decide) (Ev.neg (by decide) (Ev.neg (by decide) (Ev.neg (by decide) (Ev.neg (by decide) (Ev.pos rfl (Ev.bind hp (Ev.now _)))))))))))))))))
  · intro h
    have hal := alike_ev (W := W) hv hx (W' := W') hv' hx'
    rw [tight_no h] at hal
    have hno : Ev (fun k => bits_Sub.f k W (v : Int) (x : Int) W' (v' : Int) (x' : Int)) (0, 0, 0) := by
      unfold bits_Sub.f bits_number__Sub_1.f
      exact Ev.bind (Ev.bind hal (Ev.neg (by decide) (Ev.now _))) (Ev.now _)
    unfold masklaw1_binary.f
    exact Ev.neg (by decide) (Ev.neg (by decide) (Ev.neg (by decide) (Ev.neg (by decide) (Ev.neg (by decide) (Ev.neg (by decide) (Ev.neg (by decide) (Ev.neg (by decide) (Ev.neg (by decide) (Ev.neg (by decide) (Ev.neg (by decide) (Ev.neg (by decide) (Ev.neg (by decide) (Ev.neg (by decide) (Ev.neg (by decide) (Ev.pos rfl (Ev.bind hno (Ev.now _)))))))))))))))))
theorem ok18 : OpOk 18 W v x W' v' x' signed := by
  constructor
  · intro h
    obtain ⟨w, rfl, rfl, a⟩ := two2 h
    have hp := Mul_gives a signed
    refine ⟨_, _, _, _, ?_, num_B a.w1 a.w64 18 v x v' x' signed, ?_⟩
    · rw [Int.toNat_natCast]
      exact Binary_num a 18 (by decide) signed
    · unfold masklaw1_binary.f
      exact Ev.neg (by decide) (Ev.neg (by decide) (Ev.neg (by decide) (Ev.neg (by decide) (Ev.neg (by decide) (Ev.neg (by decide) (Ev.neg (by decide) (Ev.neg (by decide) (Ev.neg (by decide) (Ev.neg (by decide) (Ev.neg (by decide) (Ev.neg (by decide) (Ev.neg (by decide) (Ev.neg (by decide) (Ev.neg (by decide) (Ev.neg (by decide) (Ev.pos rfl (Ev.bind hp (Ev.now _))))))))))))))))))
  · intro h
    have hal := alike_ev (W := W) hv hx (W' := W') hv' hx'
    rw [tight_no h] at hal
    have hno : Ev (fun k => bits_Mul.f k W (v : Int) (x : Int) W' (v' : Int) (x' : Int)) (0, 0, 0) := by
      unfold bits_Mul.f bits_number__Mul_1.f
      exact Ev.bind (Ev.bind hal (Ev.neg (by decide) (Ev.now _))) (Ev.now _)
    unfold masklaw1_binary.f
    exact Ev.neg (by decide) (Ev.neg (by decide) (Ev.neg (by decide) (Ev.neg (by decide) (Ev.neg (by decide) (Ev.neg (by decide) (Ev.neg (by decide) (Ev.neg (by decide) (Ev.neg (by decide) (Ev.neg (by decide) (Ev.neg (by decide) (Ev.neg (by decide) (Ev.neg (by decide) (Ev.neg (by decide) (Ev.neg (by decide) (Ev.neg (by decide) (Ev.pos rfl (Ev.bind hno (Ev.now _))))))))))))))))))
theorem ok19 : OpOk 19 W v x W' v' x' signed := by
  constructor
  · intro h
    obtain ⟨w, rfl, rfl, a⟩ := two2 h
    have hp := Div_gives a signed
    refine ⟨_, _, _, _, ?_, num_B a.w1 a.w64 19 v x v' x' signed, ?_⟩
    · rw [Int.toNat_natCast]
      exact Binary_num a 19 (by decide) signed
    · unfold masklaw1_binary.f
      exact Ev.neg (by decide) (Ev.neg (by decide) (Ev.neg (by decide) (Ev.neg (by decide) (Ev.neg (by decide) (Ev.neg (by decide) (Ev.neg (by decide) (Ev.neg (by decide) (Ev.neg (by decide) (Ev.neg (by decide) (Ev.neg (by decide) (Ev.neg (by decide) (Ev.neg (by decide) (Ev.neg (by decide) (Ev.neg (by decide) (Ev.neg (by decide) (Ev.neg (by decide) (Ev.pos rfl (Ev.bind hp (Ev.now _)))))))))))))))))))
  · intro h
    have hal := alike_ev (W := W) hv hx (W' := W') hv' hx'
    rw [tight_no h] at hal
    have hno : Ev (fun k => bits_Div.f k W (v : Int) (x : Int) W' (v' : Int) (x' : Int) signed) (0, 0, 0) := by
      unfold bits_Div.f
      exact Ev.bind hal (Ev.neg (by decide) (Ev.now _))
    unfold masklaw1_binary.f
    exact Ev.neg (by decide) (Ev.neg (by decide) (Ev.neg (by decide) (Ev.neg (by decide) (Ev.neg (by decide) (Ev.neg (by decide) (Ev.neg (by decide) (Ev.neg (by decide) (Ev.neg (by decide) (Ev.neg (by decide) (Ev.neg (by decide) (Ev.neg (by decide) (Ev.neg (by decide) (Ev.neg (by decide) (Ev.neg (by decide) (Ev.neg (by decide) (Ev.neg (by decide) (Ev.pos rfl (Ev.bind hno (Ev.now _)))))))))))))))))))
theorem ok20 : OpOk 20 W v x W' v' x' signed := by
  constructor
  · intro h
    obtain ⟨w, rfl, rfl, a⟩ := two2 h
    have hp := Mod_gives a signed
    refine ⟨_, _, _, _, ?_, num_B a.w1 a.w64 20 v x v' x' signed, ?_⟩
    · rw [Int.toNat_natCast]
      exact Binary_num a 20 (by decide) signed
    · unfold masklaw1_binary.f
      exact Ev.neg (by decide) (Ev.neg (by decide) (Ev.neg (by decide) (Ev.neg (by decide) (Ev.neg (by decide) (Ev.neg (by decide) (Ev.neg (by decide) (Ev.neg (by decide) (Ev.neg (by decide) (Ev.neg (by decide) (Ev.neg (by decide) (Ev.neg (by decide) (Ev.neg (by decide) (Ev.neg (by decide) (Ev.neg (by decide) (Ev.neg (by decide) (Ev.neg (by decide) (Ev.neg (by decide) (Ev.bind hp (Ev.now _)))))))))))))))))))
  · intro h
    have hal := alike_ev (W := W) hv hx (W' := W') hv' hx'
    rw [tight_no h] at hal
    have hno : Ev (fun k => bits_Mod.f k W (v : Int) (x : Int) W' (v' : Int) (x' : Int) signed) (0, 0, 0) := by
      unfold bits_Mod.f
      exact Ev.bind hal (Ev.neg (by decide) (Ev.now _))
    unfold masklaw1_binary.f
    exact Ev.neg (by decide) (Ev.neg (by decide) (Ev.neg (by decide) (Ev.neg (by decide) (Ev.neg (by decide) (Ev.neg (by decide) (Ev.neg (by decide) (Ev.neg (by decide) (Ev.neg (by decide) (Ev.neg (by decide) (Ev.neg (by decide) (Ev.neg (by decide) (Ev.neg (by decide) (Ev.neg (by decide) (Ev.neg (by decide) (Ev.neg (by decide) (Ev.neg (by decide) (Ev.neg (by decide) (Ev.bind hno (Ev.now _)))))))))))))))))))
end
theorem Unary_neg {w va xa : Nat} (h1 : 1 ≤ w) (h2 : w ≤ 64) (hv : va < 2 ^ w) (hx : xa < 2 ^ w) :
    Ev (fun k => maskref1_Unary.f k 6 (vs w va xa)) (if numOk 17 0 xa va = true then vs w (numN 17 w 0 va false) 0 else List.replicate w 120) := by
  have p : 0 < 2 ^ w := Nat.pos_of_ne_zero (by simp)
  have hn := Number_ev (⟨h1, h2, p, p, hv, hx⟩ : Two w 0 0 va xa) 17 (by decide) false
  have hf := Fill_ev 48 w (show w ≤ 1000 by omega)
  rw [zeros] at hf
  unfold maskref1_Unary.f maskref1_unaryOf.f
  rw [vs_length]
  exact Ev.bind (Ev.neg (by decide) (Ev.pos rfl (Ev.bind hf (Ev.bind hn (Ev.now _))))) (Ev.now _)
theorem BitsNumbers_pure (a0_0 a0_1 a0_2 a1_0 a1_1 a1_2 : Int) (a2 : Bool) (_ : (Lit.int .i64 a0_0).wf = true) (h1 : (Lit.int .u64 a0_1).wf = true) (h2 : (Lit.int .u64 a0_2).wf = true) (_ : (Lit.int .i64 a1_0).wf = true) (h3 : (Lit.int .u64 a1_1).wf = true) (h4 : (Lit.int .u64 a1_2).wf = true) :
    ∃ k, masklaw1_BitsNumbers.f k a0_0 a0_1 a0_2 a1_0 a1_1 a1_2 a2 = some true := by
  obtain ⟨v1, rfl, b1⟩ := wf_u64 h1
  obtain ⟨v2, rfl, b2⟩ := wf_u64 h2
  obtain ⟨v3, rfl, b3⟩ := wf_u64 h3
  obtain ⟨v4, rfl, b4⟩ := wf_u64 h4
  refine Ev.rounds (g := fun k => masklaw1_BitsNumbers.f k a0_0 (v1 : Int) (v2 : Int) a1_0 (v3 : Int) (v4 : Int) a2) ?_
  have hpair : Ev (fun k => masklaw1_pair.f k (([16, 17, 18, 19, 20] : List Int)) a0_0 (v1 : Int) (v2 : Int) a1_0 (v3 : Int) (v4 : Int) a2) true := by
    refine pair_ev b1 b2 b3 b4 (by decide) ?_
    intro op ho
    simp only [List.mem_cons, List.not_mem_nil, or_false] at ho
    rcases ho with rfl | rfl | rfl | rfl | rfl
    · exact ok16 _ _ _ _ _ _ _ b1 b2 b3 b4
    · exact ok17 _ _ _ _ _ _ _ b1 b2 b3 b4
    · exact ok18 _ _ _ _ _ _ _ b1 b2 b3 b4
    · exact ok19 _ _ _ _ _ _ _ b1 b2 b3 b4
    · exact ok20 _ _ _ _ _ _ _ b1 b2 b3 b4
  have j : ∀ t : Int × Int × Int, Ev (fun k => bits_Neg.f k a0_0 (v1 : Int) (v2 : Int)) t → Ev (fun k => masklaw1_BitsNumbers.j0 k a2 a0_0 (v1 : Int) (v2 : Int) a1_0 (v3 : Int) (v4 : Int) t.1 t.2.1 t.2.2) true := by
    intro t ht
    refine Ev.step (fun k => by rw [masklaw1_BitsNumbers.j0]) ?_
    refine Ev.bind vectors_ev ?_
    refine Ev.pos rfl ?_
    refine Ev.bind ht ?_
    refine Ev.pos (by simp) ?_
    exact Ev.bind hpair (Ev.now _)
  unfold masklaw1_BitsNumbers.f
  refine Ev.bind (Valid_ev a0_0 v1 v2 b1 b2) ?_
  by_cases k1 : okB a0_0 v1 v2 = true
  · rw [k1]
    obtain ⟨w, rfl, w1, w2, c1, c2⟩ := okB_nat k1
    exact Ev.pos rfl (Ev.bind (V_ev b1 b2 w2) (Ev.bind (Unary_neg w1 w2 c1 c2) (Ev.bind (num_B w1 w2 17 0 0 v1 v2 false) (j _ (Neg_gives w1 w2 c1 c2)))))
  · rw [Bool.not_eq_true] at k1
    rw [k1]
    refine Ev.neg (by decide) (j (0, 0, 0) ?_)
    have hal := alike_ev (W := a0_0) b1 b2 (W' := a0_0) b1 b2
    rw [k1] at hal
    unfold bits_Neg.f bits_number__Neg_1.f
    exact Ev.bind (Ev.bind hal (Ev.neg (by simp) (Ev.now _))) (Ev.now _)
end Go.Proofs.YtfigblfjogpojaaDoor.PNum
end
