/- Part 40 of the proof of BitsJoinedCardSaid: The law BitsJoined: for all arguments it returns true; each argument reads behind the call as it read before. Out of the plain theorem of YtfigblfjogpojaaGreatDoorPureBitsJoined and the printed contract. -/
import Derived.Test.YtfigblfjogpojaaGreatDoorQBitsJoined32
import Derived.Test.YtfigblfjogpojaaGreatDoorQBitsJoined37
import Derived.Test.YtfigblfjogpojaaGreatDoorQBitsJoined38
import Derived.OpenShut
section
namespace Go.Proofs.YtfigblfjogpojaaGreatDoor.PJoin
open Go.Proofs.YtfigblfjogpojaaGreatDoor.PBits Go.RowKit Go.Proofs.YtfigblfjogpojaaGreatDoorW.PrintWords Go.Proofs.YtfigblfjogpojaaGreatDoorW.PrintLast Go.Proofs.YtfigblfjogpojaaGreatDoorW.PrintMore Go.Proofs.YtfigblfjogpojaaGreatDoor.Bz
set_option linter.unusedVariables false
set_option linter.unusedSimpArgs false
def OpOk (op : Int) (W : Int) (v x : Nat) (W' : Int) (v' x' : Nat) (signed : Bool) : Prop :=
  ((okB W v x && okB W' v' x' && ((op == 11 || op == 12 || op == 21 || op == 22 || op == 23) || W == W')) = true → ∃ (l : List Int) (a b c : Int), Ev (fun k => maskref1_Binary.f k op (vs W.toNat v x) (vs W'.toNat v' x') signed) l ∧ Ev (fun k => maskref1_B.f k l) (a, b, c) ∧
    Ev (fun k => masklaw1_binary.f k op W (v : Int) (x : Int) W' (v' : Int) (x' : Int) signed) (a, b, c)) ∧
  ((okB W v x && okB W' v' x' && ((op == 11 || op == 12 || op == 21 || op == 22 || op == 23) || W == W')) = false → Ev (fun k => masklaw1_binary.f k op W (v : Int) (x : Int) W' (v' : Int) (x' : Int) signed) (0, 0, 0))
theorem pair_l0 (W : Int) (v x : Nat) (W' : Int) (v' x' : Nat) (signed : Bool) (hv : v < 2 ^ 64) (hx : x < 2 ^ 64) (hv' : v' < 2 ^ 64) (hx' : x' < 2 ^ 64) (ops : List Int) (hn : ops.length ≤ 100)
    (ho : ∀ op ∈ ops, OpOk op W v x W' v' x' signed) (d : Nat) : ∀ i : Nat, i + d = ops.length → Ev (fun k => masklaw1_pair.l0 k signed ops (ops.length : Int) (i : Int) W (v : Int) (x : Int) W' (v' : Int) (x' : Int)) true := by
  induction d with
  | zero =>
    intro i hi
    exact Ev.step (fun k => by rw [masklaw1_pair.l0]) (Ev.neg (by omega) (Ev.now _))
  | succ d ih =>
    intro i hi
    have ih := ih (i + 1) (by omega)
    have hlt : i < ops.length := by omega
    obtain ⟨hyes, hno⟩ := ho _ (List.getElem_mem hlt)
    have hrd : rd ops (i : Int) = ops[i] := by rw [rd_nat, List.getD_eq_getElem?_getD, List.getElem?_eq_getElem hlt]; rfl
    generalize ops[i] = op at hyes hno hrd
    have j3 : ∀ a b c : Int, Ev (fun k => masklaw1_binary.f k op W (v : Int) (x : Int) W' (v' : Int) (x' : Int) signed) (a, b, c) →
        Ev (fun k => masklaw1_pair.j3 k signed op ops (ops.length : Int) (i : Int) W (v : Int) (x : Int) W' (v' : Int) (x' : Int) a b c) true := by
      intro a b c h
      refine Ev.step (fun k => by rw [masklaw1_pair.j3]) ?_
      refine Ev.bind h ?_
      refine Ev.neg (by simp) ?_
      rw [w64 (n := (i : Int) + 1) (by omega)]
      exact ih
    have j1 : Ev (fun k => masklaw1_pair.j1 k signed op (op == 11 || op == 12 || op == 21 || op == 22 || op == 23) ops (ops.length : Int) (i : Int) W (v : Int) (x : Int) W' (v' : Int) (x' : Int)) true := by
      generalize (op == 11 || op == 12 || op == 21 || op == 22 || op == 23) = loose at hyes hno
      have no : (okB W v x && okB W' v' x' && (loose || W == W')) = false → Ev (fun k => masklaw1_pair.j2 k signed op ops (ops.length : Int) (i : Int) false W (v : Int) (x : Int) W' (v' : Int) (x' : Int) 0 0 0) true :=
        fun h => Ev.step (fun k => by rw [masklaw1_pair.j2]) (Ev.neg (by decide) (j3 0 0 0 (hno h)))
      refine Ev.step (fun k => by rw [masklaw1_pair.j1]) (Ev.bind (Valid_ev W v x hv hx) ?_)
      by_cases k1 : okB W v x = true
      case neg =>
        rw [Bool.not_eq_true] at k1
        rw [k1]; exact Ev.neg (by decide) (no (by rw [k1]; rfl))
      rw [k1]
      refine Ev.pos rfl (Ev.bind (Valid_ev W' v' x' hv' hx') ?_)
      by_cases k2 : okB W' v' x' = true
      case neg =>
        rw [Bool.not_eq_true] at k2
        rw [k2]; exact Ev.neg (by decide) (no (by rw [k1, k2]; rfl))
      rw [k2]
      refine Ev.pos rfl ?_
      have yes : (loose || W == W') = true → Ev (fun k => masklaw1_pair.j2 k signed op ops (ops.length : Int) (i : Int) true W (v : Int) (x : Int) W' (v' : Int) (x' : Int) 0 0 0) true := by
        intro h
        obtain ⟨l, a, b, c, h1, h2, h3⟩ := hyes (by rw [k1, k2, h]; rfl)
        obtain ⟨w, rfl, b1, b2, c1, c2⟩ := okB_nat k1
        obtain ⟨w', rfl, b1', b2', c1', c2'⟩ := okB_nat k2
        refine Ev.step (fun k => by rw [masklaw1_pair.j2]) ?_
        refine Ev.pos rfl ?_
        refine Ev.bind (V_ev hv hx b2) ?_
        refine Ev.bind (V_ev hv' hx' b2') ?_
        refine Ev.bind h1 ?_
        refine Ev.bind h2 ?_
        exact j3 a b c h3
      cases loose with
      | true => exact Ev.pos rfl (yes rfl)
      | false =>
        refine Ev.neg (by decide) ?_
        cases hw : (W == W') with
        | true => exact yes (by rw [hw]; rfl)
        | false => exact no (by rw [k1, k2, hw]; rfl)
    refine Ev.step (fun k => by rw [masklaw1_pair.l0]) (Ev.pos (by omega) (Ev.pos (by omega) (Ev.pos (by omega) ?_)))
    rw [hrd]
    by_cases h1 : op = 11
    · refine Ev.pos h1 ?_; subst h1; exact j1
    · refine Ev.neg h1 ?_
      by_cases h2 : op = 12
      · refine Ev.pos h2 ?_; subst h2; exact j1
      · refine Ev.neg h2 ?_
        by_cases h3 : op = 21
        · refine Ev.pos h3 ?_; subst h3; exact j1
        · refine Ev.neg h3 ?_
          by_cases h4 : op = 22
          · refine Ev.pos h4 ?_; subst h4; exact j1
          · refine Ev.neg h4 ?_
            rw [beq_eq_false_iff_ne.mpr h1, beq_eq_false_iff_ne.mpr h2, beq_eq_false_iff_ne.mpr h3, beq_eq_false_iff_ne.mpr h4] at j1
            exact j1
theorem pair_ev {W : Int} {v x : Nat} {W' : Int} {v' x' : Nat} {signed : Bool} (hv : v < 2 ^ 64) (hx : x < 2 ^ 64) (hv' : v' < 2 ^ 64) (hx' : x' < 2 ^ 64) {ops : List Int} (hn : ops.length ≤ 100)
    (ho : ∀ op ∈ ops, OpOk op W v x W' v' x' signed) : Ev (fun k => masklaw1_pair.f k ops W (v : Int) (x : Int) W' (v' : Int) (x' : Int) signed) true := by
  unfold masklaw1_pair.f
  exact pair_l0 W v x W' v' x' signed hv hx hv' hx' ops hn ho ops.length 0 (by omega)
theorem two2 {W : Int} {v x : Nat} {W' : Int} {v' x' : Nat} (h : (okB W v x && okB W' v' x' && (false || W == W')) = true) : ∃ w : Nat, W = (w : Int) ∧ W' = (w : Int) ∧ Two w v x v' x' := by
  rw [Bool.and_eq_true, Bool.and_eq_true, Bool.false_or, beq_iff_eq] at h
  obtain ⟨w, e, b1, b2, c1, c2⟩ := okB_nat h.1.1
  obtain ⟨w', e', b1', b2', c1', c2'⟩ := okB_nat h.1.2
  obtain rfl : w' = w := by omega
  exact ⟨w', e, e', b1, b2, c1, c2, c1', c2'⟩
theorem tight_no {W : Int} {v x : Nat} {W' : Int} {v' x' : Nat} (h : (okB W v x && okB W' v' x' && (false || W == W')) = false) : (okB W v x && okB W' v' x' && W == W') = false := by simpa using h
theorem any2 {W : Int} {v x : Nat} {W' : Int} {v' x' : Nat} {b : Bool} (h : (okB W v x && okB W' v' x' && b) = true) : ∃ w w' : Nat, W = (w : Int) ∧ W' = (w' : Int) ∧ Any2 w v x w' v' x' := by
  rw [Bool.and_eq_true, Bool.and_eq_true] at h
  obtain ⟨w, e, b1, b2, c1, c2⟩ := okB_nat h.1.1
  obtain ⟨w', e', b1', b2', c1', c2'⟩ := okB_nat h.1.2
  exact ⟨w, w', e, e', b1, b2, c1, c2, b1', b2', c1', c2'⟩
theorem loose_no {W : Int} {v x : Nat} {W' : Int} {v' x' : Nat} {a : Bool} (h : (okB W v x && okB W' v' x' && (true || a)) = false) : (okB W v x && okB W' v' x') = false := by simpa using h
section
variable (W : Int) (v x : Nat) (W' : Int) (v' x' : Nat) (hv : v < 2 ^ 64) (hx : x < 2 ^ 64) (hv' : v' < 2 ^ 64) (hx' : x' < 2 ^ 64)
include hv hx hv' hx'
theorem ok13 : OpOk 13 W v x W' v' x' false := by
  constructor
  · intro h
    obtain ⟨w, rfl, rfl, a⟩ := two2 h
    obtain ⟨V, X, g⟩ := And_gives a
    have hr := eachAnd_ev w v x v' x' a.w64
    refine ⟨_, _, _, _, ?_, g.B a.w1 a.w64 (lst_length (fun j => andS (st v x j) (st v' x' j)) w) (fun i hi => lst_getD _ _ _ hi), ?_⟩
    · rw [Int.toNat_natCast]
      unfold maskref1_Binary.f
      exact Ev.pos rfl (Ev.bind hr (Ev.now _))
    · unfold masklaw1_binary.f
      exact Ev.pos rfl (Ev.bind g.ev (Ev.now _))
  · intro h
    have hal := alike_ev (W := W) hv hx (W' := W') hv' hx'
    rw [tight_no h] at hal
    have hno : Ev (fun k => bits_And.f k W (v : Int) (x : Int) W' (v' : Int) (x' : Int)) (0, 0, 0) := by
      unfold bits_And.f
      exact Ev.bind hal (Ev.neg (by decide) (Ev.now _))
    unfold masklaw1_binary.f
    exact Ev.pos rfl (Ev.bind hno (Ev.now _))
theorem ok14 : OpOk 14 W v x W' v' x' false := by
  constructor
  · intro h
    obtain ⟨w, rfl, rfl, a⟩ := two2 h
    obtain ⟨V, X, g⟩ := Or_gives a
    have hr := eachOr_ev w v x v' x' a.w64
    refine ⟨_, _, _, _, ?_, g.B a.w1 a.w64 (lst_length (fun j => orS (st v x j) (st v' x' j)) w) (fun i hi => lst_getD _ _ _ hi), ?_⟩
    · rw [Int.toNat_natCast]
      unfold maskref1_Binary.f
      exact Ev.neg (by decide) (Ev.pos rfl (Ev.bind hr (Ev.now _)))
    · unfold masklaw1_binary.f
      exact Ev.neg (by decide) (Ev.pos rfl (Ev.bind g.ev (Ev.now _)))
  · intro h
    have hal := alike_ev (W := W) hv hx (W' := W') hv' hx'
    rw [tight_no h] at hal
    have hno : Ev (fun k => bits_Or.f k W (v : Int) (x : Int) W' (v' : Int) (x' : Int)) (0, 0, 0) := by
      unfold bits_Or.f
      exact Ev.bind hal (Ev.neg (by decide) (Ev.now _))
    unfold masklaw1_binary.f
    exact Ev.neg (by decide) (Ev.pos rfl (Ev.bind hno (Ev.now _)))
theorem ok15 : OpOk 15 W v x W' v' x' false := by
  constructor
  · intro h
    obtain ⟨w, rfl, rfl, a⟩ := two2 h
    obtain ⟨V, X, g⟩ := Xor_gives a
    have hr := eachXor_ev w v x v' x' a.w64
    refine ⟨_, _, _, _, ?_, g.B a.w1 a.w64 (lst_length (fun j => xorS (st v x j) (st v' x' j)) w) (fun i hi => lst_getD _ _ _ hi), ?_⟩
    · rw [Int.toNat_natCast]
      unfold maskref1_Binary.f
      exact Ev.neg (by decide) (Ev.neg (by decide) (Ev.pos rfl (Ev.bind hr (Ev.now _))))
    · unfold masklaw1_binary.f
      exact Ev.neg (by decide) (Ev.neg (by decide) (Ev.pos rfl (Ev.bind g.ev (Ev.now _))))
  · intro h
    have hal := alike_ev (W := W) hv hx (W' := W') hv' hx'
    rw [tight_no h] at hal
    have hno : Ev (fun k => bits_Xor.f k W (v : Int) (x : Int) W' (v' : Int) (x' : Int)) (0, 0, 0) := by
      unfold bits_Xor.f
      exact Ev.bind hal (Ev.neg (by decide) (Ev.now _))
    unfold masklaw1_binary.f
    exact Ev.neg (by decide) (Ev.neg (by decide) (Ev.pos rfl (Ev.bind hno (Ev.now _))))
theorem ok11 : OpOk 11 W v x W' v' x' false := by
  constructor
  · intro h
    obtain ⟨w, w', rfl, rfl, a⟩ := any2 h
    refine ⟨oneL (cAnd (truS v x) (truS v' x')), _, _, _, ?_, B_one _, ?_⟩
    · rw [Int.toNat_natCast, Int.toNat_natCast]
      have hl : (oneL (truS v x)).length + (oneL (truS v' x')).length < 140737488355328 := by rw [oneL_length, oneL_length]; decide
      unfold maskref1_Binary.f
      exact Ev.neg (by decide) (Ev.neg (by decide) (Ev.neg (by decide) (Ev.pos rfl (Ev.bind (Truth_ev a.v a.x a.b2) (Ev.bnd (One_is _) (Ev.bind (Truth_ev a.vn a.xn a.n2) (Ev.bnd (One_is _) (Ev.pos hl (Ev.bind (refAnd_ev (truS_isT _ _) (truS_isT _ _)) (Ev.now _))))))))))
    · unfold masklaw1_binary.f
      exact Ev.neg (by decide) (Ev.neg (by decide) (Ev.neg (by decide) (Ev.pos rfl (Ev.bind (LAnd_ev a) (Ev.now _)))))
  · intro h
    have hal := valid2 hv hx (W := W) (W' := W') hv' hx'
    rw [loose_no h] at hal
    have hno : Ev (fun k => bits_LAnd.f k W (v : Int) (x : Int) W' (v' : Int) (x' : Int)) (0, 0, 0) := by
      unfold bits_LAnd.f
      exact Ev.bind hal (Ev.neg (by decide) (Ev.now _))
    unfold masklaw1_binary.f
    exact Ev.neg (by decide) (Ev.neg (by decide) (Ev.neg (by decide) (Ev.pos rfl (Ev.bind hno (Ev.now _)))))
theorem ok12 : OpOk 12 W v x W' v' x' false := by
  constructor
  · intro h
    obtain ⟨w, w', rfl, rfl, a⟩ := any2 h
    refine ⟨oneL (cOr (truS v x) (truS v' x')), _, _, _, ?_, B_one _, ?_⟩
    · rw [Int.toNat_natCast, Int.toNat_natCast]
      have hl : (oneL (truS v x)).length + (oneL (truS v' x')).length < 140737488355328 := by rw [oneL_length, oneL_length]; decide
      unfold maskref1_Binary.f
      exact Ev.neg (by decide) (Ev.neg (by decide) (Ev.neg (by decide) (Ev.neg (by decide) (Ev.pos rfl (Ev.bind (Truth_ev a.v a.x a.b2) (Ev.bnd (One_is _) (Ev.bind (Truth_ev a.vn a.xn a.n2) (Ev.bnd (One_is _) (Ev.pos hl (Ev.bind (refOr_ev (truS_isT _ _) (truS_isT _ _)) (Ev.now _)))))))))))
    · unfold masklaw1_binary.f
      exact Ev.neg (by decide) (Ev.neg (by decide) (Ev.neg (by decide) (Ev.neg (by decide) (Ev.pos rfl (Ev.bind (LOr_ev a) (Ev.now _))))))
  · intro h
    have hal := valid2 hv hx (W := W) (W' := W') hv' hx'
    rw [loose_no h] at hal
    have hno : Ev (fun k => bits_LOr.f k W (v : Int) (x : Int) W' (v' : Int) (x' : Int)) (0, 0, 0) := by
      unfold bits_LOr.f
      exact Ev.bind hal (Ev.neg (by decide) (Ev.now _))
    unfold masklaw1_binary.f
    exact Ev.neg (by decide) (Ev.neg (by decide) (Ev.neg (by decide) (Ev.neg (by decide) (Ev.pos rfl (Ev.bind hno (Ev.now _))))))
end
def UnOk (op : Int) (W : Int) (v x : Nat) (t : S24) : Prop :=
  (okB W v x = true → ∃ l : List Int, Ev (fun k => maskref1_Unary.f k op (vs W.toNat v x)) l ∧ Ev (fun k => maskref1_B.f k l) (t.f0, t.f1, t.f2)) ∧ (okB W v x = false → (t.f0, t.f1, t.f2) = (0, 0, 0))
section
variable (W : Int) (v x : Nat) (hv : v < 2 ^ 64) (hx : x < 2 ^ 64)
include hv hx
theorem un_step (W' : Int) (v' x' : Nat) (got : List S24) (ops : List Int) (L : Int) (i : Nat) (hi : i < ops.length) (hg : i < got.length) (hL : (i : Int) < L) (hi64 : i < 1000) (hU : UnOk (rd ops (i : Int)) W v x (rd_T24 got (i : Int)))
    (h : Ev (fun k => masklaw1_BitsJoined.l0 k got ops L ((i + 1 : Nat) : Int) W (v : Int) (x : Int) W' (v' : Int) (x' : Int)) true) : Ev (fun k => masklaw1_BitsJoined.l0 k got ops L (i : Int) W (v : Int) (x : Int) W' (v' : Int) (x' : Int)) true := by
  have j : ∀ a b c : Int, ((rd_T24 got (i : Int)).f0, (rd_T24 got (i : Int)).f1, (rd_T24 got (i : Int)).f2) = (a, b, c) →
      Ev (fun k => masklaw1_BitsJoined.j1 k got (i : Int) ops L (i : Int) W (v : Int) (x : Int) W' (v' : Int) (x' : Int) a b c) true := by
    intro a b c e
    simp only [Prod.mk.injEq] at e
    obtain ⟨e1, e2, e3⟩ := e
    refine Ev.step (fun k => by rw [masklaw1_BitsJoined.j1]) (Ev.pos (by omega) (Ev.pos (by omega) ?_))
    rw [e1, e2, e3]
    refine Ev.neg (by simp) ?_
    rw [w64 (n := (i : Int) + 1) (by omega)]
    exact h
  refine Ev.step (fun k => by rw [masklaw1_BitsJoined.l0]) (Ev.pos hL (Ev.pos (by omega) (Ev.pos (by omega) (Ev.bind (Valid_ev W v x hv hx) ?_))))
  by_cases k1 : okB W v x = true
  · obtain ⟨l, hl, hB⟩ := hU.1 k1
    obtain ⟨w, rfl, w1, w2, c1, c2⟩ := okB_nat k1
    rw [k1]
    rw [Int.toNat_natCast] at hl
    exact Ev.pos rfl (Ev.bind (V_ev hv hx w2) (Ev.bind hl (Ev.bind hB (j _ _ _ rfl))))
  · rw [Bool.not_eq_true] at k1
    rw [k1]
    exact Ev.neg (by decide) (j 0 0 0 (hU.2 k1))
end
theorem BitsJoined_pure (a0_0 a0_1 a0_2 a1_0 a1_1 a1_2 : Int) (_ : (Lit.int .i64 a0_0).wf = true) (h1 : (Lit.int .u64 a0_1).wf = true) (h2 : (Lit.int .u64 a0_2).wf = true) (_ : (Lit.int .i64 a1_0).wf = true) (h3 : (Lit.int .u64 a1_1).wf = true) (h4 : (Lit.int .u64 a1_2).wf = true) :
    ∃ k, masklaw1_BitsJoined.f k a0_0 a0_1 a0_2 a1_0 a1_1 a1_2 = some true := by
  obtain ⟨v1, rfl, b1⟩ := wf_u64 h1
  obtain ⟨v2, rfl, b2⟩ := wf_u64 h2
  obtain ⟨v3, rfl, b3⟩ := wf_u64 h3
  obtain ⟨v4, rfl, b4⟩ := wf_u64 h4
  refine Ev.rounds (g := fun k => masklaw1_BitsJoined.f k a0_0 (v1 : Int) (v2 : Int) a1_0 (v3 : Int) (v4 : Int)) ?_
  have hpair : Ev (fun k => masklaw1_pair.f k (([13, 14, 15, 11, 12] : List Int)) a0_0 (v1 : Int) (v2 : Int) a1_0 (v3 : Int) (v4 : Int) false) true := by
    refine pair_ev b1 b2 b3 b4 (by decide) ?_
    intro op ho
    simp only [List.mem_cons, List.not_mem_nil, or_false] at ho
    rcases ho with rfl | rfl | rfl | rfl | rfl
    · exact ok13 _ _ _ _ _ _ b1 b2 b3 b4
    · exact ok14 _ _ _ _ _ _ b1 b2 b3 b4
    · exact ok15 _ _ _ _ _ _ b1 b2 b3 b4
    · exact ok11 _ _ _ _ _ _ b1 b2 b3 b4
    · exact ok12 _ _ _ _ _ _ b1 b2 b3 b4
  have key : ∃ t0 t1 t2 t3 t4 : Int × Int × Int, (Ev (fun k => bits_Not.f k a0_0 (v1 : Int) (v2 : Int)) t0 ∧ Ev (fun k => bits_RedAnd.f k a0_0 (v1 : Int) (v2 : Int)) t1 ∧ Ev (fun k => bits_RedOr.f k a0_0 (v1 : Int) (v2 : Int)) t2 ∧ Ev (fun k => bits_RedXor.f k a0_0 (v1 : Int) (v2 : Int)) t3 ∧ Ev (fun k => bits_LNot.f k a0_0 (v1 : Int) (v2 : Int)) t4) ∧
      UnOk 5 a0_0 v1 v2 ⟨t0.1, t0.2.1, t0.2.2⟩ ∧ UnOk 7 a0_0 v1 v2 ⟨t1.1, t1.2.1, t1.2.2⟩ ∧ UnOk 8 a0_0 v1 v2 ⟨t2.1, t2.2.1, t2.2.2⟩ ∧ UnOk 9 a0_0 v1 v2 ⟨t3.1, t3.2.1, t3.2.2⟩ ∧ UnOk 10 a0_0 v1 v2 ⟨t4.1, t4.2.1, t4.2.2⟩ := by
    by_cases k1 : okB a0_0 v1 v2 = true
    · obtain ⟨w, rfl, w1, w2, c1, c2⟩ := okB_nat k1
      have no : ∀ t : S24, okB (w : Int) v1 v2 = false → (t.f0, t.f1, t.f2) = (0, 0, 0) := fun t h => by rw [k1] at h; cases h
      have gN := Not_gives w1 w2 c1 c2
      refine ⟨_, _, _, _, _, ⟨gN.ev, RedAnd_ev w1 w2 c1 c2, RedOr_ev w1 w2 c1 c2, RedXor_ev w1 w2 c1 c2, LNot_gives w1 w2 c1 c2⟩, ⟨fun _ => ⟨_, ?_, gN.B w1 w2 (lst_length (fun j => notS (st v1 v2 j)) w) (fun i hi => lst_getD _ _ _ hi)⟩, no _⟩,
        ⟨fun _ => ⟨oneL (andT w v1 v2), ?_, B_one _⟩, no _⟩, ⟨fun _ => ⟨oneL (truS v1 v2), ?_, B_one _⟩, no _⟩, ⟨fun _ => ⟨oneL (xorT v1 v2), ?_, B_one _⟩, no _⟩, ⟨fun _ => ⟨oneL (oppS (truS v1 v2)), ?_, B_one _⟩, no _⟩⟩ <;> rw [Int.toNat_natCast] <;> unfold maskref1_Unary.f maskref1_unaryOf.f
      · exact Ev.bind (Ev.pos rfl (Ev.bind (inv_ev w2) (Ev.now _))) (Ev.now _)
      · rw [← nrm_and w1 c2]
        exact Ev.bind (Ev.neg (by decide) (Ev.neg (by decide) (Ev.pos rfl (Ev.bind (foldAnd_ev w v1 v2 w2 w1) (Ev.now _))))) (Ev.now _)
      · rw [← nrm_or w1 c1 c2]
        exact Ev.bind (Ev.neg (by decide) (Ev.neg (by decide) (Ev.neg (by decide) (Ev.pos rfl (Ev.bind (foldOr_ev w v1 v2 w2 w1) (Ev.now _)))))) (Ev.now _)
      · rw [← nrm_xor w1 w2 c1 c2]
        exact Ev.bind (Ev.neg (by decide) (Ev.neg (by decide) (Ev.neg (by decide) (Ev.neg (by decide) (Ev.pos rfl (Ev.bind (foldXor_ev w v1 v2 w2 w1) (Ev.now _))))))) (Ev.now _)
      · exact Ev.bind (Ev.neg (by decide) (Ev.neg (by decide) (Ev.neg (by decide) (Ev.neg (by decide) (Ev.neg (by decide) (Ev.pos rfl (Ev.bind (Truth_ev c1 c2 w2) (Ev.bnd (Opp_is _) (Ev.bnd (One_is _) (Ev.now _)))))))))) (Ev.now _)
    · rw [Bool.not_eq_true] at k1
      have hval := valid1 (W := a0_0) b1 b2
      rw [k1] at hval
      have no : ∀ op : Int, UnOk op a0_0 v1 v2 ⟨0, 0, 0⟩ := fun op => ⟨fun h => absurd h (by rw [k1]; decide), fun _ => rfl⟩
      refine ⟨(0, 0, 0), (0, 0, 0), (0, 0, 0), (0, 0, 0), (0, 0, 0), ⟨?_, ?_, ?_, ?_, ?_⟩, no _, no _, no _, no _, no _⟩
      · unfold bits_Not.f; exact Ev.bind hval (Ev.neg (by decide) (Ev.now _))
      · unfold bits_RedAnd.f; exact Ev.bind hval (Ev.neg (by decide) (Ev.now _))
      · unfold bits_RedOr.f; exact Ev.bind hval (Ev.neg (by decide) (Ev.now _))
      · unfold bits_RedXor.f; exact Ev.bind hval (Ev.neg (by decide) (Ev.now _))
      · unfold bits_LNot.f; exact Ev.bind hval (Ev.neg (by decide) (Ev.now _))
  obtain ⟨t0, t1, t2, t3, t4, ⟨g0, g1, g2, g3, g4⟩, u0, u1, u2, u3, u4⟩ := key
  unfold masklaw1_BitsJoined.f
  refine Ev.bind g0 (Ev.bind g1 (Ev.bind g2 (Ev.bind g3 (Ev.bind g4 ?_))))
  refine Ev.bnd (r := ([5, 7, 8, 9, 10] : List Int)) rfl ?_
  show Ev (fun k => masklaw1_BitsJoined.l0 k [(⟨t0.1, t0.2.1, t0.2.2⟩ : S24), (⟨t1.1, t1.2.1, t1.2.2⟩ : S24), (⟨t2.1, t2.2.1, t2.2.2⟩ : S24), (⟨t3.1, t3.2.1, t3.2.2⟩ : S24), (⟨t4.1, t4.2.1, t4.2.2⟩ : S24)] [5, 7, 8, 9, 10] (5 : Int) ((0 : Nat) : Int) a0_0 (v1 : Int) (v2 : Int) a1_0 (v3 : Int) (v4 : Int)) true
  refine un_step a0_0 v1 v2 b1 b2 _ _ _ _ _ _ 0 (by decide) (by show 0 < 5; decide) (by decide) (by decide) u0 ?_
  refine un_step a0_0 v1 v2 b1 b2 _ _ _ _ _ _ 1 (by decide) (by show 1 < 5; decide) (by decide) (by decide) u1 ?_
  refine un_step a0_0 v1 v2 b1 b2 _ _ _ _ _ _ 2 (by decide) (by show 2 < 5; decide) (by decide) (by decide) u2 ?_
  refine un_step a0_0 v1 v2 b1 b2 _ _ _ _ _ _ 3 (by decide) (by show 3 < 5; decide) (by decide) (by decide) u3 ?_
  refine un_step a0_0 v1 v2 b1 b2 _ _ _ _ _ _ 4 (by decide) (by show 4 < 5; decide) (by decide) (by decide) u4 ?_
  refine Ev.step (fun k => by rw [masklaw1_BitsJoined.l0]) (Ev.neg (by decide) (Ev.bind vectors_ev (Ev.pos rfl (Ev.bind hpair (Ev.now _)))))
end Go.Proofs.YtfigblfjogpojaaGreatDoor.PJoin
end
