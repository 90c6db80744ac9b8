/- Part 36 of the proof of BitsShiftedCardSaid: The law BitsShifted: for all arguments it returns true; each argument reads behind the call as it read before. Out of the plain theorem of YtfigblfjogpojaaDoorPureBitsShifted and the printed contract. -/
import Derived.Test.YtfigblfjogpojaaDoorQBitsShifted27
import Derived.Test.YtfigblfjogpojaaDoorQBitsShifted32
import Derived.Test.YtfigblfjogpojaaDoorQBitsShifted34
import Derived.OpenShut
section
namespace Go.Proofs.YtfigblfjogpojaaDoor.PShift
open Go.Proofs.YtfigblfjogpojaaDoor.PBits Go.RowKit Go.Proofs.YtfigblfjogpojaaDoorW.PrintWords Go.Proofs.YtfigblfjogpojaaDoorW.PrintLast Go.Proofs.YtfigblfjogpojaaDoorW.PrintMore Go.Proofs.YtfigblfjogpojaaDoor.Bz
set_option linter.unusedVariables false
set_option linter.unusedSimpArgs false
def OpOk (op : Int) (W : Int) (v x : Nat) (W' : Int) (v' x' : Nat) (signed : Bool) : Prop :=
  ((okB W v x && okB W' v' x' && ((op == 11 || op == 12 || op == 21 || op == 22 || op == 23) || W == W')) = true → ∃ (l : List Int) (a b c : Int), Ev (fun k => maskref1_Binary.f k op (vs W.toNat v x) (vs W'.toNat v' x') signed) l ∧ Ev (fun k => maskref1_B.f k l) (a, b, c) ∧
    Ev (fun k => masklaw1_binary.f k op W (v : Int) (x : Int) W' (v' : Int) (x' : Int) signed) (a, b, c)) ∧
  ((okB W v x && okB W' v' x' && ((op == 11 || op == 12 || op == 21 || op == 22 || op == 23) || W == W')) = false → Ev (fun k => masklaw1_binary.f k op W (v : Int) (x : Int) W' (v' : Int) (x' : Int) signed) (0, 0, 0))
theorem pair_l0 (W : Int) (v x : Nat) (W' : Int) (v' x' : Nat) (signed : Bool) (hv : v < 2 ^ 64) (hx : x < 2 ^ 64) (hv' : v' < 2 ^ 64) (hx' : x' < 2 ^ 64) (ops : List Int) (hn : ops.length ≤ 100)
    (ho : ∀ op ∈ ops, OpOk op W v x W' v' x' signed) (d : Nat) : ∀ i : Nat, i + d = ops.length → Ev (fun k => masklaw1_pair.l0 k signed ops (ops.length : Int) (i : Int) W (v : Int) (x : Int) W' (v' : Int) (x' : Int)) true := by
  induction d with
  | zero =>
    intro i hi
    exact Ev.step (fun k => by rw [masklaw1_pair.l0]) (Ev.neg (by omega) (Ev.now _))
  | succ d ih =>
    intro i hi
    have ih := ih (i + 1) (by omega)
    have hlt : i < ops.length := by omega
    obtain ⟨hyes, hno⟩ := ho _ (List.getElem_mem hlt)
    have hrd : rd ops (i : Int) = ops[i] := by rw [rd_nat, List.getD_eq_getElem?_getD, List.getElem?_eq_getElem hlt]; rfl
    generalize ops[i] = op at hyes hno hrd
    have j3 : ∀ a b c : Int, Ev (fun k => masklaw1_binary.f k op W (v : Int) (x : Int) W' (v' : Int) (x' : Int) signed) (a, b, c) →
        Ev (fun k => masklaw1_pair.j3 k signed op ops (ops.length : Int) (i : Int) W (v : Int) (x : Int) W' (v' : Int) (x' : Int) a b c) true := by
      intro a b c h
      refine Ev.step (fun k => by rw [masklaw1_pair.j3]) ?_
      refine Ev.bind h ?_
      refine Ev.neg (by simp) ?_
      rw [w64 (n := (i : Int) + 1) (by omega)]
      exact ih
    have j1 : Ev (fun k => masklaw1_pair.j1 k signed op (op == 11 || op == 12 || op == 21 || op == 22 || op == 23) ops (ops.length : Int) (i : Int) W (v : Int) (x : Int) W' (v' : Int) (x' : Int)) true := by
      generalize (op == 11 || op == 12 || op == 21 || op == 22 || op == 23) = loose at hyes hno
      have no : (okB W v x && okB W' v' x' && (loose || W == W')) = false → Ev (fun k => masklaw1_pair.j2 k signed op ops (ops.length : Int) (i : Int) false W (v : Int) (x : Int) W' (v' : Int) (x' : Int) 0 0 0) true :=
        fun h => Ev.step (fun k => by rw [masklaw1_pair.j2]) (Ev.neg (by decide) (j3 0 0 0 (hno h)))
      refine Ev.step (fun k => by rw [masklaw1_pair.j1]) (Ev.bind (Valid_ev W v x hv hx) ?_)
      by_cases k1 : okB W v x = true
      case neg =>
        rw [Bool.not_eq_true] at k1
        rw [k1]; exact Ev.neg (by decide) (no (by rw [k1]; rfl))
      rw [k1]
      refine Ev.pos rfl (Ev.bind (Valid_ev W' v' x' hv' hx') ?_)
      by_cases k2 : okB W' v' x' = true
      case neg =>
        rw [Bool.not_eq_true] at k2
        rw [k2]; exact Ev.neg (by decide) (no (by rw [k1, k2]; rfl))
      rw [k2]
      refine Ev.pos rfl ?_
      have yes : (loose || W == W') = true → Ev (fun k => masklaw1_pair.j2 k signed op ops (ops.length : Int) (i : Int) true W (v : Int) (x : Int) W' (v' : Int) (x' : Int) 0 0 0) true := by
        intro h
        obtain ⟨l, a, b, c, h1, h2, h3⟩ := hyes (by rw [k1, k2, h]; rfl)
        obtain ⟨w, rfl, b1, b2, c1, c2⟩ := okB_nat k1
        obtain ⟨w', rfl, b1', b2', c1', c2'⟩ := okB_nat k2
        refine Ev.step (fun k => by rw [masklaw1_pair.j2]) ?_
        refine Ev.pos rfl ?_
        refine Ev.bind (V_ev hv hx b2) ?_
        refine Ev.bind (V_ev hv' hx' b2') ?_
        refine Ev.bind h1 ?_
        refine Ev.bind h2 ?_
        exact j3 a b c h3
      cases loose with
      | true => exact Ev.pos rfl (yes rfl)
      | false =>
        refine Ev.neg (by decide) ?_
        cases hw : (W == W') with
        | true => exact yes (by rw [hw]; rfl)
        | false => exact no (by rw [k1, k2, hw]; rfl)
    refine Ev.step (fun k => by rw [masklaw1_pair.l0]) (Ev.pos (by omega) (Ev.pos (by omega) (Ev.pos (by omega) ?_)))
    rw [hrd]
    by_cases h1 : op = 11
    · refine Ev.pos h1 ?_; subst h1; exact j1
    · refine Ev.neg h1 ?_
      by_cases h2 : op = 12
      · refine Ev.pos h2 ?_; subst h2; exact j1
      · refine Ev.neg h2 ?_
        by_cases h3 : op = 21
        · refine Ev.pos h3 ?_; subst h3; exact j1
        · refine Ev.neg h3 ?_
          by_cases h4 : op = 22
          · refine Ev.pos h4 ?_; subst h4; exact j1
          · refine Ev.neg h4 ?_
            rw [beq_eq_false_iff_ne.mpr h1, beq_eq_false_iff_ne.mpr h2, beq_eq_false_iff_ne.mpr h3, beq_eq_false_iff_ne.mpr h4] at j1
            exact j1
theorem pair_ev {W : Int} {v x : Nat} {W' : Int} {v' x' : Nat} {signed : Bool} (hv : v < 2 ^ 64) (hx : x < 2 ^ 64) (hv' : v' < 2 ^ 64) (hx' : x' < 2 ^ 64) {ops : List Int} (hn : ops.length ≤ 100)
    (ho : ∀ op ∈ ops, OpOk op W v x W' v' x' signed) : Ev (fun k => masklaw1_pair.f k ops W (v : Int) (x : Int) W' (v' : Int) (x' : Int) signed) true := by
  unfold masklaw1_pair.f
  exact pair_l0 W v x W' v' x' signed hv hx hv' hx' ops hn ho ops.length 0 (by omega)
theorem any2 {W : Int} {v x : Nat} {W' : Int} {v' x' : Nat} {b : Bool} (h : (okB W v x && okB W' v' x' && b) = true) : ∃ w w' : Nat, W = (w : Int) ∧ W' = (w' : Int) ∧ Any2 w v x w' v' x' := by
  rw [Bool.and_eq_true, Bool.and_eq_true] at h
  obtain ⟨w, e, b1, b2, c1, c2⟩ := okB_nat h.1.1
  obtain ⟨w', e', b1', b2', c1', c2'⟩ := okB_nat h.1.2
  exact ⟨w, w', e, e', b1, b2, c1, c2, b1', b2', c1', c2'⟩
theorem loose_no {W : Int} {v x : Nat} {W' : Int} {v' x' : Nat} {a : Bool} (h : (okB W v x && okB W' v' x' && (true || a)) = false) : (okB W v x && okB W' v' x') = false := by simpa using h
theorem mov_B {w v x wn vn xn : Nat} (h : Any2 w v x wn vn xn) {up : Bool} {fill : Int} {g : Nat → Option (Int × Int × Int)} {V X : Nat} (hg : Gives g w (fun i => if xn = 0 then movS w v x (min vn 64) up fill i else 120) V X) :
    Ev (fun k => maskref1_B.f k (if xn = 0 then lst (movS w v x (min vn 64) up fill) w else List.replicate w 120)) ((w : Int), (V : Int), (X : Int)) := by
  refine hg.B h.b1 h.b2 ?_ ?_
  · split
    · exact lst_length _ _
    · simp
  · intro i hi
    by_cases h0 : xn = 0
    · rw [if_pos h0, if_pos h0, lst_getD _ _ _ hi]
    · rw [if_neg h0, if_neg h0]; simp [List.getD_eq_getElem?_getD, hi]
theorem ok21 (W : Int) (v x : Nat) (W' : Int) (v' x' : Nat) (hv : v < 2 ^ 64) (hx : x < 2 ^ 64) (hv' : v' < 2 ^ 64) (hx' : x' < 2 ^ 64) : OpOk 21 W v x W' v' x' false := by
  constructor
  · intro h
    obtain ⟨w, w', rfl, rfl, a⟩ := any2 h
    obtain ⟨V, X, g⟩ := Shl_gives a
    have hm := moved_ev (v := v) (x := x) (vn := v') (xn := x') true 48 a.b2 a.n2 a.vn a.xn
    refine ⟨_, _, _, _, ?_, mov_B a g, ?_⟩
    · rw [Int.toNat_natCast, Int.toNat_natCast]
      unfold maskref1_Binary.f
      exact Ev.neg (by decide) (Ev.neg (by decide) (Ev.neg (by decide) (Ev.neg (by decide) (Ev.neg (by decide) (Ev.pos rfl (Ev.bind hm (Ev.now _)))))))
    · unfold masklaw1_binary.f
      exact Ev.neg (by decide) (Ev.neg (by decide) (Ev.neg (by decide) (Ev.neg (by decide) (Ev.neg (by decide) (Ev.pos rfl (Ev.bind g.ev (Ev.now _)))))))
  · intro h
    have hal := valid2 hv hx (W := W) (W' := W') hv' hx'
    rw [loose_no h] at hal
    have hno : Ev (fun k => bits_Shl.f k W (v : Int) (x : Int) W' (v' : Int) (x' : Int)) (0, 0, 0) := by
      unfold bits_Shl.f
      exact Ev.bind hal (Ev.neg (by decide) (Ev.now _))
    unfold masklaw1_binary.f
    exact Ev.neg (by decide) (Ev.neg (by decide) (Ev.neg (by decide) (Ev.neg (by decide) (Ev.neg (by decide) (Ev.pos rfl (Ev.bind hno (Ev.now _)))))))
theorem ok22 (W : Int) (v x : Nat) (W' : Int) (v' x' : Nat) (hv : v < 2 ^ 64) (hx : x < 2 ^ 64) (hv' : v' < 2 ^ 64) (hx' : x' < 2 ^ 64) : OpOk 22 W v x W' v' x' false := by
  constructor
  · intro h
    obtain ⟨w, w', rfl, rfl, a⟩ := any2 h
    obtain ⟨V, X, g⟩ := Shr_gives a
    have hm := moved_ev (v := v) (x := x) (vn := v') (xn := x') false 48 a.b2 a.n2 a.vn a.xn
    refine ⟨_, _, _, _, ?_, mov_B a g, ?_⟩
    · rw [Int.toNat_natCast, Int.toNat_natCast]
      unfold maskref1_Binary.f
      exact Ev.neg (by decide) (Ev.neg (by decide) (Ev.neg (by decide) (Ev.neg (by decide) (Ev.neg (by decide) (Ev.neg (by decide) (Ev.pos rfl (Ev.bind hm (Ev.now _))))))))
    · unfold masklaw1_binary.f
      exact Ev.neg (by decide) (Ev.neg (by decide) (Ev.neg (by decide) (Ev.neg (by decide) (Ev.neg (by decide) (Ev.neg (by decide) (Ev.pos rfl (Ev.bind g.ev (Ev.now _))))))))
  · intro h
    have hal := valid2 hv hx (W := W) (W' := W') hv' hx'
    rw [loose_no h] at hal
    have hno : Ev (fun k => bits_Shr.f k W (v : Int) (x : Int) W' (v' : Int) (x' : Int)) (0, 0, 0) := by
      unfold bits_Shr.f
      exact Ev.bind hal (Ev.neg (by decide) (Ev.now _))
    unfold masklaw1_binary.f
    exact Ev.neg (by decide) (Ev.neg (by decide) (Ev.neg (by decide) (Ev.neg (by decide) (Ev.neg (by decide) (Ev.neg (by decide) (Ev.pos rfl (Ev.bind hno (Ev.now _))))))))
theorem ok23 (W : Int) (v x : Nat) (W' : Int) (v' x' : Nat) (hv : v < 2 ^ 64) (hx : x < 2 ^ 64) (hv' : v' < 2 ^ 64) (hx' : x' < 2 ^ 64) : OpOk 23 W v x W' v' x' false := by
  constructor
  · intro h
    obtain ⟨w, w', rfl, rfl, a⟩ := any2 h
    obtain ⟨V, X, g⟩ := Sar_gives a
    have b1 := a.b1
    have b2 := a.b2
    have hm := moved_ev (v := v) (x := x) (vn := v') (xn := x') false (st v x (w - 1)) a.b2 a.n2 a.vn a.xn
    refine ⟨_, _, _, _, ?_, mov_B a g, ?_⟩
    · rw [Int.toNat_natCast, Int.toNat_natCast]
      unfold maskref1_Binary.f
      rw [vs_length, w64 (n := (w : Int) - 1) (by omega), show (w : Int) - 1 = ((w - 1 : Nat) : Int) by omega, rd_vs _ _ _ _ (by omega)]
      refine Ev.neg (by decide) (Ev.neg (by decide) (Ev.neg (by decide) (Ev.neg (by decide) (Ev.neg (by decide) (Ev.neg (by decide) (Ev.neg (by decide) (Ev.pos rfl ?_)))))))
      exact Ev.pos (by omega) (Ev.pos (by omega) (Ev.bind hm (Ev.now _)))
    · unfold masklaw1_binary.f
      exact Ev.neg (by decide) (Ev.neg (by decide) (Ev.neg (by decide) (Ev.neg (by decide) (Ev.neg (by decide) (Ev.neg (by decide) (Ev.neg (by decide) (Ev.pos rfl (Ev.bind g.ev (Ev.now _)))))))))
  · intro h
    have hal := valid2 hv hx (W := W) (W' := W') hv' hx'
    rw [loose_no h] at hal
    have hno : Ev (fun k => bits_Sar.f k W (v : Int) (x : Int) W' (v' : Int) (x' : Int)) (0, 0, 0) := by
      unfold bits_Sar.f
      exact Ev.bind hal (Ev.neg (by decide) (Ev.now _))
    unfold masklaw1_binary.f
    exact Ev.neg (by decide) (Ev.neg (by decide) (Ev.neg (by decide) (Ev.neg (by decide) (Ev.neg (by decide) (Ev.neg (by decide) (Ev.neg (by decide) (Ev.pos rfl (Ev.bind hno (Ev.now _)))))))))
theorem BitsShifted_pure (a0_0 a0_1 a0_2 a1_0 a1_1 a1_2 : Int) (_ : (Lit.int .i64 a0_0).wf = true) (h1 : (Lit.int .u64 a0_1).wf = true) (h2 : (Lit.int .u64 a0_2).wf = true) (_ : (Lit.int .i64 a1_0).wf = true) (h3 : (Lit.int .u64 a1_1).wf = true) (h4 : (Lit.int .u64 a1_2).wf = true) :
    ∃ k, masklaw1_BitsShifted.f k a0_0 a0_1 a0_2 a1_0 a1_1 a1_2 = some true := by
  obtain ⟨v1, rfl, b1⟩ := wf_u64 h1
  obtain ⟨v2, rfl, b2⟩ := wf_u64 h2
  obtain ⟨v3, rfl, b3⟩ := wf_u64 h3
  obtain ⟨v4, rfl, b4⟩ := wf_u64 h4
  refine Ev.rounds (g := fun k => masklaw1_BitsShifted.f k a0_0 (v1 : Int) (v2 : Int) a1_0 (v3 : Int) (v4 : Int)) ?_
  unfold masklaw1_BitsShifted.f
  refine Ev.bind vectors_ev (Ev.pos rfl (Ev.bind (pair_ev b1 b2 b3 b4 (by decide) ?_) (Ev.now _)))
  intro op ho
  simp only [List.mem_cons, List.not_mem_nil, or_false] at ho
  rcases ho with rfl | rfl | rfl
  · exact ok21 _ _ _ _ _ _ b1 b2 b3 b4
  · exact ok22 _ _ _ _ _ _ b1 b2 b3 b4
  · exact ok23 _ _ _ _ _ _ b1 b2 b3 b4
end Go.Proofs.YtfigblfjogpojaaDoor.PShift
end
