/- Part 38 of the proof of BitsNumbersCardSaid: The law BitsNumbers: for all arguments it returns true; each argument reads behind the call as it read before. Out of the plain theorem of YtfigblfjogpojaaDoorPureBitsNumbers and the printed contract. -/
import Derived.Test.YtfigblfjogpojaaDoorQBitsNumbers35
import Derived.Test.YtfigblfjogpojaaDoorQBitsNumbers36
section
namespace Go.Proofs.YtfigblfjogpojaaDoor.PBits
open Go.RowKit Go.Proofs.YtfigblfjogpojaaDoorW.PrintWords Go.Proofs.YtfigblfjogpojaaDoorW.PrintLast Go.Proofs.YtfigblfjogpojaaDoorW.PrintMore Go.Proofs.YtfigblfjogpojaaDoor.Bz
set_option linter.unusedVariables false
set_option linter.unusedSimpArgs false
theorem truS_known {v : Nat} : truS v 0 = if v = 0 then 102 else 116 := by
  unfold truS
  by_cases h : v = 0
  · subst h
    rw [if_pos rfl, if_neg (by rintro ⟨i, h, _⟩; rw [Nat.zero_testBit] at h; cases h), if_pos rfl]
  · rw [if_neg h, if_pos]
    obtain ⟨i, hi⟩ := Nat.exists_testBit_of_ne_zero h
    exact ⟨i, hi, Nat.zero_testBit i⟩
def numN (op : Int) (w a b : Nat) (signed : Bool) : Nat :=
  if op = 16 then a + b else if op = 17 then a + (2 ^ w - b) else if op = 18 then a * b
  else if op = 19 then quoN w a b (signed && a.testBit (w - 1)) (signed && b.testBit (w - 1)) else remN w a b (signed && a.testBit (w - 1)) (signed && b.testBit (w - 1))
def numOk (op : Int) (xa xb vb : Nat) : Bool := decide (xa = 0) && decide (xb = 0) && !((op == 19 || op == 20) && decide (vb = 0))
def numT (op : Int) (w va xa vb xb : Nat) (signed : Bool) : Int × Int × Int :=
  if numOk op xa xb vb = true then ((w : Int), ((numN op w va vb signed % 2 ^ w : Nat) : Int), 0) else ((w : Int), ((msk w : Nat) : Int), ((msk w : Nat) : Int))
theorem num_B {w : Nat} (h1 : 1 ≤ w) (h2 : w ≤ 64) (op : Int) (va xa vb xb : Nat) (signed : Bool) :
    Ev (fun k => maskref1_B.f k (if numOk op xa xb vb = true then vs w (numN op w va vb signed) 0 else List.replicate w 120)) (numT op w va xa vb xb signed) := by
  unfold numT
  cases numOk op xa xb vb with
  | true => rw [if_pos rfl, if_pos rfl]; exact B_num h1 h2 _
  | false =>
    rw [if_neg (by decide), if_neg (by decide)]
    exact (All_x h1 h2).B h1 h2 (by simp) (fun i hi => by simp [List.getD_eq_getElem?_getD, hi])
theorem Number_j0_x (w va va' xa vb xb : Nat) (op : Int) (signed : Bool) (h2 : w ≤ 64) : Ev (fun k => maskref1_Number.j0 k op (vs w va xa) (vs w vb xb) signed true) (List.replicate w 120) := by
  refine Ev.step (fun k => by rw [maskref1_Number.j0]) (Ev.pos rfl ?_)
  rw [vs_length]
  exact Ev.bind (Fill_ev 120 w (by omega)) (Ev.now _)
theorem Number_ev {w va xa vb xb : Nat} (h : Two w va xa vb xb) (op : Int) (ho : op = 16 ∨ op = 17 ∨ op = 18 ∨ op = 19 ∨ op = 20) (signed : Bool) :
    Ev (fun k => maskref1_Number.f k op (vs w va xa) (vs w vb xb) signed) (if numOk op xa xb vb = true then vs w (numN op w va vb signed) 0 else List.replicate w 120) := by
  have h2 := h.w64
  have kA := Known_ev (v := va) h.xa h.w64
  have kB := Known_ev (v := vb) h.xb h.w64
  have tB := Truth_ev h.vb h.xb h.w64
  unfold maskref1_Number.f
  refine Ev.bind kA ?_
  by_cases e1 : xa = 0
  case neg =>
    rw [decide_eq_false e1]
    have e : numOk op xa xb vb = false := by unfold numOk; rw [decide_eq_false e1]; rfl
    rw [e]
    exact Ev.neg (by decide) (Number_j0_x w va va xa vb xb op signed h2)
  rw [decide_eq_true e1]
  refine Ev.pos rfl (Ev.bind kB ?_)
  by_cases e2 : xb = 0
  case neg =>
    rw [decide_eq_false e2]
    have e : numOk op xa xb vb = false := by unfold numOk; rw [decide_eq_false e2, Bool.and_false]; rfl
    rw [e]
    exact Ev.neg (by decide) (Number_j0_x w va va xa vb xb op signed h2)
  rw [decide_eq_true e2]
  refine Ev.pos rfl ?_
  subst e1; subst e2
  rw [truS_known] at tB
  have fin : ∀ op : Int, op = 16 ∨ op = 17 ∨ op = 18 ∨ op = 19 ∨ op = 20 → numOk op 0 0 vb = true → Ev (fun k => maskref1_Number.j0 k op (vs w va 0) (vs w vb 0) signed false) (vs w (numN op w va vb signed) 0) := by
    intro op ho hk
    refine Ev.step (fun k => by rw [maskref1_Number.j0]) (Ev.neg (by decide) ?_)
    unfold numN
    by_cases o1 : op = 16
    · rw [if_pos o1]
      have hp := plus_ev w va vb false (by omega)
      exact Ev.pos o1 (Ev.bind (show Ev (fun k => maskref1_plus.f k (vs w va 0) (vs w vb 0) 48) _ from hp) ((Ev.now _).eq (by simp)))
    rw [if_neg o1]
    refine Ev.neg o1 ?_
    by_cases o2 : op = 17
    · rw [if_pos o2]
      exact Ev.pos o2 (Ev.bind (minus_ev h.vb (by omega)) (Ev.now _))
    rw [if_neg o2]
    refine Ev.neg o2 ?_
    by_cases o3 : op = 18
    · rw [if_pos o3]
      exact Ev.pos o3 (Ev.bind (times_ev h.w1 h.w64 h.va h.vb) (Ev.now _))
    rw [if_neg o3]
    refine Ev.neg o3 ?_
    have hb0 : 0 < vb := by
      have o4 : (op == 19 || op == 20) = true := by rcases ho with o | o | o | o | o <;> first | exact absurd o o1 | exact absurd o o2 | exact absurd o o3 | (subst o; rfl)
      unfold numOk at hk
      rw [o4] at hk
      simp at hk
      omega
    refine Ev.bind (shared_ev h.w1 h.w64 h.va h.vb hb0 signed) ?_
    by_cases o4 : op = 19
    · exact Ev.pos o4 ((Ev.now _).eq (by rw [if_pos o4]))
    · exact Ev.neg o4 ((Ev.now _).eq (by rw [if_neg o4]))
  by_cases e3 : vb = 0
  case neg =>
    have e : ∀ op, numOk op 0 0 vb = true := by intro op; unfold numOk; rw [decide_eq_false e3]; simp
    rw [if_neg e3] at tB
    rw [e op, if_pos rfl]
    refine dite (op = 19) (fun o => Ev.pos o (Ev.bind tB (fin _ ho (e _)))) (fun o => Ev.neg o ?_)
    exact dite (op = 20) (fun o => Ev.pos o (Ev.bind tB (fin _ ho (e _)))) (fun o => Ev.neg o (fin _ ho (e _)))
  rw [if_pos e3] at tB
  by_cases o1 : op = 19
  · have e : numOk op 0 0 vb = false := by unfold numOk; rw [o1, e3]; rfl
    rw [e, if_neg (by decide)]
    exact Ev.pos o1 (Ev.bind tB (Number_j0_x w va va 0 vb 0 op signed h2))
  by_cases o2 : op = 20
  · have e : numOk op 0 0 vb = false := by unfold numOk; rw [o2, e3]; rfl
    rw [e, if_neg (by decide)]
    exact Ev.neg o1 (Ev.pos o2 (Ev.bind tB (Number_j0_x w va va 0 vb 0 op signed h2)))
  have e : numOk op 0 0 vb = true := by
    unfold numOk; rw [show (op == 19) = false from beq_eq_false_iff_ne.mpr o1, show (op == 20) = false from beq_eq_false_iff_ne.mpr o2]; rfl
  rw [e, if_pos rfl]
  exact Ev.neg o1 (Ev.neg o2 (fin _ ho e))
theorem low_sub {w a b : Nat} (hb : b < 2 ^ w) : lowN w ((a : Int) - (b : Int)) = (a + (2 ^ w - b)) % 2 ^ w := by
  rw [← lowN_nat]
  unfold lowN
  congr 1
  rw [show ((a + (2 ^ w - b) : Nat) : Int) = (a : Int) - (b : Int) + ((2 ^ w : Nat) : Int) by omega, Int.add_emod_right]
theorem All_ev {w : Nat} (h1 : 1 ≤ w) (h2 : w ≤ 64) : Ev (fun k => bits_All.f k (w : Int) 120) ((w : Int), ((msk w : Nat) : Int), ((msk w : Nat) : Int)) := (All_x h1 h2).ev
theorem Of_ev {w : Nat} (h1 : 1 ≤ w) (h2 : w ≤ 64) {z : Int} {n : Nat} (h : lowN w z = n) : bits_Of.f (w : Int) (IntKind.u64.wrap z) = some ((w : Int), ((n : Nat) : Int), 0) := by
  rw [Of_z h1 h2, h]
theorem x_or {w va xa vb xb : Nat} (h : Two w va xa vb xb) : (Go.bits .or .u64 (xa : Int) (xb : Int) = 0) ↔ (xa = 0 ∧ xb = 0) := by
  rw [or_n _ _ (lt64 h.xa h.w64) (lt64 h.xb h.w64), ← or_zero]; omega
theorem known_num {op : Int} (h : (op == 19 || op == 20) = false) (xa xb vb : Nat) : numOk op xa xb vb = true ↔ (xa = 0 ∧ xb = 0) := by
  unfold numOk; rw [h]; simp
section
variable {w va xa vb xb : Nat} (h : Two w va xa vb xb) (signed : Bool)
include h
theorem Add_gives : Ev (fun k => bits_Add.f k (w : Int) (va : Int) (xa : Int) (w : Int) (vb : Int) (xb : Int)) (numT 16 w va xa vb xb signed) := by
  unfold bits_Add.f bits_number__Add_1.f numT
  refine Ev.bind (Ev.bind h.alike (Ev.pos rfl (r := if numOk 16 xa xb vb = true then _ else _) ?_)) ((Ev.now _).eq rfl)
  by_cases e : xa = 0 ∧ xb = 0
  · rw [if_pos ((known_num (by decide) _ _ _).2 e)]
    refine Ev.pos ((x_or h).2 e) (Ev.bnd (r := IntKind.u64.wrap ((va : Int) + (vb : Int))) rfl (Ev.bnd (Of_ev h.w1 h.w64 (n := numN 16 w va vb signed % 2 ^ w) ?_) (Ev.now _)))
    rw [show (va : Int) + (vb : Int) = ((va + vb : Nat) : Int) from rfl, lowN_nat]; rfl
  · rw [if_neg (fun c => e ((known_num (by decide) _ _ _).1 c))]
    exact Ev.neg (fun c => e ((x_or h).1 c)) (Ev.bind (All_ev h.w1 h.w64) (Ev.now _))
theorem Sub_gives : Ev (fun k => bits_Sub.f k (w : Int) (va : Int) (xa : Int) (w : Int) (vb : Int) (xb : Int)) (numT 17 w va xa vb xb signed) := by
  unfold bits_Sub.f bits_number__Sub_1.f numT
  refine Ev.bind (Ev.bind h.alike (Ev.pos rfl (r := if numOk 17 xa xb vb = true then _ else _) ?_)) ((Ev.now _).eq rfl)
  by_cases e : xa = 0 ∧ xb = 0
  · rw [if_pos ((known_num (by decide) _ _ _).2 e)]
    refine Ev.pos ((x_or h).2 e) (Ev.bnd (r := IntKind.u64.wrap ((va : Int) - (vb : Int))) rfl (Ev.bnd (Of_ev h.w1 h.w64 (n := numN 17 w va vb signed % 2 ^ w) ?_) (Ev.now _)))
    rw [low_sub h.vb]; rfl
  · rw [if_neg (fun c => e ((known_num (by decide) _ _ _).1 c))]
    exact Ev.neg (fun c => e ((x_or h).1 c)) (Ev.bind (All_ev h.w1 h.w64) (Ev.now _))
theorem Mul_gives : Ev (fun k => bits_Mul.f k (w : Int) (va : Int) (xa : Int) (w : Int) (vb : Int) (xb : Int)) (numT 18 w va xa vb xb signed) := by
  unfold bits_Mul.f bits_number__Mul_1.f numT
  refine Ev.bind (Ev.bind h.alike (Ev.pos rfl (r := if numOk 18 xa xb vb = true then _ else _) ?_)) ((Ev.now _).eq rfl)
  by_cases e : xa = 0 ∧ xb = 0
  · rw [if_pos ((known_num (by decide) _ _ _).2 e)]
    refine Ev.pos ((x_or h).2 e) (Ev.bnd (r := IntKind.u64.wrap ((va : Int) * (vb : Int))) rfl (Ev.bnd (Of_ev h.w1 h.w64 (n := numN 18 w va vb signed % 2 ^ w) ?_) (Ev.now _)))
    rw [show (va : Int) * (vb : Int) = ((va * vb : Nat) : Int) from rfl, lowN_nat]; rfl
  · rw [if_neg (fun c => e ((known_num (by decide) _ _ _).1 c))]
    exact Ev.neg (fun c => e ((x_or h).1 c)) (Ev.bind (All_ev h.w1 h.w64) (Ev.now _))
end
theorem Neg_gives {w va xa : Nat} (h1 : 1 ≤ w) (h2 : w ≤ 64) (hv : va < 2 ^ w) (hx : xa < 2 ^ w) : Ev (fun k => bits_Neg.f k (w : Int) (va : Int) (xa : Int)) (numT 17 w 0 0 va xa false) := by
  have h : Two w va xa va xa := ⟨h1, h2, hv, hx, hv, hx⟩
  unfold bits_Neg.f bits_number__Neg_1.f numT
  refine Ev.bind (Ev.bind h.alike (Ev.pos rfl (r := if numOk 17 0 xa va = true then _ else _) ?_)) ((Ev.now _).eq rfl)
  by_cases e : xa = 0
  · rw [if_pos ((known_num (by decide) _ _ _).2 ⟨rfl, e⟩)]
    refine Ev.pos ((x_or h).2 ⟨e, e⟩) (Ev.bnd (r := IntKind.u64.wrap (-(va : Int))) rfl (Ev.bnd (Of_ev h.w1 h.w64 (n := numN 17 w 0 va false % 2 ^ w) ?_) (Ev.now _)))
    rw [low_ng hv]; unfold numN; rw [if_neg (by decide), if_pos rfl, Nat.zero_add]
  · rw [if_neg (fun c => e ((known_num (by decide) _ _ _).1 c).2)]
    exact Ev.neg (fun c => e ((x_or h).1 c).1) (Ev.bind (All_ev h.w1 h.w64) (Ev.now _))
theorem Int_ok {w v : Nat} (h1 : 1 ≤ w) (h2 : w ≤ 64) (hv : v < 2 ^ w) : Ev (fun k => bits_Int.f k (w : Int) (v : Int) ((0 : Nat) : Int)) (sgn w v, true) := by
  have i := Int_ev (W := (w : Int)) (v := v) (x := 0) (lt64 hv h2) (by decide)
  rw [okB_of h1 h2 hv (Nat.pos_of_ne_zero (by simp)), if_pos (by decide), Int.toNat_natCast] at i
  exact i
theorem sgn_ne {w v : Nat} (h1 : 1 ≤ w) (hv : v < 2 ^ w) (h0 : 0 < v) : sgn w v ≠ 0 := by
  rw [sgn_abs h1 hv]
  have p := ngN_pos (w := w) (s := true) hv h0
  have q := ngN_pos (w := w) (s := false) hv h0
  split <;> omega
def quoZ (w a b : Nat) (signed : Bool) : Int := if signed then Int.tdiv (sgn w a) (sgn w b) else ((a / b : Nat) : Int)
def remZ (w a b : Nat) (signed : Bool) : Int := if signed then Int.tmod (sgn w a) (sgn w b) else ((a % b : Nat) : Int)
theorem quoZ_low {w a b : Nat} (h1 : 1 ≤ w) (ha : a < 2 ^ w) (hb : b < 2 ^ w) (hb0 : 0 < b) (signed : Bool) : lowN w (quoZ w a b signed) = numN 19 w a b signed % 2 ^ w := by
  unfold quoZ numN
  cases signed with
  | true => rw [if_pos rfl, quo_is h1 ha hb hb0]; rfl
  | false => rw [if_neg (by decide), lowN_nat]; rfl
theorem remZ_low {w a b : Nat} (h1 : 1 ≤ w) (ha : a < 2 ^ w) (hb : b < 2 ^ w) (hb0 : 0 < b) (signed : Bool) : lowN w (remZ w a b signed) = numN 20 w a b signed % 2 ^ w := by
  unfold remZ numN
  cases signed with
  | true => rw [if_pos rfl, rem_is h1 ha hb hb0]; rfl
  | false => rw [if_neg (by decide), lowN_nat]; rfl
theorem divide_ev {w a b : Nat} (h1 : 1 ≤ w) (h2 : w ≤ 64) (ha : a < 2 ^ w) (hb : b < 2 ^ w) (hb0 : 0 < b) (signed : Bool) :
    Ev (fun k => bits_divide.f k (w : Int) (a : Int) ((0 : Nat) : Int) (w : Int) (b : Int) ((0 : Nat) : Int) signed) (IntKind.u64.wrap (quoZ w a b signed), IntKind.u64.wrap (remZ w a b signed)) := by
  unfold bits_divide.f quoZ remZ
  cases signed with
  | true =>
    refine Ev.pos rfl (Ev.bind (Int_ok h1 h2 ha) (Ev.bind (Int_ok h1 h2 hb) ?_))
    rw [if_pos rfl, if_pos rfl]
    have hne := sgn_ne h1 hb hb0
    show Ev (fun k => if sgn w b = -1 then some (IntKind.u64.wrap (wrap64 (-sgn w a)), 0) else if sgn w b = 0 then none else some (IntKind.u64.wrap (wrap64 (Int.tdiv (sgn w a) (sgn w b))), IntKind.u64.wrap (Int.tmod (sgn w a) (sgn w b)))) _
    by_cases e : sgn w b = -1
    · refine Ev.pos e ((Ev.now _).eq ?_)
      rw [e, wrap_wrap, Int.tdiv_neg, Int.tdiv_one, Int.tmod_neg, Int.tmod_one]; rfl
    · exact Ev.neg e (Ev.neg hne ((Ev.now _).eq (by rw [wrap_wrap])))
  | false =>
    refine Ev.neg (by decide) (Ev.neg (by omega) ((Ev.now _).eq ?_))
    show _ = (IntKind.u64.wrap ((a / b : Nat) : Int), IntKind.u64.wrap ((a % b : Nat) : Int))
    rw [← Int.ofNat_tdiv, ← Int.ofNat_tmod]
    congr 1
    rw [wrap_u64_nat]
    have := Nat.mod_le a b
    have := lt64 ha h2
    omega
section
variable {w va xa vb xb : Nat} (h : Two w va xa vb xb) (signed : Bool)
include h
theorem Div_gives : Ev (fun k => bits_Div.f k (w : Int) (va : Int) (xa : Int) (w : Int) (vb : Int) (xb : Int) signed) (numT 19 w va xa vb xb signed) := by
  unfold bits_Div.f numT
  refine Ev.bind h.alike (Ev.pos rfl ?_)
  by_cases e : xa = 0 ∧ xb = 0
  · obtain ⟨rfl, rfl⟩ := e
    refine Ev.pos ((x_or h).2 ⟨rfl, rfl⟩) ?_
    by_cases e3 : vb = 0
    · subst e3
      exact Ev.pos rfl (Ev.bind (All_ev h.w1 h.w64) (Ev.now _))
    · have k : numOk 19 0 0 vb = true := by unfold numOk; rw [decide_eq_false e3]; rfl
      rw [if_pos k]
      have hb0 : 0 < vb := by omega
      exact Ev.neg (by omega) (Ev.bind (divide_ev h.w1 h.w64 h.va h.vb hb0 signed) (Ev.bnd (Of_ev h.w1 h.w64 (quoZ_low h.w1 h.va h.vb hb0 signed)) (Ev.now _)))
  · have k : numOk 19 xa xb vb = false := by
      unfold numOk
      by_cases e1 : xa = 0
      · rw [decide_eq_false (fun c => e ⟨e1, c⟩), Bool.and_false]; rfl
      · rw [decide_eq_false e1]; rfl
    rw [k]
    exact Ev.neg (fun c => e ((x_or h).1 c)) (Ev.bind (All_ev h.w1 h.w64) (Ev.now _))
theorem Mod_gives : Ev (fun k => bits_Mod.f k (w : Int) (va : Int) (xa : Int) (w : Int) (vb : Int) (xb : Int) signed) (numT 20 w va xa vb xb signed) := by
  unfold bits_Mod.f numT
  refine Ev.bind h.alike (Ev.pos rfl ?_)
  by_cases e : xa = 0 ∧ xb = 0
  · obtain ⟨rfl, rfl⟩ := e
    refine Ev.pos ((x_or h).2 ⟨rfl, rfl⟩) ?_
    by_cases e3 : vb = 0
    · subst e3
      exact Ev.pos rfl (Ev.bind (All_ev h.w1 h.w64) (Ev.now _))
    · have k : numOk 20 0 0 vb = true := by unfold numOk; rw [decide_eq_false e3]; rfl
      rw [if_pos k]
      have hb0 : 0 < vb := by omega
      exact Ev.neg (by omega) (Ev.bind (divide_ev h.w1 h.w64 h.va h.vb hb0 signed) (Ev.bnd (Of_ev h.w1 h.w64 (remZ_low h.w1 h.va h.vb hb0 signed)) (Ev.now _)))
  · have k : numOk 20 xa xb vb = false := by
      unfold numOk
      by_cases e1 : xa = 0
      · rw [decide_eq_false (fun c => e ⟨e1, c⟩), Bool.and_false]; rfl
      · rw [decide_eq_false e1]; rfl
    rw [k]
    exact Ev.neg (fun c => e ((x_or h).1 c)) (Ev.bind (All_ev h.w1 h.w64) (Ev.now _))
end
end Go.Proofs.YtfigblfjogpojaaDoor.PBits
end
