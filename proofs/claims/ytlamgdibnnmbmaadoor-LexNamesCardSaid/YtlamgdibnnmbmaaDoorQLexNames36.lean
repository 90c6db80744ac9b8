/- Part 37 of the proof of LexNamesCardSaid: The law LexNames: for all arguments it returns true; each argument reads behind the call as it read before. Out of the plain theorem of YtlamgdibnnmbmaaDoorPureLexNames and the printed contract. -/
import Derived.Test.YtlamgdibnnmbmaaDoorQLexNames20
import Derived.Test.YtlamgdibnnmbmaaDoorQLexNames31
import Derived.Test.YtlamgdibnnmbmaaDoorQLexNames33
import Derived.Test.YtlamgdibnnmbmaaDoorQLexNames24
import Derived.Test.YtlamgdibnnmbmaaDoorQLexNames26
import Derived.Test.YtlamgdibnnmbmaaDoorQLexNames34
import Derived.Test.YtlamgdibnnmbmaaDoorQLexNames35
section
namespace Go.Proofs.YtlamgdibnnmbmaaDoor.PLex
open Go.RowKit Go.Proofs.YtlamgdibnnmbmaaDoorW.PrintWords Go.Proofs.YtlamgdibnnmbmaaDoorW.PrintLast Go.Proofs.YtlamgdibnnmbmaaDoorW.PrintMore
attribute [local go_sem] max2_int min2_int max_two min_two max_three min_three max_four min_four
set_option linter.unusedVariables false
set_option linter.unusedSimpArgs false
theorem eqA61 (d : Nat) (w : World) (x0 y0 : Int) (x1 y1 : Int) (x2 y2 : Int) :
  (Op.equalIn (d + 2) 61 (.agg #[.int .i64 x0, .int .u64 x1, .int .u64 x2]) (.agg #[.int .i64 y0, .int .u64 y1, .int .u64 y2])).run Tryd.prog w = .ok (x0 == y0 && (x1 == y1 && (x2 == y2))) w := by
 refine eqA_of Tryd.underlying61 (by kernel_rfl) ?_
 refine eqf_cons (by rfl) (by go_simp; rfl) (by go_simp; rfl) (by go_simp) ?_
 refine eqf_cons (by rfl) (by go_simp; rfl) (by go_simp; rfl) (by go_simp) ?_
 exact eqf_last (by rfl) (by go_simp; rfl) (by go_simp; rfl) (by go_simp)
theorem eqA63 (d : Nat) (w : World) (x0 y0 : Int) (x1 y1 : Int) (x2 y2 : Int) (x3 y3 : ByteArray) (x4 y4 : Bool) (x5 y5 : Int) (x6 y6 : Int) (x7 y7 : Int) (x8 y8 : Bool) :
  (Op.equalIn (d + 3) 63 (.agg #[.int .i64 x0, .int .i64 x1, .int .i64 x2, .string x3, .bool x4, .int .i64 x5, .int .u64 x6, .int .u64 x7, .bool x8]) (.agg #[.int .i64 y0, .int .i64 y1, .int .i64 y2, .string y3, .bool y4, .int .i64 y5, .int .u64 y6, .int .u64 y7, .bool y8])).run Tryd.prog w = .ok (x0 == y0 && (x1 == y1 && (x2 == y2 && (x3.toList == y3.toList && (x4 == y4 && ((x5 == y5 && (x6 == y6 && (x7 == y7))) && (x8 == y8))))))) w := by
 refine eqA_of Tryd.underlying63 (by kernel_rfl) ?_
 refine eqf_cons (by rfl) (by go_simp; rfl) (by go_simp; rfl) (by go_simp) ?_
 refine eqf_cons (by rfl) (by go_simp; rfl) (by go_simp; rfl) (by go_simp) ?_
 refine eqf_cons (by rfl) (by go_simp; rfl) (by go_simp; rfl) (by go_simp) ?_
 refine eqf_cons (by rfl) (by go_simp; rfl) (by go_simp; rfl) (by go_simp) ?_
 refine eqf_cons (by rfl) (by go_simp; rfl) (by go_simp; rfl) (by go_simp) ?_
 refine eqf_cons (by rfl) (by go_simp) (by go_simp) (eqA61 (d + 0) w _ _ _ _ _ _) ?_
 exact eqf_last (by rfl) (by go_simp; rfl) (by go_simp; rfl) (by go_simp)
end Go.Proofs.YtlamgdibnnmbmaaDoor.PLex
end
section
namespace Go.Proofs.YtlamgdibnnmbmaaDoor.PLex
open Go.RowKit Go.Proofs.YtlamgdibnnmbmaaDoorW.PrintWords Go.Proofs.YtlamgdibnnmbmaaDoorW.PrintLast Go.Proofs.YtlamgdibnnmbmaaDoorW.PrintMore
attribute [local go_sem] max2_int min2_int max_two min_two max_three min_three max_four min_four
set_option linter.unusedVariables false
set_option linter.unusedSimpArgs false
attribute [local go_sem high] eqA63
def masklaw1_scanned.f (k : Nat)  : Option (Bool) := (lex_Tokens.f k (⟨#[97, 60, 61, 56, 39, 115, 100, 53, 59]⟩ : ByteArray)).bind fun bt101 => (if bt101.2.2.2 = 0 then (if (bt101.1.length : Int) = 5 then (if 0 < (bt101.1.length : Int) then (if ((rd_T63 bt101.1 0).f3).toList = ([97] : List UInt8) then (if 1 < (bt101.1.length : Int) then (if ((rd_T63 bt101.1 1).f3).toList = ([60, 61] : List UInt8) then (if 2 < (bt101.1.length : Int) then (if (((rd_T63 bt101.1 2).f0) == 3 && (((rd_T63 bt101.1 2).f1) == 1 && (((rd_T63 bt101.1 2).f2) == 4 && ((((rd_T63 bt101.1 2).f3).toList) == ([] : List UInt8) && (!((rd_T63 bt101.1 2).f4) && ((((rd_T63 bt101.1 2).f5.f0) == 8 && (((rd_T63 bt101.1 2).f5.f1) == 5 && (((rd_T63 bt101.1 2).f5.f2) == 0))) && (((rd_T63 bt101.1 2).f6)))))))) = true then (if 4 < (bt101.1.length : Int) then (some (((rd_T63 bt101.1 4).f0) == 0)) else (none)) else (some false)) else (none)) else (some false)) else (none)) else (some false)) else (none)) else (some false)) else (some false))
theorem masklaw1_scanned.mono : ∀ k, LeO (masklaw1_scanned.f k ) (masklaw1_scanned.f (k + 1) ) := by
 intro  k
 unfold masklaw1_scanned.f
 repeat' first
   | (with_reducible exact lex_Tokens.mono _ _)
   | (with_reducible exact LeO.refl _)
   | (with_reducible exact LeO.none _)
   | (with_reducible refine LeO.ite ?_ ?_)
   | (with_reducible refine LeO.bind ?_ (fun _ => ?_))
   | exact lex_Tokens.mono _ _
   | exact LeO.none _
   | refine LeO.ite ?_ ?_
   | refine LeO.bind ?_ (fun _ => ?_)
set_option maxHeartbeats 8000000 in
set_option maxRecDepth 100000 in
theorem nil_empty {l : List UInt8} : (l == ([] : List UInt8)) = l.isEmpty := by cases l <;> rfl
theorem masklaw1_scanned.calls (k : Nat)  (r : Bool) (w : World) (h : masklaw1_scanned.f k  = some r) (hG : Glob w) :
  Calls Tryd.prog 24 #[] w fun e w' => e = .returned (.bool r) ∧ Below w.heap.size w w' := by
 have HG := Aside0.mk hG
 clear hG
 have hu63 := Tryd.underlying63
 have hu61 := Tryd.underlying61
 have HB := Aside0.mk (Below.refl w.heap.size w)
 have H : ((lex_Tokens.f k (⟨#[97, 60, 61, 56, 39, 115, 100, 53, 59]⟩ : ByteArray)).bind fun bt101 => (if bt101.2.2.2 = 0 then (if (bt101.1.length : Int) = 5 then (if 0 < (bt101.1.length : Int) then (if ((rd_T63 bt101.1 0).f3).toList = ([97] : List UInt8) then (if 1 < (bt101.1.length : Int) then (if ((rd_T63 bt101.1 1).f3).toList = ([60, 61] : List UInt8) then (if 2 < (bt101.1.length : Int) then (if (((rd_T63 bt101.1 2).f0) == 3 && (((rd_T63 bt101.1 2).f1) == 1 && (((rd_T63 bt101.1 2).f2) == 4 && ((((rd_T63 bt101.1 2).f3).toList) == ([] : List UInt8) && (!((rd_T63 bt101.1 2).f4) && ((((rd_T63 bt101.1 2).f5.f0) == 8 && (((rd_T63 bt101.1 2).f5.f1) == 5 && (((rd_T63 bt101.1 2).f5.f2) == 0))) && (((rd_T63 bt101.1 2).f6)))))))) = true then (if 4 < (bt101.1.length : Int) then (some (((rd_T63 bt101.1 4).f0) == 0)) else (none)) else (some false)) else (none)) else (some false)) else (none)) else (some false)) else (none)) else (some false)) else (some false))) = some r := h
 clear h
 replace H := Option.bind_eq_some_iff.mp H
 obtain ⟨⟨t101, t102, t103, t104⟩, A10, H⟩ := H
 replace H : (if t104 = 0 then (if (t101.length : Int) = 5 then (if 0 < (t101.length : Int) then (if ((rd_T63 t101 0).f3).toList = ([97] : List UInt8) then (if 1 < (t101.length : Int) then (if ((rd_T63 t101 1).f3).toList = ([60, 61] : List UInt8) then (if 2 < (t101.length : Int) then (if (((rd_T63 t101 2).f0) == 3 && (((rd_T63 t101 2).f1) == 1 && (((rd_T63 t101 2).f2) == 4 && ((((rd_T63 t101 2).f3).toList) == ([] : List UInt8) && (!((rd_T63 t101 2).f4) && ((((rd_T63 t101 2).f5.f0) == 8 && (((rd_T63 t101 2).f5.f1) == 5 && (((rd_T63 t101 2).f5.f2) == 0))) && (((rd_T63 t101 2).f6)))))))) = true then (if 4 < (t101.length : Int) then (some (((rd_T63 t101 4).f0) == 0)) else (none)) else (some false)) else (none)) else (some false)) else (none)) else (some false)) else (none)) else (some false)) else (some false)) = some r := H
 have A1 := Aside0.mk A10
 clear A10
 by_cases c2 : t104 = 0
 ·rw [if_pos c2] at H
  have c2b0 : (t104 == 0) = true := beq_iff_eq.mpr c2
  have c2b1 : (t104 != 0) = false := bne_eq_false_iff_eq.mpr c2
  clear c2
  by_cases c3 : (t101.length : Int) = 5
  ·rw [if_pos c3] at H
   have c3b0 : ((t101.length : Int) == 5) = true := beq_iff_eq.mpr c3
   have c3b1 : ((t101.length : Int) != 5) = false := bne_eq_false_iff_eq.mpr c3
   clear c3
   by_cases c4 : 0 < (t101.length : Int)
   ·rw [if_pos c4] at H
    have c4b0 : decide (0 < (t101.length : Int)) = true := decide_eq_true c4
    have c4b1 : decide (0 < t101.length) = true := decide_eq_true (by omega)
    clear c4
    by_cases c5 : ((rd_T63 t101 0).f3).toList = ([97] : List UInt8)
    ·rw [if_pos c5] at H
     have c5b0 : (((rd_T63 t101 0).f3).toList == ([97] : List UInt8)) = true := beq_iff_eq.mpr c5
     have c5b1 : (((rd_T63 t101 0).f3).toList != ([97] : List UInt8)) = false := bne_eq_false_iff_eq.mpr c5
     clear c5
     by_cases c6 : 1 < (t101.length : Int)
     ·rw [if_pos c6] at H
      have c6b0 : decide (1 < (t101.length : Int)) = true := decide_eq_true c6
      have c6b1 : decide (1 < t101.length) = true := decide_eq_true (by omega)
      clear c6
      by_cases c7 : ((rd_T63 t101 1).f3).toList = ([60, 61] : List UInt8)
      ·rw [if_pos c7] at H
       have c7b0 : (((rd_T63 t101 1).f3).toList == ([60, 61] : List UInt8)) = true := beq_iff_eq.mpr c7
       have c7b1 : (((rd_T63 t101 1).f3).toList != ([60, 61] : List UInt8)) = false := bne_eq_false_iff_eq.mpr c7
       clear c7
       by_cases c8 : 2 < (t101.length : Int)
       ·rw [if_pos c8] at H
        have c8b0 : decide (2 < (t101.length : Int)) = true := decide_eq_true c8
        have c8b1 : decide (2 < t101.length) = true := decide_eq_true (by omega)
        clear c8
        by_cases c9 : (((rd_T63 t101 2).f0) == 3 && (((rd_T63 t101 2).f1) == 1 && (((rd_T63 t101 2).f2) == 4 && ((((rd_T63 t101 2).f3).toList) == ([] : List UInt8) && (!((rd_T63 t101 2).f4) && ((((rd_T63 t101 2).f5.f0) == 8 && (((rd_T63 t101 2).f5.f1) == 5 && (((rd_T63 t101 2).f5.f2) == 0))) && (((rd_T63 t101 2).f6)))))))) = true
        ·rw [if_pos c9] at H
         have c9b0 : (((rd_T63 t101 2).f0) == 3 && (((rd_T63 t101 2).f1) == 1 && (((rd_T63 t101 2).f2) == 4 && ((((rd_T63 t101 2).f3).toList) == ([] : List UInt8) && (!((rd_T63 t101 2).f4) && ((((rd_T63 t101 2).f5.f0) == 8 && (((rd_T63 t101 2).f5.f1) == 5 && (((rd_T63 t101 2).f5.f2) == 0))) && (((rd_T63 t101 2).f6)))))))) = true := c9
         have c9b3 : (((rd_T63 t101 2).f0) == 3 && (((rd_T63 t101 2).f1) == 1 && (((rd_T63 t101 2).f2) == 4 && ((((rd_T63 t101 2).f3).toList).isEmpty && (!((rd_T63 t101 2).f4) && ((((rd_T63 t101 2).f5.f0) == 8 && (((rd_T63 t101 2).f5.f1) == 5 && (((rd_T63 t101 2).f5.f2) == 0))) && ((rd_T63 t101 2).f6))))))) = true := by rw [← nil_empty]; exact c9
         (try (have c9b1 : decide (((rd_T63 t101 2).f0) = 3 && (((rd_T63 t101 2).f1) == 1 && (((rd_T63 t101 2).f2) == 4 && ((((rd_T63 t101 2).f3).toList) == ([] : List UInt8) && (!((rd_T63 t101 2).f4) && ((((rd_T63 t101 2).f5.f0) == 8 && (((rd_T63 t101 2).f5.f1) == 5 && (((rd_T63 t101 2).f5.f2) == 0))) && (((rd_T63 t101 2).f6)))))))) = true := by simpa using c9))
         (try (have c9b2 : (((rd_T63 t101 2).f0) == 3 && (((rd_T63 t101 2).f1) == 1 && (((rd_T63 t101 2).f2) == 4 && ((((rd_T63 t101 2).f3).toList) == ([] : List UInt8) && (!((rd_T63 t101 2).f4) && ((((rd_T63 t101 2).f5.f0) == 8 && (((rd_T63 t101 2).f5.f1) == 5 && (((rd_T63 t101 2).f5.f2) == 0))) && (((rd_T63 t101 2).f6)))))))) = true := by simpa using c9))
         clear c9
         by_cases c10 : 4 < (t101.length : Int)
         ·rw [if_pos c10] at H
          have c10b0 : decide (4 < (t101.length : Int)) = true := decide_eq_true c10
          have c10b1 : decide (4 < t101.length) = true := decide_eq_true (by omega)
          clear c10
          obtain rfl := Option.some.inj H
          go_enter Tryd.func24, Tryd.ntmps24
          go_wp2_with (first | ((with_reducible refine gate_callee (f := 51) rfl ?_); refine goesL_ (some 6) rfl rfl Tryd.func51 (by kernel_rfl) rfl #[.string (⟨#[97, 60, 61, 56, 39, 115, 100, 53, 59]⟩ : ByteArray)] rfl (by (try simp only [List.map_toArray, List.map_cons, List.map_nil]); first | done | rfl | (simp only [List.length_drop, List.length_take]; rfl)) ?_; (with_reducible refine (lex_Tokens.calls k (⟨#[97, 60, 61, 56, 39, 115, 100, 53, 59]⟩ : ByteArray) t101 t102 t103 t104 _ A1.out ?side90).mono ?_); (case side90 => first | exact HG.out.below HB.out | exact HG.out | exact HG.out.below (HB.out.drew) | exact HG.out.below (by repeat (first | exact HB.out | apply Below.drew))); rintro e w11 ⟨v105, rfl, ho0, hb⟩; refine ⟨_, rfl, ?_⟩; have n0_ := Aside0.mk (Kd.R_lower ho0 (below_size (by repeat (first | (with_reducible first | exact HB.out | apply below_alloc | apply pw_below_drewN | apply below_drew1) | exact HB.out)))); have n1_ := Aside0.mk (below_step (by repeat (first | (with_reducible first | exact HB.out | apply below_alloc | apply pw_below_drewN | apply below_drew1) | exact HB.out)) hb); clear HB; have HO106 := n0_; have HB := n1_; clear n0_ n1_; (try clear hb); (try clear hb2); (try clear hk); (try clear hi); (try clear ho0); obtain ⟨Ao12, co12, eo12⟩ := Kd.R_slice HO106.out; subst eo12; have p107 : 0 ≤ (0 : Int) := (by omega); have q107 : 0 < (t101.length : Int) := of_decide_eq_true (by first | (with_reducible assumption) | assumption); obtain ⟨ad107, e107, hx107_0, hx107_1, hx107_2, hx107_3, hx107_4, hx107_5, hx107_6, hx107_7, hx107_8⟩ := at_T63 (Kd.R_reads' HO106.out).2.2 0 p107 q107; cases e107; have qi107 : (0 < t101.length) = True := eq_true (by omega); (try rw [show ((0 : Int)).toNat = 0 from rfl] at hx107_0); (try rw [show 0 * 9 = 0 from rfl] at hx107_0); (try rw [Addr.add_zero'] at hx107_0); (try rw [show ((0 : Int)).toNat = 0 from rfl] at hx107_1); (try rw [show 0 * 9 = 0 from rfl] at hx107_1); (try rw [Addr.add_zero'] at hx107_1); (try rw [show ((0 : Int)).toNat = 0 from rfl] at hx107_2); (try rw [show 0 * 9 = 0 from rfl] at hx107_2); (try rw [Addr.add_zero'] at hx107_2); (try rw [show ((0 : Int)).toNat = 0 from rfl] at hx107_3); (try rw [show 0 * 9 = 0 from rfl] at hx107_3); (try rw [Addr.add_zero'] at hx107_3); (try rw [show ((0 : Int)).toNat = 0 from rfl] at hx107_4); (try rw [show 0 * 9 = 0 from rfl] at hx107_4); (try rw [Addr.add_zero'] at hx107_4); (try rw [show ((0 : Int)).toNat = 0 from rfl] at hx107_5); (try rw [show 0 * 9 = 0 from rfl] at hx107_5); (try rw [Addr.add_zero'] at hx107_5); (try rw [show ((0 : Int)).toNat = 0 from rfl] at hx107_6); (try rw [show 0 * 9 = 0 from rfl] at hx107_6); (try rw [Addr.add_zero'] at hx107_6); (try rw [show ((0 : Int)).toNat = 0 from rfl] at hx107_7); (try rw [show 0 * 9 = 0 from rfl] at hx107_7); (try rw [Addr.add_zero'] at hx107_7); (try rw [show ((0 : Int)).toNat = 0 from rfl] at hx107_8); (try rw [show 0 * 9 = 0 from rfl] at hx107_8); (try rw [Addr.add_zero'] at hx107_8); replace p107 := eq_true p107; replace q107 := eq_true q107; have p108 : 0 ≤ (1 : Int) := (by omega); have q108 : 1 < (t101.length : Int) := of_decide_eq_true (by first | (with_reducible assumption) | assumption); obtain ⟨ad108, e108, hx108_0, hx108_1, hx108_2, hx108_3, hx108_4, hx108_5, hx108_6, hx108_7, hx108_8⟩ := at_T63 (Kd.R_reads' HO106.out).2.2 1 p108 q108; obtain rfl : ad107 = ad108 := (by injection e108); (try simp only [show (1 : Int).toNat = 1 from rfl, Nat.reduceMul, Nat.reduceEqDiff, Go.Addr.add, ↓reduceIte] at hx108_0); (try simp only [show (1 : Int).toNat = 1 from rfl, Nat.reduceMul, Nat.reduceEqDiff, Go.Addr.add, ↓reduceIte] at hx108_1); (try simp only [show (1 : Int).toNat = 1 from rfl, Nat.reduceMul, Nat.reduceEqDiff, Go.Addr.add, ↓reduceIte] at hx108_2); (try simp only [show (1 : Int).toNat = 1 from rfl, Nat.reduceMul, Nat.reduceEqDiff, Go.Addr.add, ↓reduceIte] at hx108_3); (try simp only [show (1 : Int).toNat = 1 from rfl, Nat.reduceMul, Nat.reduceEqDiff, Go.Addr.add, ↓reduceIte] at hx108_4); (try simp only [show (1 : Int).toNat = 1 from rfl, Nat.reduceMul, Nat.reduceEqDiff, Go.Addr.add, ↓reduceIte] at hx108_5); (try simp only [show (1 : Int).toNat = 1 from rfl, Nat.reduceMul, Nat.reduceEqDiff, Go.Addr.add, ↓reduceIte] at hx108_6); (try simp only [show (1 : Int).toNat = 1 from rfl, Nat.reduceMul, Nat.reduceEqDiff, Go.Addr.add, ↓reduceIte] at hx108_7); (try simp only [show (1 : Int).toNat = 1 from rfl, Nat.reduceMul, Nat.reduceEqDiff, Go.Addr.add, ↓reduceIte] at hx108_8); have qi108 : (1 < t101.length) = True := eq_true (by omega); (try rw [show ((1 : Int)).toNat = 1 from rfl] at hx108_0); (try rw [show 1 * 9 = 9 from rfl] at hx108_0); (try rw [show ((1 : Int)).toNat = 1 from rfl] at hx108_1); (try rw [show 1 * 9 = 9 from rfl] at hx108_1); (try rw [show ((1 : Int)).toNat = 1 from rfl] at hx108_2); (try rw [show 1 * 9 = 9 from rfl] at hx108_2); (try rw [show ((1 : Int)).toNat = 1 from rfl] at hx108_3); (try rw [show 1 * 9 = 9 from rfl] at hx108_3); (try rw [show ((1 : Int)).toNat = 1 from rfl] at hx108_4); (try rw [show 1 * 9 = 9 from rfl] at hx108_4); (try rw [show ((1 : Int)).toNat = 1 from rfl] at hx108_5); (try rw [show 1 * 9 = 9 from rfl] at hx108_5); (try rw [show ((1 : Int)).toNat = 1 from rfl] at hx108_6); (try rw [show 1 * 9 = 9 from rfl] at hx108_6); (try rw [show ((1 : Int)).toNat = 1 from rfl] at hx108_7); (try rw [show 1 * 9 = 9 from rfl] at hx108_7); (try rw [show ((1 : Int)).toNat = 1 from rfl] at hx108_8); (try rw [show 1 * 9 = 9 from rfl] at hx108_8); replace p108 := eq_true p108; replace q108 := eq_true q108; have p109 : 0 ≤ (2 : Int) := (by omega); have q109 : 2 < (t101.length : Int) := of_decide_eq_true (by first | (with_reducible assumption) | assumption); obtain ⟨ad109, e109, hx109_0, hx109_1, hx109_2, hx109_3, hx109_4, hx109_5, hx109_6, hx109_7, hx109_8⟩ := at_T63 (Kd.R_reads' HO106.out).2.2 2 p109 q109; obtain rfl : ad107 = ad109 := (by injection e109); (try simp only [show (2 : Int).toNat = 2 from rfl, Nat.reduceMul, Nat.reduceEqDiff, Go.Addr.add, ↓reduceIte] at hx109_0); (try simp only [show (2 : Int).toNat = 2 from rfl, Nat.reduceMul, Nat.reduceEqDiff, Go.Addr.add, ↓reduceIte] at hx109_1); (try simp only [show (2 : Int).toNat = 2 from rfl, Nat.reduceMul, Nat.reduceEqDiff, Go.Addr.add, ↓reduceIte] at hx109_2); (try simp only [show (2 : Int).toNat = 2 from rfl, Nat.reduceMul, Nat.reduceEqDiff, Go.Addr.add, ↓reduceIte] at hx109_3); (try simp only [show (2 : Int).toNat = 2 from rfl, Nat.reduceMul, Nat.reduceEqDiff, Go.Addr.add, ↓reduceIte] at hx109_4); (try simp only [show (2 : Int).toNat = 2 from rfl, Nat.reduceMul, Nat.reduceEqDiff, Go.Addr.add, ↓reduceIte] at hx109_5); (try simp only [show (2 : Int).toNat = 2 from rfl, Nat.reduceMul, Nat.reduceEqDiff, Go.Addr.add, ↓reduceIte] at hx109_6); (try simp only [show (2 : Int).toNat = 2 from rfl, Nat.reduceMul, Nat.reduceEqDiff, Go.Addr.add, ↓reduceIte] at hx109_7); (try simp only [show (2 : Int).toNat = 2 from rfl, Nat.reduceMul, Nat.reduceEqDiff, Go.Addr.add, ↓reduceIte] at hx109_8); have qi109 : (2 < t101.length) = True := eq_true (by omega); (try rw [show ((2 : Int)).toNat = 2 from rfl] at hx109_0); (try rw [show 2 * 9 = 18 from rfl] at hx109_0); (try rw [show ((2 : Int)).toNat = 2 from rfl] at hx109_1); (try rw [show 2 * 9 = 18 from rfl] at hx109_1); (try rw [show ((2 : Int)).toNat = 2 from rfl] at hx109_2); (try rw [show 2 * 9 = 18 from rfl] at hx109_2); (try rw [show ((2 : Int)).toNat = 2 from rfl] at hx109_3); (try rw [show 2 * 9 = 18 from rfl] at hx109_3); (try rw [show ((2 : Int)).toNat = 2 from rfl] at hx109_4); (try rw [show 2 * 9 = 18 from rfl] at hx109_4); (try rw [show ((2 : Int)).toNat = 2 from rfl] at hx109_5); (try rw [show 2 * 9 = 18 from rfl] at hx109_5); (try rw [show ((2 : Int)).toNat = 2 from rfl] at hx109_6); (try rw [show 2 * 9 = 18 from rfl] at hx109_6); (try rw [show ((2 : Int)).toNat = 2 from rfl] at hx109_7); (try rw [show 2 * 9 = 18 from rfl] at hx109_7); (try rw [show ((2 : Int)).toNat = 2 from rfl] at hx109_8); (try rw [show 2 * 9 = 18 from rfl] at hx109_8); replace p109 := eq_true p109; replace q109 := eq_true q109; have p110 : 0 ≤ (4 : Int) := (by omega); have q110 : 4 < (t101.length : Int) := of_decide_eq_true (by first | (with_reducible assumption) | assumption); obtain ⟨ad110, e110, hx110_0, hx110_1, hx110_2, hx110_3, hx110_4, hx110_5, hx110_6, hx110_7, hx110_8⟩ := at_T63 (Kd.R_reads' HO106.out).2.2 4 p110 q110; obtain rfl : ad107 = ad110 := (by injection e110); (try simp only [show (4 : Int).toNat = 4 from rfl, Nat.reduceMul, Nat.reduceEqDiff, Go.Addr.add, ↓reduceIte] at hx110_0); (try simp only [show (4 : Int).toNat = 4 from rfl, Nat.reduceMul, Nat.reduceEqDiff, Go.Addr.add, ↓reduceIte] at hx110_1); (try simp only [show (4 : Int).toNat = 4 from rfl, Nat.reduceMul, Nat.reduceEqDiff, Go.Addr.add, ↓reduceIte] at hx110_2); (try simp only [show (4 : Int).toNat = 4 from rfl, Nat.reduceMul, Nat.reduceEqDiff, Go.Addr.add, ↓reduceIte] at hx110_3); (try simp only [show (4 : Int).toNat = 4 from rfl, Nat.reduceMul, Nat.reduceEqDiff, Go.Addr.add, ↓reduceIte] at hx110_4); (try simp only [show (4 : Int).toNat = 4 from rfl, Nat.reduceMul, Nat.reduceEqDiff, Go.Addr.add, ↓reduceIte] at hx110_5); (try simp only [show (4 : Int).toNat = 4 from rfl, Nat.reduceMul, Nat.reduceEqDiff, Go.Addr.add, ↓reduceIte] at hx110_6); (try simp only [show (4 : Int).toNat = 4 from rfl, Nat.reduceMul, Nat.reduceEqDiff, Go.Addr.add, ↓reduceIte] at hx110_7); (try simp only [show (4 : Int).toNat = 4 from rfl, Nat.reduceMul, Nat.reduceEqDiff, Go.Addr.add, ↓reduceIte] at hx110_8); have qi110 : (4 < t101.length) = True := eq_true (by omega); (try rw [show ((4 : Int)).toNat = 4 from rfl] at hx110_0); (try rw [show 4 * 9 = 36 from rfl] at hx110_0); (try rw [show ((4 : Int)).toNat = 4 from rfl] at hx110_1); (try rw [show 4 * 9 = 36 from rfl] at hx110_1); (try rw [show ((4 : Int)).toNat = 4 from rfl] at hx110_2); (try rw [show 4 * 9 = 36 from rfl] at hx110_2); (try rw [show ((4 : Int)).toNat = 4 from rfl] at hx110_3); (try rw [show 4 * 9 = 36 from rfl] at hx110_3); (try rw [show ((4 : Int)).toNat = 4 from rfl] at hx110_4); (try rw [show 4 * 9 = 36 from rfl] at hx110_4); (try rw [show ((4 : Int)).toNat = 4 from rfl] at hx110_5); (try rw [show 4 * 9 = 36 from rfl] at hx110_5); (try rw [show ((4 : Int)).toNat = 4 from rfl] at hx110_6); (try rw [show 4 * 9 = 36 from rfl] at hx110_6); (try rw [show ((4 : Int)).toNat = 4 from rfl] at hx110_7); (try rw [show 4 * 9 = 36 from rfl] at hx110_7); (try rw [show ((4 : Int)).toNat = 4 from rfl] at hx110_8); (try rw [show 4 * 9 = 36 from rfl] at hx110_8); replace p110 := eq_true p110; replace q110 := eq_true q110))
          go_ret
          exact ⟨by first | rfl | (simp [errW_none, errW_some] <;> rfl) | (simp [*, errW_none, errW_some] <;> rfl), by repeat (first | (with_reducible first | exact HB.out | apply below_alloc | apply pw_below_drewN | apply below_drew1) | exact HB.out)⟩
         ·rw [if_neg c10] at H
          exact absurd H (by simp)
        ·rw [if_neg c9] at H
         have c9b0 : (((rd_T63 t101 2).f0) == 3 && (((rd_T63 t101 2).f1) == 1 && (((rd_T63 t101 2).f2) == 4 && ((((rd_T63 t101 2).f3).toList) == ([] : List UInt8) && (!((rd_T63 t101 2).f4) && ((((rd_T63 t101 2).f5.f0) == 8 && (((rd_T63 t101 2).f5.f1) == 5 && (((rd_T63 t101 2).f5.f2) == 0))) && (((rd_T63 t101 2).f6)))))))) = false := by simpa using c9
         have c9b3 : (((rd_T63 t101 2).f0) == 3 && (((rd_T63 t101 2).f1) == 1 && (((rd_T63 t101 2).f2) == 4 && ((((rd_T63 t101 2).f3).toList).isEmpty && (!((rd_T63 t101 2).f4) && ((((rd_T63 t101 2).f5.f0) == 8 && (((rd_T63 t101 2).f5.f1) == 5 && (((rd_T63 t101 2).f5.f2) == 0))) && ((rd_T63 t101 2).f6))))))) = false := by rw [← nil_empty]; exact Bool.eq_false_iff.2 c9
         (try (have c9b1 : decide (((rd_T63 t101 2).f0) = 3 && (((rd_T63 t101 2).f1) == 1 && (((rd_T63 t101 2).f2) == 4 && ((((rd_T63 t101 2).f3).toList) == ([] : List UInt8) && (!((rd_T63 t101 2).f4) && ((((rd_T63 t101 2).f5.f0) == 8 && (((rd_T63 t101 2).f5.f1) == 5 && (((rd_T63 t101 2).f5.f2) == 0))) && (((rd_T63 t101 2).f6)))))))) = false := by simpa using c9))
         (try (have c9b2 : (((rd_T63 t101 2).f0) == 3 && (((rd_T63 t101 2).f1) == 1 && (((rd_T63 t101 2).f2) == 4 && ((((rd_T63 t101 2).f3).toList) == ([] : List UInt8) && (!((rd_T63 t101 2).f4) && ((((rd_T63 t101 2).f5.f0) == 8 && (((rd_T63 t101 2).f5.f1) == 5 && (((rd_T63 t101 2).f5.f2) == 0))) && (((rd_T63 t101 2).f6)))))))) = false := by simpa using c9))
         (try (have c9b3 : ¬ (((rd_T63 t101 2).f0) = 3 && (((rd_T63 t101 2).f1) == 1 && (((rd_T63 t101 2).f2) == 4 && ((((rd_T63 t101 2).f3).toList) == ([] : List UInt8) && (!((rd_T63 t101 2).f4) && ((((rd_T63 t101 2).f5.f0) == 8 && (((rd_T63 t101 2).f5.f1) == 5 && (((rd_T63 t101 2).f5.f2) == 0))) && (((rd_T63 t101 2).f6)))))))) := by simpa using c9))
         clear c9
         obtain rfl := Option.some.inj H
         go_enter Tryd.func24, Tryd.ntmps24
         go_wp2_with (first | ((with_reducible refine gate_callee (f := 51) rfl ?_); refine goesL_ (some 6) rfl rfl Tryd.func51 (by kernel_rfl) rfl #[.string (⟨#[97, 60, 61, 56, 39, 115, 100, 53, 59]⟩ : ByteArray)] rfl (by (try simp only [List.map_toArray, List.map_cons, List.map_nil]); first | done | rfl | (simp only [List.length_drop, List.length_take]; rfl)) ?_; (with_reducible refine (lex_Tokens.calls k (⟨#[97, 60, 61, 56, 39, 115, 100, 53, 59]⟩ : ByteArray) t101 t102 t103 t104 _ A1.out ?side90).mono ?_); (case side90 => first | exact HG.out.below HB.out | exact HG.out | exact HG.out.below (HB.out.drew) | exact HG.out.below (by repeat (first | exact HB.out | apply Below.drew))); rintro e w13 ⟨v105, rfl, ho0, hb⟩; refine ⟨_, rfl, ?_⟩; have n0_ := Aside0.mk (Kd.R_lower ho0 (below_size (by repeat (first | (with_reducible first | exact HB.out | apply below_alloc | apply pw_below_drewN | apply below_drew1) | exact HB.out)))); have n1_ := Aside0.mk (below_step (by repeat (first | (with_reducible first | exact HB.out | apply below_alloc | apply pw_below_drewN | apply below_drew1) | exact HB.out)) hb); clear HB; have HO106 := n0_; have HB := n1_; clear n0_ n1_; (try clear hb); (try clear hb2); (try clear hk); (try clear hi); (try clear ho0); obtain ⟨Ao14, co14, eo14⟩ := Kd.R_slice HO106.out; subst eo14; have p107 : 0 ≤ (0 : Int) := (by omega); have q107 : 0 < (t101.length : Int) := of_decide_eq_true (by first | (with_reducible assumption) | assumption); obtain ⟨ad107, e107, hx107_0, hx107_1, hx107_2, hx107_3, hx107_4, hx107_5, hx107_6, hx107_7, hx107_8⟩ := at_T63 (Kd.R_reads' HO106.out).2.2 0 p107 q107; cases e107; have qi107 : (0 < t101.length) = True := eq_true (by omega); (try rw [show ((0 : Int)).toNat = 0 from rfl] at hx107_0); (try rw [show 0 * 9 = 0 from rfl] at hx107_0); (try rw [Addr.add_zero'] at hx107_0); (try rw [show ((0 : Int)).toNat = 0 from rfl] at hx107_1); (try rw [show 0 * 9 = 0 from rfl] at hx107_1); (try rw [Addr.add_zero'] at hx107_1); (try rw [show ((0 : Int)).toNat = 0 from rfl] at hx107_2); (try rw [show 0 * 9 = 0 from rfl] at hx107_2); (try rw [Addr.add_zero'] at hx107_2); (try rw [show ((0 : Int)).toNat = 0 from rfl] at hx107_3); (try rw [show 0 * 9 = 0 from rfl] at hx107_3); (try rw [Addr.add_zero'] at hx107_3); (try rw [show ((0 : Int)).toNat = 0 from rfl] at hx107_4); (try rw [show 0 * 9 = 0 from rfl] at hx107_4); (try rw [Addr.add_zero'] at hx107_4); (try rw [show ((0 : Int)).toNat = 0 from rfl] at hx107_5); (try rw [show 0 * 9 = 0 from rfl] at hx107_5); (try rw [Addr.add_zero'] at hx107_5); (try rw [show ((0 : Int)).toNat = 0 from rfl] at hx107_6); (try rw [show 0 * 9 = 0 from rfl] at hx107_6); (try rw [Addr.add_zero'] at hx107_6); (try rw [show ((0 : Int)).toNat = 0 from rfl] at hx107_7); (try rw [show 0 * 9 = 0 from rfl] at hx107_7); (try rw [Addr.add_zero'] at hx107_7); (try rw [show ((0 : Int)).toNat = 0 from rfl] at hx107_8); (try rw [show 0 * 9 = 0 from rfl] at hx107_8); (try rw [Addr.add_zero'] at hx107_8); replace p107 := eq_true p107; replace q107 := eq_true q107; have p108 : 0 ≤ (1 : Int) := (by omega); have q108 : 1 < (t101.length : Int) := of_decide_eq_true (by first | (with_reducible assumption) | assumption); obtain ⟨ad108, e108, hx108_0, hx108_1, hx108_2, hx108_3, hx108_4, hx108_5, hx108_6, hx108_7, hx108_8⟩ := at_T63 (Kd.R_reads' HO106.out).2.2 1 p108 q108; obtain rfl : ad107 = ad108 := (by injection e108); (try simp only [show (1 : Int).toNat = 1 from rfl, Nat.reduceMul, Nat.reduceEqDiff, Go.Addr.add, ↓reduceIte] at hx108_0); (try simp only [show (1 : Int).toNat = 1 from rfl, Nat.reduceMul, Nat.reduceEqDiff, Go.Addr.add, ↓reduceIte] at hx108_1); (try simp only [show (1 : Int).toNat = 1 from rfl, Nat.reduceMul, Nat.reduceEqDiff, Go.Addr.add, ↓reduceIte] at hx108_2); (try simp only [show (1 : Int).toNat = 1 from rfl, Nat.reduceMul, Nat.reduceEqDiff, Go.Addr.add, ↓reduceIte] at hx108_3); (try simp only [show (1 : Int).toNat = 1 from rfl, Nat.reduceMul, Nat.reduceEqDiff, Go.Addr.add, ↓reduceIte] at hx108_4); (try simp only [show (1 : Int).toNat = 1 from rfl, Nat.reduceMul, Nat.reduceEqDiff, Go.Addr.add, ↓reduceIte] at hx108_5); (try simp only [show (1 : Int).toNat = 1 from rfl, Nat.reduceMul, Nat.reduceEqDiff, Go.Addr.add, ↓reduceIte] at hx108_6); (try simp only [show (1 : Int).toNat = 1 from rfl, Nat.reduceMul, Nat.reduceEqDiff, Go.Addr.add, ↓reduceIte] at hx108_7); (try simp only [show (1 : Int).toNat = 1 from rfl, Nat.reduceMul, Nat.reduceEqDiff, Go.Addr.add, ↓reduceIte] at hx108_8); have qi108 : (1 < t101.length) = True := eq_true (by omega); (try rw [show ((1 : Int)).toNat = 1 from rfl] at hx108_0); (try rw [show 1 * 9 = 9 from rfl] at hx108_0); (try rw [show ((1 : Int)).toNat = 1 from rfl] at hx108_1); (try rw [show 1 * 9 = 9 from rfl] at hx108_1); (try rw [show ((1 : Int)).toNat = 1 from rfl] at hx108_2); (try rw [show 1 * 9 = 9 from rfl] at hx108_2); (try rw [show ((1 : Int)).toNat = 1 from rfl] at hx108_3); (try rw [show 1 * 9 = 9 from rfl] at hx108_3); (try rw [show ((1 : Int)).toNat = 1 from rfl] at hx108_4); (try rw [show 1 * 9 = 9 from rfl] at hx108_4); (try rw [show ((1 : Int)).toNat = 1 from rfl] at hx108_5); (try rw [show 1 * 9 = 9 from rfl] at hx108_5); (try rw [show ((1 : Int)).toNat = 1 from rfl] at hx108_6); (try rw [show 1 * 9 = 9 from rfl] at hx108_6); (try rw [show ((1 : Int)).toNat = 1 from rfl] at hx108_7); (try rw [show 1 * 9 = 9 from rfl] at hx108_7); (try rw [show ((1 : Int)).toNat = 1 from rfl] at hx108_8); (try rw [show 1 * 9 = 9 from rfl] at hx108_8); replace p108 := eq_true p108; replace q108 := eq_true q108; have p109 : 0 ≤ (2 : Int) := (by omega); have q109 : 2 < (t101.length : Int) := of_decide_eq_true (by first | (with_reducible assumption) | assumption); obtain ⟨ad109, e109, hx109_0, hx109_1, hx109_2, hx109_3, hx109_4, hx109_5, hx109_6, hx109_7, hx109_8⟩ := at_T63 (Kd.R_reads' HO106.out).2.2 2 p109 q109; obtain rfl : ad107 = ad109 := (by injection e109); (try simp only [show (2 : Int).toNat = 2 from rfl, Nat.reduceMul, Nat.reduceEqDiff, Go.Addr.add, ↓reduceIte] at hx109_0); (try simp only [show (2 : Int).toNat = 2 from rfl, Nat.reduceMul, Nat.reduceEqDiff, Go.Addr.add, ↓reduceIte] at hx109_1); (try simp only [show (2 : Int).toNat = 2 from rfl, Nat.reduceMul, Nat.reduceEqDiff, Go.Addr.add, ↓reduceIte] at hx109_2); (try simp only [show (2 : Int).toNat = 2 from rfl, Nat.reduceMul, Nat.reduceEqDiff, Go.Addr.add, ↓reduceIte] at hx109_3); (try simp only [show (2 : Int).toNat = 2 from rfl, Nat.reduceMul, Nat.reduceEqDiff, Go.Addr.add, ↓reduceIte] at hx109_4); (try simp only [show (2 : Int).toNat = 2 from rfl, Nat.reduceMul, Nat.reduceEqDiff, Go.Addr.add, ↓reduceIte] at hx109_5); (try simp only [show (2 : Int).toNat = 2 from rfl, Nat.reduceMul, Nat.reduceEqDiff, Go.Addr.add, ↓reduceIte] at hx109_6); (try simp only [show (2 : Int).toNat = 2 from rfl, Nat.reduceMul, Nat.reduceEqDiff, Go.Addr.add, ↓reduceIte] at hx109_7); (try simp only [show (2 : Int).toNat = 2 from rfl, Nat.reduceMul, Nat.reduceEqDiff, Go.Addr.add, ↓reduceIte] at hx109_8); have qi109 : (2 < t101.length) = True := eq_true (by omega); (try rw [show ((2 : Int)).toNat = 2 from rfl] at hx109_0); (try rw [show 2 * 9 = 18 from rfl] at hx109_0); (try rw [show ((2 : Int)).toNat = 2 from rfl] at hx109_1); (try rw [show 2 * 9 = 18 from rfl] at hx109_1); (try rw [show ((2 : Int)).toNat = 2 from rfl] at hx109_2); (try rw [show 2 * 9 = 18 from rfl] at hx109_2); (try rw [show ((2 : Int)).toNat = 2 from rfl] at hx109_3); (try rw [show 2 * 9 = 18 from rfl] at hx109_3); (try rw [show ((2 : Int)).toNat = 2 from rfl] at hx109_4); (try rw [show 2 * 9 = 18 from rfl] at hx109_4); (try rw [show ((2 : Int)).toNat = 2 from rfl] at hx109_5); (try rw [show 2 * 9 = 18 from rfl] at hx109_5); (try rw [show ((2 : Int)).toNat = 2 from rfl] at hx109_6); (try rw [show 2 * 9 = 18 from rfl] at hx109_6); (try rw [show ((2 : Int)).toNat = 2 from rfl] at hx109_7); (try rw [show 2 * 9 = 18 from rfl] at hx109_7); (try rw [show ((2 : Int)).toNat = 2 from rfl] at hx109_8); (try rw [show 2 * 9 = 18 from rfl] at hx109_8); replace p109 := eq_true p109; replace q109 := eq_true q109))
         go_ret
         exact ⟨by first | rfl | (simp [errW_none, errW_some] <;> rfl) | (simp [*, errW_none, errW_some] <;> rfl), by repeat (first | (with_reducible first | exact HB.out | apply below_alloc | apply pw_below_drewN | apply below_drew1) | exact HB.out)⟩
       ·rw [if_neg c8] at H
        exact absurd H (by simp)
      ·rw [if_neg c7] at H
       have c7b0 : (((rd_T63 t101 1).f3).toList == ([60, 61] : List UInt8)) = false := beq_eq_false_iff_ne.mpr c7
       have c7b1 : (((rd_T63 t101 1).f3).toList != ([60, 61] : List UInt8)) = true := bne_iff_ne.mpr c7
       obtain rfl := Option.some.inj H
       go_enter Tryd.func24, Tryd.ntmps24
       go_wp2_with (first | ((with_reducible refine gate_callee (f := 51) rfl ?_); refine goesL_ (some 6) rfl rfl Tryd.func51 (by kernel_rfl) rfl #[.string (⟨#[97, 60, 61, 56, 39, 115, 100, 53, 59]⟩ : ByteArray)] rfl (by (try simp only [List.map_toArray, List.map_cons, List.map_nil]); first | done | rfl | (simp only [List.length_drop, List.length_take]; rfl)) ?_; (with_reducible refine (lex_Tokens.calls k (⟨#[97, 60, 61, 56, 39, 115, 100, 53, 59]⟩ : ByteArray) t101 t102 t103 t104 _ A1.out ?side90).mono ?_); (case side90 => first | exact HG.out.below HB.out | exact HG.out | exact HG.out.below (HB.out.drew) | exact HG.out.below (by repeat (first | exact HB.out | apply Below.drew))); rintro e w15 ⟨v105, rfl, ho0, hb⟩; refine ⟨_, rfl, ?_⟩; have n0_ := Aside0.mk (Kd.R_lower ho0 (below_size (by repeat (first | (with_reducible first | exact HB.out | apply below_alloc | apply pw_below_drewN | apply below_drew1) | exact HB.out)))); have n1_ := Aside0.mk (below_step (by repeat (first | (with_reducible first | exact HB.out | apply below_alloc | apply pw_below_drewN | apply below_drew1) | exact HB.out)) hb); clear HB; have HO106 := n0_; have HB := n1_; clear n0_ n1_; (try clear hb); (try clear hb2); (try clear hk); (try clear hi); (try clear ho0); obtain ⟨Ao16, co16, eo16⟩ := Kd.R_slice HO106.out; subst eo16; have p107 : 0 ≤ (0 : Int) := (by omega); have q107 : 0 < (t101.length : Int) := of_decide_eq_true (by first | (with_reducible assumption) | assumption); obtain ⟨ad107, e107, hx107_0, hx107_1, hx107_2, hx107_3, hx107_4, hx107_5, hx107_6, hx107_7, hx107_8⟩ := at_T63 (Kd.R_reads' HO106.out).2.2 0 p107 q107; cases e107; have qi107 : (0 < t101.length) = True := eq_true (by omega); (try rw [show ((0 : Int)).toNat = 0 from rfl] at hx107_0); (try rw [show 0 * 9 = 0 from rfl] at hx107_0); (try rw [Addr.add_zero'] at hx107_0); (try rw [show ((0 : Int)).toNat = 0 from rfl] at hx107_1); (try rw [show 0 * 9 = 0 from rfl] at hx107_1); (try rw [Addr.add_zero'] at hx107_1); (try rw [show ((0 : Int)).toNat = 0 from rfl] at hx107_2); (try rw [show 0 * 9 = 0 from rfl] at hx107_2); (try rw [Addr.add_zero'] at hx107_2); (try rw [show ((0 : Int)).toNat = 0 from rfl] at hx107_3); (try rw [show 0 * 9 = 0 from rfl] at hx107_3); (try rw [Addr.add_zero'] at hx107_3); (try rw [show ((0 : Int)).toNat = 0 from rfl] at hx107_4); (try rw [show 0 * 9 = 0 from rfl] at hx107_4); (try rw [Addr.add_zero'] at hx107_4); (try rw [show ((0 : Int)).toNat = 0 from rfl] at hx107_5); (try rw [show 0 * 9 = 0 from rfl] at hx107_5); (try rw [Addr.add_zero'] at hx107_5); (try rw [show ((0 : Int)).toNat = 0 from rfl] at hx107_6); (try rw [show 0 * 9 = 0 from rfl] at hx107_6); (try rw [Addr.add_zero'] at hx107_6); (try rw [show ((0 : Int)).toNat = 0 from rfl] at hx107_7); (try rw [show 0 * 9 = 0 from rfl] at hx107_7); (try rw [Addr.add_zero'] at hx107_7); (try rw [show ((0 : Int)).toNat = 0 from rfl] at hx107_8); (try rw [show 0 * 9 = 0 from rfl] at hx107_8); (try rw [Addr.add_zero'] at hx107_8); replace p107 := eq_true p107; replace q107 := eq_true q107; have p108 : 0 ≤ (1 : Int) := (by omega); have q108 : 1 < (t101.length : Int) := of_decide_eq_true (by first | (with_reducible assumption) | assumption); obtain ⟨ad108, e108, hx108_0, hx108_1, hx108_2, hx108_3, hx108_4, hx108_5, hx108_6, hx108_7, hx108_8⟩ := at_T63 (Kd.R_reads' HO106.out).2.2 1 p108 q108; obtain rfl : ad107 = ad108 := (by injection e108); (try simp only [show (1 : Int).toNat = 1 from rfl, Nat.reduceMul, Nat.reduceEqDiff, Go.Addr.add, ↓reduceIte] at hx108_0); (try simp only [show (1 : Int).toNat = 1 from rfl, Nat.reduceMul, Nat.reduceEqDiff, Go.Addr.add, ↓reduceIte] at hx108_1); (try simp only [show (1 : Int).toNat = 1 from rfl, Nat.reduceMul, Nat.reduceEqDiff, Go.Addr.add, ↓reduceIte] at hx108_2); (try simp only [show (1 : Int).toNat = 1 from rfl, Nat.reduceMul, Nat.reduceEqDiff, Go.Addr.add, ↓reduceIte] at hx108_3); (try simp only [show (1 : Int).toNat = 1 from rfl, Nat.reduceMul, Nat.reduceEqDiff, Go.Addr.add, ↓reduceIte] at hx108_4); (try simp only [show (1 : Int).toNat = 1 from rfl, Nat.reduceMul, Nat.reduceEqDiff, Go.Addr.add, ↓reduceIte] at hx108_5); (try simp only [show (1 : Int).toNat = 1 from rfl, Nat.reduceMul, Nat.reduceEqDiff, Go.Addr.add, ↓reduceIte] at hx108_6); (try simp only [show (1 : Int).toNat = 1 from rfl, Nat.reduceMul, Nat.reduceEqDiff, Go.Addr.add, ↓reduceIte] at hx108_7); (try simp only [show (1 : Int).toNat = 1 from rfl, Nat.reduceMul, Nat.reduceEqDiff, Go.Addr.add, ↓reduceIte] at hx108_8); have qi108 : (1 < t101.length) = True := eq_true (by omega); (try rw [show ((1 : Int)).toNat = 1 from rfl] at hx108_0); (try rw [show 1 * 9 = 9 from rfl] at hx108_0); (try rw [show ((1 : Int)).toNat = 1 from rfl] at hx108_1); (try rw [show 1 * 9 = 9 from rfl] at hx108_1); (try rw [show ((1 : Int)).toNat = 1 from rfl] at hx108_2); (try rw [show 1 * 9 = 9 from rfl] at hx108_2); (try rw [show ((1 : Int)).toNat = 1 from rfl] at hx108_3); (try rw [show 1 * 9 = 9 from rfl] at hx108_3); (try rw [show ((1 : Int)).toNat = 1 from rfl] at hx108_4); (try rw [show 1 * 9 = 9 from rfl] at hx108_4); (try rw [show ((1 : Int)).toNat = 1 from rfl] at hx108_5); (try rw [show 1 * 9 = 9 from rfl] at hx108_5); (try rw [show ((1 : Int)).toNat = 1 from rfl] at hx108_6); (try rw [show 1 * 9 = 9 from rfl] at hx108_6); (try rw [show ((1 : Int)).toNat = 1 from rfl] at hx108_7); (try rw [show 1 * 9 = 9 from rfl] at hx108_7); (try rw [show ((1 : Int)).toNat = 1 from rfl] at hx108_8); (try rw [show 1 * 9 = 9 from rfl] at hx108_8); replace p108 := eq_true p108; replace q108 := eq_true q108))
       go_ret
       exact ⟨by first | rfl | (simp [errW_none, errW_some] <;> rfl) | (simp [*, errW_none, errW_some] <;> rfl), by repeat (first | (with_reducible first | exact HB.out | apply below_alloc | apply pw_below_drewN | apply below_drew1) | exact HB.out)⟩
     ·rw [if_neg c6] at H
      exact absurd H (by simp)
    ·rw [if_neg c5] at H
     have c5b0 : (((rd_T63 t101 0).f3).toList == ([97] : List UInt8)) = false := beq_eq_false_iff_ne.mpr c5
     have c5b1 : (((rd_T63 t101 0).f3).toList != ([97] : List UInt8)) = true := bne_iff_ne.mpr c5
     obtain rfl := Option.some.inj H
     go_enter Tryd.func24, Tryd.ntmps24
     go_wp2_with (first | ((with_reducible refine gate_callee (f := 51) rfl ?_); refine goesL_ (some 6) rfl rfl Tryd.func51 (by kernel_rfl) rfl #[.string (⟨#[97, 60, 61, 56, 39, 115, 100, 53, 59]⟩ : ByteArray)] rfl (by (try simp only [List.map_toArray, List.map_cons, List.map_nil]); first | done | rfl | (simp only [List.length_drop, List.length_take]; rfl)) ?_; (with_reducible refine (lex_Tokens.calls k (⟨#[97, 60, 61, 56, 39, 115, 100, 53, 59]⟩ : ByteArray) t101 t102 t103 t104 _ A1.out ?side90).mono ?_); (case side90 => first | exact HG.out.below HB.out | exact HG.out | exact HG.out.below (HB.out.drew) | exact HG.out.below (by repeat (first | exact HB.out | apply Below.drew))); rintro e w17 ⟨v105, rfl, ho0, hb⟩; refine ⟨_, rfl, ?_⟩; have n0_ := Aside0.mk (Kd.R_lower ho0 (below_size (by repeat (first | (with_reducible first | exact HB.out | apply below_alloc | apply pw_below_drewN | apply below_drew1) | exact HB.out)))); have n1_ := Aside0.mk (below_step (by repeat (first | (with_reducible first | exact HB.out | apply below_alloc | apply pw_below_drewN | apply below_drew1) | exact HB.out)) hb); clear HB; have HO106 := n0_; have HB := n1_; clear n0_ n1_; (try clear hb); (try clear hb2); (try clear hk); (try clear hi); (try clear ho0); obtain ⟨Ao18, co18, eo18⟩ := Kd.R_slice HO106.out; subst eo18; have p107 : 0 ≤ (0 : Int) := (by omega); have q107 : 0 < (t101.length : Int) := of_decide_eq_true (by first | (with_reducible assumption) | assumption); obtain ⟨ad107, e107, hx107_0, hx107_1, hx107_2, hx107_3, hx107_4, hx107_5, hx107_6, hx107_7, hx107_8⟩ := at_T63 (Kd.R_reads' HO106.out).2.2 0 p107 q107; cases e107; have qi107 : (0 < t101.length) = True := eq_true (by omega); (try rw [show ((0 : Int)).toNat = 0 from rfl] at hx107_0); (try rw [show 0 * 9 = 0 from rfl] at hx107_0); (try rw [Addr.add_zero'] at hx107_0); (try rw [show ((0 : Int)).toNat = 0 from rfl] at hx107_1); (try rw [show 0 * 9 = 0 from rfl] at hx107_1); (try rw [Addr.add_zero'] at hx107_1); (try rw [show ((0 : Int)).toNat = 0 from rfl] at hx107_2); (try rw [show 0 * 9 = 0 from rfl] at hx107_2); (try rw [Addr.add_zero'] at hx107_2); (try rw [show ((0 : Int)).toNat = 0 from rfl] at hx107_3); (try rw [show 0 * 9 = 0 from rfl] at hx107_3); (try rw [Addr.add_zero'] at hx107_3); (try rw [show ((0 : Int)).toNat = 0 from rfl] at hx107_4); (try rw [show 0 * 9 = 0 from rfl] at hx107_4); (try rw [Addr.add_zero'] at hx107_4); (try rw [show ((0 : Int)).toNat = 0 from rfl] at hx107_5); (try rw [show 0 * 9 = 0 from rfl] at hx107_5); (try rw [Addr.add_zero'] at hx107_5); (try rw [show ((0 : Int)).toNat = 0 from rfl] at hx107_6); (try rw [show 0 * 9 = 0 from rfl] at hx107_6); (try rw [Addr.add_zero'] at hx107_6); (try rw [show ((0 : Int)).toNat = 0 from rfl] at hx107_7); (try rw [show 0 * 9 = 0 from rfl] at hx107_7); (try rw [Addr.add_zero'] at hx107_7); (try rw [show ((0 : Int)).toNat = 0 from rfl] at hx107_8); (try rw [show 0 * 9 = 0 from rfl] at hx107_8); (try rw [Addr.add_zero'] at hx107_8); replace p107 := eq_true p107; replace q107 := eq_true q107))
     go_ret
     exact ⟨by first | rfl | (simp [errW_none, errW_some] <;> rfl) | (simp [*, errW_none, errW_some] <;> rfl), by repeat (first | (with_reducible first | exact HB.out | apply below_alloc | apply pw_below_drewN | apply below_drew1) | exact HB.out)⟩
   ·rw [if_neg c4] at H
    exact absurd H (by simp)
  ·rw [if_neg c3] at H
   have c3b0 : ((t101.length : Int) == 5) = false := beq_eq_false_iff_ne.mpr c3
   have c3b1 : ((t101.length : Int) != 5) = true := bne_iff_ne.mpr c3
   obtain rfl := Option.some.inj H
   go_enter Tryd.func24, Tryd.ntmps24
   go_wp2_with (first | ((with_reducible refine gate_callee (f := 51) rfl ?_); refine goesL_ (some 6) rfl rfl Tryd.func51 (by kernel_rfl) rfl #[.string (⟨#[97, 60, 61, 56, 39, 115, 100, 53, 59]⟩ : ByteArray)] rfl (by (try simp only [List.map_toArray, List.map_cons, List.map_nil]); first | done | rfl | (simp only [List.length_drop, List.length_take]; rfl)) ?_; (with_reducible refine (lex_Tokens.calls k (⟨#[97, 60, 61, 56, 39, 115, 100, 53, 59]⟩ : ByteArray) t101 t102 t103 t104 _ A1.out ?side90).mono ?_); (case side90 => first | exact HG.out.below HB.out | exact HG.out | exact HG.out.below (HB.out.drew) | exact HG.out.below (by repeat (first | exact HB.out | apply Below.drew))); rintro e w19 ⟨v105, rfl, ho0, hb⟩; refine ⟨_, rfl, ?_⟩; have n0_ := Aside0.mk (Kd.R_lower ho0 (below_size (by repeat (first | (with_reducible first | exact HB.out | apply below_alloc | apply pw_below_drewN | apply below_drew1) | exact HB.out)))); have n1_ := Aside0.mk (below_step (by repeat (first | (with_reducible first | exact HB.out | apply below_alloc | apply pw_below_drewN | apply below_drew1) | exact HB.out)) hb); clear HB; have HO106 := n0_; have HB := n1_; clear n0_ n1_; (try clear hb); (try clear hb2); (try clear hk); (try clear hi); (try clear ho0); obtain ⟨Ao20, co20, eo20⟩ := Kd.R_slice HO106.out; subst eo20))
   go_ret
   exact ⟨by first | rfl | (simp [errW_none, errW_some] <;> rfl) | (simp [*, errW_none, errW_some] <;> rfl), by repeat (first | (with_reducible first | exact HB.out | apply below_alloc | apply pw_below_drewN | apply below_drew1) | exact HB.out)⟩
 ·rw [if_neg c2] at H
  have c2b0 : (t104 == 0) = false := beq_eq_false_iff_ne.mpr c2
  have c2b1 : (t104 != 0) = true := bne_iff_ne.mpr c2
  obtain rfl := Option.some.inj H
  go_enter Tryd.func24, Tryd.ntmps24
  go_wp2_with (first | ((with_reducible refine gate_callee (f := 51) rfl ?_); refine goesL_ (some 6) rfl rfl Tryd.func51 (by kernel_rfl) rfl #[.string (⟨#[97, 60, 61, 56, 39, 115, 100, 53, 59]⟩ : ByteArray)] rfl (by (try simp only [List.map_toArray, List.map_cons, List.map_nil]); first | done | rfl | (simp only [List.length_drop, List.length_take]; rfl)) ?_; (with_reducible refine (lex_Tokens.calls k (⟨#[97, 60, 61, 56, 39, 115, 100, 53, 59]⟩ : ByteArray) t101 t102 t103 t104 _ A1.out ?side90).mono ?_); (case side90 => first | exact HG.out.below HB.out | exact HG.out | exact HG.out.below (HB.out.drew) | exact HG.out.below (by repeat (first | exact HB.out | apply Below.drew))); rintro e w21 ⟨v105, rfl, ho0, hb⟩; refine ⟨_, rfl, ?_⟩; have n0_ := Aside0.mk (Kd.R_lower ho0 (below_size (by repeat (first | (with_reducible first | exact HB.out | apply below_alloc | apply pw_below_drewN | apply below_drew1) | exact HB.out)))); have n1_ := Aside0.mk (below_step (by repeat (first | (with_reducible first | exact HB.out | apply below_alloc | apply pw_below_drewN | apply below_drew1) | exact HB.out)) hb); clear HB; have HO106 := n0_; have HB := n1_; clear n0_ n1_; (try clear hb); (try clear hb2); (try clear hk); (try clear hi); (try clear ho0)))
  go_ret
  exact ⟨by first | rfl | (simp [errW_none, errW_some] <;> rfl) | (simp [*, errW_none, errW_some] <;> rfl), by repeat (first | (with_reducible first | exact HB.out | apply below_alloc | apply pw_below_drewN | apply below_drew1) | exact HB.out)⟩
end Go.Proofs.YtlamgdibnnmbmaaDoor.PLex
end
section
namespace Go.Proofs.YtlamgdibnnmbmaaDoor.PLex
open Go.RowKit Go.Proofs.YtlamgdibnnmbmaaDoorW.PrintWords Go.Proofs.YtlamgdibnnmbmaaDoorW.PrintLast Go.Proofs.YtlamgdibnnmbmaaDoorW.PrintMore
attribute [local go_sem] max2_int min2_int max_two min_two max_three min_three max_four min_four
set_option linter.unusedVariables false
set_option linter.unusedSimpArgs false
def slices_Equal_string_string.l0 : Nat → List ByteArray → List ByteArray → Int → Int → Option (Bool)
 | 0, _, _, _, _ => none
 | k + 1, x0, x1, x12, x13 => if x13 < x12 then (if 0 ≤ x13 then (if x13 < (x0.length : Int) then (if x13 < (x1.length : Int) then (if (rdOf ByteArray.empty x0 x13).toList = (rdOf ByteArray.empty x1 x13).toList then (slices_Equal_string_string.l0 k x0 x1 x12 (wrap64 (x13 + 1))) else (some false)) else (none)) else (none)) else (none)) else (some true)
def slices_Equal_string_string.f (k : Nat) (l0 : List ByteArray) (l1 : List ByteArray) : Option (Bool) := if (l0.length : Int) = (l1.length : Int) then (slices_Equal_string_string.l0 k l0 l1 (l0.length : Int) 0) else (some false)
theorem slices_Equal_string_string.mono_l : ∀ k, (∀ y0 y1 y2 y3, LeO (slices_Equal_string_string.l0 k y0 y1 y2 y3) (slices_Equal_string_string.l0 (k + 1) y0 y1 y2 y3))
 | 0 => fun _ _ _ _ r h => by simp [slices_Equal_string_string.l0] at h
 | k + 1 => by
  have ih0 := slices_Equal_string_string.mono_l k
  ·intro y0 y1 y2 y3
   unfold slices_Equal_string_string.l0
   repeat' first
   | (with_reducible exact ih0 _ _ _ _)
   | (with_reducible exact LeO.refl _)
   | (with_reducible exact LeO.none _)
   | (with_reducible refine LeO.ite ?_ ?_)
   | (with_reducible refine LeO.bind ?_ (fun _ => ?_))
   | exact ih0 _ _ _ _
   | exact LeO.none _
   | refine LeO.ite ?_ ?_
   | refine LeO.bind ?_ (fun _ => ?_)
theorem slices_Equal_string_string.mono : ∀ a0 a1 k, LeO (slices_Equal_string_string.f k a0 a1) (slices_Equal_string_string.f (k + 1) a0 a1) := by
 intro a0 a1 k
 have ih0 := slices_Equal_string_string.mono_l k
 unfold slices_Equal_string_string.f
 repeat' first
   | (with_reducible exact ih0 _ _ _ _)
   | (with_reducible exact LeO.refl _)
   | (with_reducible exact LeO.none _)
   | (with_reducible refine LeO.ite ?_ ?_)
   | (with_reducible refine LeO.bind ?_ (fun _ => ?_))
   | exact ih0 _ _ _ _
   | exact LeO.none _
   | refine LeO.ite ?_ ?_
   | refine LeO.bind ?_ (fun _ => ?_)
set_option maxHeartbeats 8000000 in
set_option maxRecDepth 100000 in
theorem slices_Equal_string_string.calls (k : Nat) (A0 : Option Addr) (c0 : Nat) (l0 : List ByteArray) (A1 : Option Addr) (c1 : Nat) (l1 : List ByteArray) (r : Bool) (w : World) (hr0 : Kd.C Kd.string w A0 l0.length l0) (hc0 : l0.length ≤ c0) (hr1 : Kd.C Kd.string w A1 l1.length l1) (hc1 : l1.length ≤ c1) (h : slices_Equal_string_string.f k l0 l1 = some r) :
  Calls Tryd.prog 25 #[.slice A0 l0.length c0, .slice A1 l1.length c1] w fun e w' => e = .returned (.bool r) ∧ Drawn0 w w' := by
 have HR0 := Aside0.mk hr0
 have HC0 := Aside0.mk hc0
 clear hr0 hc0
 have HR1 := Aside0.mk hr1
 have HC1 := Aside0.mk hc1
 clear hr1 hc1
 have H : (if (l0.length : Int) = (l1.length : Int) then (slices_Equal_string_string.l0 k l0 l1 (l0.length : Int) 0) else (some false)) = some r := h
 clear h
 by_cases c3 : (l0.length : Int) = (l1.length : Int)
 ·rw [if_pos c3] at H
  have c3b0 : ((l0.length : Int) == (l1.length : Int)) = true := beq_iff_eq.mpr c3
  have c3b1 : ((l0.length : Int) != (l1.length : Int)) = false := bne_eq_false_iff_eq.mpr c3
  have c3b2 : (l0.length == l1.length) = true := by first | simpa using c3 | (simp at c3 ⊢; omega)
  clear c3
  have H' := Aside0.mk H
  clear H
  go_enter Tryd.func25, Tryd.ntmps25
  go_wp2
  repeat (go_quiet (fail); try go_wp2)
  go_loopg [13] k (fun kq v13 w' => ∃ (x13_1 : Int), v13 = .int .i64 x13_1 ∧ Aside0 (slices_Equal_string_string.l0 kq l0 l1 (l0.length : Int) x13_1 = some r) ∧ Aside0 (kq ≤ k) ∧ Drawn0 w w')
  case atStart => exact ⟨(0), (by first | rfl | (simp; done) | (simp [*]; done)), H', ⟨Nat.le_refl _⟩, by repeat (first | exact Drawn0.refl _ | apply Drawn0.step)⟩
  case round =>
   clear H'
   (try clear c1); (try clear c2); (try clear p2); (try clear c3); (try clear c3b0); (try clear c3b1); (try clear c3b2)
   obtain ⟨x13_1, rfl, HA, HK1, ⟨m1, rfl⟩⟩ := hrel
   cases gk with
   | zero => exact absurd HA.out (by simp [slices_Equal_string_string.l0])
   | succ k1 =>
    have H := HA.out
    clear HA
    simp only [slices_Equal_string_string.l0] at H
    by_cases c4 : x13_1 < (l0.length : Int)
    ·rw [if_pos c4] at H
     have c4b0 : decide (x13_1 < (l0.length : Int)) = true := decide_eq_true c4
     clear c4
     by_cases c5 : 0 ≤ x13_1
     ·rw [if_pos c5] at H
      have c5b0 : decide (0 ≤ x13_1) = true := decide_eq_true c5
      clear c5
      by_cases c6 : x13_1 < (l0.length : Int)
      ·rw [if_pos c6] at H
       have c6b0 : decide (x13_1 < (l0.length : Int)) = true := decide_eq_true c6
       clear c6
       by_cases c7 : x13_1 < (l1.length : Int)
       ·rw [if_pos c7] at H
        have c7b0 : decide (x13_1 < (l1.length : Int)) = true := decide_eq_true c7
        clear c7
        by_cases c8 : (rdOf ByteArray.empty l0 x13_1).toList = (rdOf ByteArray.empty l1 x13_1).toList
        ·rw [if_pos c8] at H
         have c8b0 : ((rdOf ByteArray.empty l0 x13_1).toList == (rdOf ByteArray.empty l1 x13_1).toList) = true := beq_iff_eq.mpr c8
         have c8b1 : ((rdOf ByteArray.empty l0 x13_1).toList != (rdOf ByteArray.empty l1 x13_1).toList) = false := bne_eq_false_iff_eq.mpr c8
         clear c8
         have H' := Aside0.mk H
         clear H
         have p111 : 0 ≤ (x13_1 : Int) := of_decide_eq_true (by first | (with_reducible assumption) | assumption)
         have q111 : x13_1 < (l0.length : Int) := of_decide_eq_true (by first | (with_reducible assumption) | assumption)
         obtain ⟨ad111, e111, hx111_0⟩ := Kd.at_string HR0.out x13_1 p111 q111
         cases e111
         replace p111 := eq_true p111
         replace q111 := eq_true q111
         have p112 : 0 ≤ (x13_1 : Int) := of_decide_eq_true (by first | (with_reducible assumption) | assumption)
         have q112 : x13_1 < (l1.length : Int) := of_decide_eq_true (by first | (with_reducible assumption) | assumption)
         obtain ⟨ad112, e112, hx112_0⟩ := Kd.at_string HR1.out x13_1 p112 q112
         cases e112
         replace p112 := eq_true p112
         replace q112 := eq_true q112
         go_wp2
         repeat (go_quiet (fail); try go_wp2)
         go_roundg k1
         case measure => have := HK1.out; omega
         case rel => exact ⟨(wrap64 (x13_1 + 1)), (by first | rfl | (simp; done) | (simp [*]; done)), H', ⟨by have := HK1.out; omega⟩, by repeat (first | exact Drawn0.refl _ | apply Drawn0.step)⟩
        ·rw [if_neg c8] at H
         have c8b0 : ((rdOf ByteArray.empty l0 x13_1).toList == (rdOf ByteArray.empty l1 x13_1).toList) = false := beq_eq_false_iff_ne.mpr c8
         have c8b1 : ((rdOf ByteArray.empty l0 x13_1).toList != (rdOf ByteArray.empty l1 x13_1).toList) = true := bne_iff_ne.mpr c8
         obtain rfl := Option.some.inj H
         have p111 : 0 ≤ (x13_1 : Int) := of_decide_eq_true (by first | (with_reducible assumption) | assumption)
         have q111 : x13_1 < (l0.length : Int) := of_decide_eq_true (by first | (with_reducible assumption) | assumption)
         obtain ⟨ad111, e111, hx111_0⟩ := Kd.at_string HR0.out x13_1 p111 q111
         cases e111
         replace p111 := eq_true p111
         replace q111 := eq_true q111
         have p112 : 0 ≤ (x13_1 : Int) := of_decide_eq_true (by first | (with_reducible assumption) | assumption)
         have q112 : x13_1 < (l1.length : Int) := of_decide_eq_true (by first | (with_reducible assumption) | assumption)
         obtain ⟨ad112, e112, hx112_0⟩ := Kd.at_string HR1.out x13_1 p112 q112
         cases e112
         replace p112 := eq_true p112
         replace q112 := eq_true q112
         go_wp2
         repeat (go_quiet (fail); try go_wp2)
         go_ret
         exact ⟨by first | rfl | (simp; done) | (simp [*]; done), by repeat (first | exact Drawn0.refl _ | apply Drawn0.step)⟩
       ·rw [if_neg c7] at H
        exact absurd H (by simp)
      ·rw [if_neg c6] at H
       exact absurd H (by simp)
     ·rw [if_neg c5] at H
      exact absurd H (by simp)
    ·rw [if_neg c4] at H
     have c4b0 : decide (x13_1 < (l0.length : Int)) = false := decide_eq_false c4
     clear c4
     obtain rfl := Option.some.inj H
     go_wp2
     repeat (go_quiet (fail); try go_wp2)
     go_ret
     exact ⟨by first | rfl | (simp; done) | (simp [*]; done), by repeat (first | exact Drawn0.refl _ | apply Drawn0.step)⟩
 ·rw [if_neg c3] at H
  have c3b0 : ((l0.length : Int) == (l1.length : Int)) = false := beq_eq_false_iff_ne.mpr c3
  have c3b1 : ((l0.length : Int) != (l1.length : Int)) = true := bne_iff_ne.mpr c3
  have c3b2 : (l0.length == l1.length) = false := by first | simpa using c3 | (simp at c3 ⊢; omega)
  obtain rfl := Option.some.inj H
  go_enter Tryd.func25, Tryd.ntmps25
  go_wp2
  repeat (go_quiet (fail); try go_wp2)
  go_ret
  exact ⟨by first | rfl | (simp; done) | (simp [*]; done), by repeat (first | exact Drawn0.refl _ | apply Drawn0.step)⟩
end Go.Proofs.YtlamgdibnnmbmaaDoor.PLex
end
section
namespace Go.Proofs.YtlamgdibnnmbmaaDoor.PLex
open Go.RowKit Go.Proofs.YtlamgdibnnmbmaaDoorW.PrintWords Go.Proofs.YtlamgdibnnmbmaaDoorW.PrintLast Go.Proofs.YtlamgdibnnmbmaaDoorW.PrintMore
attribute [local go_sem] max2_int min2_int max_two min_two max_three min_three max_four min_four
set_option linter.unusedVariables false
set_option linter.unusedSimpArgs false
mutual
def maskref1_Split.l0 : Nat → ByteArray → List ByteArray → Int → Int → Option (List ByteArray)
 | 0, _, _, _, _ => none
 | k + 1, x0, x3, x4, x5 => if x5 ≤ (x0.size : Int) then (if x5 = (x0.size : Int) then (maskref1_Split.j1 k x0 x3 x4 x5 true) else (if 0 ≤ x5 then (if x5 < (x0.size : Int) then (maskref1_Split.j1 k x0 x3 x4 x5 ((bt x0 x5) == 32)) else (none)) else (none))) else (some x3)
def maskref1_Split.j1 : Nat → ByteArray → List ByteArray → Int → Int → Bool → Option (List ByteArray)
 | 0, _, _, _, _, _ => none
 | k + 1, x0, x3, x4, x5, x21 => if x21 = true then (if x5 > x4 then (if 0 ≤ x4 then (if x4 ≤ x5 then (if x5 ≤ (x0.size : Int) then (if x3.length < 8796093022208 then (maskref1_Split.l0 k x0 (x3 ++ [x0.extract (x4 : Int).toNat (x5 : Int).toNat]) (wrap64 (x5 + 1)) (wrap64 (x5 + 1))) else (none)) else (none)) else (none)) else (none)) else (maskref1_Split.l0 k x0 x3 (wrap64 (x5 + 1)) (wrap64 (x5 + 1)))) else (maskref1_Split.l0 k x0 x3 x4 (wrap64 (x5 + 1)))
end
def maskref1_Split.f (k : Nat) (a0 : ByteArray) : Option (List ByteArray) := maskref1_Split.l0 k a0 ([] : List ByteArray) 0 0
theorem maskref1_Split.mono_l : ∀ k, (∀ y0 y1 y2 y3, LeO (maskref1_Split.l0 k y0 y1 y2 y3) (maskref1_Split.l0 (k + 1) y0 y1 y2 y3)) ∧ (∀ y0 y1 y2 y3 y4, LeO (maskref1_Split.j1 k y0 y1 y2 y3 y4) (maskref1_Split.j1 (k + 1) y0 y1 y2 y3 y4))
 | 0 => ⟨fun _ _ _ _ r h => by simp [maskref1_Split.l0] at h, fun _ _ _ _ _ r h => by simp [maskref1_Split.j1] at h⟩
 | k + 1 => by
  obtain ⟨ih0, ih1⟩ := maskref1_Split.mono_l k
  refine ⟨?_, ?_⟩
  ·intro y0 y1 y2 y3
   unfold maskref1_Split.l0
   repeat' first
   | (with_reducible exact ih0 _ _ _ _)
   | (with_reducible exact ih1 _ _ _ _ _)
   | (with_reducible exact LeO.refl _)
   | (with_reducible exact LeO.none _)
   | (with_reducible refine LeO.ite ?_ ?_)
   | (with_reducible refine LeO.bind ?_ (fun _ => ?_))
   | exact ih0 _ _ _ _
   | exact ih1 _ _ _ _ _
   | exact LeO.none _
   | refine LeO.ite ?_ ?_
   | refine LeO.bind ?_ (fun _ => ?_)
  ·intro y0 y1 y2 y3 y4
   unfold maskref1_Split.j1
   repeat' first
   | (with_reducible exact ih0 _ _ _ _)
   | (with_reducible exact ih1 _ _ _ _ _)
   | (with_reducible exact LeO.refl _)
   | (with_reducible exact LeO.none _)
   | (with_reducible refine LeO.ite ?_ ?_)
   | (with_reducible refine LeO.bind ?_ (fun _ => ?_))
   | exact ih0 _ _ _ _
   | exact ih1 _ _ _ _ _
   | exact LeO.none _
   | refine LeO.ite ?_ ?_
   | refine LeO.bind ?_ (fun _ => ?_)
theorem maskref1_Split.mono : ∀ a0 k, LeO (maskref1_Split.f k a0) (maskref1_Split.f (k + 1) a0) := by
 intro a0 k
 obtain ⟨ih0, ih1⟩ := maskref1_Split.mono_l k
 unfold maskref1_Split.f
 repeat' first
   | (with_reducible exact ih0 _ _ _ _)
   | (with_reducible exact ih1 _ _ _ _ _)
   | (with_reducible exact LeO.refl _)
   | (with_reducible exact LeO.none _)
   | (with_reducible refine LeO.ite ?_ ?_)
   | (with_reducible refine LeO.bind ?_ (fun _ => ?_))
   | exact ih0 _ _ _ _
   | exact ih1 _ _ _ _ _
   | exact LeO.none _
   | refine LeO.ite ?_ ?_
   | refine LeO.bind ?_ (fun _ => ?_)
set_option maxHeartbeats 8000000 in
set_option maxRecDepth 100000 in
theorem maskref1_Split.calls (k : Nat) (a0 : ByteArray) (r : List ByteArray) (w : World) (h : maskref1_Split.f k a0 = some r) :
  Calls Tryd.prog 52 #[.string a0] w fun e w' => ∃ v0_ : Value, e = .returned (v0_) ∧ Kd.R Kd.string 9 w' w.heap.size (fun _ => True) v0_ r ∧ Below w.heap.size w w' := by
 have HB := Aside0.mk (Below.refl w.heap.size w)
 have H : (maskref1_Split.l0 k a0 ([] : List ByteArray) 0 0) = some r := h
 clear h
 have H' := Aside0.mk H
 clear H
 go_enter Tryd.func52, Tryd.ntmps52
 go_wp2
 go_loopg [3, 4, 5] k (fun kq v3 v4 v5 w' => ∃ (x3_1 : List ByteArray) (x4_1 : Int) (x5_1 : Int), v4 = .int .i64 x4_1 ∧ v5 = .int .i64 x5_1 ∧ Aside0 (maskref1_Split.l0 kq a0 x3_1 x4_1 x5_1 = some r) ∧ Aside0 (kq ≤ k) ∧ Aside0 (Kd.R Kd.string 9 w' w.heap.size (fun _ => True) v3 x3_1) ∧ Aside0 (Below w.heap.size w w'))
 case atStart => exact ⟨(([] : List ByteArray)), (0), (0), (by first | rfl | (simp; done) | (simp [*]; done)), (by first | rfl | (simp; done) | (simp [*]; done)), H', ⟨Nat.le_refl _⟩, ⟨by first | exact Kd.R_nil _ _ _ _ _ | exact Kd.N_nil _ _ _ _ _ | exact Kd.V_nil _ _ _ _ _ | exact Kd.Q_nil _ _ _ _ _ | exact Kd.S_nil _ _ _ _ _⟩, ⟨by repeat (first | (with_reducible first | exact HB.out | apply below_alloc | apply pw_below_drewN | apply below_drew1) | exact HB.out)⟩⟩
 case round =>
  clear H'
  obtain ⟨x3_1, x4_1, x5_1, rfl, rfl, HA, HK1, HO_3, HB⟩ := hrel
  cases gk with
  | zero => exact absurd HA.out (by simp [maskref1_Split.l0])
  | succ k1 =>
   have H := HA.out
   clear HA
   simp only [maskref1_Split.l0] at H
   by_cases c2 : x5_1 ≤ (a0.size : Int)
   ·rw [if_pos c2] at H
    have c2b0 : decide (x5_1 ≤ (a0.size : Int)) = true := decide_eq_true c2
    clear c2
    have HC3 := Aside0.mk H
    clear H
    go_upto_region 6 with (fail)
    go_cut [21] (fun v21 wc => ∃ (kq : Nat) (x21_2 : Bool), v21 = .bool x21_2 ∧ Aside0 (maskref1_Split.j1 kq a0 x3_1 x4_1 x5_1 x21_2 = some r) ∧ Aside0 (kq ≤ k1) ∧ Aside0 (Kd.R Kd.string 9 wc w.heap.size (fun _ => True) u3 x3_1) ∧ Aside0 (Below w.heap.size w wc))
    case first =>
     have H := HC3.out
     clear HC3
     by_cases c4 : x5_1 = (a0.size : Int)
     ·rw [if_pos c4] at H
      have c4b0 : (x5_1 == (a0.size : Int)) = true := beq_iff_eq.mpr c4
      have c4b1 : (x5_1 != (a0.size : Int)) = false := bne_eq_false_iff_eq.mpr c4
      clear c4
      (first | rw [c4b0] | (simp only [i64_w, i32_w]; rw [c4b0]) | skip)
      have H' := Aside0.mk H
      clear H
      go_wp2
      go_meet
      case rel => exact ⟨_, (true), (by first | rfl | (simp; done) | (simp [*]; done)), H', ⟨by have := HK1.out; first | omega | exact Nat.le_refl _⟩, ⟨by (with_reducible repeat (first | apply Kd.R_alloc | apply Kd.R_drewN | apply Kd.R_drew)); exact HO_3.out⟩, ⟨by repeat (first | (with_reducible first | exact HB.out | apply below_alloc | apply pw_below_drewN | apply below_drew1) | exact HB.out)⟩⟩
     ·rw [if_neg c4] at H
      have c4b0 : (x5_1 == (a0.size : Int)) = false := beq_eq_false_iff_ne.mpr c4
      have c4b1 : (x5_1 != (a0.size : Int)) = true := bne_iff_ne.mpr c4
      (first | rw [c4b0] | (simp only [i64_w, i32_w]; rw [c4b0]) | skip)
      by_cases c5 : 0 ≤ x5_1
      ·rw [if_pos c5] at H
       have c5b0 : decide (0 ≤ x5_1) = true := decide_eq_true c5
       clear c5
       by_cases c6 : x5_1 < (a0.size : Int)
       ·rw [if_pos c6] at H
        have c6b0 : decide (x5_1 < (a0.size : Int)) = true := decide_eq_true c6
        clear c6
        have H' := Aside0.mk H
        clear H
        have p7 : 0 ≤ (x5_1 : Int) := of_decide_eq_true (by first | (with_reducible assumption) | assumption)
        have q7 : x5_1 < (a0.size : Int) := of_decide_eq_true (by first | (with_reducible assumption) | assumption)
        have hx7 := bt_at a0 x5_1
        replace p7 := eq_true p7
        replace q7 := eq_true q7
        go_wp2
        go_meet
        case rel => exact ⟨_, (((bt a0 x5_1) == 32)), (by first | rfl | (simp; done) | (simp [*]; done)), H', ⟨by have := HK1.out; first | omega | exact Nat.le_refl _⟩, ⟨by (with_reducible repeat (first | apply Kd.R_alloc | apply Kd.R_drewN | apply Kd.R_drew)); exact HO_3.out⟩, ⟨by repeat (first | (with_reducible first | exact HB.out | apply below_alloc | apply pw_below_drewN | apply below_drew1) | exact HB.out)⟩⟩
       ·rw [if_neg c6] at H
        exact absurd H (by simp)
      ·rw [if_neg c5] at H
       exact absurd H (by simp)
    case rest =>
     clear HC3
     (try clear c2); (try clear c2b0); (try clear p2); (try clear c4); (try clear c4b0); (try clear c4b1); (try clear c5); (try clear c5b0); (try clear c6); (try clear c6b0); (try clear p7); (try clear q7); (try clear hx7); (try clear p7); (try clear q7)
     obtain ⟨kq, x21_2, rfl, HA, HJ2, HO_3, HB⟩ := hcut
     cases kq with
     | zero => exact absurd HA.out (by simp [maskref1_Split.j1])
     | succ kj2 =>
      have H := HA.out
      clear HA
      simp only [maskref1_Split.j1] at H
      by_cases c8 : x21_2 = true
      ·subst c8
       have H1 : (if x5_1 > x4_1 then (if 0 ≤ x4_1 then (if x4_1 ≤ x5_1 then (if x5_1 ≤ (a0.size : Int) then (if x3_1.length < 8796093022208 then (maskref1_Split.l0 kj2 a0 (x3_1 ++ [a0.extract (x4_1 : Int).toNat (x5_1 : Int).toNat]) (wrap64 (x5_1 + 1)) (wrap64 (x5_1 + 1))) else (none)) else (none)) else (none)) else (none)) else (maskref1_Split.l0 kj2 a0 x3_1 (wrap64 (x5_1 + 1)) (wrap64 (x5_1 + 1)))) = some r := by rw [if_pos rfl] at H; exact H
       clear H
       have H := H1
       clear H1
       by_cases c9 : x5_1 > x4_1
       ·rw [if_pos c9] at H
        have c9b0 : decide (x4_1 < x5_1) = true := decide_eq_true c9
        clear c9
        by_cases c10 : 0 ≤ x4_1
        ·rw [if_pos c10] at H
         have c10b0 := eq_true c10
         have c10b1 : decide (0 ≤ x4_1) = true := decide_eq_true c10
         clear c10
         by_cases c11 : x4_1 ≤ x5_1
         ·rw [if_pos c11] at H
          have c11b0 := eq_true c11
          have c11b1 : decide (x4_1 ≤ x5_1) = true := decide_eq_true c11
          clear c11
          by_cases c12 : x5_1 ≤ (a0.size : Int)
          ·rw [if_pos c12] at H
           have c12b0 := eq_true c12
           have c12b1 : decide (x5_1 ≤ (a0.size : Int)) = true := decide_eq_true c12
           clear c12
           by_cases c13 : x3_1.length < 8796093022208
           ·rw [if_pos c13] at H
            have LMc13 := Aside0.mk c13
            clear c13
            obtain ⟨y116, hy116⟩ : ∃ y_ : List ByteArray, y_ = (x3_1 ++ [a0.extract (x4_1 : Int).toNat (x5_1 : Int).toNat]) := ⟨_, rfl⟩
            replace H : (maskref1_Split.l0 kj2 a0 y116 (wrap64 (x5_1 + 1)) (wrap64 (x5_1 + 1))) = some r := by first | (rw [hy116]; with_reducible exact H) | (have H2_ := (Option.bind_some _ _).symm.trans H; rw [hy116]; with_reducible exact H2_) | (have H2_ := (Option.bind_some _ _).symm.trans H; with_reducible exact H2_) | with_reducible exact H | (rw [hy116]; exact H) | exact H
            have Ny116 := Aside0.mk hy116
            clear hy116
            have H' := Aside0.mk H
            clear H
            go_wp2_with (first | ((with_reducible refine gate_builtin (b := .append) (xs := #[.tmp 25, .tmp 30]) rfl ?_); at_builtin; refine Kd.R_append Kd.string (w0 := w) w.heap.size rfl (.tmp 25) (.tmp 30) 43 9 (.string ⟨#[]⟩) 16 rfl Tryd.underlying43 info9 rfl (by decide) (by omega) u3 x3_1 (a0.extract (x4_1 : Int).toNat (x5_1 : Int).toNat) [.string (a0.extract (x4_1 : Int).toNat (x5_1 : Int).toNat)] (fun _ => True) (fun _ => False) rfl rfl ?aP (fun _ hk => hk.elim) ?aF ?aO ?aB ?aS ?aL ?_; (case aP => exact rfl); (case aB => exact (by repeat (first | (with_reducible first | exact HB.out | apply below_alloc | apply pw_below_drewN | apply below_drew1) | exact HB.out))); (case aF => exact (fun _ _ => trivial)); (case aO => exact (by (with_reducible repeat (first | apply Kd.R_alloc | apply Kd.R_drewN | apply Kd.R_drew)); exact HO_3.out)); (case aS => exact (below_size (by repeat (first | (with_reducible first | exact HB.out | apply below_alloc | apply pw_below_drewN | apply below_drew1) | exact HB.out)))); (case aL => have := LMc13.out; omega); intro v117 w14 ho hb hg hat; rw [← Ny116.out] at ho; have n0_ := Aside0.mk (hb); have n1_ := Aside0.mk (ho); clear HB; clear HO_3; have HB := n0_; have HO118 := n1_; clear n0_ n1_; clear ho hb hg hat))
            go_roundg kj2
            case measure => have := HK1.out; have := HJ2.out; omega
            case rel => exact ⟨(y116), (wrap64 (x5_1 + 1)), (wrap64 (x5_1 + 1)), (by first | rfl | (simp; done) | (simp [*]; done)), (by first | rfl | (simp; done) | (simp [*]; done)), H', ⟨by have := HK1.out; have := HJ2.out; omega⟩, ⟨by (with_reducible repeat (first | apply Kd.R_alloc | apply Kd.R_drewN | apply Kd.R_drew)); exact HO118.out⟩, ⟨by repeat (first | (with_reducible first | exact HB.out | apply below_alloc | apply pw_below_drewN | apply below_drew1) | exact HB.out)⟩⟩
           ·rw [if_neg c13] at H
            exact absurd H (by simp)
          ·rw [if_neg c12] at H
           exact absurd H (by simp)
         ·rw [if_neg c11] at H
          exact absurd H (by simp)
        ·rw [if_neg c10] at H
         exact absurd H (by simp)
       ·rw [if_neg c9] at H
        have c9b0 : decide (x4_1 < x5_1) = false := decide_eq_false c9
        clear c9
        have H' := Aside0.mk H
        clear H
        go_wp2
        go_roundg kj2
        case measure => have := HK1.out; have := HJ2.out; omega
        case rel => exact ⟨(x3_1), (wrap64 (x5_1 + 1)), (wrap64 (x5_1 + 1)), (by first | rfl | (simp; done) | (simp [*]; done)), (by first | rfl | (simp; done) | (simp [*]; done)), H', ⟨by have := HK1.out; have := HJ2.out; omega⟩, ⟨by (with_reducible repeat (first | apply Kd.R_alloc | apply Kd.R_drewN | apply Kd.R_drew)); exact HO_3.out⟩, ⟨by repeat (first | (with_reducible first | exact HB.out | apply below_alloc | apply pw_below_drewN | apply below_drew1) | exact HB.out)⟩⟩
      ·replace c8 := Bool.eq_false_iff.mpr c8
       subst c8
       have H1 : (maskref1_Split.l0 kj2 a0 x3_1 x4_1 (wrap64 (x5_1 + 1))) = some r := by rw [if_neg (show ¬ (false = true) by decide)] at H; exact H
       clear H
       have H := H1
       clear H1
       have H' := Aside0.mk H
       clear H
       go_wp2
       go_roundg kj2
       case measure => have := HK1.out; have := HJ2.out; omega
       case rel => exact ⟨(x3_1), (x4_1), (wrap64 (x5_1 + 1)), (by first | rfl | (simp; done) | (simp [*]; done)), (by first | rfl | (simp; done) | (simp [*]; done)), H', ⟨by have := HK1.out; have := HJ2.out; omega⟩, ⟨by (with_reducible repeat (first | apply Kd.R_alloc | apply Kd.R_drewN | apply Kd.R_drew)); exact HO_3.out⟩, ⟨by repeat (first | (with_reducible first | exact HB.out | apply below_alloc | apply pw_below_drewN | apply below_drew1) | exact HB.out)⟩⟩
   ·rw [if_neg c2] at H
    have c2b0 : decide (x5_1 ≤ (a0.size : Int)) = false := decide_eq_false c2
    clear c2
    obtain rfl := Option.some.inj H
    go_wp2
    go_ret
    exact ⟨_, by first | rfl | (simp [errW_none, errW_some] <;> rfl) | (simp [*, errW_none, errW_some] <;> rfl), by (with_reducible repeat (first | apply Kd.R_alloc | apply Kd.R_drewN | apply Kd.R_drew)); exact HO_3.out, by repeat (first | (with_reducible first | exact HB.out | apply below_alloc | apply pw_below_drewN | apply below_drew1) | exact HB.out)⟩
end Go.Proofs.YtlamgdibnnmbmaaDoor.PLex
end
section
namespace Go.Proofs.YtlamgdibnnmbmaaDoor.PLex
open Go.RowKit Go.Proofs.YtlamgdibnnmbmaaDoorW.PrintWords Go.Proofs.YtlamgdibnnmbmaaDoorW.PrintLast Go.Proofs.YtlamgdibnnmbmaaDoorW.PrintMore
attribute [local go_sem] max2_int min2_int max_two min_two max_three min_three max_four min_four
set_option linter.unusedVariables false
set_option linter.unusedSimpArgs false
def maskref1_LexWords.f (k : Nat)  : Option (List ByteArray) := (maskref1_Split.f k (⟨#[32, 97, 102, 116, 101, 114, 32, 97, 108, 119, 97, 121, 115, 32, 97, 110, 100, 32, 97, 115, 115, 105, 103, 110, 32, 99, 97, 115, 101, 32, 99, 97, 115, 101, 120, 32, 99, 97, 115, 101, 122, 32, 99, 97, 116, 32, 99, 104, 101, 99, 107, 32, 99, 111, 109, 98, 32, 99, 111, 110, 115, 116, 32, 100, 101, 102, 97, 117, 108, 116, 32, 100, 101, 108, 97, 121, 32, 100, 111, 119, 110, 116, 111, 32, 101, 108, 115, 101, 32, 101, 110, 117, 109, 32, 102, 97, 108, 108, 32, 102, 111, 114, 32, 102, 117, 110, 99, 116, 105, 111, 110, 32, 105, 102, 32, 105, 110, 32, 105, 110, 105, 116, 105, 97, 108, 32, 105, 110, 115, 116, 32, 105, 110, 116, 101, 114, 102, 97, 99, 101, 32, 108, 105, 110, 107, 32, 108, 111, 103, 32, 109, 111, 100, 117, 108, 101, 32, 109, 111, 110, 105, 116, 111, 114, 32, 110, 111, 119, 32, 111, 110, 32, 111, 114, 32, 111, 117, 116, 32, 112, 114, 111, 112, 101, 114, 116, 121, 32, 114, 101, 112, 32, 114, 101, 112, 101, 97, 116, 32, 114, 105, 115, 101, 32, 115, 101, 113, 32, 115, 104, 111, 119, 32, 115, 105, 103, 110, 101, 100, 32, 115, 105, 122, 101, 32, 115, 116, 111, 112, 32, 115, 116, 114, 111, 98, 101, 32, 115, 116, 114, 117, 99, 116, 32, 116, 104, 101, 110, 32, 116, 105, 109, 101, 115, 32, 116, 111, 32, 117, 110, 115, 105, 103, 110, 101, 100, 32, 118, 97, 114, 32, 118, 105, 101, 119, 32, 119, 97, 105, 116, 32, 119, 104, 105, 108, 101, 32, 119, 105, 100, 116, 104, 32, 119, 105, 114, 101, 32, 119, 114, 105, 116, 101, 32]⟩ : ByteArray)).bind fun t119 => (some t119)
theorem maskref1_LexWords.mono : ∀ k, LeO (maskref1_LexWords.f k ) (maskref1_LexWords.f (k + 1) ) := by
 intro  k
 unfold maskref1_LexWords.f
 repeat' first
   | (with_reducible exact maskref1_Split.mono _ _)
   | (with_reducible exact LeO.refl _)
   | (with_reducible exact LeO.none _)
   | (with_reducible refine LeO.ite ?_ ?_)
   | (with_reducible refine LeO.bind ?_ (fun _ => ?_))
   | exact maskref1_Split.mono _ _
   | exact LeO.none _
   | refine LeO.ite ?_ ?_
   | refine LeO.bind ?_ (fun _ => ?_)
set_option maxHeartbeats 8000000 in
set_option maxRecDepth 100000 in
theorem maskref1_LexWords.calls (k : Nat)  (r : List ByteArray) (w : World) (h : maskref1_LexWords.f k  = some r) :
  Calls Tryd.prog 27 #[] w fun e w' => ∃ v0_ : Value, e = .returned (v0_) ∧ Kd.R Kd.string 9 w' w.heap.size (fun _ => True) v0_ r ∧ Below w.heap.size w w' := by
 have HB := Aside0.mk (Below.refl w.heap.size w)
 have H : ((maskref1_Split.f k (⟨#[32, 97, 102, 116, 101, 114, 32, 97, 108, 119, 97, 121, 115, 32, 97, 110, 100, 32, 97, 115, 115, 105, 103, 110, 32, 99, 97, 115, 101, 32, 99, 97, 115, 101, 120, 32, 99, 97, 115, 101, 122, 32, 99, 97, 116, 32, 99, 104, 101, 99, 107, 32, 99, 111, 109, 98, 32, 99, 111, 110, 115, 116, 32, 100, 101, 102, 97, 117, 108, 116, 32, 100, 101, 108, 97, 121, 32, 100, 111, 119, 110, 116, 111, 32, 101, 108, 115, 101, 32, 101, 110, 117, 109, 32, 102, 97, 108, 108, 32, 102, 111, 114, 32, 102, 117, 110, 99, 116, 105, 111, 110, 32, 105, 102, 32, 105, 110, 32, 105, 110, 105, 116, 105, 97, 108, 32, 105, 110, 115, 116, 32, 105, 110, 116, 101, 114, 102, 97, 99, 101, 32, 108, 105, 110, 107, 32, 108, 111, 103, 32, 109, 111, 100, 117, 108, 101, 32, 109, 111, 110, 105, 116, 111, 114, 32, 110, 111, 119, 32, 111, 110, 32, 111, 114, 32, 111, 117, 116, 32, 112, 114, 111, 112, 101, 114, 116, 121, 32, 114, 101, 112, 32, 114, 101, 112, 101, 97, 116, 32, 114, 105, 115, 101, 32, 115, 101, 113, 32, 115, 104, 111, 119, 32, 115, 105, 103, 110, 101, 100, 32, 115, 105, 122, 101, 32, 115, 116, 111, 112, 32, 115, 116, 114, 111, 98, 101, 32, 115, 116, 114, 117, 99, 116, 32, 116, 104, 101, 110, 32, 116, 105, 109, 101, 115, 32, 116, 111, 32, 117, 110, 115, 105, 103, 110, 101, 100, 32, 118, 97, 114, 32, 118, 105, 101, 119, 32, 119, 97, 105, 116, 32, 119, 104, 105, 108, 101, 32, 119, 105, 100, 116, 104, 32, 119, 105, 114, 101, 32, 119, 114, 105, 116, 101, 32]⟩ : ByteArray)).bind fun t119 => (some t119)) = some r := h
 clear h
 replace H := Option.bind_eq_some_iff.mp H
 obtain ⟨t119, A10, H⟩ := H
 replace H : (some t119) = some r := H
 have A1 := Aside0.mk A10
 clear A10
 obtain rfl := Option.some.inj H
 go_enter Tryd.func27, Tryd.ntmps27
 go_wp2_with (first | ((with_reducible refine gate_callee (f := 52) rfl ?_); refine goesL_ (some 1) rfl rfl Tryd.func52 (by kernel_rfl) rfl #[.string (⟨#[32, 97, 102, 116, 101, 114, 32, 97, 108, 119, 97, 121, 115, 32, 97, 110, 100, 32, 97, 115, 115, 105, 103, 110, 32, 99, 97, 115, 101, 32, 99, 97, 115, 101, 120, 32, 99, 97, 115, 101, 122, 32, 99, 97, 116, 32, 99, 104, 101, 99, 107, 32, 99, 111, 109, 98, 32, 99, 111, 110, 115, 116, 32, 100, 101, 102, 97, 117, 108, 116, 32, 100, 101, 108, 97, 121, 32, 100, 111, 119, 110, 116, 111, 32, 101, 108, 115, 101, 32, 101, 110, 117, 109, 32, 102, 97, 108, 108, 32, 102, 111, 114, 32, 102, 117, 110, 99, 116, 105, 111, 110, 32, 105, 102, 32, 105, 110, 32, 105, 110, 105, 116, 105, 97, 108, 32, 105, 110, 115, 116, 32, 105, 110, 116, 101, 114, 102, 97, 99, 101, 32, 108, 105, 110, 107, 32, 108, 111, 103, 32, 109, 111, 100, 117, 108, 101, 32, 109, 111, 110, 105, 116, 111, 114, 32, 110, 111, 119, 32, 111, 110, 32, 111, 114, 32, 111, 117, 116, 32, 112, 114, 111, 112, 101, 114, 116, 121, 32, 114, 101, 112, 32, 114, 101, 112, 101, 97, 116, 32, 114, 105, 115, 101, 32, 115, 101, 113, 32, 115, 104, 111, 119, 32, 115, 105, 103, 110, 101, 100, 32, 115, 105, 122, 101, 32, 115, 116, 111, 112, 32, 115, 116, 114, 111, 98, 101, 32, 115, 116, 114, 117, 99, 116, 32, 116, 104, 101, 110, 32, 116, 105, 109, 101, 115, 32, 116, 111, 32, 117, 110, 115, 105, 103, 110, 101, 100, 32, 118, 97, 114, 32, 118, 105, 101, 119, 32, 119, 97, 105, 116, 32, 119, 104, 105, 108, 101, 32, 119, 105, 100, 116, 104, 32, 119, 105, 114, 101, 32, 119, 114, 105, 116, 101, 32]⟩ : ByteArray)] rfl (by (try simp only [List.map_toArray, List.map_cons, List.map_nil]); first | done | rfl | (simp only [List.length_drop, List.length_take]; rfl)) ?_; (with_reducible refine (maskref1_Split.calls k (⟨#[32, 97, 102, 116, 101, 114, 32, 97, 108, 119, 97, 121, 115, 32, 97, 110, 100, 32, 97, 115, 115, 105, 103, 110, 32, 99, 97, 115, 101, 32, 99, 97, 115, 101, 120, 32, 99, 97, 115, 101, 122, 32, 99, 97, 116, 32, 99, 104, 101, 99, 107, 32, 99, 111, 109, 98, 32, 99, 111, 110, 115, 116, 32, 100, 101, 102, 97, 117, 108, 116, 32, 100, 101, 108, 97, 121, 32, 100, 111, 119, 110, 116, 111, 32, 101, 108, 115, 101, 32, 101, 110, 117, 109, 32, 102, 97, 108, 108, 32, 102, 111, 114, 32, 102, 117, 110, 99, 116, 105, 111, 110, 32, 105, 102, 32, 105, 110, 32, 105, 110, 105, 116, 105, 97, 108, 32, 105, 110, 115, 116, 32, 105, 110, 116, 101, 114, 102, 97, 99, 101, 32, 108, 105, 110, 107, 32, 108, 111, 103, 32, 109, 111, 100, 117, 108, 101, 32, 109, 111, 110, 105, 116, 111, 114, 32, 110, 111, 119, 32, 111, 110, 32, 111, 114, 32, 111, 117, 116, 32, 112, 114, 111, 112, 101, 114, 116, 121, 32, 114, 101, 112, 32, 114, 101, 112, 101, 97, 116, 32, 114, 105, 115, 101, 32, 115, 101, 113, 32, 115, 104, 111, 119, 32, 115, 105, 103, 110, 101, 100, 32, 115, 105, 122, 101, 32, 115, 116, 111, 112, 32, 115, 116, 114, 111, 98, 101, 32, 115, 116, 114, 117, 99, 116, 32, 116, 104, 101, 110, 32, 116, 105, 109, 101, 115, 32, 116, 111, 32, 117, 110, 115, 105, 103, 110, 101, 100, 32, 118, 97, 114, 32, 118, 105, 101, 119, 32, 119, 97, 105, 116, 32, 119, 104, 105, 108, 101, 32, 119, 105, 100, 116, 104, 32, 119, 105, 114, 101, 32, 119, 114, 105, 116, 101, 32]⟩ : ByteArray) t119 _ A1.out).mono ?_); rintro e w2 ⟨v120, rfl, ho0, hb⟩; refine ⟨_, rfl, ?_⟩; have n0_ := Aside0.mk (Kd.R_lower ho0 (below_size (by repeat (first | (with_reducible first | exact HB.out | apply below_alloc | apply pw_below_drewN | apply below_drew1) | exact HB.out)))); have n1_ := Aside0.mk (below_step (by repeat (first | (with_reducible first | exact HB.out | apply below_alloc | apply pw_below_drewN | apply below_drew1) | exact HB.out)) hb); clear HB; have HO121 := n0_; have HB := n1_; clear n0_ n1_; (try clear hb); (try clear hb2); (try clear hk); (try clear hi); (try clear ho0)))
 go_ret
 exact ⟨_, by first | rfl | (simp [errW_none, errW_some] <;> rfl) | (simp [*, errW_none, errW_some] <;> rfl), by (with_reducible repeat (first | apply Kd.R_alloc | apply Kd.R_drewN | apply Kd.R_drew)); exact HO121.out, by repeat (first | (with_reducible first | exact HB.out | apply below_alloc | apply pw_below_drewN | apply below_drew1) | exact HB.out)⟩
end Go.Proofs.YtlamgdibnnmbmaaDoor.PLex
end
section
namespace Go.Proofs.YtlamgdibnnmbmaaDoor.PLex
open Go.RowKit Go.Proofs.YtlamgdibnnmbmaaDoorW.PrintWords Go.Proofs.YtlamgdibnnmbmaaDoorW.PrintLast Go.Proofs.YtlamgdibnnmbmaaDoorW.PrintMore
attribute [local go_sem] max2_int min2_int max_two min_two max_three min_three max_four min_four
set_option linter.unusedVariables false
set_option linter.unusedSimpArgs false
def maskref1_LexSigns.f (k : Nat)  : Option (List ByteArray) := (maskref1_Split.f k (⟨#[33, 61, 61, 32, 61, 61, 61, 32, 62, 62, 62, 32, 33, 61, 32, 38, 38, 32, 43, 58, 32, 45, 62, 32, 60, 60, 32, 60, 61, 32, 61, 61, 32, 61, 62, 32, 62, 61, 32, 62, 62, 32, 124, 124, 32, 33, 32, 35, 32, 37, 32, 38, 32, 40, 32, 41, 32, 42, 32, 43, 32, 44, 32, 45, 32, 46, 32, 47, 32, 58, 32, 59, 32, 60, 32, 61, 32, 62, 32, 63, 32, 91, 32, 93, 32, 94, 32, 123, 32, 124, 32, 125, 32, 126]⟩ : ByteArray)).bind fun t125 => (some t125)
theorem maskref1_LexSigns.mono : ∀ k, LeO (maskref1_LexSigns.f k ) (maskref1_LexSigns.f (k + 1) ) := by
 intro  k
 unfold maskref1_LexSigns.f
 repeat' first
   | (with_reducible exact maskref1_Split.mono _ _)
   | (with_reducible exact LeO.refl _)
   | (with_reducible exact LeO.none _)
   | (with_reducible refine LeO.ite ?_ ?_)
   | (with_reducible refine LeO.bind ?_ (fun _ => ?_))
   | exact maskref1_Split.mono _ _
   | exact LeO.none _
   | refine LeO.ite ?_ ?_
   | refine LeO.bind ?_ (fun _ => ?_)
set_option maxHeartbeats 8000000 in
set_option maxRecDepth 100000 in
theorem maskref1_LexSigns.calls (k : Nat)  (r : List ByteArray) (w : World) (h : maskref1_LexSigns.f k  = some r) :
  Calls Tryd.prog 29 #[] w fun e w' => ∃ v0_ : Value, e = .returned (v0_) ∧ Kd.R Kd.string 9 w' w.heap.size (fun _ => True) v0_ r ∧ Below w.heap.size w w' := by
 have HB := Aside0.mk (Below.refl w.heap.size w)
 have H : ((maskref1_Split.f k (⟨#[33, 61, 61, 32, 61, 61, 61, 32, 62, 62, 62, 32, 33, 61, 32, 38, 38, 32, 43, 58, 32, 45, 62, 32, 60, 60, 32, 60, 61, 32, 61, 61, 32, 61, 62, 32, 62, 61, 32, 62, 62, 32, 124, 124, 32, 33, 32, 35, 32, 37, 32, 38, 32, 40, 32, 41, 32, 42, 32, 43, 32, 44, 32, 45, 32, 46, 32, 47, 32, 58, 32, 59, 32, 60, 32, 61, 32, 62, 32, 63, 32, 91, 32, 93, 32, 94, 32, 123, 32, 124, 32, 125, 32, 126]⟩ : ByteArray)).bind fun t125 => (some t125)) = some r := h
 clear h
 replace H := Option.bind_eq_some_iff.mp H
 obtain ⟨t125, A10, H⟩ := H
 replace H : (some t125) = some r := H
 have A1 := Aside0.mk A10
 clear A10
 obtain rfl := Option.some.inj H
 go_enter Tryd.func29, Tryd.ntmps29
 go_wp2_with (first | ((with_reducible refine gate_callee (f := 52) rfl ?_); refine goesL_ (some 1) rfl rfl Tryd.func52 (by kernel_rfl) rfl #[.string (⟨#[33, 61, 61, 32, 61, 61, 61, 32, 62, 62, 62, 32, 33, 61, 32, 38, 38, 32, 43, 58, 32, 45, 62, 32, 60, 60, 32, 60, 61, 32, 61, 61, 32, 61, 62, 32, 62, 61, 32, 62, 62, 32, 124, 124, 32, 33, 32, 35, 32, 37, 32, 38, 32, 40, 32, 41, 32, 42, 32, 43, 32, 44, 32, 45, 32, 46, 32, 47, 32, 58, 32, 59, 32, 60, 32, 61, 32, 62, 32, 63, 32, 91, 32, 93, 32, 94, 32, 123, 32, 124, 32, 125, 32, 126]⟩ : ByteArray)] rfl (by (try simp only [List.map_toArray, List.map_cons, List.map_nil]); first | done | rfl | (simp only [List.length_drop, List.length_take]; rfl)) ?_; (with_reducible refine (maskref1_Split.calls k (⟨#[33, 61, 61, 32, 61, 61, 61, 32, 62, 62, 62, 32, 33, 61, 32, 38, 38, 32, 43, 58, 32, 45, 62, 32, 60, 60, 32, 60, 61, 32, 61, 61, 32, 61, 62, 32, 62, 61, 32, 62, 62, 32, 124, 124, 32, 33, 32, 35, 32, 37, 32, 38, 32, 40, 32, 41, 32, 42, 32, 43, 32, 44, 32, 45, 32, 46, 32, 47, 32, 58, 32, 59, 32, 60, 32, 61, 32, 62, 32, 63, 32, 91, 32, 93, 32, 94, 32, 123, 32, 124, 32, 125, 32, 126]⟩ : ByteArray) t125 _ A1.out).mono ?_); rintro e w2 ⟨v126, rfl, ho0, hb⟩; refine ⟨_, rfl, ?_⟩; have n0_ := Aside0.mk (Kd.R_lower ho0 (below_size (by repeat (first | (with_reducible first | exact HB.out | apply below_alloc | apply pw_below_drewN | apply below_drew1) | exact HB.out)))); have n1_ := Aside0.mk (below_step (by repeat (first | (with_reducible first | exact HB.out | apply below_alloc | apply pw_below_drewN | apply below_drew1) | exact HB.out)) hb); clear HB; have HO127 := n0_; have HB := n1_; clear n0_ n1_; (try clear hb); (try clear hb2); (try clear hk); (try clear hi); (try clear ho0)))
 go_ret
 exact ⟨_, by first | rfl | (simp [errW_none, errW_some] <;> rfl) | (simp [*, errW_none, errW_some] <;> rfl), by (with_reducible repeat (first | apply Kd.R_alloc | apply Kd.R_drewN | apply Kd.R_drew)); exact HO127.out, by repeat (first | (with_reducible first | exact HB.out | apply below_alloc | apply pw_below_drewN | apply below_drew1) | exact HB.out)⟩
end Go.Proofs.YtlamgdibnnmbmaaDoor.PLex
end
section
namespace Go.Proofs.YtlamgdibnnmbmaaDoor.PLex
open Go.RowKit Go.Proofs.YtlamgdibnnmbmaaDoorW.PrintWords Go.Proofs.YtlamgdibnnmbmaaDoorW.PrintLast Go.Proofs.YtlamgdibnnmbmaaDoorW.PrintMore
attribute [local go_sem] max2_int min2_int max_two min_two max_three min_three max_four min_four
set_option linter.unusedVariables false
set_option linter.unusedSimpArgs false
def masklaw1_LexNames.j0 : Nat → ByteArray → Bool → Option (Bool)
 | 0, _, _ => none
 | k + 1, x0, x9 => if x9 = true then ((masklaw1_scanned.f k).bind fun t160 => (some t160)) else ((lex_Words.f).bind fun t161 => ((maskref1_LexWords.f k).bind fun t164 => ((slices_Equal_string_string.f k t161 t164).bind fun t167 => (if t167 = true then ((lex_Signs.f).bind fun t168 => ((maskref1_LexSigns.f k).bind fun t171 => ((slices_Equal_string_string.f k t168 t171).bind fun t174 => (if t174 = true then ((lex_Plain.f k x0).bind fun t175 => ((maskref1_PlainName.f k x0).bind fun t176 => (if (t175 == t176) = true then ((lex_Quoted.f k x0).bind fun t177 => ((maskref1_QuotedName.f k x0).bind fun t178 => (if (t177 == t178) = true then ((lex_Quote.f x0).bind fun t179 => ((maskref1_StringToken.f k x0).bind fun t180 => (some (t179.toList == t180.toList)))) else (some false)))) else (some false)))) else (some false))))) else (some false)))))
def masklaw1_LexNames.f (k : Nat) (a0 : ByteArray) : Option (Bool) := (masklaw1_scanned.f k).bind fun t159 => (if t159 = true then (masklaw1_LexNames.j0 k a0 (decide ((a0.size : Int) > 1000))) else (masklaw1_LexNames.j0 k a0 true))
set_option maxHeartbeats 8000000 in
set_option maxRecDepth 100000 in
theorem masklaw1_LexNames.calls (k : Nat) (a0 : ByteArray) (r : Bool) (w : World) (h : masklaw1_LexNames.f k a0 = some r) (hG : Glob w) :
  Calls Tryd.prog 6 #[.string a0] w fun e w' => e = .returned (.bool r) ∧ Below w.heap.size w w' := by
 have HG := Aside0.mk hG
 clear hG
 have HB := Aside0.mk (Below.refl w.heap.size w)
 have H : ((masklaw1_scanned.f k).bind fun t159 => (if t159 = true then (masklaw1_LexNames.j0 k a0 (decide ((a0.size : Int) > 1000))) else (masklaw1_LexNames.j0 k a0 true))) = some r := h
 clear h
 have HC2 := Aside0.mk H
 clear H
 go_enter Tryd.func6, Tryd.ntmps6
 go_upto_region 1 with (fail)
 go_cut [9] (fun v9 wc => ∃ (kq : Nat) (x9_1 : Bool), v9 = .bool x9_1 ∧ Aside0 (masklaw1_LexNames.j0 kq a0 x9_1 = some r) ∧ Aside0 (kq ≤ k) ∧ Aside0 (Below w.heap.size w wc))
 case first =>
  have H := HC2.out
  clear HC2
  replace H := Option.bind_eq_some_iff.mp H
  obtain ⟨t159, A30, H⟩ := H
  replace H : (if t159 = true then (masklaw1_LexNames.j0 k a0 (decide ((a0.size : Int) > 1000))) else (masklaw1_LexNames.j0 k a0 true)) = some r := H
  have A3 := Aside0.mk A30
  clear A30
  by_cases c4 : t159 = true
  ·subst c4
   have H1 : (masklaw1_LexNames.j0 k a0 (decide ((a0.size : Int) > 1000))) = some r := by rw [if_pos rfl] at H; exact H
   clear H
   have H := H1
   clear H1
   have H' := Aside0.mk H
   clear H
   go_wp2_with (first | ((with_reducible refine gate_callee (f := 24) rfl ?_); refine goesL_ (some 3) rfl rfl Tryd.func24 (by kernel_rfl) rfl #[] rfl (by (try simp only [List.map_toArray, List.map_cons, List.map_nil]); first | done | rfl | (simp only [List.length_drop, List.length_take]; rfl)) ?_; (with_reducible refine (masklaw1_scanned.calls k  true _ A3.out ?side90).mono ?_); (case side90 => first | exact HG.out.below HB.out | exact HG.out | exact HG.out.below (HB.out.drew) | exact HG.out.below (by repeat (first | exact HB.out | apply Below.drew))); rintro e w5 ⟨rfl, hb⟩; refine ⟨_, rfl, ?_⟩; have n0_ := Aside0.mk (below_step (by repeat (first | (with_reducible first | exact HB.out | apply below_alloc | apply pw_below_drewN | apply below_drew1) | exact HB.out)) hb); clear HB; have HB := n0_; clear n0_; (try clear hb); (try clear hb2); (try clear hk); (try clear hi)))
   go_meet
   case rel => exact ⟨_, (decide ((a0.size : Int) > 1000)), (by first | rfl | (simp; done) | (simp [*]; done)), H', ⟨by first | omega | exact Nat.le_refl _⟩, ⟨by repeat (first | (with_reducible first | exact HB.out | apply below_alloc | apply pw_below_drewN | apply below_drew1) | exact HB.out)⟩⟩
  ·replace c4 := Bool.eq_false_iff.mpr c4
   subst c4
   have H1 : (masklaw1_LexNames.j0 k a0 true) = some r := by rw [if_neg (show ¬ (false = true) by decide)] at H; exact H
   clear H
   have H := H1
   clear H1
   have H' := Aside0.mk H
   clear H
   go_wp2_with (first | ((with_reducible refine gate_callee (f := 24) rfl ?_); refine goesL_ (some 3) rfl rfl Tryd.func24 (by kernel_rfl) rfl #[] rfl (by (try simp only [List.map_toArray, List.map_cons, List.map_nil]); first | done | rfl | (simp only [List.length_drop, List.length_take]; rfl)) ?_; (with_reducible refine (masklaw1_scanned.calls k  false _ A3.out ?side90).mono ?_); (case side90 => first | exact HG.out.below HB.out | exact HG.out | exact HG.out.below (HB.out.drew) | exact HG.out.below (by repeat (first | exact HB.out | apply Below.drew))); rintro e w6 ⟨rfl, hb⟩; refine ⟨_, rfl, ?_⟩; have n0_ := Aside0.mk (below_step (by repeat (first | (with_reducible first | exact HB.out | apply below_alloc | apply pw_below_drewN | apply below_drew1) | exact HB.out)) hb); clear HB; have HB := n0_; clear n0_; (try clear hb); (try clear hb2); (try clear hk); (try clear hi)))
   go_meet
   case rel => exact ⟨_, (true), (by first | rfl | (simp; done) | (simp [*]; done)), H', ⟨by first | omega | exact Nat.le_refl _⟩, ⟨by repeat (first | (with_reducible first | exact HB.out | apply below_alloc | apply pw_below_drewN | apply below_drew1) | exact HB.out)⟩⟩
 case rest =>
  clear HC2
  (try clear c2); (try clear p2); (try clear c4); (try clear c6)
  obtain ⟨kq, x9_1, rfl, HA, HJ1, HB⟩ := hcut
  cases kq with
  | zero => exact absurd HA.out (by simp [masklaw1_LexNames.j0])
  | succ kj1 =>
   have H := HA.out
   clear HA
   simp only [masklaw1_LexNames.j0] at H
   by_cases c7 : x9_1 = true
   ·subst c7
    have H1 : ((masklaw1_scanned.f kj1).bind fun t160 => (some t160)) = some r := by rw [if_pos rfl] at H; exact H
    clear H
    have H := H1
    clear H1
    replace H := Option.bind_eq_some_iff.mp H
    obtain ⟨t160, A80, H⟩ := H
    replace H : (some t160) = some r := H
    have A8 := Aside0.mk A80
    clear A80
    obtain rfl := Option.some.inj H
    go_wp2_with (first | ((with_reducible refine gate_callee (f := 24) rfl ?_); refine goesL_ (some 10) rfl rfl Tryd.func24 (by kernel_rfl) rfl #[] rfl (by (try simp only [List.map_toArray, List.map_cons, List.map_nil]); first | done | rfl | (simp only [List.length_drop, List.length_take]; rfl)) ?_; (with_reducible refine (masklaw1_scanned.calls kj1  t160 _ A8.out ?side90).mono ?_); (case side90 => first | exact HG.out.below HB.out | exact HG.out | exact HG.out.below (HB.out.drew) | exact HG.out.below (by repeat (first | exact HB.out | apply Below.drew))); rintro e w9 ⟨rfl, hb⟩; refine ⟨_, rfl, ?_⟩; have n0_ := Aside0.mk (below_step (by repeat (first | (with_reducible first | exact HB.out | apply below_alloc | apply pw_below_drewN | apply below_drew1) | exact HB.out)) hb); clear HB; have HB := n0_; clear n0_; (try clear hb); (try clear hb2); (try clear hk); (try clear hi)))
    go_ret
    exact ⟨by first | rfl | (simp [errW_none, errW_some] <;> rfl) | (simp [*, errW_none, errW_some] <;> rfl), by repeat (first | (with_reducible first | exact HB.out | apply below_alloc | apply pw_below_drewN | apply below_drew1) | exact HB.out)⟩
   ·replace c7 := Bool.eq_false_iff.mpr c7
    subst c7
    have H1 : ((lex_Words.f).bind fun t161 => ((maskref1_LexWords.f kj1).bind fun t164 => ((slices_Equal_string_string.f kj1 t161 t164).bind fun t167 => (if t167 = true then ((lex_Signs.f).bind fun t168 => ((maskref1_LexSigns.f kj1).bind fun t171 => ((slices_Equal_string_string.f kj1 t168 t171).bind fun t174 => (if t174 = true then ((lex_Plain.f kj1 a0).bind fun t175 => ((maskref1_PlainName.f kj1 a0).bind fun t176 => (if (t175 == t176) = true then ((lex_Quoted.f kj1 a0).bind fun t177 => ((maskref1_QuotedName.f kj1 a0).bind fun t178 => (if (t177 == t178) = true then ((lex_Quote.f a0).bind fun t179 => ((maskref1_StringToken.f kj1 a0).bind fun t180 => (some (t179.toList == t180.toList)))) else (some false)))) else (some false)))) else (some false))))) else (some false))))) = some r := by rw [if_neg (show ¬ (false = true) by decide)] at H; exact H
    clear H
    have H := H1
    clear H1
    replace H := Option.bind_eq_some_iff.mp H
    obtain ⟨t161, A100, H⟩ := H
    replace H : ((maskref1_LexWords.f kj1).bind fun t164 => ((slices_Equal_string_string.f kj1 t161 t164).bind fun t167 => (if t167 = true then ((lex_Signs.f).bind fun t168 => ((maskref1_LexSigns.f kj1).bind fun t171 => ((slices_Equal_string_string.f kj1 t168 t171).bind fun t174 => (if t174 = true then ((lex_Plain.f kj1 a0).bind fun t175 => ((maskref1_PlainName.f kj1 a0).bind fun t176 => (if (t175 == t176) = true then ((lex_Quoted.f kj1 a0).bind fun t177 => ((maskref1_QuotedName.f kj1 a0).bind fun t178 => (if (t177 == t178) = true then ((lex_Quote.f a0).bind fun t179 => ((maskref1_StringToken.f kj1 a0).bind fun t180 => (some (t179.toList == t180.toList)))) else (some false)))) else (some false)))) else (some false))))) else (some false)))) = some r := H
    have A10 := Aside0.mk A100
    clear A100
    replace H := Option.bind_eq_some_iff.mp H
    obtain ⟨t164, A110, H⟩ := H
    replace H : ((slices_Equal_string_string.f kj1 t161 t164).bind fun t167 => (if t167 = true then ((lex_Signs.f).bind fun t168 => ((maskref1_LexSigns.f kj1).bind fun t171 => ((slices_Equal_string_string.f kj1 t168 t171).bind fun t174 => (if t174 = true then ((lex_Plain.f kj1 a0).bind fun t175 => ((maskref1_PlainName.f kj1 a0).bind fun t176 => (if (t175 == t176) = true then ((lex_Quoted.f kj1 a0).bind fun t177 => ((maskref1_QuotedName.f kj1 a0).bind fun t178 => (if (t177 == t178) = true then ((lex_Quote.f a0).bind fun t179 => ((maskref1_StringToken.f kj1 a0).bind fun t180 => (some (t179.toList == t180.toList)))) else (some false)))) else (some false)))) else (some false))))) else (some false))) = some r := H
    have A11 := Aside0.mk A110
    clear A110
    replace H := Option.bind_eq_some_iff.mp H
    obtain ⟨t167, A120, H⟩ := H
    replace H : (if t167 = true then ((lex_Signs.f).bind fun t168 => ((maskref1_LexSigns.f kj1).bind fun t171 => ((slices_Equal_string_string.f kj1 t168 t171).bind fun t174 => (if t174 = true then ((lex_Plain.f kj1 a0).bind fun t175 => ((maskref1_PlainName.f kj1 a0).bind fun t176 => (if (t175 == t176) = true then ((lex_Quoted.f kj1 a0).bind fun t177 => ((maskref1_QuotedName.f kj1 a0).bind fun t178 => (if (t177 == t178) = true then ((lex_Quote.f a0).bind fun t179 => ((maskref1_StringToken.f kj1 a0).bind fun t180 => (some (t179.toList == t180.toList)))) else (some false)))) else (some false)))) else (some false))))) else (some false)) = some r := H
    have A12 := Aside0.mk A120
    clear A120
    by_cases c13 : t167 = true
    ·subst c13
     have H1 : ((lex_Signs.f).bind fun t168 => ((maskref1_LexSigns.f kj1).bind fun t171 => ((slices_Equal_string_string.f kj1 t168 t171).bind fun t174 => (if t174 = true then ((lex_Plain.f kj1 a0).bind fun t175 => ((maskref1_PlainName.f kj1 a0).bind fun t176 => (if (t175 == t176) = true then ((lex_Quoted.f kj1 a0).bind fun t177 => ((maskref1_QuotedName.f kj1 a0).bind fun t178 => (if (t177 == t178) = true then ((lex_Quote.f a0).bind fun t179 => ((maskref1_StringToken.f kj1 a0).bind fun t180 => (some (t179.toList == t180.toList)))) else (some false)))) else (some false)))) else (some false))))) = some r := by rw [if_pos rfl] at H; exact H
     clear H
     have H := H1
     clear H1
     replace H := Option.bind_eq_some_iff.mp H
     obtain ⟨t168, A140, H⟩ := H
     replace H : ((maskref1_LexSigns.f kj1).bind fun t171 => ((slices_Equal_string_string.f kj1 t168 t171).bind fun t174 => (if t174 = true then ((lex_Plain.f kj1 a0).bind fun t175 => ((maskref1_PlainName.f kj1 a0).bind fun t176 => (if (t175 == t176) = true then ((lex_Quoted.f kj1 a0).bind fun t177 => ((maskref1_QuotedName.f kj1 a0).bind fun t178 => (if (t177 == t178) = true then ((lex_Quote.f a0).bind fun t179 => ((maskref1_StringToken.f kj1 a0).bind fun t180 => (some (t179.toList == t180.toList)))) else (some false)))) else (some false)))) else (some false)))) = some r := H
     have A14 := Aside0.mk A140
     clear A140
     replace H := Option.bind_eq_some_iff.mp H
     obtain ⟨t171, A150, H⟩ := H
     replace H : ((slices_Equal_string_string.f kj1 t168 t171).bind fun t174 => (if t174 = true then ((lex_Plain.f kj1 a0).bind fun t175 => ((maskref1_PlainName.f kj1 a0).bind fun t176 => (if (t175 == t176) = true then ((lex_Quoted.f kj1 a0).bind fun t177 => ((maskref1_QuotedName.f kj1 a0).bind fun t178 => (if (t177 == t178) = true then ((lex_Quote.f a0).bind fun t179 => ((maskref1_StringToken.f kj1 a0).bind fun t180 => (some (t179.toList == t180.toList)))) else (some false)))) else (some false)))) else (some false))) = some r := H
     have A15 := Aside0.mk A150
     clear A150
     replace H := Option.bind_eq_some_iff.mp H
     obtain ⟨t174, A160, H⟩ := H
     replace H : (if t174 = true then ((lex_Plain.f kj1 a0).bind fun t175 => ((maskref1_PlainName.f kj1 a0).bind fun t176 => (if (t175 == t176) = true then ((lex_Quoted.f kj1 a0).bind fun t177 => ((maskref1_QuotedName.f kj1 a0).bind fun t178 => (if (t177 == t178) = true then ((lex_Quote.f a0).bind fun t179 => ((maskref1_StringToken.f kj1 a0).bind fun t180 => (some (t179.toList == t180.toList)))) else (some false)))) else (some false)))) else (some false)) = some r := H
     have A16 := Aside0.mk A160
     clear A160
     by_cases c17 : t174 = true
     ·subst c17
      have H1 : ((lex_Plain.f kj1 a0).bind fun t175 => ((maskref1_PlainName.f kj1 a0).bind fun t176 => (if (t175 == t176) = true then ((lex_Quoted.f kj1 a0).bind fun t177 => ((maskref1_QuotedName.f kj1 a0).bind fun t178 => (if (t177 == t178) = true then ((lex_Quote.f a0).bind fun t179 => ((maskref1_StringToken.f kj1 a0).bind fun t180 => (some (t179.toList == t180.toList)))) else (some false)))) else (some false)))) = some r := by rw [if_pos rfl] at H; exact H
      clear H
      have H := H1
      clear H1
      replace H := Option.bind_eq_some_iff.mp H
      obtain ⟨t175, A180, H⟩ := H
      replace H : ((maskref1_PlainName.f kj1 a0).bind fun t176 => (if (t175 == t176) = true then ((lex_Quoted.f kj1 a0).bind fun t177 => ((maskref1_QuotedName.f kj1 a0).bind fun t178 => (if (t177 == t178) = true then ((lex_Quote.f a0).bind fun t179 => ((maskref1_StringToken.f kj1 a0).bind fun t180 => (some (t179.toList == t180.toList)))) else (some false)))) else (some false))) = some r := H
      have A18 := Aside0.mk A180
      clear A180
      replace H := Option.bind_eq_some_iff.mp H
      obtain ⟨t176, A190, H⟩ := H
      replace H : (if (t175 == t176) = true then ((lex_Quoted.f kj1 a0).bind fun t177 => ((maskref1_QuotedName.f kj1 a0).bind fun t178 => (if (t177 == t178) = true then ((lex_Quote.f a0).bind fun t179 => ((maskref1_StringToken.f kj1 a0).bind fun t180 => (some (t179.toList == t180.toList)))) else (some false)))) else (some false)) = some r := H
      have A19 := Aside0.mk A190
      clear A190
      by_cases c20 : (t175 == t176) = true
      ·rw [if_pos c20] at H
       have c20b0 : (t175 == t176) = true := c20
       (try (have c20b1 : decide (t175 = t176) = true := by simpa using c20))
       (try (have c20b2 : (t175 == t176) = true := by simpa using c20))
       clear c20
       replace H := Option.bind_eq_some_iff.mp H
       obtain ⟨t177, A210, H⟩ := H
       replace H : ((maskref1_QuotedName.f kj1 a0).bind fun t178 => (if (t177 == t178) = true then ((lex_Quote.f a0).bind fun t179 => ((maskref1_StringToken.f kj1 a0).bind fun t180 => (some (t179.toList == t180.toList)))) else (some false))) = some r := H
       have A21 := Aside0.mk A210
       clear A210
       replace H := Option.bind_eq_some_iff.mp H
       obtain ⟨t178, A220, H⟩ := H
       replace H : (if (t177 == t178) = true then ((lex_Quote.f a0).bind fun t179 => ((maskref1_StringToken.f kj1 a0).bind fun t180 => (some (t179.toList == t180.toList)))) else (some false)) = some r := H
       have A22 := Aside0.mk A220
       clear A220
       by_cases c23 : (t177 == t178) = true
       ·rw [if_pos c23] at H
        have c23b0 : (t177 == t178) = true := c23
        (try (have c23b1 : decide (t177 = t178) = true := by simpa using c23))
        (try (have c23b2 : (t177 == t178) = true := by simpa using c23))
        clear c23
        replace H := Option.bind_eq_some_iff.mp H
        obtain ⟨t179, A240, H⟩ := H
        replace H : ((maskref1_StringToken.f kj1 a0).bind fun t180 => (some (t179.toList == t180.toList))) = some r := H
        have A24 := Aside0.mk A240
        clear A240
        replace H := Option.bind_eq_some_iff.mp H
        obtain ⟨t180, A250, H⟩ := H
        replace H : (some (t179.toList == t180.toList)) = some r := H
        have A25 := Aside0.mk A250
        clear A250
        obtain rfl := Option.some.inj H
        go_wp2_with (first | ((with_reducible refine gate_callee (f := 26) rfl ?_); refine goesL_ (some 11) rfl rfl Tryd.func26 (by kernel_rfl) rfl #[] rfl (by (try simp only [List.map_toArray, List.map_cons, List.map_nil]); first | done | rfl | (simp only [List.length_drop, List.length_take]; rfl)) ?_; (with_reducible refine (lex_Words.calls  t161 _ A10.out).mono ?_); rintro e w26 ⟨v162, rfl, ho0, hb⟩; refine ⟨_, rfl, ?_⟩; have n0_ := Aside0.mk (Kd.R_lower ho0 (below_size (by repeat (first | (with_reducible first | exact HB.out | apply below_alloc | apply pw_below_drewN | apply below_drew1) | exact HB.out)))); have n1_ := Aside0.mk (below_step (by repeat (first | (with_reducible first | exact HB.out | apply below_alloc | apply pw_below_drewN | apply below_drew1) | exact HB.out)) hb); clear HB; have HO163 := n0_; have HB := n1_; clear n0_ n1_; (try clear hb); (try clear hb2); (try clear hk); (try clear hi); (try clear ho0)) | ((with_reducible refine gate_callee (f := 27) rfl ?_); refine goesL_ (some 12) rfl rfl Tryd.func27 (by kernel_rfl) rfl #[] rfl (by (try simp only [List.map_toArray, List.map_cons, List.map_nil]); first | done | rfl | (simp only [List.length_drop, List.length_take]; rfl)) ?_; (with_reducible refine (maskref1_LexWords.calls kj1  t164 _ A11.out).mono ?_); rintro e w27 ⟨v165, rfl, ho0, hb⟩; refine ⟨_, rfl, ?_⟩; have n0_ := Aside0.mk (Kd.R_elder' (by (with_reducible repeat (first | apply Kd.R_alloc | apply Kd.R_drewN | apply Kd.R_drew)); exact HO163.out) (Kd.R_base ho0) hb); have n1_ := Aside0.mk (Kd.R_lower (Kd.R_new' ho0 (Kd.R_lt (by (with_reducible repeat (first | apply Kd.R_alloc | apply Kd.R_drewN | apply Kd.R_drew)); exact HO163.out))) (below_size (by repeat (first | (with_reducible first | exact HB.out | apply below_alloc | apply pw_below_drewN | apply below_drew1) | exact HB.out)))); have n2_ := Aside0.mk (below_step (by repeat (first | (with_reducible first | exact HB.out | apply below_alloc | apply pw_below_drewN | apply below_drew1) | exact HB.out)) hb); clear HO163; clear HB; have HO163 := n0_; have HO166 := n1_; have HB := n2_; clear n0_ n1_ n2_; (try clear hb); (try clear hb2); (try clear hk); (try clear hi); (try clear ho0); obtain ⟨Ao28, co28, eo28⟩ := Kd.R_slice HO163.out; subst eo28; obtain ⟨Ao29, co29, eo29⟩ := Kd.R_slice HO166.out; subst eo29) | ((with_reducible refine gate_callee (f := 25) rfl ?_); refine goesL_ (some 13) rfl rfl Tryd.func25 (by kernel_rfl) rfl #[.slice Ao28 t161.length co28, .slice Ao29 t164.length co29] rfl (by (try simp only [List.map_toArray, List.map_cons, List.map_nil]); first | done | rfl | (simp only [List.length_drop, List.length_take]; rfl)) ?_; (with_reducible refine (slices_Equal_string_string.calls kj1 _ _ t161 _ _ t164 true _ ?side1 ?side2 ?side3 ?side4 A12.out).mono ?_); (case side1 => repeat (first | exact (Kd.R_reads' HO163.out).2.2 | (with_reducible refine Kd.C_alloc ?_ _) | (with_reducible refine Kd.C_drewN ?_ _) | (with_reducible refine Kd.C_drew ?_))); (case side2 => exact (Kd.R_reads' HO163.out).2.1); (case side3 => repeat (first | exact (Kd.R_reads' HO166.out).2.2 | (with_reducible refine Kd.C_alloc ?_ _) | (with_reducible refine Kd.C_drewN ?_ _) | (with_reducible refine Kd.C_drew ?_))); (case side4 => exact (Kd.R_reads' HO166.out).2.1); rintro e w' ⟨rfl, ⟨nd, rfl⟩⟩; refine ⟨_, rfl, ?_⟩) | (go_at_call 28; (with_reducible refine (lex_Signs.calls  t168 _ A14.out).mono ?_); rintro e w30 ⟨v169, rfl, ho0, hb⟩; have n0_ := Aside0.mk (Kd.R_elder' (by (with_reducible repeat (first | apply Kd.R_alloc | apply Kd.R_drewN | apply Kd.R_drew)); exact HO163.out) (Kd.R_base ho0) hb); have n1_ := Aside0.mk (Kd.R_elder' (by (with_reducible repeat (first | apply Kd.R_alloc | apply Kd.R_drewN | apply Kd.R_drew)); exact HO166.out) (Kd.R_base ho0) hb); have n2_ := Aside0.mk (Kd.R_lower (Kd.R_new' (Kd.R_new' ho0 (Kd.R_lt (by (with_reducible repeat (first | apply Kd.R_alloc | apply Kd.R_drewN | apply Kd.R_drew)); exact HO163.out))) (Kd.R_lt (by (with_reducible repeat (first | apply Kd.R_alloc | apply Kd.R_drewN | apply Kd.R_drew)); exact HO166.out))) (below_size (by repeat (first | (with_reducible first | exact HB.out | apply below_alloc | apply pw_below_drewN | apply below_drew1) | exact HB.out)))); have n3_ := Aside0.mk (below_step (by repeat (first | (with_reducible first | exact HB.out | apply below_alloc | apply pw_below_drewN | apply below_drew1) | exact HB.out)) hb); clear HO163; clear HO166; clear HB; have HO163 := n0_; have HO166 := n1_; have HO170 := n2_; have HB := n3_; clear n0_ n1_ n2_ n3_; (try clear hb); (try clear hb2); (try clear hk); (try clear hi); (try clear ho0)) | (go_at_call 29; (with_reducible refine (maskref1_LexSigns.calls kj1  t171 _ A15.out).mono ?_); rintro e w31 ⟨v172, rfl, ho0, hb⟩; have n0_ := Aside0.mk (Kd.R_elder' (by (with_reducible repeat (first | apply Kd.R_alloc | apply Kd.R_drewN | apply Kd.R_drew)); exact HO163.out) (Kd.R_base ho0) hb); have n1_ := Aside0.mk (Kd.R_elder' (by (with_reducible repeat (first | apply Kd.R_alloc | apply Kd.R_drewN | apply Kd.R_drew)); exact HO166.out) (Kd.R_base ho0) hb); have n2_ := Aside0.mk (Kd.R_elder' (by (with_reducible repeat (first | apply Kd.R_alloc | apply Kd.R_drewN | apply Kd.R_drew)); exact HO170.out) (Kd.R_base ho0) hb); have n3_ := Aside0.mk (Kd.R_lower (Kd.R_new' (Kd.R_new' (Kd.R_new' ho0 (Kd.R_lt (by (with_reducible repeat (first | apply Kd.R_alloc | apply Kd.R_drewN | apply Kd.R_drew)); exact HO163.out))) (Kd.R_lt (by (with_reducible repeat (first | apply Kd.R_alloc | apply Kd.R_drewN | apply Kd.R_drew)); exact HO166.out))) (Kd.R_lt (by (with_reducible repeat (first | apply Kd.R_alloc | apply Kd.R_drewN | apply Kd.R_drew)); exact HO170.out))) (below_size (by repeat (first | (with_reducible first | exact HB.out | apply below_alloc | apply pw_below_drewN | apply below_drew1) | exact HB.out)))); have n4_ := Aside0.mk (below_step (by repeat (first | (with_reducible first | exact HB.out | apply below_alloc | apply pw_below_drewN | apply below_drew1) | exact HB.out)) hb); clear HO163; clear HO166; clear HO170; clear HB; have HO163 := n0_; have HO166 := n1_; have HO170 := n2_; have HO173 := n3_; have HB := n4_; clear n0_ n1_ n2_ n3_ n4_; (try clear hb); (try clear hb2); (try clear hk); (try clear hi); (try clear ho0); obtain ⟨Ao32, co32, eo32⟩ := Kd.R_slice HO170.out; subst eo32; obtain ⟨Ao33, co33, eo33⟩ := Kd.R_slice HO173.out; subst eo33) | (go_at_call 25; (with_reducible refine (slices_Equal_string_string.calls kj1 _ _ t168 _ _ t171 true _ ?side1 ?side2 ?side3 ?side4 A16.out).mono ?_); (case side1 => repeat (first | exact (Kd.R_reads' HO170.out).2.2 | (with_reducible refine Kd.C_alloc ?_ _) | (with_reducible refine Kd.C_drewN ?_ _) | (with_reducible refine Kd.C_drew ?_))); (case side2 => exact (Kd.R_reads' HO170.out).2.1); (case side3 => repeat (first | exact (Kd.R_reads' HO173.out).2.2 | (with_reducible refine Kd.C_alloc ?_ _) | (with_reducible refine Kd.C_drewN ?_ _) | (with_reducible refine Kd.C_drew ?_))); (case side4 => exact (Kd.R_reads' HO173.out).2.1); rintro e w' ⟨rfl, ⟨nd, rfl⟩⟩) | (go_at_call 30; (with_reducible refine (lex_Plain.calls kj1 a0 t175 _ A18.out).mono ?_); rintro e w34 ⟨rfl, hb⟩; have n0_ := Aside0.mk (Kd.R_below (by (with_reducible repeat (first | apply Kd.R_alloc | apply Kd.R_drewN | apply Kd.R_drew)); exact HO163.out) hb); have n1_ := Aside0.mk (Kd.R_below (by (with_reducible repeat (first | apply Kd.R_alloc | apply Kd.R_drewN | apply Kd.R_drew)); exact HO166.out) hb); have n2_ := Aside0.mk (Kd.R_below (by (with_reducible repeat (first | apply Kd.R_alloc | apply Kd.R_drewN | apply Kd.R_drew)); exact HO170.out) hb); have n3_ := Aside0.mk (Kd.R_below (by (with_reducible repeat (first | apply Kd.R_alloc | apply Kd.R_drewN | apply Kd.R_drew)); exact HO173.out) hb); have n4_ := Aside0.mk (below_step (by repeat (first | (with_reducible first | exact HB.out | apply below_alloc | apply pw_below_drewN | apply below_drew1) | exact HB.out)) hb); clear HO163; clear HO166; clear HO170; clear HO173; clear HB; have HO163 := n0_; have HO166 := n1_; have HO170 := n2_; have HO173 := n3_; have HB := n4_; clear n0_ n1_ n2_ n3_ n4_; (try clear hb); (try clear hb2); (try clear hk); (try clear hi)) | (go_at_call 31; (with_reducible refine (maskref1_PlainName.calls kj1 a0 t176 _ A19.out).mono ?_); rintro e w' ⟨rfl, ⟨nd, rfl⟩⟩) | (go_at_call 32; (with_reducible refine (lex_Quoted.calls kj1 a0 t177 _ A21.out).mono ?_); rintro e w' ⟨rfl, ⟨nd, rfl⟩⟩) | (go_at_call 33; (with_reducible refine (maskref1_QuotedName.calls kj1 a0 t178 _ A22.out).mono ?_); rintro e w35 ⟨rfl, hb⟩; have n0_ := Aside0.mk (Kd.R_below (by (with_reducible repeat (first | apply Kd.R_alloc | apply Kd.R_drewN | apply Kd.R_drew)); exact HO163.out) hb); have n1_ := Aside0.mk (Kd.R_below (by (with_reducible repeat (first | apply Kd.R_alloc | apply Kd.R_drewN | apply Kd.R_drew)); exact HO166.out) hb); have n2_ := Aside0.mk (Kd.R_below (by (with_reducible repeat (first | apply Kd.R_alloc | apply Kd.R_drewN | apply Kd.R_drew)); exact HO170.out) hb); have n3_ := Aside0.mk (Kd.R_below (by (with_reducible repeat (first | apply Kd.R_alloc | apply Kd.R_drewN | apply Kd.R_drew)); exact HO173.out) hb); have n4_ := Aside0.mk (below_step (by repeat (first | (with_reducible first | exact HB.out | apply below_alloc | apply pw_below_drewN | apply below_drew1) | exact HB.out)) hb); clear HO163; clear HO166; clear HO170; clear HO173; clear HB; have HO163 := n0_; have HO166 := n1_; have HO170 := n2_; have HO173 := n3_; have HB := n4_; clear n0_ n1_ n2_ n3_ n4_; (try clear hb); (try clear hb2); (try clear hk); (try clear hi)) | (go_at_call 34; (with_reducible refine (lex_Quote.calls a0 t179 _ A24.out ?side90).mono ?_); (case side90 => first | exact HG.out.below HB.out | exact HG.out | exact HG.out.below (HB.out.drew) | exact HG.out.below (by repeat (first | exact HB.out | apply Below.drew))); rintro e w36 ⟨rfl, hb⟩; have n0_ := Aside0.mk (Kd.R_below (by (with_reducible repeat (first | apply Kd.R_alloc | apply Kd.R_drewN | apply Kd.R_drew)); exact HO163.out) hb); have n1_ := Aside0.mk (Kd.R_below (by (with_reducible repeat (first | apply Kd.R_alloc | apply Kd.R_drewN | apply Kd.R_drew)); exact HO166.out) hb); have n2_ := Aside0.mk (Kd.R_below (by (with_reducible repeat (first | apply Kd.R_alloc | apply Kd.R_drewN | apply Kd.R_drew)); exact HO170.out) hb); have n3_ := Aside0.mk (Kd.R_below (by (with_reducible repeat (first | apply Kd.R_alloc | apply Kd.R_drewN | apply Kd.R_drew)); exact HO173.out) hb); have n4_ := Aside0.mk (below_step (by repeat (first | (with_reducible first | exact HB.out | apply below_alloc | apply pw_below_drewN | apply below_drew1) | exact HB.out)) hb); clear HO163; clear HO166; clear HO170; clear HO173; clear HB; have HO163 := n0_; have HO166 := n1_; have HO170 := n2_; have HO173 := n3_; have HB := n4_; clear n0_ n1_ n2_ n3_ n4_; (try clear hb); (try clear hb2); (try clear hk); (try clear hi)) | (go_at_call 35; (with_reducible refine (maskref1_StringToken.calls kj1 a0 t180 _ A25.out).mono ?_); rintro e w' ⟨rfl, ⟨nd, rfl⟩⟩))
        go_ret
        exact ⟨by first | rfl | (simp [errW_none, errW_some] <;> rfl) | (simp [*, errW_none, errW_some] <;> rfl), by repeat (first | (with_reducible first | exact HB.out | apply below_alloc | apply pw_below_drewN | apply below_drew1) | exact HB.out)⟩
       ·rw [if_neg c23] at H
        have c23b0 : (t177 == t178) = false := by simpa using c23
        (try (have c23b1 : decide (t177 = t178) = false := by simpa using c23))
        (try (have c23b2 : (t177 == t178) = false := by simpa using c23))
        (try (have c23b3 : ¬ (t177 = t178) := by simpa using c23))
        clear c23
        obtain rfl := Option.some.inj H
        go_wp2_with (first | ((with_reducible refine gate_callee (f := 26) rfl ?_); refine goesL_ (some 11) rfl rfl Tryd.func26 (by kernel_rfl) rfl #[] rfl (by (try simp only [List.map_toArray, List.map_cons, List.map_nil]); first | done | rfl | (simp only [List.length_drop, List.length_take]; rfl)) ?_; (with_reducible refine (lex_Words.calls  t161 _ A10.out).mono ?_); rintro e w37 ⟨v162, rfl, ho0, hb⟩; refine ⟨_, rfl, ?_⟩; have n0_ := Aside0.mk (Kd.R_lower ho0 (below_size (by repeat (first | (with_reducible first | exact HB.out | apply below_alloc | apply pw_below_drewN | apply below_drew1) | exact HB.out)))); have n1_ := Aside0.mk (below_step (by repeat (first | (with_reducible first | exact HB.out | apply below_alloc | apply pw_below_drewN | apply below_drew1) | exact HB.out)) hb); clear HB; have HO163 := n0_; have HB := n1_; clear n0_ n1_; (try clear hb); (try clear hb2); (try clear hk); (try clear hi); (try clear ho0)) | ((with_reducible refine gate_callee (f := 27) rfl ?_); refine goesL_ (some 12) rfl rfl Tryd.func27 (by kernel_rfl) rfl #[] rfl (by (try simp only [List.map_toArray, List.map_cons, List.map_nil]); first | done | rfl | (simp only [List.length_drop, List.length_take]; rfl)) ?_; (with_reducible refine (maskref1_LexWords.calls kj1  t164 _ A11.out).mono ?_); rintro e w38 ⟨v165, rfl, ho0, hb⟩; refine ⟨_, rfl, ?_⟩; have n0_ := Aside0.mk (Kd.R_elder' (by (with_reducible repeat (first | apply Kd.R_alloc | apply Kd.R_drewN | apply Kd.R_drew)); exact HO163.out) (Kd.R_base ho0) hb); have n1_ := Aside0.mk (Kd.R_lower (Kd.R_new' ho0 (Kd.R_lt (by (with_reducible repeat (first | apply Kd.R_alloc | apply Kd.R_drewN | apply Kd.R_drew)); exact HO163.out))) (below_size (by repeat (first | (with_reducible first | exact HB.out | apply below_alloc | apply pw_below_drewN | apply below_drew1) | exact HB.out)))); have n2_ := Aside0.mk (below_step (by repeat (first | (with_reducible first | exact HB.out | apply below_alloc | apply pw_below_drewN | apply below_drew1) | exact HB.out)) hb); clear HO163; clear HB; have HO163 := n0_; have HO166 := n1_; have HB := n2_; clear n0_ n1_ n2_; (try clear hb); (try clear hb2); (try clear hk); (try clear hi); (try clear ho0); obtain ⟨Ao39, co39, eo39⟩ := Kd.R_slice HO163.out; subst eo39; obtain ⟨Ao40, co40, eo40⟩ := Kd.R_slice HO166.out; subst eo40) | ((with_reducible refine gate_callee (f := 25) rfl ?_); refine goesL_ (some 13) rfl rfl Tryd.func25 (by kernel_rfl) rfl #[.slice Ao39 t161.length co39, .slice Ao40 t164.length co40] rfl (by (try simp only [List.map_toArray, List.map_cons, List.map_nil]); first | done | rfl | (simp only [List.length_drop, List.length_take]; rfl)) ?_; (with_reducible refine (slices_Equal_string_string.calls kj1 _ _ t161 _ _ t164 true _ ?side1 ?side2 ?side3 ?side4 A12.out).mono ?_); (case side1 => repeat (first | exact (Kd.R_reads' HO163.out).2.2 | (with_reducible refine Kd.C_alloc ?_ _) | (with_reducible refine Kd.C_drewN ?_ _) | (with_reducible refine Kd.C_drew ?_))); (case side2 => exact (Kd.R_reads' HO163.out).2.1); (case side3 => repeat (first | exact (Kd.R_reads' HO166.out).2.2 | (with_reducible refine Kd.C_alloc ?_ _) | (with_reducible refine Kd.C_drewN ?_ _) | (with_reducible refine Kd.C_drew ?_))); (case side4 => exact (Kd.R_reads' HO166.out).2.1); rintro e w' ⟨rfl, ⟨nd, rfl⟩⟩; refine ⟨_, rfl, ?_⟩) | (go_at_call 28; (with_reducible refine (lex_Signs.calls  t168 _ A14.out).mono ?_); rintro e w41 ⟨v169, rfl, ho0, hb⟩; have n0_ := Aside0.mk (Kd.R_elder' (by (with_reducible repeat (first | apply Kd.R_alloc | apply Kd.R_drewN | apply Kd.R_drew)); exact HO163.out) (Kd.R_base ho0) hb); have n1_ := Aside0.mk (Kd.R_elder' (by (with_reducible repeat (first | apply Kd.R_alloc | apply Kd.R_drewN | apply Kd.R_drew)); exact HO166.out) (Kd.R_base ho0) hb); have n2_ := Aside0.mk (Kd.R_lower (Kd.R_new' (Kd.R_new' ho0 (Kd.R_lt (by (with_reducible repeat (first | apply Kd.R_alloc | apply Kd.R_drewN | apply Kd.R_drew)); exact HO163.out))) (Kd.R_lt (by (with_reducible repeat (first | apply Kd.R_alloc | apply Kd.R_drewN | apply Kd.R_drew)); exact HO166.out))) (below_size (by repeat (first | (with_reducible first | exact HB.out | apply below_alloc | apply pw_below_drewN | apply below_drew1) | exact HB.out)))); have n3_ := Aside0.mk (below_step (by repeat (first | (with_reducible first | exact HB.out | apply below_alloc | apply pw_below_drewN | apply below_drew1) | exact HB.out)) hb); clear HO163; clear HO166; clear HB; have HO163 := n0_; have HO166 := n1_; have HO170 := n2_; have HB := n3_; clear n0_ n1_ n2_ n3_; (try clear hb); (try clear hb2); (try clear hk); (try clear hi); (try clear ho0)) | (go_at_call 29; (with_reducible refine (maskref1_LexSigns.calls kj1  t171 _ A15.out).mono ?_); rintro e w42 ⟨v172, rfl, ho0, hb⟩; have n0_ := Aside0.mk (Kd.R_elder' (by (with_reducible repeat (first | apply Kd.R_alloc | apply Kd.R_drewN | apply Kd.R_drew)); exact HO163.out) (Kd.R_base ho0) hb); have n1_ := Aside0.mk (Kd.R_elder' (by (with_reducible repeat (first | apply Kd.R_alloc | apply Kd.R_drewN | apply Kd.R_drew)); exact HO166.out) (Kd.R_base ho0) hb); have n2_ := Aside0.mk (Kd.R_elder' (by (with_reducible repeat (first | apply Kd.R_alloc | apply Kd.R_drewN | apply Kd.R_drew)); exact HO170.out) (Kd.R_base ho0) hb); have n3_ := Aside0.mk (Kd.R_lower (Kd.R_new' (Kd.R_new' (Kd.R_new' ho0 (Kd.R_lt (by (with_reducible repeat (first | apply Kd.R_alloc | apply Kd.R_drewN | apply Kd.R_drew)); exact HO163.out))) (Kd.R_lt (by (with_reducible repeat (first | apply Kd.R_alloc | apply Kd.R_drewN | apply Kd.R_drew)); exact HO166.out))) (Kd.R_lt (by (with_reducible repeat (first | apply Kd.R_alloc | apply Kd.R_drewN | apply Kd.R_drew)); exact HO170.out))) (below_size (by repeat (first | (with_reducible first | exact HB.out | apply below_alloc | apply pw_below_drewN | apply below_drew1) | exact HB.out)))); have n4_ := Aside0.mk (below_step (by repeat (first | (with_reducible first | exact HB.out | apply below_alloc | apply pw_below_drewN | apply below_drew1) | exact HB.out)) hb); clear HO163; clear HO166; clear HO170; clear HB; have HO163 := n0_; have HO166 := n1_; have HO170 := n2_; have HO173 := n3_; have HB := n4_; clear n0_ n1_ n2_ n3_ n4_; (try clear hb); (try clear hb2); (try clear hk); (try clear hi); (try clear ho0); obtain ⟨Ao43, co43, eo43⟩ := Kd.R_slice HO170.out; subst eo43; obtain ⟨Ao44, co44, eo44⟩ := Kd.R_slice HO173.out; subst eo44) | (go_at_call 25; (with_reducible refine (slices_Equal_string_string.calls kj1 _ _ t168 _ _ t171 true _ ?side1 ?side2 ?side3 ?side4 A16.out).mono ?_); (case side1 => repeat (first | exact (Kd.R_reads' HO170.out).2.2 | (with_reducible refine Kd.C_alloc ?_ _) | (with_reducible refine Kd.C_drewN ?_ _) | (with_reducible refine Kd.C_drew ?_))); (case side2 => exact (Kd.R_reads' HO170.out).2.1); (case side3 => repeat (first | exact (Kd.R_reads' HO173.out).2.2 | (with_reducible refine Kd.C_alloc ?_ _) | (with_reducible refine Kd.C_drewN ?_ _) | (with_reducible refine Kd.C_drew ?_))); (case side4 => exact (Kd.R_reads' HO173.out).2.1); rintro e w' ⟨rfl, ⟨nd, rfl⟩⟩) | (go_at_call 30; (with_reducible refine (lex_Plain.calls kj1 a0 t175 _ A18.out).mono ?_); rintro e w45 ⟨rfl, hb⟩; have n0_ := Aside0.mk (Kd.R_below (by (with_reducible repeat (first | apply Kd.R_alloc | apply Kd.R_drewN | apply Kd.R_drew)); exact HO163.out) hb); have n1_ := Aside0.mk (Kd.R_below (by (with_reducible repeat (first | apply Kd.R_alloc | apply Kd.R_drewN | apply Kd.R_drew)); exact HO166.out) hb); have n2_ := Aside0.mk (Kd.R_below (by (with_reducible repeat (first | apply Kd.R_alloc | apply Kd.R_drewN | apply Kd.R_drew)); exact HO170.out) hb); have n3_ := Aside0.mk (Kd.R_below (by (with_reducible repeat (first | apply Kd.R_alloc | apply Kd.R_drewN | apply Kd.R_drew)); exact HO173.out) hb); have n4_ := Aside0.mk (below_step (by repeat (first | (with_reducible first | exact HB.out | apply below_alloc | apply pw_below_drewN | apply below_drew1) | exact HB.out)) hb); clear HO163; clear HO166; clear HO170; clear HO173; clear HB; have HO163 := n0_; have HO166 := n1_; have HO170 := n2_; have HO173 := n3_; have HB := n4_; clear n0_ n1_ n2_ n3_ n4_; (try clear hb); (try clear hb2); (try clear hk); (try clear hi)) | (go_at_call 31; (with_reducible refine (maskref1_PlainName.calls kj1 a0 t176 _ A19.out).mono ?_); rintro e w' ⟨rfl, ⟨nd, rfl⟩⟩) | (go_at_call 32; (with_reducible refine (lex_Quoted.calls kj1 a0 t177 _ A21.out).mono ?_); rintro e w' ⟨rfl, ⟨nd, rfl⟩⟩) | (go_at_call 33; (with_reducible refine (maskref1_QuotedName.calls kj1 a0 t178 _ A22.out).mono ?_); rintro e w46 ⟨rfl, hb⟩; have n0_ := Aside0.mk (Kd.R_below (by (with_reducible repeat (first | apply Kd.R_alloc | apply Kd.R_drewN | apply Kd.R_drew)); exact HO163.out) hb); have n1_ := Aside0.mk (Kd.R_below (by (with_reducible repeat (first | apply Kd.R_alloc | apply Kd.R_drewN | apply Kd.R_drew)); exact HO166.out) hb); have n2_ := Aside0.mk (Kd.R_below (by (with_reducible repeat (first | apply Kd.R_alloc | apply Kd.R_drewN | apply Kd.R_drew)); exact HO170.out) hb); have n3_ := Aside0.mk (Kd.R_below (by (with_reducible repeat (first | apply Kd.R_alloc | apply Kd.R_drewN | apply Kd.R_drew)); exact HO173.out) hb); have n4_ := Aside0.mk (below_step (by repeat (first | (with_reducible first | exact HB.out | apply below_alloc | apply pw_below_drewN | apply below_drew1) | exact HB.out)) hb); clear HO163; clear HO166; clear HO170; clear HO173; clear HB; have HO163 := n0_; have HO166 := n1_; have HO170 := n2_; have HO173 := n3_; have HB := n4_; clear n0_ n1_ n2_ n3_ n4_; (try clear hb); (try clear hb2); (try clear hk); (try clear hi)))
        go_ret
        exact ⟨by first | rfl | (simp [errW_none, errW_some] <;> rfl) | (simp [*, errW_none, errW_some] <;> rfl), by repeat (first | (with_reducible first | exact HB.out | apply below_alloc | apply pw_below_drewN | apply below_drew1) | exact HB.out)⟩
      ·rw [if_neg c20] at H
       have c20b0 : (t175 == t176) = false := by simpa using c20
       (try (have c20b1 : decide (t175 = t176) = false := by simpa using c20))
       (try (have c20b2 : (t175 == t176) = false := by simpa using c20))
       (try (have c20b3 : ¬ (t175 = t176) := by simpa using c20))
       clear c20
       obtain rfl := Option.some.inj H
       go_wp2_with (first | ((with_reducible refine gate_callee (f := 26) rfl ?_); refine goesL_ (some 11) rfl rfl Tryd.func26 (by kernel_rfl) rfl #[] rfl (by (try simp only [List.map_toArray, List.map_cons, List.map_nil]); first | done | rfl | (simp only [List.length_drop, List.length_take]; rfl)) ?_; (with_reducible refine (lex_Words.calls  t161 _ A10.out).mono ?_); rintro e w47 ⟨v162, rfl, ho0, hb⟩; refine ⟨_, rfl, ?_⟩; have n0_ := Aside0.mk (Kd.R_lower ho0 (below_size (by repeat (first | (with_reducible first | exact HB.out | apply below_alloc | apply pw_below_drewN | apply below_drew1) | exact HB.out)))); have n1_ := Aside0.mk (below_step (by repeat (first | (with_reducible first | exact HB.out | apply below_alloc | apply pw_below_drewN | apply below_drew1) | exact HB.out)) hb); clear HB; have HO163 := n0_; have HB := n1_; clear n0_ n1_; (try clear hb); (try clear hb2); (try clear hk); (try clear hi); (try clear ho0)) | ((with_reducible refine gate_callee (f := 27) rfl ?_); refine goesL_ (some 12) rfl rfl Tryd.func27 (by kernel_rfl) rfl #[] rfl (by (try simp only [List.map_toArray, List.map_cons, List.map_nil]); first | done | rfl | (simp only [List.length_drop, List.length_take]; rfl)) ?_; (with_reducible refine (maskref1_LexWords.calls kj1  t164 _ A11.out).mono ?_); rintro e w48 ⟨v165, rfl, ho0, hb⟩; refine ⟨_, rfl, ?_⟩; have n0_ := Aside0.mk (Kd.R_elder' (by (with_reducible repeat (first | apply Kd.R_alloc | apply Kd.R_drewN | apply Kd.R_drew)); exact HO163.out) (Kd.R_base ho0) hb); have n1_ := Aside0.mk (Kd.R_lower (Kd.R_new' ho0 (Kd.R_lt (by (with_reducible repeat (first | apply Kd.R_alloc | apply Kd.R_drewN | apply Kd.R_drew)); exact HO163.out))) (below_size (by repeat (first | (with_reducible first | exact HB.out | apply below_alloc | apply pw_below_drewN | apply below_drew1) | exact HB.out)))); have n2_ := Aside0.mk (below_step (by repeat (first | (with_reducible first | exact HB.out | apply below_alloc | apply pw_below_drewN | apply below_drew1) | exact HB.out)) hb); clear HO163; clear HB; have HO163 := n0_; have HO166 := n1_; have HB := n2_; clear n0_ n1_ n2_; (try clear hb); (try clear hb2); (try clear hk); (try clear hi); (try clear ho0); obtain ⟨Ao49, co49, eo49⟩ := Kd.R_slice HO163.out; subst eo49; obtain ⟨Ao50, co50, eo50⟩ := Kd.R_slice HO166.out; subst eo50) | ((with_reducible refine gate_callee (f := 25) rfl ?_); refine goesL_ (some 13) rfl rfl Tryd.func25 (by kernel_rfl) rfl #[.slice Ao49 t161.length co49, .slice Ao50 t164.length co50] rfl (by (try simp only [List.map_toArray, List.map_cons, List.map_nil]); first | done | rfl | (simp only [List.length_drop, List.length_take]; rfl)) ?_; (with_reducible refine (slices_Equal_string_string.calls kj1 _ _ t161 _ _ t164 true _ ?side1 ?side2 ?side3 ?side4 A12.out).mono ?_); (case side1 => repeat (first | exact (Kd.R_reads' HO163.out).2.2 | (with_reducible refine Kd.C_alloc ?_ _) | (with_reducible refine Kd.C_drewN ?_ _) | (with_reducible refine Kd.C_drew ?_))); (case side2 => exact (Kd.R_reads' HO163.out).2.1); (case side3 => repeat (first | exact (Kd.R_reads' HO166.out).2.2 | (with_reducible refine Kd.C_alloc ?_ _) | (with_reducible refine Kd.C_drewN ?_ _) | (with_reducible refine Kd.C_drew ?_))); (case side4 => exact (Kd.R_reads' HO166.out).2.1); rintro e w' ⟨rfl, ⟨nd, rfl⟩⟩; refine ⟨_, rfl, ?_⟩) | (go_at_call 28; (with_reducible refine (lex_Signs.calls  t168 _ A14.out).mono ?_); rintro e w51 ⟨v169, rfl, ho0, hb⟩; have n0_ := Aside0.mk (Kd.R_elder' (by (with_reducible repeat (first | apply Kd.R_alloc | apply Kd.R_drewN | apply Kd.R_drew)); exact HO163.out) (Kd.R_base ho0) hb); have n1_ := Aside0.mk (Kd.R_elder' (by (with_reducible repeat (first | apply Kd.R_alloc | apply Kd.R_drewN | apply Kd.R_drew)); exact HO166.out) (Kd.R_base ho0) hb); have n2_ := Aside0.mk (Kd.R_lower (Kd.R_new' (Kd.R_new' ho0 (Kd.R_lt (by (with_reducible repeat (first | apply Kd.R_alloc | apply Kd.R_drewN | apply Kd.R_drew)); exact HO163.out))) (Kd.R_lt (by (with_reducible repeat (first | apply Kd.R_alloc | apply Kd.R_drewN | apply Kd.R_drew)); exact HO166.out))) (below_size (by repeat (first | (with_reducible first | exact HB.out | apply below_alloc | apply pw_below_drewN | apply below_drew1) | exact HB.out)))); have n3_ := Aside0.mk (below_step (by repeat (first | (with_reducible first | exact HB.out | apply below_alloc | apply pw_below_drewN | apply below_drew1) | exact HB.out)) hb); clear HO163; clear HO166; clear HB; have HO163 := n0_; have HO166 := n1_; have HO170 := n2_; have HB := n3_; clear n0_ n1_ n2_ n3_; (try clear hb); (try clear hb2); (try clear hk); (try clear hi); (try clear ho0)) | (go_at_call 29; (with_reducible refine (maskref1_LexSigns.calls kj1  t171 _ A15.out).mono ?_); rintro e w52 ⟨v172, rfl, ho0, hb⟩; have n0_ := Aside0.mk (Kd.R_elder' (by (with_reducible repeat (first | apply Kd.R_alloc | apply Kd.R_drewN | apply Kd.R_drew)); exact HO163.out) (Kd.R_base ho0) hb); have n1_ := Aside0.mk (Kd.R_elder' (by (with_reducible repeat (first | apply Kd.R_alloc | apply Kd.R_drewN | apply Kd.R_drew)); exact HO166.out) (Kd.R_base ho0) hb); have n2_ := Aside0.mk (Kd.R_elder' (by (with_reducible repeat (first | apply Kd.R_alloc | apply Kd.R_drewN | apply Kd.R_drew)); exact HO170.out) (Kd.R_base ho0) hb); have n3_ := Aside0.mk (Kd.R_lower (Kd.R_new' (Kd.R_new' (Kd.R_new' ho0 (Kd.R_lt (by (with_reducible repeat (first | apply Kd.R_alloc | apply Kd.R_drewN | apply Kd.R_drew)); exact HO163.out))) (Kd.R_lt (by (with_reducible repeat (first | apply Kd.R_alloc | apply Kd.R_drewN | apply Kd.R_drew)); exact HO166.out))) (Kd.R_lt (by (with_reducible repeat (first | apply Kd.R_alloc | apply Kd.R_drewN | apply Kd.R_drew)); exact HO170.out))) (below_size (by repeat (first | (with_reducible first | exact HB.out | apply below_alloc | apply pw_below_drewN | apply below_drew1) | exact HB.out)))); have n4_ := Aside0.mk (below_step (by repeat (first | (with_reducible first | exact HB.out | apply below_alloc | apply pw_below_drewN | apply below_drew1) | exact HB.out)) hb); clear HO163; clear HO166; clear HO170; clear HB; have HO163 := n0_; have HO166 := n1_; have HO170 := n2_; have HO173 := n3_; have HB := n4_; clear n0_ n1_ n2_ n3_ n4_; (try clear hb); (try clear hb2); (try clear hk); (try clear hi); (try clear ho0); obtain ⟨Ao53, co53, eo53⟩ := Kd.R_slice HO170.out; subst eo53; obtain ⟨Ao54, co54, eo54⟩ := Kd.R_slice HO173.out; subst eo54) | (go_at_call 25; (with_reducible refine (slices_Equal_string_string.calls kj1 _ _ t168 _ _ t171 true _ ?side1 ?side2 ?side3 ?side4 A16.out).mono ?_); (case side1 => repeat (first | exact (Kd.R_reads' HO170.out).2.2 | (with_reducible refine Kd.C_alloc ?_ _) | (with_reducible refine Kd.C_drewN ?_ _) | (with_reducible refine Kd.C_drew ?_))); (case side2 => exact (Kd.R_reads' HO170.out).2.1); (case side3 => repeat (first | exact (Kd.R_reads' HO173.out).2.2 | (with_reducible refine Kd.C_alloc ?_ _) | (with_reducible refine Kd.C_drewN ?_ _) | (with_reducible refine Kd.C_drew ?_))); (case side4 => exact (Kd.R_reads' HO173.out).2.1); rintro e w' ⟨rfl, ⟨nd, rfl⟩⟩) | (go_at_call 30; (with_reducible refine (lex_Plain.calls kj1 a0 t175 _ A18.out).mono ?_); rintro e w55 ⟨rfl, hb⟩; have n0_ := Aside0.mk (Kd.R_below (by (with_reducible repeat (first | apply Kd.R_alloc | apply Kd.R_drewN | apply Kd.R_drew)); exact HO163.out) hb); have n1_ := Aside0.mk (Kd.R_below (by (with_reducible repeat (first | apply Kd.R_alloc | apply Kd.R_drewN | apply Kd.R_drew)); exact HO166.out) hb); have n2_ := Aside0.mk (Kd.R_below (by (with_reducible repeat (first | apply Kd.R_alloc | apply Kd.R_drewN | apply Kd.R_drew)); exact HO170.out) hb); have n3_ := Aside0.mk (Kd.R_below (by (with_reducible repeat (first | apply Kd.R_alloc | apply Kd.R_drewN | apply Kd.R_drew)); exact HO173.out) hb); have n4_ := Aside0.mk (below_step (by repeat (first | (with_reducible first | exact HB.out | apply below_alloc | apply pw_below_drewN | apply below_drew1) | exact HB.out)) hb); clear HO163; clear HO166; clear HO170; clear HO173; clear HB; have HO163 := n0_; have HO166 := n1_; have HO170 := n2_; have HO173 := n3_; have HB := n4_; clear n0_ n1_ n2_ n3_ n4_; (try clear hb); (try clear hb2); (try clear hk); (try clear hi)) | (go_at_call 31; (with_reducible refine (maskref1_PlainName.calls kj1 a0 t176 _ A19.out).mono ?_); rintro e w' ⟨rfl, ⟨nd, rfl⟩⟩))
       go_ret
       exact ⟨by first | rfl | (simp [errW_none, errW_some] <;> rfl) | (simp [*, errW_none, errW_some] <;> rfl), by repeat (first | (with_reducible first | exact HB.out | apply below_alloc | apply pw_below_drewN | apply below_drew1) | exact HB.out)⟩
     ·replace c17 := Bool.eq_false_iff.mpr c17
      subst c17
      have H1 : (some false) = some r := by rw [if_neg (show ¬ (false = true) by decide)] at H; exact H
      clear H
      have H := H1
      clear H1
      obtain rfl := Option.some.inj H
      go_wp2_with (first | ((with_reducible refine gate_callee (f := 26) rfl ?_); refine goesL_ (some 11) rfl rfl Tryd.func26 (by kernel_rfl) rfl #[] rfl (by (try simp only [List.map_toArray, List.map_cons, List.map_nil]); first | done | rfl | (simp only [List.length_drop, List.length_take]; rfl)) ?_; (with_reducible refine (lex_Words.calls  t161 _ A10.out).mono ?_); rintro e w56 ⟨v162, rfl, ho0, hb⟩; refine ⟨_, rfl, ?_⟩; have n0_ := Aside0.mk (Kd.R_lower ho0 (below_size (by repeat (first | (with_reducible first | exact HB.out | apply below_alloc | apply pw_below_drewN | apply below_drew1) | exact HB.out)))); have n1_ := Aside0.mk (below_step (by repeat (first | (with_reducible first | exact HB.out | apply below_alloc | apply pw_below_drewN | apply below_drew1) | exact HB.out)) hb); clear HB; have HO163 := n0_; have HB := n1_; clear n0_ n1_; (try clear hb); (try clear hb2); (try clear hk); (try clear hi); (try clear ho0)) | ((with_reducible refine gate_callee (f := 27) rfl ?_); refine goesL_ (some 12) rfl rfl Tryd.func27 (by kernel_rfl) rfl #[] rfl (by (try simp only [List.map_toArray, List.map_cons, List.map_nil]); first | done | rfl | (simp only [List.length_drop, List.length_take]; rfl)) ?_; (with_reducible refine (maskref1_LexWords.calls kj1  t164 _ A11.out).mono ?_); rintro e w57 ⟨v165, rfl, ho0, hb⟩; refine ⟨_, rfl, ?_⟩; have n0_ := Aside0.mk (Kd.R_elder' (by (with_reducible repeat (first | apply Kd.R_alloc | apply Kd.R_drewN | apply Kd.R_drew)); exact HO163.out) (Kd.R_base ho0) hb); have n1_ := Aside0.mk (Kd.R_lower (Kd.R_new' ho0 (Kd.R_lt (by (with_reducible repeat (first | apply Kd.R_alloc | apply Kd.R_drewN | apply Kd.R_drew)); exact HO163.out))) (below_size (by repeat (first | (with_reducible first | exact HB.out | apply below_alloc | apply pw_below_drewN | apply below_drew1) | exact HB.out)))); have n2_ := Aside0.mk (below_step (by repeat (first | (with_reducible first | exact HB.out | apply below_alloc | apply pw_below_drewN | apply below_drew1) | exact HB.out)) hb); clear HO163; clear HB; have HO163 := n0_; have HO166 := n1_; have HB := n2_; clear n0_ n1_ n2_; (try clear hb); (try clear hb2); (try clear hk); (try clear hi); (try clear ho0); obtain ⟨Ao58, co58, eo58⟩ := Kd.R_slice HO163.out; subst eo58; obtain ⟨Ao59, co59, eo59⟩ := Kd.R_slice HO166.out; subst eo59) | ((with_reducible refine gate_callee (f := 25) rfl ?_); refine goesL_ (some 13) rfl rfl Tryd.func25 (by kernel_rfl) rfl #[.slice Ao58 t161.length co58, .slice Ao59 t164.length co59] rfl (by (try simp only [List.map_toArray, List.map_cons, List.map_nil]); first | done | rfl | (simp only [List.length_drop, List.length_take]; rfl)) ?_; (with_reducible refine (slices_Equal_string_string.calls kj1 _ _ t161 _ _ t164 true _ ?side1 ?side2 ?side3 ?side4 A12.out).mono ?_); (case side1 => repeat (first | exact (Kd.R_reads' HO163.out).2.2 | (with_reducible refine Kd.C_alloc ?_ _) | (with_reducible refine Kd.C_drewN ?_ _) | (with_reducible refine Kd.C_drew ?_))); (case side2 => exact (Kd.R_reads' HO163.out).2.1); (case side3 => repeat (first | exact (Kd.R_reads' HO166.out).2.2 | (with_reducible refine Kd.C_alloc ?_ _) | (with_reducible refine Kd.C_drewN ?_ _) | (with_reducible refine Kd.C_drew ?_))); (case side4 => exact (Kd.R_reads' HO166.out).2.1); rintro e w' ⟨rfl, ⟨nd, rfl⟩⟩; refine ⟨_, rfl, ?_⟩) | (go_at_call 28; (with_reducible refine (lex_Signs.calls  t168 _ A14.out).mono ?_); rintro e w60 ⟨v169, rfl, ho0, hb⟩; have n0_ := Aside0.mk (Kd.R_elder' (by (with_reducible repeat (first | apply Kd.R_alloc | apply Kd.R_drewN | apply Kd.R_drew)); exact HO163.out) (Kd.R_base ho0) hb); have n1_ := Aside0.mk (Kd.R_elder' (by (with_reducible repeat (first | apply Kd.R_alloc | apply Kd.R_drewN | apply Kd.R_drew)); exact HO166.out) (Kd.R_base ho0) hb); have n2_ := Aside0.mk (Kd.R_lower (Kd.R_new' (Kd.R_new' ho0 (Kd.R_lt (by (with_reducible repeat (first | apply Kd.R_alloc | apply Kd.R_drewN | apply Kd.R_drew)); exact HO163.out))) (Kd.R_lt (by (with_reducible repeat (first | apply Kd.R_alloc | apply Kd.R_drewN | apply Kd.R_drew)); exact HO166.out))) (below_size (by repeat (first | (with_reducible first | exact HB.out | apply below_alloc | apply pw_below_drewN | apply below_drew1) | exact HB.out)))); have n3_ := Aside0.mk (below_step (by repeat (first | (with_reducible first | exact HB.out | apply below_alloc | apply pw_below_drewN | apply below_drew1) | exact HB.out)) hb); clear HO163; clear HO166; clear HB; have HO163 := n0_; have HO166 := n1_; have HO170 := n2_; have HB := n3_; clear n0_ n1_ n2_ n3_; (try clear hb); (try clear hb2); (try clear hk); (try clear hi); (try clear ho0)) | (go_at_call 29; (with_reducible refine (maskref1_LexSigns.calls kj1  t171 _ A15.out).mono ?_); rintro e w61 ⟨v172, rfl, ho0, hb⟩; have n0_ := Aside0.mk (Kd.R_elder' (by (with_reducible repeat (first | apply Kd.R_alloc | apply Kd.R_drewN | apply Kd.R_drew)); exact HO163.out) (Kd.R_base ho0) hb); have n1_ := Aside0.mk (Kd.R_elder' (by (with_reducible repeat (first | apply Kd.R_alloc | apply Kd.R_drewN | apply Kd.R_drew)); exact HO166.out) (Kd.R_base ho0) hb); have n2_ := Aside0.mk (Kd.R_elder' (by (with_reducible repeat (first | apply Kd.R_alloc | apply Kd.R_drewN | apply Kd.R_drew)); exact HO170.out) (Kd.R_base ho0) hb); have n3_ := Aside0.mk (Kd.R_lower (Kd.R_new' (Kd.R_new' (Kd.R_new' ho0 (Kd.R_lt (by (with_reducible repeat (first | apply Kd.R_alloc | apply Kd.R_drewN | apply Kd.R_drew)); exact HO163.out))) (Kd.R_lt (by (with_reducible repeat (first | apply Kd.R_alloc | apply Kd.R_drewN | apply Kd.R_drew)); exact HO166.out))) (Kd.R_lt (by (with_reducible repeat (first | apply Kd.R_alloc | apply Kd.R_drewN | apply Kd.R_drew)); exact HO170.out))) (below_size (by repeat (first | (with_reducible first | exact HB.out | apply below_alloc | apply pw_below_drewN | apply below_drew1) | exact HB.out)))); have n4_ := Aside0.mk (below_step (by repeat (first | (with_reducible first | exact HB.out | apply below_alloc | apply pw_below_drewN | apply below_drew1) | exact HB.out)) hb); clear HO163; clear HO166; clear HO170; clear HB; have HO163 := n0_; have HO166 := n1_; have HO170 := n2_; have HO173 := n3_; have HB := n4_; clear n0_ n1_ n2_ n3_ n4_; (try clear hb); (try clear hb2); (try clear hk); (try clear hi); (try clear ho0); obtain ⟨Ao62, co62, eo62⟩ := Kd.R_slice HO170.out; subst eo62; obtain ⟨Ao63, co63, eo63⟩ := Kd.R_slice HO173.out; subst eo63) | (go_at_call 25; (with_reducible refine (slices_Equal_string_string.calls kj1 _ _ t168 _ _ t171 false _ ?side1 ?side2 ?side3 ?side4 A16.out).mono ?_); (case side1 => repeat (first | exact (Kd.R_reads' HO170.out).2.2 | (with_reducible refine Kd.C_alloc ?_ _) | (with_reducible refine Kd.C_drewN ?_ _) | (with_reducible refine Kd.C_drew ?_))); (case side2 => exact (Kd.R_reads' HO170.out).2.1); (case side3 => repeat (first | exact (Kd.R_reads' HO173.out).2.2 | (with_reducible refine Kd.C_alloc ?_ _) | (with_reducible refine Kd.C_drewN ?_ _) | (with_reducible refine Kd.C_drew ?_))); (case side4 => exact (Kd.R_reads' HO173.out).2.1); rintro e w' ⟨rfl, ⟨nd, rfl⟩⟩))
      go_ret
      exact ⟨by first | rfl | (simp [errW_none, errW_some] <;> rfl) | (simp [*, errW_none, errW_some] <;> rfl), by repeat (first | (with_reducible first | exact HB.out | apply below_alloc | apply pw_below_drewN | apply below_drew1) | exact HB.out)⟩
    ·replace c13 := Bool.eq_false_iff.mpr c13
     subst c13
     have H1 : (some false) = some r := by rw [if_neg (show ¬ (false = true) by decide)] at H; exact H
     clear H
     have H := H1
     clear H1
     obtain rfl := Option.some.inj H
     go_wp2_with (first | ((with_reducible refine gate_callee (f := 26) rfl ?_); refine goesL_ (some 11) rfl rfl Tryd.func26 (by kernel_rfl) rfl #[] rfl (by (try simp only [List.map_toArray, List.map_cons, List.map_nil]); first | done | rfl | (simp only [List.length_drop, List.length_take]; rfl)) ?_; (with_reducible refine (lex_Words.calls  t161 _ A10.out).mono ?_); rintro e w64 ⟨v162, rfl, ho0, hb⟩; refine ⟨_, rfl, ?_⟩; have n0_ := Aside0.mk (Kd.R_lower ho0 (below_size (by repeat (first | (with_reducible first | exact HB.out | apply below_alloc | apply pw_below_drewN | apply below_drew1) | exact HB.out)))); have n1_ := Aside0.mk (below_step (by repeat (first | (with_reducible first | exact HB.out | apply below_alloc | apply pw_below_drewN | apply below_drew1) | exact HB.out)) hb); clear HB; have HO163 := n0_; have HB := n1_; clear n0_ n1_; (try clear hb); (try clear hb2); (try clear hk); (try clear hi); (try clear ho0)) | ((with_reducible refine gate_callee (f := 27) rfl ?_); refine goesL_ (some 12) rfl rfl Tryd.func27 (by kernel_rfl) rfl #[] rfl (by (try simp only [List.map_toArray, List.map_cons, List.map_nil]); first | done | rfl | (simp only [List.length_drop, List.length_take]; rfl)) ?_; (with_reducible refine (maskref1_LexWords.calls kj1  t164 _ A11.out).mono ?_); rintro e w65 ⟨v165, rfl, ho0, hb⟩; refine ⟨_, rfl, ?_⟩; have n0_ := Aside0.mk (Kd.R_elder' (by (with_reducible repeat (first | apply Kd.R_alloc | apply Kd.R_drewN | apply Kd.R_drew)); exact HO163.out) (Kd.R_base ho0) hb); have n1_ := Aside0.mk (Kd.R_lower (Kd.R_new' ho0 (Kd.R_lt (by (with_reducible repeat (first | apply Kd.R_alloc | apply Kd.R_drewN | apply Kd.R_drew)); exact HO163.out))) (below_size (by repeat (first | (with_reducible first | exact HB.out | apply below_alloc | apply pw_below_drewN | apply below_drew1) | exact HB.out)))); have n2_ := Aside0.mk (below_step (by repeat (first | (with_reducible first | exact HB.out | apply below_alloc | apply pw_below_drewN | apply below_drew1) | exact HB.out)) hb); clear HO163; clear HB; have HO163 := n0_; have HO166 := n1_; have HB := n2_; clear n0_ n1_ n2_; (try clear hb); (try clear hb2); (try clear hk); (try clear hi); (try clear ho0); obtain ⟨Ao66, co66, eo66⟩ := Kd.R_slice HO163.out; subst eo66; obtain ⟨Ao67, co67, eo67⟩ := Kd.R_slice HO166.out; subst eo67) | ((with_reducible refine gate_callee (f := 25) rfl ?_); refine goesL_ (some 13) rfl rfl Tryd.func25 (by kernel_rfl) rfl #[.slice Ao66 t161.length co66, .slice Ao67 t164.length co67] rfl (by (try simp only [List.map_toArray, List.map_cons, List.map_nil]); first | done | rfl | (simp only [List.length_drop, List.length_take]; rfl)) ?_; (with_reducible refine (slices_Equal_string_string.calls kj1 _ _ t161 _ _ t164 false _ ?side1 ?side2 ?side3 ?side4 A12.out).mono ?_); (case side1 => repeat (first | exact (Kd.R_reads' HO163.out).2.2 | (with_reducible refine Kd.C_alloc ?_ _) | (with_reducible refine Kd.C_drewN ?_ _) | (with_reducible refine Kd.C_drew ?_))); (case side2 => exact (Kd.R_reads' HO163.out).2.1); (case side3 => repeat (first | exact (Kd.R_reads' HO166.out).2.2 | (with_reducible refine Kd.C_alloc ?_ _) | (with_reducible refine Kd.C_drewN ?_ _) | (with_reducible refine Kd.C_drew ?_))); (case side4 => exact (Kd.R_reads' HO166.out).2.1); rintro e w' ⟨rfl, ⟨nd, rfl⟩⟩; refine ⟨_, rfl, ?_⟩))
     go_ret
     exact ⟨by first | rfl | (simp [errW_none, errW_some] <;> rfl) | (simp [*, errW_none, errW_some] <;> rfl), by repeat (first | (with_reducible first | exact HB.out | apply below_alloc | apply pw_below_drewN | apply below_drew1) | exact HB.out)⟩
end Go.Proofs.YtlamgdibnnmbmaaDoor.PLex
end
section
namespace Go.Proofs.YtlamgdibnnmbmaaDoor.PLex
open Go.RowKit Go.Proofs.YtlamgdibnnmbmaaDoorW.PrintWords Go.Proofs.YtlamgdibnnmbmaaDoorW.PrintLast Go.Proofs.YtlamgdibnnmbmaaDoorW.PrintMore
set_option linter.unusedVariables false
set_option linter.unusedSimpArgs false
set_option linter.unusedSectionVars false
theorem letter_is (c : UInt8) : lex_letter.f (c.toNat : Int) = some (letterP c) := by
  have key : ∀ n : Fin 256, lex_letter.f (n.1 : Int) = some (letterP (UInt8.ofNat n.1)) := by decide +kernel
  have := key ⟨c.toNat, UInt8.toNat_lt c⟩
  rwa [u8_of] at this
theorem figure_is (c : UInt8) : lex_figure.f (c.toNat : Int) = some (figureP c) := by
  have key : ∀ n : Fin 256, lex_figure.f (n.1 : Int) = some (figureP (UInt8.ofNat n.1)) := by decide +kernel
  have := key ⟨c.toNat, UInt8.toNat_lt c⟩
  rwa [u8_of] at this
theorem quotable_is (c : UInt8) : lex_quotable.f (c.toNat : Int) = some (quoteP c) := by
  have key : ∀ n : Fin 256, lex_quotable.f (n.1 : Int) = some (quoteP (UInt8.ofNat n.1)) := by decide +kernel
  have := key ⟨c.toNat, UInt8.toNat_lt c⟩
  rwa [u8_of] at this
theorem tail_zero (T : ByteArray) : tail T 0 = T := by unfold tail; exact ByteArray.extract_zero_size
theorem words_is : maskref1_LexWords.f 1000 = some WORDS := by kernel_rfl
theorem signs_is : maskref1_LexSigns.f 500 = some SIGNS := by kernel_rfl
theorem words_same : slices_Equal_string_string.f 500 WORDS WORDS = some true := by decide +kernel
theorem signs_same : slices_Equal_string_string.f 500 SIGNS SIGNS = some true := by decide +kernel
theorem scanned_is : masklaw1_scanned.f 40 = some true := by decide +kernel
section
variable (T : ByteArray) (hS : T.size ≤ 1000)
include hS
theorem plain_l0 (r : Int) (b : Bool) (hr : Ev (fun k => slices_BinarySearch_string_string.f k WORDS T) (r, b)) : ∀ d i, i + d = T.size →
    Ev (fun k => lex_Plain.l0 k T (T.size : Int) (i : Int)) (if runTo T wordP i = T.size then !b else false)
  | 0, i, h => by
    rw [if_pos (by rw [runTo_eq, dif_neg (by omega)]; omega)]
    refine Ev.step (fun k => by rw [lex_Plain.l0]) ?_
    refine Ev.neg (by omega) (Ev.bnd words_eq ?_)
    exact Ev.bind hr (Ev.now _)
  | d + 1, i, h => by
    have hlt : i < T.size := by omega
    have ih := plain_l0 r b hr d (i + 1) (by omega)
    refine Ev.step (fun k => by rw [lex_Plain.l0]) ?_
    refine Ev.pos (by omega) (Ev.pos (by omega) (Ev.pos (by omega) ?_))
    rw [bt_get T i hlt, wrap_succ hlt (by omega)]
    refine Ev.bnd (letter_is _) ?_
    have hst : runTo T wordP i = if wordP (T[i]'hlt) then runTo T wordP (i + 1) else i := by rw [runTo_eq, dif_pos hlt]
    cases hl : letterP (T[i]'hlt)
    · refine Ev.neg (by decide) (Ev.bnd (figure_is _) ?_)
      cases hf : figureP (T[i]'hlt)
      · rw [hst, if_neg (show ¬ wordP (T[i]'hlt) = true by unfold wordP; rw [hl, hf]; decide), if_neg (by omega)]
        exact Ev.neg (by decide) (Ev.now _)
      · rw [hst, if_pos (show wordP (T[i]'hlt) = true by unfold wordP; rw [hl, hf]; rfl)]
        exact Ev.pos rfl ih
    · rw [hst, if_pos (show wordP (T[i]'hlt) = true by unfold wordP; rw [hl]; rfl)]
      exact Ev.pos rfl ih
theorem quoted_l0 : ∀ d i, i + d = T.size → Ev (fun k => lex_Quoted.l0 k T (T.size : Int) (i : Int)) (decide (runTo T quoteP i = T.size))
  | 0, i, h => by
    rw [decide_eq_true (by rw [runTo_eq, dif_neg (by omega)]; omega)]
    refine Ev.step (fun k => by rw [lex_Quoted.l0]) ?_
    exact Ev.neg (by omega) (Ev.now _)
  | d + 1, i, h => by
    have hlt : i < T.size := by omega
    have ih := quoted_l0 d (i + 1) (by omega)
    refine Ev.step (fun k => by rw [lex_Quoted.l0]) ?_
    refine Ev.pos (by omega) (Ev.pos (by omega) (Ev.pos (by omega) ?_))
    rw [bt_get T i hlt, wrap_succ hlt (by omega)]
    refine Ev.bnd (quotable_is _) ?_
    have hst : runTo T quoteP i = if quoteP (T[i]'hlt) then runTo T quoteP (i + 1) else i := by rw [runTo_eq, dif_pos hlt]
    cases hl : quoteP (T[i]'hlt)
    · rw [hst, hl, if_neg (by decide), decide_eq_false (by omega)]
      exact Ev.neg (by decide) (Ev.now _)
    · rw [hst, hl, if_pos rfl]
      exact Ev.pos rfl ih
theorem all_words (h : runTo T wordP 0 = T.size) : ∀ c ∈ T.data.toList, c ≠ 32 := by
  intro c hc e
  subst e
  obtain ⟨i, hi, he⟩ := List.mem_iff_getElem.1 hc
  have hlt : i < T.size := hi
  have hw := runTo_all T wordP _ 0 (Nat.le_refl _) i hlt (Nat.zero_le _) (by omega)
  have : T[i] = 32 := he
  rw [this] at hw
  exact absurd hw (by decide)
theorem plain_same : ∃ b, Ev (fun k => lex_Plain.f k T) b ∧ Ev (fun k => maskref1_PlainName.f k T) b := by
  classical
  obtain ⟨r, hr⟩ := search_is T
  have jt : Ev (fun k => lex_Plain.j0 k T true) false := by
    refine Ev.step (fun k => by rw [lex_Plain.j0]) ?_
    exact Ev.pos rfl (Ev.now _)
  by_cases h1 : T.size < 1
  · refine ⟨false, ?_, ?_⟩
    · unfold lex_Plain.f; exact Ev.pos (by omega) jt
    · unfold maskref1_PlainName.f; exact Ev.neg (by omega) (Ev.now _)
  · by_cases h40 : 40 < T.size
    · refine ⟨false, ?_, ?_⟩
      · unfold lex_Plain.f; exact Ev.neg (by omega) (Ev.pos (by omega) jt)
      · unfold maskref1_PlainName.f; exact Ev.pos (by omega) (Ev.neg (by omega) (Ev.now _))
    · have hlt : 0 < T.size := by omega
      have hb0 : bt T 0 = ((T[0]'hlt).toNat : Int) := bt_get T 0 hlt
      cases hl : letterP (T[0]'hlt)
      · refine ⟨false, ?_, ?_⟩
        · unfold lex_Plain.f
          refine Ev.neg (by omega) (Ev.neg (by omega) (Ev.pos (by omega) ?_))
          rw [hb0]
          refine Ev.bnd (letter_is _) ?_
          rw [hl]; exact jt
        · unfold maskref1_PlainName.f
          refine Ev.pos (by omega) (Ev.pos (by omega) (Ev.pos (by omega) ?_))
          rw [hb0]
          refine Ev.bnd (isLetter_is _) ?_
          rw [hl]; exact Ev.neg (by decide) (Ev.now _)
      · have hp := plain_l0 T hS r _ hr T.size 0 (by omega)
        refine ⟨if runTo T wordP 0 = T.size then !(decide (T ∈ WORDS)) else false, ?_, ?_⟩
        · unfold lex_Plain.f
          refine Ev.neg (by omega) (Ev.neg (by omega) (Ev.pos (by omega) ?_))
          rw [hb0]
          refine Ev.bnd (letter_is _) ?_
          rw [hl]
          refine Ev.step (fun k => by rw [lex_Plain.j0]) ?_
          exact Ev.neg (by decide) hp
        · unfold maskref1_PlainName.f
          refine Ev.pos (by omega) (Ev.pos (by omega) (Ev.pos (by omega) ?_))
          rw [hb0]
          refine Ev.bnd (isLetter_is _) ?_
          rw [hl]
          have hrun := runWord T (by omega) 0 (by omega)
          rw [tail_zero, Nat.sub_zero] at hrun
          refine Ev.pos rfl (Ev.bind hrun ?_)
          by_cases ha : runTo T wordP 0 = T.size
          · rw [if_pos ha]
            have hct := contains_word T (by omega) (all_words T hS ha)
            refine Ev.pos (by omega) (Ev.pos (by omega) (Ev.pos (by rw [ByteArray.size_append]; show 1 + T.size + 1 ≤ _; omega) ?_))
            exact Ev.bind hct (Ev.now _)
          · rw [if_neg ha]
            exact Ev.neg (by omega) (Ev.now _)
theorem quoted_same : ∃ b, Ev (fun k => lex_Quoted.f k T) b ∧ Ev (fun k => maskref1_QuotedName.f k T) b := by
  have jt : Ev (fun k => lex_Quoted.j0 k T true) false := by
    refine Ev.step (fun k => by rw [lex_Quoted.j0]) ?_
    exact Ev.pos rfl (Ev.now _)
  by_cases h1 : T.size < 1
  · refine ⟨false, ?_, ?_⟩
    · unfold lex_Quoted.f; exact Ev.pos (by omega) jt
    · unfold maskref1_QuotedName.f; exact Ev.neg (by omega) (Ev.now _)
  · by_cases h40 : 40 < T.size
    · refine ⟨false, ?_, ?_⟩
      · unfold lex_Quoted.f
        refine Ev.neg (by omega) ?_
        rw [decide_eq_true (by omega)]; exact jt
      · unfold maskref1_QuotedName.f; exact Ev.pos (by omega) (Ev.neg (by omega) (Ev.now _))
    · have hp := quoted_l0 T hS T.size 0 (by omega)
      refine ⟨decide (runTo T quoteP 0 = T.size), ?_, ?_⟩
      · unfold lex_Quoted.f
        refine Ev.neg (by omega) ?_
        rw [decide_eq_false (by omega)]
        refine Ev.step (fun k => by rw [lex_Quoted.j0]) ?_
        exact Ev.neg (by decide) hp
      · unfold maskref1_QuotedName.f
        have hrun := runQuoted T (by omega) 0 (by omega)
        rw [tail_zero, Nat.sub_zero] at hrun
        refine Ev.pos (by omega) (Ev.pos (by omega) (Ev.bind hrun ((Ev.now _).eq ?_)))
        rw [Bool.eq_iff_iff, beq_iff_eq, decide_eq_true_eq]; omega
end
theorem replaceK_one (c : UInt8) (new : List UInt8) : ∀ (s : List UInt8) (k : Nat), s.count c ≤ k → Lib.replaceK [c] new k s = s.flatMap (fun b => if b = c then new else [b])
  | [], k, _ => by
    cases k with
    | zero => rfl
    | succ k =>
      rw [Lib.replaceK, if_pos (show (Lib.index [] [c] == -1) = true from rfl)]; rfl
  | b :: s, k, h => by
    rw [List.flatMap_cons]
    by_cases hb : b = c
    · subst hb
      rw [List.count_cons_self] at h
      obtain ⟨k, rfl⟩ : ∃ m, k = m + 1 := ⟨k - 1, by omega⟩
      have hi : Lib.index (b :: s) [b] = 0 := by rw [Lib.index]; simp [List.isPrefixOf]
      rw [if_pos rfl, Lib.replaceK_hit [b] new k (b :: s) 0 hi]
      have := replaceK_one b new s k (by omega)
      simp [this]
    · have hbc : ¬ (b == c) = true := fun e => hb (beq_iff_eq.1 e)
      rw [List.count_cons_of_ne hb] at h
      rw [if_neg hb]
      have ih := replaceK_one c new s k h
      rw [← ih]
      have hi : Lib.index (b :: s) [c] = if Lib.index s [c] == -1 then -1 else Lib.index s [c] + 1 := by
        rw [Lib.index, if_neg]
        simp [List.isPrefixOf]
        exact fun e => hb e.symm
      cases k with
      | zero => rfl
      | succ k =>
        rw [Lib.replaceK, Lib.replaceK, hi]
        have hge := Lib.index_ge s [c]
        by_cases hm : Lib.index s [c] = -1
        · rw [hm]; simp
        · have hm' : ¬ (Lib.index s [c] == -1) = true := fun e => hm (beq_iff_eq.1 e)
          obtain ⟨n, hn⟩ := Int.eq_ofNat_of_zero_le (show 0 ≤ Lib.index s [c] by omega)
          rw [if_neg hm', if_neg hm', if_neg (by rw [hn]; intro e; have := beq_iff_eq.1 e; omega), hn]
          have e1 : ((n : Int) + 1).toNat = n + 1 := by omega
          have e2 : ((n : Int)).toNat = n := by omega
          rw [e1, e2]
          simp [Nat.add_right_comm n 1 1]
theorem replace_one (T new : ByteArray) (c : UInt8) (hne : [c] ≠ new.data.toList) (h : T.size ≤ 100000) (hn : new.size ≤ 2) :
    strings_ReplaceAll.f T ⟨#[c]⟩ new = some ⟨(T.data.toList.flatMap (fun b => if b = c then new.data.toList else [b])).toArray⟩ := by
  unfold strings_ReplaceAll.f
  have hle : Lib.countB T ⟨#[c]⟩ ≤ T.size := Lib.countB_le ⟨#[c]⟩ (Nat.le_refl 1) T.size T (Nat.le_refl _)
  have hm : Lib.countB T ⟨#[c]⟩ * new.size ≤ T.size * 2 := Nat.mul_le_mul hle hn
  rw [if_pos ⟨by omega, Nat.le_refl 1, by omega⟩]
  unfold Lib.replaceAll Lib.replace Lib.replaceNum
  have e : (⟨#[c]⟩ : ByteArray).data.toList = [c] := rfl
  rw [e, if_neg (fun h => hne (beq_iff_eq.1 h)), if_pos (.inl (by decide))]
  rw [replaceK_one c _ _ _ (by rw [Lib.count_one]; exact Nat.le_refl _)]
def esc (b : UInt8) : List UInt8 := if b = 34 ∨ b = 92 then [92, b] else [b]
theorem esc_twice (l : List UInt8) : ((l.flatMap (fun b => if b = 92 then [92, 92] else [b])).flatMap (fun b => if b = 34 then [92, 34] else [b])) = l.flatMap esc := by
  induction l with
  | nil => rfl
  | cons b l ih =>
    rw [List.flatMap_cons, List.flatMap_cons, List.flatMap_append, ih]
    congr 1
    unfold esc
    by_cases h1 : b = 92
    · subst h1; rfl
    · by_cases h2 : b = 34
      · subst h2; rfl
      · rw [if_neg h1, if_neg (fun h => h.elim h2 h1)]
        simp [h2]
theorem flat_len (f : UInt8 → List UInt8) (hf : ∀ b, (f b).length ≤ 2) : ∀ l : List UInt8, (l.flatMap f).length ≤ 2 * l.length
  | [] => by simp
  | b :: l => by
    have := flat_len f hf l
    have := hf b
    rw [List.flatMap_cons, List.length_append, List.length_cons]; omega
theorem esc_len (l : List UInt8) : (l.flatMap esc).length ≤ 2 * l.length := flat_len esc (fun b => by unfold esc; split <;> simp) l
theorem quote_is (T : ByteArray) (hS : T.size ≤ 1000) : lex_Quote.f T = some ((⟨#[34]⟩ : ByteArray) ++ ⟨(T.data.toList.flatMap esc).toArray⟩ ++ ⟨#[34]⟩) := by
  have hsz : T.size = T.data.toList.length := by rw [Array.length_toList]; rfl
  unfold lex_Quote.f
  rw [replace_one T ⟨#[92, 92]⟩ 92 (by decide) (by omega) (by decide), Option.bind_some]
  have h1 := flat_len (fun b => if b = 92 then [92, 92] else [b]) (fun b => by split <;> simp) T.data.toList
  have h2 := esc_len T.data.toList
  rw [replace_one ⟨(T.data.toList.flatMap (fun b => if b = 92 then [92, 92] else [b])).toArray⟩ ⟨#[92, 34]⟩ 34 (by decide) (by show (List.toArray _).size ≤ _; rw [List.size_toArray]; exact Nat.le_trans h1 (by omega)) (by decide), Option.bind_some]
  have e : ((⟨(T.data.toList.flatMap (fun b => if b = 92 then [92, 92] else [b])).toArray⟩ : ByteArray).data.toList.flatMap (fun b => if b = 34 then (⟨#[92, 34]⟩ : ByteArray).data.toList else [b])) = T.data.toList.flatMap esc := esc_twice _
  rw [e]
  have h3 : (⟨(T.data.toList.flatMap esc).toArray⟩ : ByteArray).size ≤ 2000 := by
    show (List.toArray _).size ≤ _
    rw [List.size_toArray]; omega
  rw [if_pos (by omega), if_pos (by rw [ByteArray.size_append]; show 1 + _ + 1 ≤ _; omega)]
theorem ext_list {a b : ByteArray} (h : a.data.toList = b.data.toList) : a = b := by
  obtain ⟨a⟩ := a
  obtain ⟨b⟩ := b
  exact congrArg ByteArray.mk (Array.toList_inj.1 h)
theorem one_byte (T : ByteArray) (i : Nat) (h : i < T.size) : T.extract i (i + 1) = ⟨#[T[i]'h]⟩ := by
  refine ext_list ?_
  have := cut_list T i 1
  rw [Lib.toList_data] at this
  rw [this, List.drop_eq_getElem_cons (show i < T.data.toList.length from h)]
  rfl
theorem token_l0 (T : ByteArray) (hS : T.size ≤ 1000) : ∀ d i (acc : ByteArray), i + d = T.size → acc.size ≤ 2 * i + 1 →
    Ev (fun k => maskref1_StringToken.l0 k T acc (T.size : Int) (i : Int)) (acc ++ ⟨((T.data.toList.drop i).flatMap esc).toArray⟩ ++ ⟨#[34]⟩)
  | 0, i, acc, h, ha => by
    rw [List.drop_eq_nil_of_le (show T.data.toList.length ≤ i by rw [Array.length_toList]; show T.size ≤ i; omega)]
    have e : acc ++ (⟨(([] : List UInt8).flatMap esc).toArray⟩ : ByteArray) = acc := ext_list (by simp)
    rw [e]
    refine Ev.step (fun k => by rw [maskref1_StringToken.l0]) ?_
    exact Ev.neg (by omega) (Ev.pos (by omega) (Ev.now _))
  | d + 1, i, acc, h, ha => by
    have hlt : i < T.size := by omega
    have hd : T.data.toList.drop i = T[i]'hlt :: T.data.toList.drop (i + 1) := List.drop_eq_getElem_cons (show i < T.data.toList.length from hlt)
    rw [hd, List.flatMap_cons]
    have hw := wrap_succ hlt (by omega)
    have hsplit : ∀ p : ByteArray, p.data.toList = esc (T[i]'hlt) → acc ++ (⟨(esc (T[i]'hlt) ++ (T.data.toList.drop (i + 1)).flatMap esc).toArray⟩ : ByteArray) ++ ⟨#[34]⟩ = acc ++ p ++ (⟨((T.data.toList.drop (i + 1)).flatMap esc).toArray⟩ : ByteArray) ++ ⟨#[34]⟩ := by
      intro p hp
      refine ext_list ?_
      simp [hp]
    have hone := one_byte T i hlt
    have hs1 : (T.extract i (i + 1)).size = 1 := by rw [hone]; rfl
    have two : ((T[i]'hlt) = 34 ∨ (T[i]'hlt) = 92) → Ev (fun k => if acc.size + 1 ≤ 9223372036854775807 then (if (i : Int) ≤ ((i + 1 : Nat) : Int) then (if ((i + 1 : Nat) : Int) ≤ (T.size : Int) then (if (acc ++ (⟨#[92]⟩ : ByteArray)).size + (T.extract i (i + 1)).size ≤ 9223372036854775807 then (maskref1_StringToken.l0 k T ((acc ++ (⟨#[92]⟩ : ByteArray)) ++ (T.extract i (i + 1))) (T.size : Int) ((i + 1 : Nat) : Int)) else (none)) else (none)) else (none)) else (none)) (acc ++ (⟨(esc (T[i]'hlt) ++ (T.data.toList.drop (i + 1)).flatMap esc).toArray⟩ : ByteArray) ++ ⟨#[34]⟩) := by
      intro hc
      have hz : (acc ++ (⟨#[92]⟩ : ByteArray)).size = acc.size + 1 := by rw [ByteArray.size_append]; rfl
      refine Ev.pos (by omega) (Ev.pos (by omega) (Ev.pos (by omega) (Ev.pos (by rw [hz, hs1]; omega) ?_)))
      have ih := token_l0 T hS d (i + 1) ((acc ++ (⟨#[92]⟩ : ByteArray)) ++ (T.extract i (i + 1))) (by omega) (by rw [ByteArray.size_append, hz, hs1]; omega)
      refine ih.eq ?_
      rw [hsplit ((⟨#[92]⟩ : ByteArray) ++ T.extract i (i + 1)) (by rw [hone]; unfold esc; rw [if_pos hc]; rfl)]
      refine ext_list ?_
      simp
    have one : ¬ ((T[i]'hlt) = 34 ∨ (T[i]'hlt) = 92) → Ev (fun k => (if (i : Int) ≤ ((i + 1 : Nat) : Int) then (if ((i + 1 : Nat) : Int) ≤ (T.size : Int) then (if acc.size + (T.extract i (i + 1)).size ≤ 9223372036854775807 then (maskref1_StringToken.l0 k T (acc ++ (T.extract i (i + 1))) (T.size : Int) ((i + 1 : Nat) : Int)) else (none)) else (none)) else (none))) (acc ++ (⟨(esc (T[i]'hlt) ++ (T.data.toList.drop (i + 1)).flatMap esc).toArray⟩ : ByteArray) ++ ⟨#[34]⟩) := by
      intro hc
      refine Ev.pos (by omega) (Ev.pos (by omega) (Ev.pos (by rw [hs1]; omega) ?_))
      have ih := token_l0 T hS d (i + 1) (acc ++ (T.extract i (i + 1))) (by omega) (by rw [ByteArray.size_append, hs1]; omega)
      refine ih.eq ?_
      rw [hsplit (T.extract i (i + 1)) (by rw [hone]; unfold esc; rw [if_neg hc])]
    refine Ev.step (fun k => by rw [maskref1_StringToken.l0]) ?_
    refine Ev.pos (by omega) (Ev.pos (by omega) (Ev.pos (by omega) ?_))
    rw [bt_get T i hlt, hw, Int.toNat_natCast, Int.toNat_natCast]
    have n34 : ((T[i]'hlt).toNat : Int) = 34 ↔ (T[i]'hlt) = 34 := ⟨fun h => UInt8.toNat_inj.1 (by show _ = 34; omega), fun h => by rw [h]; rfl⟩
    have n92 : ((T[i]'hlt).toNat : Int) = 92 ↔ (T[i]'hlt) = 92 := ⟨fun h => UInt8.toNat_inj.1 (by show _ = 92; omega), fun h => by rw [h]; rfl⟩
    by_cases h34 : (T[i]'hlt) = 34
    · exact Ev.pos (n34.2 h34) (two (.inl h34))
    · by_cases h92 : (T[i]'hlt) = 92
      · exact Ev.neg (fun h => h34 (n34.1 h)) (Ev.pos (n92.2 h92) (two (.inr h92)))
      · exact Ev.neg (fun h => h34 (n34.1 h)) (Ev.neg (fun h => h92 (n92.1 h)) (one (fun h => h.elim h34 h92)))
theorem token_is (T : ByteArray) (hS : T.size ≤ 1000) : Ev (fun k => maskref1_StringToken.f k T) ((⟨#[34]⟩ : ByteArray) ++ ⟨(T.data.toList.flatMap esc).toArray⟩ ++ ⟨#[34]⟩) := by
  unfold maskref1_StringToken.f
  exact token_l0 T hS T.size 0 ⟨#[34]⟩ (by omega) (by decide)
theorem LexNames_pure (T : ByteArray) (hT : T.size ≤ 140737488351232) : ∃ k, masklaw1_LexNames.f k T = some true := by
  have hsc : Ev masklaw1_scanned.f true := Ev.of masklaw1_scanned.mono scanned_is
  refine Ev.rounds (g := fun k => masklaw1_LexNames.f k T) ?_
  unfold masklaw1_LexNames.f
  refine Ev.bind hsc (Ev.pos rfl ?_)
  by_cases hS : T.size ≤ 1000
  · rw [decide_eq_false (by omega)]
    obtain ⟨b1, p1, p2⟩ := plain_same T hS
    obtain ⟨b2, q1, q2⟩ := quoted_same T hS
    refine Ev.step (fun k => by rw [masklaw1_LexNames.j0]) ?_
    refine Ev.neg (by decide) (Ev.bnd words_eq (Ev.bind (Ev.of maskref1_LexWords.mono words_is) (Ev.bind (Ev.of (fun k => slices_Equal_string_string.mono _ _ k) words_same) (Ev.pos rfl ?_))))
    refine Ev.bnd signs_eq (Ev.bind (Ev.of maskref1_LexSigns.mono signs_is) (Ev.bind (Ev.of (fun k => slices_Equal_string_string.mono _ _ k) signs_same) (Ev.pos rfl ?_)))
    refine Ev.bind p1 (Ev.bind p2 (Ev.pos (by simp) ?_))
    refine Ev.bind q1 (Ev.bind q2 (Ev.pos (by simp) ?_))
    exact Ev.bnd (quote_is T hS) (Ev.bind (token_is T hS) ((Ev.now _).eq (by simp)))
  · rw [decide_eq_true (by omega)]
    refine Ev.step (fun k => by rw [masklaw1_LexNames.j0]) ?_
    exact Ev.pos rfl (Ev.bind hsc (Ev.now _))
end Go.Proofs.YtlamgdibnnmbmaaDoor.PLex
end
