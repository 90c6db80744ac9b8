/- Part 29 of the proof of BitsShiftedCardSaid: The law BitsShifted: for all arguments it returns true; each argument reads behind the call as it read before. Out of the plain theorem of YtfigblfjogpojaaDoorPureBitsShifted and the printed contract. -/
import Derived.Test.YtfigblfjogpojaaDoorQBitsShifted14
import Derived.Test.YtfigblfjogpojaaDoorQBitsShifted15
import Derived.Test.YtfigblfjogpojaaDoorQBitsShifted16
import Derived.Test.YtfigblfjogpojaaDoorQBitsShifted23
section
namespace Go.Proofs.YtfigblfjogpojaaDoor.PBits
open Go.RowKit Go.Proofs.YtfigblfjogpojaaDoorW.PrintWords Go.Proofs.YtfigblfjogpojaaDoorW.PrintLast Go.Proofs.YtfigblfjogpojaaDoorW.PrintMore
attribute [local go_sem] max2_int min2_int max_two min_two max_three min_three max_four min_four
set_option linter.unusedVariables false
set_option linter.unusedSimpArgs false
theorem eqA24 (d : Nat) (w : World) (x0 y0 : Int) (x1 y1 : Int) (x2 y2 : Int) :
  (Op.equalIn (d + 2) 24 (.agg #[.int .i64 x0, .int .u64 x1, .int .u64 x2]) (.agg #[.int .i64 y0, .int .u64 y1, .int .u64 y2])).run Tryd.prog w = .ok (x0 == y0 && (x1 == y1 && (x2 == y2))) w := by
 refine eqA_of Tryd.underlying24 (by kernel_rfl) ?_
 refine eqf_cons (by rfl) (by go_simp; rfl) (by go_simp; rfl) (by go_simp) ?_
 refine eqf_cons (by rfl) (by go_simp; rfl) (by go_simp; rfl) (by go_simp) ?_
 exact eqf_last (by rfl) (by go_simp; rfl) (by go_simp; rfl) (by go_simp)
end Go.Proofs.YtfigblfjogpojaaDoor.PBits
end
section
namespace Go.Proofs.YtfigblfjogpojaaDoor.PBits
open Go.RowKit Go.Proofs.YtfigblfjogpojaaDoorW.PrintWords Go.Proofs.YtfigblfjogpojaaDoorW.PrintLast Go.Proofs.YtfigblfjogpojaaDoorW.PrintMore
attribute [local go_sem] max2_int min2_int max_two min_two max_three min_three max_four min_four
set_option linter.unusedVariables false
set_option linter.unusedSimpArgs false
mutual
def bits_size.l0 : Nat → ByteArray → Int → Int → Option (Int × Int × Int)
 | 0, _, _, _ => none
 | k + 1, x0, x5, x6 => if x6 < (x0.size : Int) then (if 0 ≤ x6 then (if (bt x0 x6) ≥ 48 then (bits_size.j1 k x0 x5 x6 (decide ((bt x0 x6) ≤ 57))) else (bits_size.j1 k x0 x5 x6 false)) else (none)) else (bits_size.j1 k x0 x5 x6 false)
def bits_size.j1 : Nat → ByteArray → Int → Int → Bool → Option (Int × Int × Int)
 | 0, _, _, _, _ => none
 | k + 1, x0, x5, x6, x22 => if x22 = true then (if 0 ≤ x6 then (if x6 < (x0.size : Int) then (bits_size.l0 k x0 (mn (wrap64 ((wrap64 (10 * x5)) + (((bt x0 x6) - 48) % 256))) 1000) (wrap64 (x6 + 1))) else (none)) else (none)) else (if x6 = 0 then (bits_size.j2 k x5 x6 true) else (if 0 < (x0.size : Int) then (bits_size.j2 k x5 x6 ((bt x0 0) == 48)) else (none)))
def bits_size.j2 : Nat → Int → Int → Bool → Option (Int × Int × Int)
 | 0, _, _, _ => none
 | k + 1, x5, x6, x34 => if x34 = true then (some (0, 0, 10)) else (if x5 > 64 then (some (x5, x6, 2)) else (some (x5, x6, 0)))
end
def bits_size.f (k : Nat) (a0 : ByteArray) : Option (Int × Int × Int) := bits_size.l0 k a0 0 0
theorem bits_size.mono_l : ∀ k, (∀ y0 y1 y2, LeO (bits_size.l0 k y0 y1 y2) (bits_size.l0 (k + 1) y0 y1 y2)) ∧ (∀ y0 y1 y2 y3, LeO (bits_size.j1 k y0 y1 y2 y3) (bits_size.j1 (k + 1) y0 y1 y2 y3)) ∧ (∀ y0 y1 y2, LeO (bits_size.j2 k y0 y1 y2) (bits_size.j2 (k + 1) y0 y1 y2))
 | 0 => ⟨fun _ _ _ r h => by simp [bits_size.l0] at h, fun _ _ _ _ r h => by simp [bits_size.j1] at h, fun _ _ _ r h => by simp [bits_size.j2] at h⟩
 | k + 1 => by
  obtain ⟨ih0, ih1, ih2⟩ := bits_size.mono_l k
  refine ⟨?_, ?_, ?_⟩
  ·intro y0 y1 y2
   unfold bits_size.l0
   repeat' first
   | (with_reducible exact ih0 _ _ _)
   | (with_reducible exact ih1 _ _ _ _)
   | (with_reducible exact ih2 _ _ _)
   | (with_reducible exact LeO.refl _)
   | (with_reducible exact LeO.none _)
   | (with_reducible refine LeO.ite ?_ ?_)
   | (with_reducible refine LeO.bind ?_ (fun _ => ?_))
   | exact ih0 _ _ _
   | exact ih1 _ _ _ _
   | exact ih2 _ _ _
   | exact LeO.none _
   | refine LeO.ite ?_ ?_
   | refine LeO.bind ?_ (fun _ => ?_)
  ·intro y0 y1 y2 y3
   unfold bits_size.j1
   repeat' first
   | (with_reducible exact ih0 _ _ _)
   | (with_reducible exact ih1 _ _ _ _)
   | (with_reducible exact ih2 _ _ _)
   | (with_reducible exact LeO.refl _)
   | (with_reducible exact LeO.none _)
   | (with_reducible refine LeO.ite ?_ ?_)
   | (with_reducible refine LeO.bind ?_ (fun _ => ?_))
   | exact ih0 _ _ _
   | exact ih1 _ _ _ _
   | exact ih2 _ _ _
   | exact LeO.none _
   | refine LeO.ite ?_ ?_
   | refine LeO.bind ?_ (fun _ => ?_)
  ·intro y0 y1 y2
   unfold bits_size.j2
   repeat' first
   | (with_reducible exact ih0 _ _ _)
   | (with_reducible exact ih1 _ _ _ _)
   | (with_reducible exact ih2 _ _ _)
   | (with_reducible exact LeO.refl _)
   | (with_reducible exact LeO.none _)
   | (with_reducible refine LeO.ite ?_ ?_)
   | (with_reducible refine LeO.bind ?_ (fun _ => ?_))
   | exact ih0 _ _ _
   | exact ih1 _ _ _ _
   | exact ih2 _ _ _
   | exact LeO.none _
   | refine LeO.ite ?_ ?_
   | refine LeO.bind ?_ (fun _ => ?_)
theorem bits_size.mono : ∀ a0 k, LeO (bits_size.f k a0) (bits_size.f (k + 1) a0) := by
 intro a0 k
 obtain ⟨ih0, ih1, ih2⟩ := bits_size.mono_l k
 unfold bits_size.f
 repeat' first
   | (with_reducible exact ih0 _ _ _)
   | (with_reducible exact ih1 _ _ _ _)
   | (with_reducible exact ih2 _ _ _)
   | (with_reducible exact LeO.refl _)
   | (with_reducible exact LeO.none _)
   | (with_reducible refine LeO.ite ?_ ?_)
   | (with_reducible refine LeO.bind ?_ (fun _ => ?_))
   | exact ih0 _ _ _
   | exact ih1 _ _ _ _
   | exact ih2 _ _ _
   | exact LeO.none _
   | refine LeO.ite ?_ ?_
   | refine LeO.bind ?_ (fun _ => ?_)
set_option maxHeartbeats 8000000 in
set_option maxRecDepth 100000 in
theorem bits_size.calls (k : Nat) (a0 : ByteArray) (r1 : Int) (r2 : Int) (r3 : Int) (w : World) (h : bits_size.f k a0 = some (r1, r2, r3)) :
  Calls Tryd.prog 50 #[.string a0] w fun e w' => e = .returned (.tuple #[.int .i64 r1, .int .i64 r2, .int .i64 r3]) ∧ Below w.heap.size w w' := by
 have HB := Aside0.mk (Below.refl w.heap.size w)
 have H : (bits_size.l0 k a0 0 0) = some (r1, r2, r3) := h
 clear h
 have H' := Aside0.mk H
 clear H
 go_enter Tryd.func50, Tryd.ntmps50
 go_wp2
 go_loopg [5, 6] k (fun kq v5 v6 w' => ∃ (x5_1 : Int) (x6_1 : Int), v5 = .int .i64 x5_1 ∧ v6 = .int .i64 x6_1 ∧ Aside0 (bits_size.l0 kq a0 x5_1 x6_1 = some (r1, r2, r3)) ∧ Aside0 (kq ≤ k) ∧ Aside0 (Below w.heap.size w w'))
 case atStart => exact ⟨(0), (0), (by rfl), (by rfl), H', ⟨Nat.le_refl _⟩, ⟨by repeat (with_reducible exact HB.out)⟩⟩
 case round =>
  clear H'
  obtain ⟨x5_1, x6_1, rfl, rfl, HA, HK1, HB⟩ := hrel
  cases gk with
  | zero => exact absurd HA.out (by simp [bits_size.l0])
  | succ k1 =>
   have H := HA.out
   clear HA
   simp only [bits_size.l0] at H
   have HC2 := Aside0.mk H
   clear H
   go_upto_region 2 with (fail)
   go_cut [22] (fun v22 wc => ∃ (kq : Nat) (x22_1 : Bool), v22 = .bool x22_1 ∧ Aside0 (bits_size.j1 kq a0 x5_1 x6_1 x22_1 = some (r1, r2, r3)) ∧ Aside0 (kq ≤ k1) ∧ Aside0 (Below w.heap.size w wc))
   case first =>
    have H := HC2.out
    clear HC2
    by_cases c3 : x6_1 < (a0.size : Int)
    ·rw [if_pos c3] at H
     have c3b0 : decide (x6_1 < (a0.size : Int)) = true := decide_eq_true c3
     clear c3
     (skip)
     by_cases c4 : 0 ≤ x6_1
     ·rw [if_pos c4] at H
      have c4b0 : decide (0 ≤ x6_1) = true := decide_eq_true c4
      clear c4
      by_cases c6 : (bt a0 x6_1) ≥ 48
      ·rw [if_pos c6] at H
       have c6b0 : decide (48 ≤ (bt a0 x6_1)) = true := decide_eq_true c6
       clear c6
       have H' := Aside0.mk H
       clear H
       have p5 : 0 ≤ (x6_1 : Int) := of_decide_eq_true (by (with_reducible assumption))
       have q5 : x6_1 < (a0.size : Int) := of_decide_eq_true (by (with_reducible assumption))
       have hx5 := bt_at a0 x6_1
       replace p5 := eq_true p5
       replace q5 := eq_true q5
       have p7 : 0 ≤ (x6_1 : Int) := of_decide_eq_true (by (with_reducible assumption))
       have q7 : x6_1 < (a0.size : Int) := of_decide_eq_true (by (with_reducible assumption))
       have hx7 := bt_at a0 x6_1
       replace p7 := eq_true p7
       replace q7 := eq_true q7
       go_wp2
       go_meet
       case rel => exact ⟨_, (decide ((bt a0 x6_1) ≤ 57)), (by rfl), H', ⟨by have := HK1.out; omega⟩, ⟨by repeat (with_reducible exact HB.out)⟩⟩
      ·rw [if_neg c6] at H
       have c6b0 : decide (48 ≤ (bt a0 x6_1)) = false := decide_eq_false c6
       clear c6
       have H' := Aside0.mk H
       clear H
       have p5 : 0 ≤ (x6_1 : Int) := of_decide_eq_true (by (with_reducible assumption))
       have q5 : x6_1 < (a0.size : Int) := of_decide_eq_true (by (with_reducible assumption))
       have hx5 := bt_at a0 x6_1
       replace p5 := eq_true p5
       replace q5 := eq_true q5
       go_wp2
       go_meet
       case rel => exact ⟨_, (false), (by rfl), H', ⟨by have := HK1.out; omega⟩, ⟨by repeat (with_reducible exact HB.out)⟩⟩
     ·rw [if_neg c4] at H
      exact absurd H (by simp)
    ·rw [if_neg c3] at H
     have c3b0 : decide (x6_1 < (a0.size : Int)) = false := decide_eq_false c3
     clear c3
     (skip)
     have H' := Aside0.mk H
     clear H
     go_wp2
     go_meet
     case rel => exact ⟨_, (false), (by rfl), H', ⟨by have := HK1.out; omega⟩, ⟨by repeat (with_reducible exact HB.out)⟩⟩
   case rest =>
    clear HC2
    obtain ⟨kq, x22_1, rfl, HA, HJ1, HB⟩ := hcut
    cases kq with
    | zero => exact absurd HA.out (by simp [bits_size.j1])
    | succ kj1 =>
     have H := HA.out
     clear HA
     simp only [bits_size.j1] at H
     by_cases c8 : x22_1 = true
     ·subst c8
      have H1 : (if 0 ≤ x6_1 then (if x6_1 < (a0.size : Int) then (bits_size.l0 kj1 a0 (mn (wrap64 ((wrap64 (10 * x5_1)) + (((bt a0 x6_1) - 48) % 256))) 1000) (wrap64 (x6_1 + 1))) else (none)) else (none)) = some (r1, r2, r3) := by rw [if_pos rfl] at H; exact H
      clear H
      have H := H1
      clear H1
      by_cases c9 : 0 ≤ x6_1
      ·rw [if_pos c9] at H
       have c9b0 : decide (0 ≤ x6_1) = true := decide_eq_true c9
       clear c9
       by_cases c10 : x6_1 < (a0.size : Int)
       ·rw [if_pos c10] at H
        have c10b0 : decide (x6_1 < (a0.size : Int)) = true := decide_eq_true c10
        clear c10
        obtain ⟨ji12, hji12⟩ : ∃ j_ : Int, (mn (wrap64 ((wrap64 (10 * x5_1)) + (((bt a0 x6_1) - 48) % 256))) 1000) = j_ := ⟨_, rfl⟩
        replace H : (bits_size.l0 kj1 a0 ji12 (wrap64 (x6_1 + 1))) = some (r1, r2, r3) := by (rw [hji12] at H; exact H)
        have hji12_ : (if 1000 < (wrap64 ((wrap64 (10 * x5_1)) + (((bt a0 x6_1) - 48) % 256))) then 1000 else (wrap64 ((wrap64 (10 * x5_1)) + (((bt a0 x6_1) - 48) % 256)))) = ji12 := hji12
        have H' := Aside0.mk H
        clear H
        have p11 : 0 ≤ (x6_1 : Int) := of_decide_eq_true (by (with_reducible assumption))
        have q11 : x6_1 < (a0.size : Int) := of_decide_eq_true (by (with_reducible assumption))
        have hx11 := bt_at a0 x6_1
        replace p11 := eq_true p11
        replace q11 := eq_true q11
        go_wp2
        go_roundg kj1
        case measure => have := HK1.out; have := HJ1.out; omega
        case rel => exact ⟨(ji12), (wrap64 (x6_1 + 1)), (by rfl), (by rfl), H', ⟨by have := HK1.out; have := HJ1.out; omega⟩, ⟨by repeat (with_reducible exact HB.out)⟩⟩
       ·rw [if_neg c10] at H
        exact absurd H (by simp)
      ·rw [if_neg c9] at H
       exact absurd H (by simp)
     ·replace c8 := Bool.eq_false_iff.mpr c8
      subst c8
      have H1 : (if x6_1 = 0 then (bits_size.j2 kj1 x5_1 x6_1 true) else (if 0 < (a0.size : Int) then (bits_size.j2 kj1 x5_1 x6_1 ((bt a0 0) == 48)) else (none))) = some (r1, r2, r3) := by rw [if_neg (show ¬ (false = true) by decide)] at H; exact H
      clear H
      have H := H1
      clear H1
      have HC13 := Aside0.mk H
      clear H
      go_upto_region 5 with (fail)
      go_cut [34] (fun v34 wc => ∃ (kq : Nat) (x34_12 : Bool), v34 = .bool x34_12 ∧ Aside0 (bits_size.j2 kq x5_1 x6_1 x34_12 = some (r1, r2, r3)) ∧ Aside0 (kq ≤ kj1) ∧ Aside0 (Below w.heap.size w wc))
      case first =>
       have H := HC13.out
       clear HC13
       by_cases c14 : x6_1 = 0
       ·rw [if_pos c14] at H
        have c14b0 : (x6_1 == 0) = true := beq_iff_eq.mpr c14
        have c14b1 : (x6_1 != 0) = false := bne_eq_false_iff_eq.mpr c14
        clear c14
        (skip)
        have H' := Aside0.mk H
        clear H
        go_wp2
        go_meet
        case rel => exact ⟨_, (true), (by rfl), H', ⟨by have := HK1.out; have := HJ1.out; omega⟩, ⟨by repeat (with_reducible exact HB.out)⟩⟩
       ·rw [if_neg c14] at H
        have c14b0 : (x6_1 == 0) = false := beq_eq_false_iff_ne.mpr c14
        have c14b1 : (x6_1 != 0) = true := bne_iff_ne.mpr c14
        (skip)
        by_cases c15 : 0 < (a0.size : Int)
        ·rw [if_pos c15] at H
         have c15b0 : decide (0 < (a0.size : Int)) = true := decide_eq_true c15
         have c15b1 : decide (0 < a0.size) = true := decide_eq_true (by omega)
         clear c15
         have H' := Aside0.mk H
         clear H
         have p16 : 0 ≤ (0 : Int) := (by omega)
         have q16 : 0 < a0.size := (by have : (0 : Int) < (a0.size : Int) := of_decide_eq_true (by (with_reducible assumption)); omega)
         have hx16 : ∀ h : 0 < a0.size, ((a0[0]'h).toNat : Int) = bt a0 0 := bt_at a0 0
         clear p16
         have qi16 : (0 < (a0.size : Int)) = True := eq_true (of_decide_eq_true (by (with_reducible assumption)))
         replace q16 := eq_true q16
         go_wp2
         go_meet
         case rel => exact ⟨_, ((bt a0 0) == 48), (by rfl), H', ⟨by have := HK1.out; have := HJ1.out; omega⟩, ⟨by repeat (with_reducible exact HB.out)⟩⟩
        ·rw [if_neg c15] at H
         exact absurd H (by simp)
      case rest =>
       clear HC13
       obtain ⟨kq, x34_12, rfl, HA, HJ12, HB⟩ := hcut
       cases kq with
       | zero => exact absurd HA.out (by simp [bits_size.j2])
       | succ kj12 =>
        have H := HA.out
        clear HA
        simp only [bits_size.j2] at H
        by_cases c17 : x34_12 = true
        ·subst c17
         have H1 : (some (0, 0, 10)) = some (r1, r2, r3) := by rw [if_pos rfl] at H; exact H
         clear H
         have H := H1
         clear H1
         simp only [Option.some.injEq, Prod.mk.injEq] at H
         obtain ⟨rfl, rfl, rfl⟩ := H
         go_wp2
         go_ret3
         exact ⟨by rfl, by repeat (with_reducible exact HB.out)⟩
        ·replace c17 := Bool.eq_false_iff.mpr c17
         subst c17
         have H1 : (if x5_1 > 64 then (some (x5_1, x6_1, 2)) else (some (x5_1, x6_1, 0))) = some (r1, r2, r3) := by rw [if_neg (show ¬ (false = true) by decide)] at H; exact H
         clear H
         have H := H1
         clear H1
         by_cases c18 : x5_1 > 64
         ·rw [if_pos c18] at H
          have c18b0 : decide (64 < x5_1) = true := decide_eq_true c18
          clear c18
          simp only [Option.some.injEq, Prod.mk.injEq] at H
          obtain ⟨rfl, rfl, rfl⟩ := H
          go_wp2
          go_ret3
          exact ⟨by rfl, by repeat (with_reducible exact HB.out)⟩
         ·rw [if_neg c18] at H
          have c18b0 : decide (64 < x5_1) = false := decide_eq_false c18
          clear c18
          simp only [Option.some.injEq, Prod.mk.injEq] at H
          obtain ⟨rfl, rfl, rfl⟩ := H
          go_wp2
          go_ret3
          exact ⟨by rfl, by repeat (with_reducible exact HB.out)⟩
end Go.Proofs.YtfigblfjogpojaaDoor.PBits
end
section
namespace Go.Proofs.YtfigblfjogpojaaDoor.PBits
open Go.RowKit Go.Proofs.YtfigblfjogpojaaDoorW.PrintWords Go.Proofs.YtfigblfjogpojaaDoorW.PrintLast Go.Proofs.YtfigblfjogpojaaDoorW.PrintMore
attribute [local go_sem] max2_int min2_int max_two min_two max_three min_three max_four min_four
set_option linter.unusedVariables false
set_option linter.unusedSimpArgs false
def bits_Of.f (a0 : Int) (a1 : Int) : Option (Int × Int × Int) := if a0 < 1 then (some (0, 0, 0)) else (if a0 > 64 then (some (0, 0, 0)) else ((bits_mask.f a0).bind fun t102 => (some (a0, Go.bits .and .u64 a1 t102, 0))))
set_option maxHeartbeats 8000000 in
set_option maxRecDepth 100000 in
theorem bits_Of.calls (a0 : Int) (a1 : Int) (r1 : Int) (r2 : Int) (r3 : Int) (w : World) (h : bits_Of.f a0 a1 = some (r1, r2, r3)) :
  Calls Tryd.prog 24 #[.int .i64 a0, .int .u64 a1] w fun e w' => e = .returned (.agg #[.int .i64 r1, .int .u64 r2, .int .u64 r3]) ∧ Below w.heap.size w w' := by
 have hu24 := Tryd.underlying24
 have HB := Aside0.mk (Below.refl w.heap.size w)
 have H : (if a0 < 1 then (some (0, 0, 0)) else (if a0 > 64 then (some (0, 0, 0)) else ((bits_mask.f a0).bind fun t102 => (some (a0, Go.bits .and .u64 a1 t102, 0))))) = some (r1, r2, r3) := h
 clear h
 by_cases c3 : a0 < 1
 ·rw [if_pos c3] at H
  have c3b0 : decide (a0 < 1) = true := decide_eq_true c3
  clear c3
  simp only [Option.some.injEq, Prod.mk.injEq] at H
  obtain ⟨rfl, rfl, rfl⟩ := H
  go_enter Tryd.func24, Tryd.ntmps24
  go_wp2_with (((with_reducible refine gate_dst (N := 4) rfl ?_); refine box_event ?hg (N := 4) ?hd (cs := #[.int .i64 0, .int .u64 0, .int .u64 0]) (t := 24) ?hr ?_; (case hd => rfl); (case hg => rfl); (case hr => (go_simp; done)); intro gb101 hg w4 hbox hb; have BK101 := Aside0.mk (hbox); have GW101 := ge1 HB hg; have GE101 := ge1 HB hg; replace HB := hb1 HB hb; clear hb hbox hg; have hcz5_0 : w4.cell? ⟨gb101, 0, none⟩ = some (.int .i64 0) := (blk_cell BK101.out 0).trans rfl; have hcz5_1 : w4.cell? ⟨gb101, 1, none⟩ = some (.int .u64 0) := (blk_cell BK101.out 1).trans rfl; have hcz5_2 : w4.cell? ⟨gb101, 2, none⟩ = some (.int .u64 0) := (blk_cell BK101.out 2).trans rfl; have hfz5_0 := blk_frozen BK101.out 0; have hfz5_1 := blk_frozen BK101.out 1; have hfz5_2 := blk_frozen BK101.out 2))
  refine bodyPost_ret (results_cell_row rfl _ _ gb101 24 #[.int .i64 0, .int .u64 0, .int .u64 0] (0, 0) _ rfl (by refine blk_put (cs := #[.int .i64 0, .int .u64 0, .int .u64 0]) ?_ 2 _ rfl; refine blk_put (cs := #[.int .i64 0, .int .u64 0, .int .u64 0]) ?_ 1 _ rfl; refine blk_put (cs := #[.int .i64 0, .int .u64 0, .int .u64 0]) ?_ 0 _ rfl; exact BK101.out) Tryd.underlying24 rfl (by kernel_rfl)) rfl ?_
  exact ⟨by rfl, by repeat (with_reducible first | exact HB.out | refine below_set ?_ GE101.out)⟩
 ·rw [if_neg c3] at H
  have c3b0 : decide (a0 < 1) = false := decide_eq_false c3
  clear c3
  by_cases c6 : a0 > 64
  ·rw [if_pos c6] at H
   have c6b0 : decide (64 < a0) = true := decide_eq_true c6
   clear c6
   simp only [Option.some.injEq, Prod.mk.injEq] at H
   obtain ⟨rfl, rfl, rfl⟩ := H
   go_enter Tryd.func24, Tryd.ntmps24
   go_wp2_with (((with_reducible refine gate_dst (N := 4) rfl ?_); refine box_event ?hg (N := 4) ?hd (cs := #[.int .i64 0, .int .u64 0, .int .u64 0]) (t := 24) ?hr ?_; (case hd => rfl); (case hg => rfl); (case hr => (go_simp; done)); intro gb101 hg w7 hbox hb; have BK101 := Aside0.mk (hbox); have GW101 := ge1 HB hg; have GE101 := ge1 HB hg; replace HB := hb1 HB hb; clear hb hbox hg; have hcz8_0 : w7.cell? ⟨gb101, 0, none⟩ = some (.int .i64 0) := (blk_cell BK101.out 0).trans rfl; have hcz8_1 : w7.cell? ⟨gb101, 1, none⟩ = some (.int .u64 0) := (blk_cell BK101.out 1).trans rfl; have hcz8_2 : w7.cell? ⟨gb101, 2, none⟩ = some (.int .u64 0) := (blk_cell BK101.out 2).trans rfl; have hfz8_0 := blk_frozen BK101.out 0; have hfz8_1 := blk_frozen BK101.out 1; have hfz8_2 := blk_frozen BK101.out 2))
   refine bodyPost_ret (results_cell_row rfl _ _ gb101 24 #[.int .i64 0, .int .u64 0, .int .u64 0] (0, 0) _ rfl (by refine blk_put (cs := #[.int .i64 0, .int .u64 0, .int .u64 0]) ?_ 2 _ rfl; refine blk_put (cs := #[.int .i64 0, .int .u64 0, .int .u64 0]) ?_ 1 _ rfl; refine blk_put (cs := #[.int .i64 0, .int .u64 0, .int .u64 0]) ?_ 0 _ rfl; exact BK101.out) Tryd.underlying24 rfl (by kernel_rfl)) rfl ?_
   exact ⟨by rfl, by repeat (with_reducible first | exact HB.out | refine below_set ?_ GE101.out)⟩
  ·rw [if_neg c6] at H
   have c6b0 : decide (64 < a0) = false := decide_eq_false c6
   clear c6
   replace H := Option.bind_eq_some_iff.mp H
   obtain ⟨t102, A90, H⟩ := H
   replace H : (some (a0, Go.bits .and .u64 a1 t102, 0)) = some (r1, r2, r3) := H
   have A9 := Aside0.mk A90
   clear A90
   simp only [Option.some.injEq, Prod.mk.injEq] at H
   obtain ⟨rfl, rfl, rfl⟩ := H
   go_enter Tryd.func24, Tryd.ntmps24
   go_wp2_with (first | ((with_reducible refine gate_dst (N := 4) rfl ?_); refine box_event ?hg (N := 4) ?hd (cs := #[.int .i64 0, .int .u64 0, .int .u64 0]) (t := 24) ?hr ?_; (case hd => rfl); (case hg => rfl); (case hr => (go_simp; done)); intro gb101 hg w10 hbox hb; have BK101 := Aside0.mk (hbox); have GW101 := ge1 HB hg; have GE101 := ge1 HB hg; replace HB := hb1 HB hb; clear hb hbox hg) | ((with_reducible refine gate_callee (f := 58) rfl ?_); refine goesL_ (some 15) rfl rfl Tryd.func58 (by kernel_rfl) rfl #[.int .i64 a0] rfl (by (try simp only [List.map_toArray, List.map_cons, List.map_nil]); rfl) ?_; (with_reducible refine (bits_mask.calls a0 t102 _ A9.out).mono ?_); rintro e w' ⟨rfl, ⟨nd, rfl⟩⟩; refine ⟨_, rfl, ?_⟩; (try (rw [drewN_self w10]; generalize hq_ : World.drewN w10 _ = w10; have n0_ : Aside0 (w10.heap[gb101]? = some (.cells #[.int .i64 0, .int .u64 0, .int .u64 0] 24 (0, 0))) := ⟨by rw [← hq_]; exact (by (with_reducible repeat (refine blk_drewN ?_ _)); exact BK101.out)⟩; have n1_ : Aside0 (Below w.heap.size w w10) := ⟨by rw [← hq_]; exact (by repeat (with_reducible first | exact HB.out | apply pw_below_drewN))⟩; clear BK101 HB hq_; have BK101 := n0_; have HB := n1_; clear n0_ n1_)); have hcz11_0 : w10.cell? ⟨gb101, 0, none⟩ = some (.int .i64 0) := (blk_cell BK101.out 0).trans rfl; have hcz11_1 : w10.cell? ⟨gb101, 1, none⟩ = some (.int .u64 0) := (blk_cell BK101.out 1).trans rfl; have hcz11_2 : w10.cell? ⟨gb101, 2, none⟩ = some (.int .u64 0) := (blk_cell BK101.out 2).trans rfl; have hfz11_0 := blk_frozen BK101.out 0; have hfz11_1 := blk_frozen BK101.out 1; have hfz11_2 := blk_frozen BK101.out 2))
   refine bodyPost_ret (results_cell_row rfl _ _ gb101 24 #[.int .i64 a0, .int .u64 (Go.bits .and .u64 a1 t102), .int .u64 0] (0, 0) _ rfl (by refine blk_put (cs := #[.int .i64 a0, .int .u64 (Go.bits .and .u64 a1 t102), .int .u64 0]) ?_ 2 _ rfl; refine blk_put (cs := #[.int .i64 a0, .int .u64 0, .int .u64 0]) ?_ 1 _ rfl; refine blk_put (cs := #[.int .i64 0, .int .u64 0, .int .u64 0]) ?_ 0 _ rfl; exact BK101.out) Tryd.underlying24 rfl (by kernel_rfl)) rfl ?_
   exact ⟨by rfl, by repeat (with_reducible first | exact HB.out | refine below_set ?_ GE101.out)⟩
end Go.Proofs.YtfigblfjogpojaaDoor.PBits
end
section
namespace Go.Proofs.YtfigblfjogpojaaDoor.PBits
open Go.RowKit Go.Proofs.YtfigblfjogpojaaDoorW.PrintWords Go.Proofs.YtfigblfjogpojaaDoorW.PrintLast Go.Proofs.YtfigblfjogpojaaDoorW.PrintMore
attribute [local go_sem] max2_int min2_int max_two min_two max_three min_three max_four min_four
set_option linter.unusedVariables false
set_option linter.unusedSimpArgs false
mutual
def bits_decimal.j0 : Nat → ByteArray → Int → Int → Bool → Option (Int × Int × Int × Int)
 | 0, _, _, _, _ => none
 | k + 1, x0, x1, x2, x17 => if x17 = true then (if x2 = 0 then (if 0 < (x0.size : Int) then ((bits_All.f k x1 (bt x0 0)).bind fun bt106 => (some (bt106.1, bt106.2.1, bt106.2.2, 0))) else (none)) else (some (0, 0, 0, x2))) else (bits_decimal.l0 k x0 x1 x2 0 false (x0.size : Int) 0)
def bits_decimal.l0 : Nat → ByteArray → Int → Int → Int → Bool → Int → Int → Option (Int × Int × Int × Int)
 | 0, _, _, _, _, _, _, _ => none
 | k + 1, x0, x1, x2, x8, x9, x27, x28 => if x28 < x27 then (if 0 ≤ x28 then (if x28 < (x0.size : Int) then (if (bt x0 x28) < 48 then (bits_decimal.j2 k x0 x1 x2 x8 x9 x28 x27 x28 true) else (bits_decimal.j2 k x0 x1 x2 x8 x9 x28 x27 x28 (decide ((bt x0 x28) > 57)))) else (none)) else (none)) else (if x2 = 0 then (if x9 = true then (some (0, 0, 0, 3)) else ((bits_mask.f x1).bind fun t109 => (if (Go.bits .andNot .u64 x8 t109) = 0 then ((bits_Of.f x1 x8).bind fun bt110 => (some (bt110.1, bt110.2.1, bt110.2.2, 0))) else (some (0, 0, 0, 3))))) else (some (0, 0, 0, x2)))
def bits_decimal.j2 : Nat → ByteArray → Int → Int → Int → Bool → Int → Int → Int → Bool → Option (Int × Int × Int × Int)
 | 0, _, _, _, _, _, _, _, _, _ => none
 | k + 1, x0, x1, x2, x8, x9, x10, x27, x28, x40 => if x40 = true then (some (0, 0, 0, 10)) else (if 0 ≤ x10 then (if x10 < (x0.size : Int) then (if x8 > ((18446744073709551615 - (((bt x0 x10) - 48) % 256)) / 10) then (bits_decimal.l0 k x0 x1 x2 (IntKind.u64.wrap ((IntKind.u64.wrap (10 * x8)) + (((bt x0 x10) - 48) % 256))) true x27 (wrap64 (x28 + 1))) else (bits_decimal.l0 k x0 x1 x2 (IntKind.u64.wrap ((IntKind.u64.wrap (10 * x8)) + (((bt x0 x10) - 48) % 256))) x9 x27 (wrap64 (x28 + 1)))) else (none)) else (none))
end
def bits_decimal.f (k : Nat) (a0 : ByteArray) (a1 : Int) (a2 : Int) : Option (Int × Int × Int × Int) := if a0.toList = ([120] : List UInt8) then (bits_decimal.j0 k a0 a1 a2 true) else (bits_decimal.j0 k a0 a1 a2 (a0.toList == ([122] : List UInt8)))
theorem bits_decimal.mono_l : ∀ k, (∀ y0 y1 y2 y3, LeO (bits_decimal.j0 k y0 y1 y2 y3) (bits_decimal.j0 (k + 1) y0 y1 y2 y3)) ∧ (∀ y0 y1 y2 y3 y4 y5 y6, LeO (bits_decimal.l0 k y0 y1 y2 y3 y4 y5 y6) (bits_decimal.l0 (k + 1) y0 y1 y2 y3 y4 y5 y6)) ∧ (∀ y0 y1 y2 y3 y4 y5 y6 y7 y8, LeO (bits_decimal.j2 k y0 y1 y2 y3 y4 y5 y6 y7 y8) (bits_decimal.j2 (k + 1) y0 y1 y2 y3 y4 y5 y6 y7 y8))
 | 0 => ⟨fun _ _ _ _ r h => by simp [bits_decimal.j0] at h, fun _ _ _ _ _ _ _ r h => by simp [bits_decimal.l0] at h, fun _ _ _ _ _ _ _ _ _ r h => by simp [bits_decimal.j2] at h⟩
 | k + 1 => by
  obtain ⟨ih0, ih1, ih2⟩ := bits_decimal.mono_l k
  refine ⟨?_, ?_, ?_⟩
  ·intro y0 y1 y2 y3
   unfold bits_decimal.j0
   repeat' first
   | (with_reducible exact ih0 _ _ _ _)
   | (with_reducible exact ih1 _ _ _ _ _ _ _)
   | (with_reducible exact ih2 _ _ _ _ _ _ _ _ _)
   | (with_reducible exact bits_All.mono _ _ _)
   | (with_reducible exact LeO.refl _)
   | (with_reducible exact LeO.none _)
   | (with_reducible refine LeO.ite ?_ ?_)
   | (with_reducible refine LeO.bind ?_ (fun _ => ?_))
   | exact ih0 _ _ _ _
   | exact ih1 _ _ _ _ _ _ _
   | exact ih2 _ _ _ _ _ _ _ _ _
   | exact bits_All.mono _ _ _
   | exact LeO.none _
   | refine LeO.ite ?_ ?_
   | refine LeO.bind ?_ (fun _ => ?_)
  ·intro y0 y1 y2 y3 y4 y5 y6
   unfold bits_decimal.l0
   repeat' first
   | (with_reducible exact ih0 _ _ _ _)
   | (with_reducible exact ih1 _ _ _ _ _ _ _)
   | (with_reducible exact ih2 _ _ _ _ _ _ _ _ _)
   | (with_reducible exact bits_All.mono _ _ _)
   | (with_reducible exact LeO.refl _)
   | (with_reducible exact LeO.none _)
   | (with_reducible refine LeO.ite ?_ ?_)
   | (with_reducible refine LeO.bind ?_ (fun _ => ?_))
   | exact ih0 _ _ _ _
   | exact ih1 _ _ _ _ _ _ _
   | exact ih2 _ _ _ _ _ _ _ _ _
   | exact bits_All.mono _ _ _
   | exact LeO.none _
   | refine LeO.ite ?_ ?_
   | refine LeO.bind ?_ (fun _ => ?_)
  ·intro y0 y1 y2 y3 y4 y5 y6 y7 y8
   unfold bits_decimal.j2
   repeat' first
   | (with_reducible exact ih0 _ _ _ _)
   | (with_reducible exact ih1 _ _ _ _ _ _ _)
   | (with_reducible exact ih2 _ _ _ _ _ _ _ _ _)
   | (with_reducible exact bits_All.mono _ _ _)
   | (with_reducible exact LeO.refl _)
   | (with_reducible exact LeO.none _)
   | (with_reducible refine LeO.ite ?_ ?_)
   | (with_reducible refine LeO.bind ?_ (fun _ => ?_))
   | exact ih0 _ _ _ _
   | exact ih1 _ _ _ _ _ _ _
   | exact ih2 _ _ _ _ _ _ _ _ _
   | exact bits_All.mono _ _ _
   | exact LeO.none _
   | refine LeO.ite ?_ ?_
   | refine LeO.bind ?_ (fun _ => ?_)
theorem bits_decimal.mono : ∀ a0 a1 a2 k, LeO (bits_decimal.f k a0 a1 a2) (bits_decimal.f (k + 1) a0 a1 a2) := by
 intro a0 a1 a2 k
 obtain ⟨ih0, ih1, ih2⟩ := bits_decimal.mono_l k
 unfold bits_decimal.f
 repeat' first
   | (with_reducible exact ih0 _ _ _ _)
   | (with_reducible exact ih1 _ _ _ _ _ _ _)
   | (with_reducible exact ih2 _ _ _ _ _ _ _ _ _)
   | (with_reducible exact bits_All.mono _ _ _)
   | (with_reducible exact LeO.refl _)
   | (with_reducible exact LeO.none _)
   | (with_reducible refine LeO.ite ?_ ?_)
   | (with_reducible refine LeO.bind ?_ (fun _ => ?_))
   | exact ih0 _ _ _ _
   | exact ih1 _ _ _ _ _ _ _
   | exact ih2 _ _ _ _ _ _ _ _ _
   | exact bits_All.mono _ _ _
   | exact LeO.none _
   | refine LeO.ite ?_ ?_
   | refine LeO.bind ?_ (fun _ => ?_)
set_option maxHeartbeats 8000000 in
set_option maxRecDepth 100000 in
theorem bits_decimal.calls (k : Nat) (a0 : ByteArray) (a1 : Int) (a2 : Int) (r1 : Int) (r2 : Int) (r3 : Int) (r4 : Int) (w : World) (h : bits_decimal.f k a0 a1 a2 = some (r1, r2, r3, r4)) :
  Calls Tryd.prog 51 #[.string a0, .int .i64 a1, .int .i64 a2] w fun e w' => e = .returned (.tuple #[.agg #[.int .i64 r1, .int .u64 r2, .int .u64 r3], .int .i64 r4]) ∧ Below w.heap.size w w' := by
 have hu24 := Tryd.underlying24
 have HB := Aside0.mk (Below.refl w.heap.size w)
 have H : (if a0.toList = ([120] : List UInt8) then (bits_decimal.j0 k a0 a1 a2 true) else (bits_decimal.j0 k a0 a1 a2 (a0.toList == ([122] : List UInt8)))) = some (r1, r2, r3, r4) := h
 clear h
 have HC4 := Aside0.mk H
 clear H
 go_enter Tryd.func51, Tryd.ntmps51
 go_upto_region 1 with (((with_reducible refine gate_dst (N := 6) rfl ?_); refine box_event ?hg (N := 6) ?hd (cs := #[.int .i64 0, .int .u64 0, .int .u64 0]) (t := 24) ?hr ?_; (case hd => rfl); (case hg => rfl); (case hr => (go_simp; done)); intro gb105 hg w5 hbox hb; have BK105 := Aside0.mk (hbox); have GW105 := ge1 HB hg; have GE105 := ge1 HB hg; replace HB := hb1 HB hb; clear hb hbox hg))
 go_cut [17] (fun v17 wc => ∃ (kq : Nat) (x17_3 : Bool), v17 = .bool x17_3 ∧ Aside0 (bits_decimal.j0 kq a0 a1 a2 x17_3 = some (r1, r2, r3, r4)) ∧ Aside0 (kq ≤ k) ∧ Aside0 (wc.heap[gb105]? = some (.cells #[.int .i64 0, .int .u64 0, .int .u64 0] 24 (0, 0))) ∧ Aside0 (Below w.heap.size w wc))
 case first =>
  have H := HC4.out
  clear HC4
  by_cases c6 : a0.toList = ([120] : List UInt8)
  ·rw [if_pos c6] at H
   have c6b0 : (a0.toList == ([120] : List UInt8)) = true := beq_iff_eq.mpr c6
   have c6b1 : (a0.toList != ([120] : List UInt8)) = false := bne_eq_false_iff_eq.mpr c6
   clear c6
   (skip)
   have H' := Aside0.mk H
   clear H
   go_wp2
   go_meet
   case rel => exact ⟨_, (true), (by rfl), H', ⟨by omega⟩, ⟨by exact BK105.out⟩, ⟨by repeat (with_reducible exact HB.out)⟩⟩
  ·rw [if_neg c6] at H
   have c6b0 : (a0.toList == ([120] : List UInt8)) = false := beq_eq_false_iff_ne.mpr c6
   have c6b1 : (a0.toList != ([120] : List UInt8)) = true := bne_iff_ne.mpr c6
   (skip)
   have H' := Aside0.mk H
   clear H
   go_wp2
   go_meet
   case rel => exact ⟨_, (a0.toList == ([122] : List UInt8)), (by rfl), H', ⟨by omega⟩, ⟨by exact BK105.out⟩, ⟨by repeat (with_reducible exact HB.out)⟩⟩
 case rest =>
  clear HC4
  obtain ⟨kq, x17_3, rfl, HA, HJ3, BK105, HB⟩ := hcut
  cases kq with
  | zero => exact absurd HA.out (by simp [bits_decimal.j0])
  | succ kj3 =>
   have H := HA.out
   clear HA
   simp only [bits_decimal.j0] at H
   by_cases c7 : x17_3 = true
   ·subst c7
    have H1 : (if a2 = 0 then (if 0 < (a0.size : Int) then ((bits_All.f kj3 a1 (bt a0 0)).bind fun bt106 => (some (bt106.1, bt106.2.1, bt106.2.2, 0))) else (none)) else (some (0, 0, 0, a2))) = some (r1, r2, r3, r4) := by rw [if_pos rfl] at H; exact H
    clear H
    have H := H1
    clear H1
    by_cases c8 : a2 = 0
    ·rw [if_pos c8] at H
     have c8b0 : (a2 == 0) = true := beq_iff_eq.mpr c8
     have c8b1 : (a2 != 0) = false := bne_eq_false_iff_eq.mpr c8
     clear c8
     by_cases c9 : 0 < (a0.size : Int)
     ·rw [if_pos c9] at H
      have c9b0 : decide (0 < (a0.size : Int)) = true := decide_eq_true c9
      have c9b1 : decide (0 < a0.size) = true := decide_eq_true (by omega)
      clear c9
      replace H := Option.bind_eq_some_iff.mp H
      obtain ⟨⟨t106, t107, t108⟩, A110, H⟩ := H
      replace H : (some (t106, t107, t108, 0)) = some (r1, r2, r3, r4) := H
      have A11 := Aside0.mk A110
      clear A110
      simp only [Option.some.injEq, Prod.mk.injEq] at H
      obtain ⟨rfl, rfl, rfl, rfl⟩ := H
      have p10 : 0 ≤ (0 : Int) := (by omega)
      have q10 : 0 < a0.size := (by have : (0 : Int) < (a0.size : Int) := of_decide_eq_true (by (with_reducible assumption)); omega)
      have hx10 : ∀ h : 0 < a0.size, ((a0[0]'h).toNat : Int) = bt a0 0 := bt_at a0 0
      clear p10
      have qi10 : (0 < (a0.size : Int)) = True := eq_true (of_decide_eq_true (by (with_reducible assumption)))
      replace q10 := eq_true q10
      go_wp2_with (((with_reducible refine gate_callee (f := 25) rfl ?_); refine goesL_ (some 25) rfl rfl Tryd.func25 (by kernel_rfl) rfl #[.int .i64 a1, .int .u8 (bt a0 0)] rfl (by (try simp only [List.map_toArray, List.map_cons, List.map_nil]); rfl) ?_; (with_reducible refine (bits_All.calls kj3 a1 (bt a0 0) t106 t107 t108 _ A11.out).mono ?_); rintro e w12 ⟨rfl, hb⟩; refine ⟨_, rfl, ?_⟩; replace BK105 := bk1 BK105 hb; replace HB := hb1 HB hb; (try clear hb); have hcz13_0 : w12.cell? ⟨gb105, 0, none⟩ = some (.int .i64 0) := (blk_cell BK105.out 0).trans rfl; have hcz13_1 : w12.cell? ⟨gb105, 1, none⟩ = some (.int .u64 0) := (blk_cell BK105.out 1).trans rfl; have hcz13_2 : w12.cell? ⟨gb105, 2, none⟩ = some (.int .u64 0) := (blk_cell BK105.out 2).trans rfl; have hfz13_0 := blk_frozen BK105.out 0; have hfz13_1 := blk_frozen BK105.out 1; have hfz13_2 := blk_frozen BK105.out 2))
      refine bodyPost_ret (results_ct rfl _ _ gb105 24 #[.int .i64 t106, .int .u64 t107, .int .u64 t108] (0, 0) _ rfl (by refine blk_put (cs := #[.int .i64 t106, .int .u64 t107, .int .u64 0]) ?_ 2 _ rfl; refine blk_put (cs := #[.int .i64 t106, .int .u64 0, .int .u64 0]) ?_ 1 _ rfl; refine blk_put (cs := #[.int .i64 0, .int .u64 0, .int .u64 0]) ?_ 0 _ rfl; exact BK105.out) Tryd.underlying24 rfl (by kernel_rfl)) rfl ?_
      exact ⟨by rfl, by repeat (with_reducible first | exact HB.out | refine below_set ?_ GE105.out)⟩
     ·rw [if_neg c9] at H
      exact absurd H (by simp)
    ·rw [if_neg c8] at H
     have c8b0 : (a2 == 0) = false := beq_eq_false_iff_ne.mpr c8
     have c8b1 : (a2 != 0) = true := bne_iff_ne.mpr c8
     simp only [Option.some.injEq, Prod.mk.injEq] at H
     obtain ⟨rfl, rfl, rfl, rfl⟩ := H
     obtain ⟨hcz14_0, hcz14_1, hcz14_2⟩ := sq_cells3 (W := wc) (g := gb105) BK105.out; obtain ⟨hfz14_0, hfz14_1, hfz14_2⟩ := sq_frozen3 BK105.out
     go_wp2
     refine bodyPost_ret (results_ct rfl _ _ gb105 24 #[.int .i64 0, .int .u64 0, .int .u64 0] (0, 0) _ rfl (by refine blk_put (cs := #[.int .i64 0, .int .u64 0, .int .u64 0]) ?_ 2 _ rfl; refine blk_put (cs := #[.int .i64 0, .int .u64 0, .int .u64 0]) ?_ 1 _ rfl; refine blk_put (cs := #[.int .i64 0, .int .u64 0, .int .u64 0]) ?_ 0 _ rfl; exact BK105.out) Tryd.underlying24 rfl (by kernel_rfl)) rfl ?_
     exact ⟨by rfl, by repeat (with_reducible first | exact HB.out | refine below_set ?_ GE105.out)⟩
   ·replace c7 := Bool.eq_false_iff.mpr c7
    subst c7
    have H1 : (bits_decimal.l0 kj3 a0 a1 a2 0 false (a0.size : Int) 0) = some (r1, r2, r3, r4) := by rw [if_neg (show ¬ (false = true) by decide)] at H; exact H
    clear H
    have H := H1
    clear H1
    have H' := Aside0.mk H
    clear H
    go_wp2
    go_loopg [8, 9, 28] kj3 (fun kq v8 v9 v28 w' => ∃ (x8_2 : Int) (x9_2 : Bool) (x28_2 : Int) (x106000_2 : Int) (x106001_2 : Int) (x106002_2 : Int), v8 = .int .u64 x8_2 ∧ v9 = .bool x9_2 ∧ v28 = .int .i64 x28_2 ∧ Aside0 (bits_decimal.l0 kq a0 a1 a2 x8_2 x9_2 (a0.size : Int) x28_2 = some (r1, r2, r3, r4)) ∧ Aside0 (kq ≤ kj3) ∧ Aside0 (w'.heap[gb105]? = some (.cells #[.int .i64 x106000_2, .int .u64 x106001_2, .int .u64 x106002_2] 24 (0, 0))) ∧ Aside0 (Below w.heap.size w w'))
    case atStart => exact ⟨(0), (false), (0), (0), (0), (0), (by rfl), (by rfl), (by rfl), H', ⟨Nat.le_refl _⟩, ⟨by exact BK105.out⟩, ⟨by repeat (with_reducible exact HB.out)⟩⟩
    case round =>
     clear H'
     obtain ⟨x8_2, x9_2, x28_2, x106000_2, x106001_2, x106002_2, rfl, rfl, rfl, HA, HK2, BK105, HB⟩ := hrel
     cases gk with
     | zero => exact absurd HA.out (by simp [bits_decimal.l0])
     | succ k2 =>
      have H := HA.out
      clear HA
      simp only [bits_decimal.l0] at H
      by_cases c15 : x28_2 < (a0.size : Int)
      ·rw [if_pos c15] at H
       have c15b0 : decide (x28_2 < (a0.size : Int)) = true := decide_eq_true c15
       clear c15
       have HC16 := Aside0.mk H
       clear H
       go_upto_region 10 with (fail)
       go_cut [40] (fun v40 wc => ∃ (kq : Nat) (x40_15 : Bool), v40 = .bool x40_15 ∧ Aside0 (bits_decimal.j2 kq a0 a1 a2 x8_2 x9_2 x28_2 (a0.size : Int) x28_2 x40_15 = some (r1, r2, r3, r4)) ∧ Aside0 (kq ≤ k2) ∧ Aside0 (wc.heap[gb105]? = some (.cells #[.int .i64 x106000_2, .int .u64 x106001_2, .int .u64 x106002_2] 24 (0, 0))) ∧ Aside0 (Below w.heap.size w wc))
       case first =>
        have H := HC16.out
        clear HC16
        by_cases c17 : 0 ≤ x28_2
        ·rw [if_pos c17] at H
         have c17b0 : decide (0 ≤ x28_2) = true := decide_eq_true c17
         clear c17
         (skip)
         by_cases c18 : x28_2 < (a0.size : Int)
         ·rw [if_pos c18] at H
          have c18b0 : decide (x28_2 < (a0.size : Int)) = true := decide_eq_true c18
          clear c18
          by_cases c20 : (bt a0 x28_2) < 48
          ·rw [if_pos c20] at H
           have c20b0 : decide ((bt a0 x28_2) < 48) = true := decide_eq_true c20
           clear c20
           have H' := Aside0.mk H
           clear H
           have p19 : 0 ≤ (x28_2 : Int) := of_decide_eq_true (by (with_reducible assumption))
           have q19 : x28_2 < (a0.size : Int) := of_decide_eq_true (by (with_reducible assumption))
           have hx19 := bt_at a0 x28_2
           replace p19 := eq_true p19
           replace q19 := eq_true q19
           go_wp2
           go_meet
           case rel => exact ⟨_, (true), (by rfl), H', ⟨by have := HJ3.out; have := HK2.out; omega⟩, ⟨by exact BK105.out⟩, ⟨by repeat (with_reducible exact HB.out)⟩⟩
          ·rw [if_neg c20] at H
           have c20b0 : decide ((bt a0 x28_2) < 48) = false := decide_eq_false c20
           clear c20
           have H' := Aside0.mk H
           clear H
           have p19 : 0 ≤ (x28_2 : Int) := of_decide_eq_true (by (with_reducible assumption))
           have q19 : x28_2 < (a0.size : Int) := of_decide_eq_true (by (with_reducible assumption))
           have hx19 := bt_at a0 x28_2
           replace p19 := eq_true p19
           replace q19 := eq_true q19
           have p21 : 0 ≤ (x28_2 : Int) := of_decide_eq_true (by (with_reducible assumption))
           have q21 : x28_2 < (a0.size : Int) := of_decide_eq_true (by (with_reducible assumption))
           have hx21 := bt_at a0 x28_2
           replace p21 := eq_true p21
           replace q21 := eq_true q21
           go_wp2
           go_meet
           case rel => exact ⟨_, (decide ((bt a0 x28_2) > 57)), (by rfl), H', ⟨by have := HJ3.out; have := HK2.out; omega⟩, ⟨by exact BK105.out⟩, ⟨by repeat (with_reducible exact HB.out)⟩⟩
         ·rw [if_neg c18] at H
          exact absurd H (by simp)
        ·rw [if_neg c17] at H
         exact absurd H (by simp)
       case rest =>
        clear HC16
        (try clear c15b0)
        obtain ⟨kq, x40_15, rfl, HA, HJ15, BK105, HB⟩ := hcut
        cases kq with
        | zero => exact absurd HA.out (by simp [bits_decimal.j2])
        | succ kj15 =>
         have H := HA.out
         clear HA
         simp only [bits_decimal.j2] at H
         by_cases c22 : x40_15 = true
         ·subst c22
          have H1 : (some (0, 0, 0, 10)) = some (r1, r2, r3, r4) := by rw [if_pos rfl] at H; exact H
          clear H
          have H := H1
          clear H1
          simp only [Option.some.injEq, Prod.mk.injEq] at H
          obtain ⟨rfl, rfl, rfl, rfl⟩ := H
          obtain ⟨hcz23_0, hcz23_1, hcz23_2⟩ := sq_cells3 (W := wc) (g := gb105) BK105.out; obtain ⟨hfz23_0, hfz23_1, hfz23_2⟩ := sq_frozen3 BK105.out
          go_wp2
          refine bodyPost_ret (results_ct rfl _ _ gb105 24 #[.int .i64 0, .int .u64 0, .int .u64 0] (0, 0) _ rfl (by refine blk_put (cs := #[.int .i64 0, .int .u64 0, .int .u64 x106002_2]) ?_ 2 _ rfl; refine blk_put (cs := #[.int .i64 0, .int .u64 x106001_2, .int .u64 x106002_2]) ?_ 1 _ rfl; refine blk_put (cs := #[.int .i64 x106000_2, .int .u64 x106001_2, .int .u64 x106002_2]) ?_ 0 _ rfl; exact BK105.out) Tryd.underlying24 rfl (by kernel_rfl)) rfl ?_
          exact ⟨by rfl, by repeat (with_reducible first | exact HB.out | refine below_set ?_ GE105.out)⟩
         ·replace c22 := Bool.eq_false_iff.mpr c22
          subst c22
          have H1 : (if 0 ≤ x28_2 then (if x28_2 < (a0.size : Int) then (if x8_2 > ((18446744073709551615 - (((bt a0 x28_2) - 48) % 256)) / 10) then (bits_decimal.l0 kj15 a0 a1 a2 (IntKind.u64.wrap ((IntKind.u64.wrap (10 * x8_2)) + (((bt a0 x28_2) - 48) % 256))) true (a0.size : Int) (wrap64 (x28_2 + 1))) else (bits_decimal.l0 kj15 a0 a1 a2 (IntKind.u64.wrap ((IntKind.u64.wrap (10 * x8_2)) + (((bt a0 x28_2) - 48) % 256))) x9_2 (a0.size : Int) (wrap64 (x28_2 + 1)))) else (none)) else (none)) = some (r1, r2, r3, r4) := by rw [if_neg (show ¬ (false = true) by decide)] at H; exact H
          clear H
          have H := H1
          clear H1
          by_cases c24 : 0 ≤ x28_2
          ·rw [if_pos c24] at H
           have c24b0 : decide (0 ≤ x28_2) = true := decide_eq_true c24
           clear c24
           by_cases c25 : x28_2 < (a0.size : Int)
           ·rw [if_pos c25] at H
            have c25b0 : decide (x28_2 < (a0.size : Int)) = true := decide_eq_true c25
            clear c25
            by_cases c27 : x8_2 > ((18446744073709551615 - (((bt a0 x28_2) - 48) % 256)) / 10)
            ·rw [if_pos c27] at H
             have c27b0 : decide (((18446744073709551615 - (((bt a0 x28_2) - 48) % 256)) / 10) < x8_2) = true := decide_eq_true c27
             clear c27
             have H' := Aside0.mk H
             clear H
             have p26 : 0 ≤ (x28_2 : Int) := of_decide_eq_true (by (with_reducible assumption))
             have q26 : x28_2 < (a0.size : Int) := of_decide_eq_true (by (with_reducible assumption))
             have hx26 := bt_at a0 x28_2
             replace p26 := eq_true p26
             replace q26 := eq_true q26
             go_wp2
             go_roundg kj15
             case measure => have := HJ3.out; have := HK2.out; have := HJ15.out; omega
             case rel => exact ⟨(IntKind.u64.wrap ((IntKind.u64.wrap (10 * x8_2)) + (((bt a0 x28_2) - 48) % 256))), (true), (wrap64 (x28_2 + 1)), (x106000_2), (x106001_2), (x106002_2), (by rfl), (by rfl), (by rfl), H', ⟨by have := HJ3.out; have := HK2.out; have := HJ15.out; omega⟩, ⟨by exact BK105.out⟩, ⟨by repeat (with_reducible exact HB.out)⟩⟩
            ·rw [if_neg c27] at H
             have c27b0 : decide (((18446744073709551615 - (((bt a0 x28_2) - 48) % 256)) / 10) < x8_2) = false := decide_eq_false c27
             clear c27
             have H' := Aside0.mk H
             clear H
             have p26 : 0 ≤ (x28_2 : Int) := of_decide_eq_true (by (with_reducible assumption))
             have q26 : x28_2 < (a0.size : Int) := of_decide_eq_true (by (with_reducible assumption))
             have hx26 := bt_at a0 x28_2
             replace p26 := eq_true p26
             replace q26 := eq_true q26
             go_wp2
             go_roundg kj15
             case measure => have := HJ3.out; have := HK2.out; have := HJ15.out; omega
             case rel => exact ⟨(IntKind.u64.wrap ((IntKind.u64.wrap (10 * x8_2)) + (((bt a0 x28_2) - 48) % 256))), (x9_2), (wrap64 (x28_2 + 1)), (x106000_2), (x106001_2), (x106002_2), (by rfl), (by rfl), (by rfl), H', ⟨by have := HJ3.out; have := HK2.out; have := HJ15.out; omega⟩, ⟨by exact BK105.out⟩, ⟨by repeat (with_reducible exact HB.out)⟩⟩
           ·rw [if_neg c25] at H
            exact absurd H (by simp)
          ·rw [if_neg c24] at H
           exact absurd H (by simp)
      ·rw [if_neg c15] at H
       have c15b0 : decide (x28_2 < (a0.size : Int)) = false := decide_eq_false c15
       clear c15
       by_cases c28 : a2 = 0
       ·rw [if_pos c28] at H
        have c28b0 : (a2 == 0) = true := beq_iff_eq.mpr c28
        have c28b1 : (a2 != 0) = false := bne_eq_false_iff_eq.mpr c28
        clear c28
        by_cases c29 : x9_2 = true
        ·subst c29
         have H1 : (some (0, 0, 0, 3)) = some (r1, r2, r3, r4) := by rw [if_pos rfl] at H; exact H
         clear H
         have H := H1
         clear H1
         simp only [Option.some.injEq, Prod.mk.injEq] at H
         obtain ⟨rfl, rfl, rfl, rfl⟩ := H
         obtain ⟨hcz30_0, hcz30_1, hcz30_2⟩ := sq_cells3 (W := wr) (g := gb105) BK105.out; obtain ⟨hfz30_0, hfz30_1, hfz30_2⟩ := sq_frozen3 BK105.out
         go_wp2
         refine bodyPost_ret (results_ct rfl _ _ gb105 24 #[.int .i64 0, .int .u64 0, .int .u64 0] (0, 0) _ rfl (by refine blk_put (cs := #[.int .i64 0, .int .u64 0, .int .u64 x106002_2]) ?_ 2 _ rfl; refine blk_put (cs := #[.int .i64 0, .int .u64 x106001_2, .int .u64 x106002_2]) ?_ 1 _ rfl; refine blk_put (cs := #[.int .i64 x106000_2, .int .u64 x106001_2, .int .u64 x106002_2]) ?_ 0 _ rfl; exact BK105.out) Tryd.underlying24 rfl (by kernel_rfl)) rfl ?_
         exact ⟨by rfl, by repeat (with_reducible first | exact HB.out | refine below_set ?_ GE105.out)⟩
        ·replace c29 := Bool.eq_false_iff.mpr c29
         subst c29
         have H1 : ((bits_mask.f a1).bind fun t109 => (if (Go.bits .andNot .u64 x8_2 t109) = 0 then ((bits_Of.f a1 x8_2).bind fun bt110 => (some (bt110.1, bt110.2.1, bt110.2.2, 0))) else (some (0, 0, 0, 3)))) = some (r1, r2, r3, r4) := by rw [if_neg (show ¬ (false = true) by decide)] at H; exact H
         clear H
         have H := H1
         clear H1
         replace H := Option.bind_eq_some_iff.mp H
         obtain ⟨t109, A310, H⟩ := H
         replace H : (if (Go.bits .andNot .u64 x8_2 t109) = 0 then ((bits_Of.f a1 x8_2).bind fun bt110 => (some (bt110.1, bt110.2.1, bt110.2.2, 0))) else (some (0, 0, 0, 3))) = some (r1, r2, r3, r4) := H
         have A31 := Aside0.mk A310
         clear A310
         by_cases c32 : (Go.bits .andNot .u64 x8_2 t109) = 0
         ·rw [if_pos c32] at H
          have c32b0 : ((Go.bits .andNot .u64 x8_2 t109) == 0) = true := beq_iff_eq.mpr c32
          have c32b1 : ((Go.bits .andNot .u64 x8_2 t109) != 0) = false := bne_eq_false_iff_eq.mpr c32
          clear c32
          replace H := Option.bind_eq_some_iff.mp H
          obtain ⟨⟨t110, t111, t112⟩, A330, H⟩ := H
          replace H : (some (t110, t111, t112, 0)) = some (r1, r2, r3, r4) := H
          have A33 := Aside0.mk A330
          clear A330
          simp only [Option.some.injEq, Prod.mk.injEq] at H
          obtain ⟨rfl, rfl, rfl, rfl⟩ := H
          go_wp2_with (first | (go_at_call 58; (with_reducible refine (bits_mask.calls a1 t109 _ A31.out).mono ?_); rintro e w' ⟨rfl, ⟨nd, rfl⟩⟩; (try (rw [drewN_self wr]; generalize hq_ : World.drewN wr _ = wr; have n0_ : Aside0 (wr.heap[gb105]? = some (.cells #[.int .i64 x106000_2, .int .u64 x106001_2, .int .u64 x106002_2] 24 (0, 0))) := ⟨by rw [← hq_]; exact (by (with_reducible repeat (refine blk_drewN ?_ _)); exact BK105.out)⟩; have n1_ : Aside0 (Below w.heap.size w wr) := ⟨by rw [← hq_]; exact (by repeat (with_reducible first | exact HB.out | apply pw_below_drewN))⟩; clear BK105 HB hq_; have BK105 := n0_; have HB := n1_; clear n0_ n1_))) | ((with_reducible refine gate_callee (f := 24) rfl ?_); refine goesL_ (some 74) rfl rfl Tryd.func24 (by kernel_rfl) rfl #[.int .i64 a1, .int .u64 x8_2] rfl (by (try simp only [List.map_toArray, List.map_cons, List.map_nil]); rfl) ?_; (with_reducible refine (bits_Of.calls a1 x8_2 t110 t111 t112 _ A33.out).mono ?_); rintro e w34 ⟨rfl, hb⟩; refine ⟨_, rfl, ?_⟩; replace BK105 := bk1 BK105 hb; replace HB := hb1 HB hb; (try clear hb); have hcz35_0 : w34.cell? ⟨gb105, 0, none⟩ = some (.int .i64 x106000_2) := (blk_cell BK105.out 0).trans rfl; have hcz35_1 : w34.cell? ⟨gb105, 1, none⟩ = some (.int .u64 x106001_2) := (blk_cell BK105.out 1).trans rfl; have hcz35_2 : w34.cell? ⟨gb105, 2, none⟩ = some (.int .u64 x106002_2) := (blk_cell BK105.out 2).trans rfl; have hfz35_0 := blk_frozen BK105.out 0; have hfz35_1 := blk_frozen BK105.out 1; have hfz35_2 := blk_frozen BK105.out 2))
          refine bodyPost_ret (results_ct rfl _ _ gb105 24 #[.int .i64 t110, .int .u64 t111, .int .u64 t112] (0, 0) _ rfl (by refine blk_put (cs := #[.int .i64 t110, .int .u64 t111, .int .u64 x106002_2]) ?_ 2 _ rfl; refine blk_put (cs := #[.int .i64 t110, .int .u64 x106001_2, .int .u64 x106002_2]) ?_ 1 _ rfl; refine blk_put (cs := #[.int .i64 x106000_2, .int .u64 x106001_2, .int .u64 x106002_2]) ?_ 0 _ rfl; exact BK105.out) Tryd.underlying24 rfl (by kernel_rfl)) rfl ?_
          exact ⟨by rfl, by repeat (with_reducible first | exact HB.out | refine below_set ?_ GE105.out)⟩
         ·rw [if_neg c32] at H
          have c32b0 : ((Go.bits .andNot .u64 x8_2 t109) == 0) = false := beq_eq_false_iff_ne.mpr c32
          have c32b1 : ((Go.bits .andNot .u64 x8_2 t109) != 0) = true := bne_iff_ne.mpr c32
          simp only [Option.some.injEq, Prod.mk.injEq] at H
          obtain ⟨rfl, rfl, rfl, rfl⟩ := H
          go_wp2_with ((go_at_call 58; (with_reducible refine (bits_mask.calls a1 t109 _ A31.out).mono ?_); rintro e w' ⟨rfl, ⟨nd, rfl⟩⟩; (try (rw [drewN_self wr]; generalize hq_ : World.drewN wr _ = wr; have n0_ : Aside0 (wr.heap[gb105]? = some (.cells #[.int .i64 x106000_2, .int .u64 x106001_2, .int .u64 x106002_2] 24 (0, 0))) := ⟨by rw [← hq_]; exact (by (with_reducible repeat (refine blk_drewN ?_ _)); exact BK105.out)⟩; have n1_ : Aside0 (Below w.heap.size w wr) := ⟨by rw [← hq_]; exact (by repeat (with_reducible first | exact HB.out | apply pw_below_drewN))⟩; clear BK105 HB hq_; have BK105 := n0_; have HB := n1_; clear n0_ n1_)); have hcz36_0 : wr.cell? ⟨gb105, 0, none⟩ = some (.int .i64 x106000_2) := (blk_cell BK105.out 0).trans rfl; have hcz36_1 : wr.cell? ⟨gb105, 1, none⟩ = some (.int .u64 x106001_2) := (blk_cell BK105.out 1).trans rfl; have hcz36_2 : wr.cell? ⟨gb105, 2, none⟩ = some (.int .u64 x106002_2) := (blk_cell BK105.out 2).trans rfl; have hfz36_0 := blk_frozen BK105.out 0; have hfz36_1 := blk_frozen BK105.out 1; have hfz36_2 := blk_frozen BK105.out 2))
          refine bodyPost_ret (results_ct rfl _ _ gb105 24 #[.int .i64 0, .int .u64 0, .int .u64 0] (0, 0) _ rfl (by refine blk_put (cs := #[.int .i64 0, .int .u64 0, .int .u64 x106002_2]) ?_ 2 _ rfl; refine blk_put (cs := #[.int .i64 0, .int .u64 x106001_2, .int .u64 x106002_2]) ?_ 1 _ rfl; refine blk_put (cs := #[.int .i64 x106000_2, .int .u64 x106001_2, .int .u64 x106002_2]) ?_ 0 _ rfl; exact BK105.out) Tryd.underlying24 rfl (by kernel_rfl)) rfl ?_
          exact ⟨by rfl, by repeat (with_reducible first | exact HB.out | refine below_set ?_ GE105.out)⟩
       ·rw [if_neg c28] at H
        have c28b0 : (a2 == 0) = false := beq_eq_false_iff_ne.mpr c28
        have c28b1 : (a2 != 0) = true := bne_iff_ne.mpr c28
        simp only [Option.some.injEq, Prod.mk.injEq] at H
        obtain ⟨rfl, rfl, rfl, rfl⟩ := H
        obtain ⟨hcz37_0, hcz37_1, hcz37_2⟩ := sq_cells3 (W := wr) (g := gb105) BK105.out; obtain ⟨hfz37_0, hfz37_1, hfz37_2⟩ := sq_frozen3 BK105.out
        go_wp2
        refine bodyPost_ret (results_ct rfl _ _ gb105 24 #[.int .i64 0, .int .u64 0, .int .u64 0] (0, 0) _ rfl (by refine blk_put (cs := #[.int .i64 0, .int .u64 0, .int .u64 x106002_2]) ?_ 2 _ rfl; refine blk_put (cs := #[.int .i64 0, .int .u64 x106001_2, .int .u64 x106002_2]) ?_ 1 _ rfl; refine blk_put (cs := #[.int .i64 x106000_2, .int .u64 x106001_2, .int .u64 x106002_2]) ?_ 0 _ rfl; exact BK105.out) Tryd.underlying24 rfl (by kernel_rfl)) rfl ?_
        exact ⟨by rfl, by repeat (with_reducible first | exact HB.out | refine below_set ?_ GE105.out)⟩
end Go.Proofs.YtfigblfjogpojaaDoor.PBits
end
section
namespace Go.Proofs.YtfigblfjogpojaaDoor.PBits
open Go.RowKit Go.Proofs.YtfigblfjogpojaaDoorW.PrintWords Go.Proofs.YtfigblfjogpojaaDoorW.PrintLast Go.Proofs.YtfigblfjogpojaaDoorW.PrintMore
attribute [local go_sem] max2_int min2_int max_two min_two max_three min_three max_four min_four
set_option linter.unusedVariables false
set_option linter.unusedSimpArgs false
def bits_Bit.j0 : Nat → Int → Bool → Int → Int → Int → Option (Int)
 | 0, _, _, _, _, _ => none
 | k + 1, x1, x18, x119000, x119001, x119002 => if x18 = true then (some 0) else (if 0 ≤ x1 then (if 0 ≤ (Go.bits .or .u64 (Go.bits .and .u64 (shr .u64 x119001 x1) 1) (IntKind.u64.wrap ((Go.bits .and .u64 (shr .u64 x119002 x1) 1) * 2))) then (if (Go.bits .or .u64 (Go.bits .and .u64 (shr .u64 x119001 x1) 1) (IntKind.u64.wrap ((Go.bits .and .u64 (shr .u64 x119002 x1) 1) * 2))) < 4 then (some (bt (⟨#[48, 49, 122, 120]⟩ : ByteArray) (Go.bits .or .u64 (Go.bits .and .u64 (shr .u64 x119001 x1) 1) (IntKind.u64.wrap ((Go.bits .and .u64 (shr .u64 x119002 x1) 1) * 2))))) else (none)) else (none)) else (none))
def bits_Bit.f (k : Nat) (a0_0 : Int) (a0_1 : Int) (a0_2 : Int) (a1 : Int) : Option (Int) := (bits_valid.f k (([(⟨a0_0, a0_1, a0_2⟩ : S24)] : List (S24)))).bind fun t122 => (if t122 = true then (if a1 < 0 then (bits_Bit.j0 k a1 true a0_0 a0_1 a0_2) else (bits_Bit.j0 k a1 (decide (a1 ≥ a0_0)) a0_0 a0_1 a0_2)) else (bits_Bit.j0 k a1 true a0_0 a0_1 a0_2))
theorem bits_Bit.mono_l : ∀ k, (∀ y0 y1 y2 y3 y4, LeO (bits_Bit.j0 k y0 y1 y2 y3 y4) (bits_Bit.j0 (k + 1) y0 y1 y2 y3 y4))
 | 0 => fun _ _ _ _ _ r h => by simp [bits_Bit.j0] at h
 | k + 1 => by
  have ih0 := bits_Bit.mono_l k
  ·intro y0 y1 y2 y3 y4
   unfold bits_Bit.j0
   repeat' first
   | (with_reducible exact ih0 _ _ _ _ _)
   | (with_reducible exact bits_valid.mono _ _)
   | (with_reducible exact LeO.refl _)
   | (with_reducible exact LeO.none _)
   | (with_reducible refine LeO.ite ?_ ?_)
   | (with_reducible refine LeO.bind ?_ (fun _ => ?_))
   | exact ih0 _ _ _ _ _
   | exact bits_valid.mono _ _
   | exact LeO.none _
   | refine LeO.ite ?_ ?_
   | refine LeO.bind ?_ (fun _ => ?_)
theorem bits_Bit.mono : ∀ a0 a1 a2 a3 k, LeO (bits_Bit.f k a0 a1 a2 a3) (bits_Bit.f (k + 1) a0 a1 a2 a3) := by
 intro a0 a1 a2 a3 k
 have ih0 := bits_Bit.mono_l k
 unfold bits_Bit.f
 repeat' first
   | (with_reducible exact ih0 _ _ _ _ _)
   | (with_reducible exact bits_valid.mono _ _)
   | (with_reducible exact LeO.refl _)
   | (with_reducible exact LeO.none _)
   | (with_reducible refine LeO.ite ?_ ?_)
   | (with_reducible refine LeO.bind ?_ (fun _ => ?_))
   | exact ih0 _ _ _ _ _
   | exact bits_valid.mono _ _
   | exact LeO.none _
   | refine LeO.ite ?_ ?_
   | refine LeO.bind ?_ (fun _ => ?_)
set_option maxHeartbeats 8000000 in
set_option maxRecDepth 100000 in
theorem bits_Bit.calls (k : Nat) (a0_0 : Int) (a0_1 : Int) (a0_2 : Int) (a1 : Int) (r : Int) (w : World) (h : bits_Bit.f k a0_0 a0_1 a0_2 a1 = some r) :
  Calls Tryd.prog 20 #[.agg #[.int .i64 a0_0, .int .u64 a0_1, .int .u64 a0_2], .int .i64 a1] w fun e w' => e = .returned (.int .u8 r) ∧ Below w.heap.size w w' := by
 have hu24 := Tryd.underlying24
 have HB := Aside0.mk (Below.refl w.heap.size w)
 have H : ((bits_valid.f k ([(⟨a0_0, a0_1, a0_2⟩ : S24)] : List (S24))).bind fun t122 => (if t122 = true then (if a1 < 0 then (bits_Bit.j0 k a1 true a0_0 a0_1 a0_2) else (bits_Bit.j0 k a1 (decide (a1 ≥ a0_0)) a0_0 a0_1 a0_2)) else (bits_Bit.j0 k a1 true a0_0 a0_1 a0_2))) = some r := h
 clear h
 have HC3 := Aside0.mk H
 clear H
 go_enter Tryd.func20, Tryd.ntmps20
 go_upto_region 1 with (((with_reducible refine gate_dst (N := 2) rfl ?_); refine box_event ?hg (N := 2) ?hd (cs := #[.int .i64 a0_0, .int .u64 a0_1, .int .u64 a0_2]) (t := 24) ?hr ?_; (case hd => rfl); (case hg => rfl); (case hr => (go_simp; done)); intro gb118 hg w4 hbox hb; have BK118 := Aside0.mk (hbox); have GW118 := ge1 HB hg; have GE118 := ge1 HB hg; replace HB := hb1 HB hb; clear hb hbox hg))
 go_cut [18] (fun v18 wc => ∃ (kq : Nat) (x18_2 : Bool), v18 = .bool x18_2 ∧ Aside0 (bits_Bit.j0 kq a1 x18_2 a0_0 a0_1 a0_2 = some r) ∧ Aside0 (kq ≤ k) ∧ Aside0 (wc.heap[gb118]? = some (.cells #[.int .i64 a0_0, .int .u64 a0_1, .int .u64 a0_2] 24 (0, 0))) ∧ Aside0 (Below w.heap.size w wc))
 case first =>
  have H := HC3.out
  clear HC3
  obtain ⟨y119, hy119⟩ : ∃ y_ : List (S24), y_ = ([(⟨a0_0, a0_1, a0_2⟩ : S24)] : List (S24)) := ⟨_, rfl⟩
  replace H : ((bits_valid.f k y119).bind fun t122 => (if t122 = true then (if a1 < 0 then (bits_Bit.j0 k a1 true a0_0 a0_1 a0_2) else (bits_Bit.j0 k a1 (decide (a1 ≥ a0_0)) a0_0 a0_1 a0_2)) else (bits_Bit.j0 k a1 true a0_0 a0_1 a0_2))) = some r := by (rw [hy119]; with_reducible exact H)
  have Ny119 := Aside0.mk hy119
  clear hy119
  replace H := Option.bind_eq_some_iff.mp H
  obtain ⟨t122, A50, H⟩ := H
  replace H : (if t122 = true then (if a1 < 0 then (bits_Bit.j0 k a1 true a0_0 a0_1 a0_2) else (bits_Bit.j0 k a1 (decide (a1 ≥ a0_0)) a0_0 a0_1 a0_2)) else (bits_Bit.j0 k a1 true a0_0 a0_1 a0_2)) = some r := H
  have A5 := Aside0.mk A50
  clear A50
  by_cases c6 : t122 = true
  ·subst c6
   have H1 : (if a1 < 0 then (bits_Bit.j0 k a1 true a0_0 a0_1 a0_2) else (bits_Bit.j0 k a1 (decide (a1 ≥ a0_0)) a0_0 a0_1 a0_2)) = some r := by rw [if_pos rfl] at H; exact H
   clear H
   have H := H1
   clear H1
   by_cases c7 : a1 < 0
   ·rw [if_pos c7] at H
    have c7b0 : decide (a1 < 0) = true := decide_eq_true c7
    clear c7
    (skip)
    have H' := Aside0.mk H
    clear H
    obtain ⟨hcz8_0, hcz8_1, hcz8_2⟩ := sq_cells3 (W := w4) (g := gb118) BK118.out; obtain ⟨hfz8_0, hfz8_1, hfz8_2⟩ := sq_frozen3 BK118.out
    go_wp2_with (first | ((with_reducible refine gate_dst (N := 6) rfl ?_); refine Kd.R_lit k24 _ 24 ?hg (N := 6) ?hd (xs := ([(⟨a0_0, a0_1, a0_2⟩ : S24)] : List (S24))) (inner := [.int .i64 a0_0, .int .u64 a0_1, .int .u64 a0_2]) (ok := fun _ => True) (okp := fun _ => True) ?hr ?hp (fun _ hk => hk) trivial (Below.refl _ _) (Nat.le_refl _) (by simp) ?_; (case hd => rfl); (case hg => rfl); (case hr => (go_simp; done)); (case hp => exact (Reps.c3 (show Kd.M k24 _ _ _ (⟨a0_0, a0_1, a0_2⟩ : S24) [.int .i64 a0_0, .int .u64 a0_1, .int .u64 a0_2] from (k24_mkM _ _ _ (⟨a0_0, a0_1, a0_2⟩ : S24) )) (Reps.none _ _))); intro v120 w9 ho10 hb hg_ hnew_; clear hg_ hnew_; (rw [← Ny119.out] at ho10); have HO121 := Aside0.mk (Kd.R_lower (Kd.R_newB ho10 BK118.out) (below_size HB.out)); replace BK118 := bk1 BK118 hb; replace HB := hb1 HB hb; clear hb ho10; obtain ⟨Ao11, co11, eo11⟩ := Kd.R_slice HO121.out; subst eo11) | (go_at_call 56; (with_reducible refine (bits_valid.calls k _ _ y119 true _ ?side1 ?side2 A5.out).mono ?_); (case side1 => repeat (exact (Kd.R_reads' HO121.out).2.2)); (case side2 => exact (Kd.R_reads' HO121.out).2.1); rintro e w12 ⟨rfl, hb⟩; replace HO121 := Kd.rb1 HO121 hb; replace BK118 := bk1 BK118 hb; replace HB := hb1 HB hb; (try clear hb)))
    go_meet
    case rel => exact ⟨_, (true), (by rfl), H', ⟨by omega⟩, ⟨by exact BK118.out⟩, ⟨by repeat (with_reducible exact HB.out)⟩⟩
   ·rw [if_neg c7] at H
    have c7b0 : decide (a1 < 0) = false := decide_eq_false c7
    clear c7
    (skip)
    have H' := Aside0.mk H
    clear H
    obtain ⟨hcz13_0, hcz13_1, hcz13_2⟩ := sq_cells3 (W := w4) (g := gb118) BK118.out; obtain ⟨hfz13_0, hfz13_1, hfz13_2⟩ := sq_frozen3 BK118.out
    go_wp2_with (first | ((with_reducible refine gate_dst (N := 6) rfl ?_); refine Kd.R_lit k24 _ 24 ?hg (N := 6) ?hd (xs := ([(⟨a0_0, a0_1, a0_2⟩ : S24)] : List (S24))) (inner := [.int .i64 a0_0, .int .u64 a0_1, .int .u64 a0_2]) (ok := fun _ => True) (okp := fun _ => True) ?hr ?hp (fun _ hk => hk) trivial (Below.refl _ _) (Nat.le_refl _) (by simp) ?_; (case hd => rfl); (case hg => rfl); (case hr => (go_simp; done)); (case hp => exact (Reps.c3 (show Kd.M k24 _ _ _ (⟨a0_0, a0_1, a0_2⟩ : S24) [.int .i64 a0_0, .int .u64 a0_1, .int .u64 a0_2] from (k24_mkM _ _ _ (⟨a0_0, a0_1, a0_2⟩ : S24) )) (Reps.none _ _))); intro v120 w14 ho15 hb hg_ hnew_; clear hg_ hnew_; (rw [← Ny119.out] at ho15); have HO121 := Aside0.mk (Kd.R_lower (Kd.R_newB ho15 BK118.out) (below_size HB.out)); replace BK118 := bk1 BK118 hb; replace HB := hb1 HB hb; clear hb ho15; obtain ⟨Ao16, co16, eo16⟩ := Kd.R_slice HO121.out; subst eo16) | (go_at_call 56; (with_reducible refine (bits_valid.calls k _ _ y119 true _ ?side1 ?side2 A5.out).mono ?_); (case side1 => repeat (exact (Kd.R_reads' HO121.out).2.2)); (case side2 => exact (Kd.R_reads' HO121.out).2.1); rintro e w17 ⟨rfl, hb⟩; replace HO121 := Kd.rb1 HO121 hb; replace BK118 := bk1 BK118 hb; replace HB := hb1 HB hb; (try clear hb); have hcz18_0 : w17.cell? ⟨gb118, 0, none⟩ = some (.int .i64 a0_0) := (blk_cell BK118.out 0).trans rfl; have hcz18_1 : w17.cell? ⟨gb118, 1, none⟩ = some (.int .u64 a0_1) := (blk_cell BK118.out 1).trans rfl; have hcz18_2 : w17.cell? ⟨gb118, 2, none⟩ = some (.int .u64 a0_2) := (blk_cell BK118.out 2).trans rfl; have hfz18_0 := blk_frozen BK118.out 0; have hfz18_1 := blk_frozen BK118.out 1; have hfz18_2 := blk_frozen BK118.out 2))
    go_meet
    case rel => exact ⟨_, (decide (a1 ≥ a0_0)), (by rfl), H', ⟨by omega⟩, ⟨by exact BK118.out⟩, ⟨by repeat (with_reducible exact HB.out)⟩⟩
  ·replace c6 := Bool.eq_false_iff.mpr c6
   subst c6
   have H1 : (bits_Bit.j0 k a1 true a0_0 a0_1 a0_2) = some r := by rw [if_neg (show ¬ (false = true) by decide)] at H; exact H
   clear H
   have H := H1
   clear H1
   have H' := Aside0.mk H
   clear H
   obtain ⟨hcz19_0, hcz19_1, hcz19_2⟩ := sq_cells3 (W := w4) (g := gb118) BK118.out; obtain ⟨hfz19_0, hfz19_1, hfz19_2⟩ := sq_frozen3 BK118.out
   go_wp2_with (first | ((with_reducible refine gate_dst (N := 6) rfl ?_); refine Kd.R_lit k24 _ 24 ?hg (N := 6) ?hd (xs := ([(⟨a0_0, a0_1, a0_2⟩ : S24)] : List (S24))) (inner := [.int .i64 a0_0, .int .u64 a0_1, .int .u64 a0_2]) (ok := fun _ => True) (okp := fun _ => True) ?hr ?hp (fun _ hk => hk) trivial (Below.refl _ _) (Nat.le_refl _) (by simp) ?_; (case hd => rfl); (case hg => rfl); (case hr => (go_simp; done)); (case hp => exact (Reps.c3 (show Kd.M k24 _ _ _ (⟨a0_0, a0_1, a0_2⟩ : S24) [.int .i64 a0_0, .int .u64 a0_1, .int .u64 a0_2] from (k24_mkM _ _ _ (⟨a0_0, a0_1, a0_2⟩ : S24) )) (Reps.none _ _))); intro v120 w20 ho21 hb hg_ hnew_; clear hg_ hnew_; (rw [← Ny119.out] at ho21); have HO121 := Aside0.mk (Kd.R_lower (Kd.R_newB ho21 BK118.out) (below_size HB.out)); replace BK118 := bk1 BK118 hb; replace HB := hb1 HB hb; clear hb ho21; obtain ⟨Ao22, co22, eo22⟩ := Kd.R_slice HO121.out; subst eo22) | (go_at_call 56; (with_reducible refine (bits_valid.calls k _ _ y119 false _ ?side1 ?side2 A5.out).mono ?_); (case side1 => repeat (exact (Kd.R_reads' HO121.out).2.2)); (case side2 => exact (Kd.R_reads' HO121.out).2.1); rintro e w23 ⟨rfl, hb⟩; replace HO121 := Kd.rb1 HO121 hb; replace BK118 := bk1 BK118 hb; replace HB := hb1 HB hb; (try clear hb)))
   go_meet
   case rel => exact ⟨_, (true), (by rfl), H', ⟨by omega⟩, ⟨by exact BK118.out⟩, ⟨by repeat (with_reducible exact HB.out)⟩⟩
 case rest =>
  clear HC3
  obtain ⟨kq, x18_2, rfl, HA, HJ2, BK118, HB⟩ := hcut
  cases kq with
  | zero => exact absurd HA.out (by simp [bits_Bit.j0])
  | succ kj2 =>
   have H := HA.out
   clear HA
   simp only [bits_Bit.j0] at H
   by_cases c24 : x18_2 = true
   ·subst c24
    have H1 : (some 0) = some r := by rw [if_pos rfl] at H; exact H
    clear H
    have H := H1
    clear H1
    obtain rfl := Option.some.inj H
    go_wp2
    go_ret
    exact ⟨by rfl, by repeat (with_reducible exact HB.out)⟩
   ·replace c24 := Bool.eq_false_iff.mpr c24
    subst c24
    have H1 : (if 0 ≤ a1 then (if 0 ≤ (Go.bits .or .u64 (Go.bits .and .u64 (shr .u64 a0_1 a1) 1) (IntKind.u64.wrap ((Go.bits .and .u64 (shr .u64 a0_2 a1) 1) * 2))) then (if (Go.bits .or .u64 (Go.bits .and .u64 (shr .u64 a0_1 a1) 1) (IntKind.u64.wrap ((Go.bits .and .u64 (shr .u64 a0_2 a1) 1) * 2))) < 4 then (some (bt (⟨#[48, 49, 122, 120]⟩ : ByteArray) (Go.bits .or .u64 (Go.bits .and .u64 (shr .u64 a0_1 a1) 1) (IntKind.u64.wrap ((Go.bits .and .u64 (shr .u64 a0_2 a1) 1) * 2))))) else (none)) else (none)) else (none)) = some r := by rw [if_neg (show ¬ (false = true) by decide)] at H; exact H
    clear H
    have H := H1
    clear H1
    by_cases c25 : 0 ≤ a1
    ·rw [if_pos c25] at H
     have c25b0 := eq_true c25
     have c25b1 : decide (0 ≤ a1) = true := decide_eq_true c25
     clear c25
     obtain ⟨ji26, hji26⟩ : ∃ j_ : Int, (shr .u64 a0_1 a1) = j_ := ⟨_, rfl⟩
     replace H : (if 0 ≤ (Go.bits .or .u64 (Go.bits .and .u64 (ji26) 1) (IntKind.u64.wrap ((Go.bits .and .u64 (shr .u64 a0_2 a1) 1) * 2))) then (if (Go.bits .or .u64 (Go.bits .and .u64 (ji26) 1) (IntKind.u64.wrap ((Go.bits .and .u64 (shr .u64 a0_2 a1) 1) * 2))) < 4 then (some (bt (⟨#[48, 49, 122, 120]⟩ : ByteArray) (Go.bits .or .u64 (Go.bits .and .u64 (ji26) 1) (IntKind.u64.wrap ((Go.bits .and .u64 (shr .u64 a0_2 a1) 1) * 2))))) else (none)) else (none)) = some r := by (rw [hji26] at H; exact H)
     have hji26_ : (a0_1 / 2 ^ min a1.toNat 64) = ji26 := hji26
     have hji26z : a1 ≤ 64 → (a0_1 / 2 ^ a1.toNat) = ji26 := shr_small hji26
     have c27b0 := eq_true (of_decide_eq_true (by (with_reducible assumption)) : 0 ≤ a1)
     obtain ⟨ji28, hji28⟩ : ∃ j_ : Int, (shr .u64 a0_2 a1) = j_ := ⟨_, rfl⟩
     replace H : (if 0 ≤ (Go.bits .or .u64 (Go.bits .and .u64 (ji26) 1) (IntKind.u64.wrap ((Go.bits .and .u64 (ji28) 1) * 2))) then (if (Go.bits .or .u64 (Go.bits .and .u64 (ji26) 1) (IntKind.u64.wrap ((Go.bits .and .u64 (ji28) 1) * 2))) < 4 then (some (bt (⟨#[48, 49, 122, 120]⟩ : ByteArray) (Go.bits .or .u64 (Go.bits .and .u64 (ji26) 1) (IntKind.u64.wrap ((Go.bits .and .u64 (ji28) 1) * 2))))) else (none)) else (none)) = some r := by (rw [hji28] at H; exact H)
     have hji28_ : (a0_2 / 2 ^ min a1.toNat 64) = ji28 := hji28
     have hji28z : a1 ≤ 64 → (a0_2 / 2 ^ a1.toNat) = ji28 := shr_small hji28
     obtain ⟨ji29, hji29⟩ : ∃ j_ : Int, (Go.bits .or .u64 (Go.bits .and .u64 (ji26) 1) (IntKind.u64.wrap ((Go.bits .and .u64 (ji28) 1) * 2))) = j_ := ⟨_, rfl⟩
     replace H : (if 0 ≤ (ji29) then (if (ji29) < 4 then (some (bt (⟨#[48, 49, 122, 120]⟩ : ByteArray) (ji29))) else (none)) else (none)) = some r := by (rw [hji29] at H; exact H)
     by_cases c30 : 0 ≤ (ji29)
     ·rw [if_pos c30] at H
      have c30b0 : decide (0 ≤ (ji29)) = true := decide_eq_true c30
      clear c30
      by_cases c31 : (ji29) < 4
      ·rw [if_pos c31] at H
       have c31b0 : decide ((ji29) < 4) = true := decide_eq_true c31
       clear c31
       obtain rfl := Option.some.inj H
       obtain ⟨hcz33_0, hcz33_1, hcz33_2⟩ := sq_cells3 (W := wc) (g := gb118) BK118.out; obtain ⟨hfz33_0, hfz33_1, hfz33_2⟩ := sq_frozen3 BK118.out
       have p32 : 0 ≤ ((ji29) : Int) := of_decide_eq_true (by (with_reducible assumption))
       have q32 : (ji29) < (4 : Int) := of_decide_eq_true (by (with_reducible assumption))
       have hx32 := bt_at (⟨#[48, 49, 122, 120]⟩ : ByteArray) (ji29)
       replace p32 := eq_true p32
       replace q32 := eq_true q32
       go_wp2
       repeat (go_quiet (fail); try go_wp2)
       go_ret
       exact ⟨by rfl, by repeat (with_reducible first | exact HB.out | apply pw_below_drewN)⟩
      ·rw [if_neg c31] at H
       exact absurd H (by simp)
     ·rw [if_neg c30] at H
      exact absurd H (by simp)
    ·rw [if_neg c25] at H
     exact absurd H (by simp)
end Go.Proofs.YtfigblfjogpojaaDoor.PBits
end
section
namespace Go.Proofs.YtfigblfjogpojaaDoor.PBits
open Go.RowKit Go.Proofs.YtfigblfjogpojaaDoorW.PrintWords Go.Proofs.YtfigblfjogpojaaDoorW.PrintLast Go.Proofs.YtfigblfjogpojaaDoorW.PrintMore
attribute [local go_sem] max2_int min2_int max_two min_two max_three min_three max_four min_four
set_option linter.unusedVariables false
set_option linter.unusedSimpArgs false
def bits_digit.j0 : Nat → Int → Bool → Option (Int)
 | 0, _, _ => none
 | k + 1, x0, x3 => if x3 = true then (some ((x0 - 48) % 256)) else (if x0 ≥ 97 then (if x0 ≤ 102 then (some (((x0 - 97) % 256) + 10)) else (some (-1))) else (some (-1)))
def bits_digit.f (k : Nat) (a0 : Int) : Option (Int) := if a0 ≥ 48 then (bits_digit.j0 k a0 (decide (a0 ≤ 57))) else (bits_digit.j0 k a0 false)
theorem bits_digit.mono_l : ∀ k, (∀ y0 y1, LeO (bits_digit.j0 k y0 y1) (bits_digit.j0 (k + 1) y0 y1))
 | 0 => fun _ _ r h => by simp [bits_digit.j0] at h
 | k + 1 => by
  have ih0 := bits_digit.mono_l k
  ·intro y0 y1
   unfold bits_digit.j0
   repeat' first
   | (with_reducible exact ih0 _ _)
   | (with_reducible exact LeO.refl _)
   | (with_reducible exact LeO.none _)
   | (with_reducible refine LeO.ite ?_ ?_)
   | (with_reducible refine LeO.bind ?_ (fun _ => ?_))
   | exact ih0 _ _
   | exact LeO.none _
   | refine LeO.ite ?_ ?_
   | refine LeO.bind ?_ (fun _ => ?_)
theorem bits_digit.mono : ∀ a0 k, LeO (bits_digit.f k a0) (bits_digit.f (k + 1) a0) := by
 intro a0 k
 have ih0 := bits_digit.mono_l k
 unfold bits_digit.f
 repeat' first
   | (with_reducible exact ih0 _ _)
   | (with_reducible exact LeO.refl _)
   | (with_reducible exact LeO.none _)
   | (with_reducible refine LeO.ite ?_ ?_)
   | (with_reducible refine LeO.bind ?_ (fun _ => ?_))
   | exact ih0 _ _
   | exact LeO.none _
   | refine LeO.ite ?_ ?_
   | refine LeO.bind ?_ (fun _ => ?_)
set_option maxHeartbeats 8000000 in
set_option maxRecDepth 100000 in
theorem bits_digit.calls (k : Nat) (a0 : Int) (r : Int) (w : World) (h : bits_digit.f k a0 = some r) :
  Calls Tryd.prog 74 #[.int .u8 a0] w fun e w' => e = .returned (.int .i64 r) ∧ Drawn0 w w' := by
 have H : (if a0 ≥ 48 then (bits_digit.j0 k a0 (decide (a0 ≤ 57))) else (bits_digit.j0 k a0 false)) = some r := h
 clear h
 have HC2 := Aside0.mk H
 clear H
 go_enter Tryd.func74, Tryd.ntmps74
 go_upto_region 1 with (fail)
 go_cut [3] (fun v3 wc => ∃ (kq : Nat) (x3_1 : Bool), v3 = .bool x3_1 ∧ Aside0 (bits_digit.j0 kq a0 x3_1 = some r) ∧ Aside0 (kq ≤ k) ∧ Drawn0 w wc)
 case first =>
  have H := HC2.out
  clear HC2
  by_cases c3 : a0 ≥ 48
  ·rw [if_pos c3] at H
   have c3b0 : decide (48 ≤ a0) = true := decide_eq_true c3
   clear c3
   (skip)
   have H' := Aside0.mk H
   clear H
   go_wp2
   go_meet
   case rel => exact ⟨_, (decide (a0 ≤ 57)), (by rfl), H', ⟨by omega⟩, by repeat (exact Drawn0.refl _)⟩
  ·rw [if_neg c3] at H
   have c3b0 : decide (48 ≤ a0) = false := decide_eq_false c3
   clear c3
   (skip)
   have H' := Aside0.mk H
   clear H
   go_wp2
   go_meet
   case rel => exact ⟨_, (false), (by rfl), H', ⟨by omega⟩, by repeat (exact Drawn0.refl _)⟩
 case rest =>
  clear HC2
  obtain ⟨kq, x3_1, rfl, HA, HJ1, ⟨mc1, rfl⟩⟩ := hcut
  cases kq with
  | zero => exact absurd HA.out (by simp [bits_digit.j0])
  | succ kj1 =>
   have H := HA.out
   clear HA
   simp only [bits_digit.j0] at H
   by_cases c4 : x3_1 = true
   ·subst c4
    have H1 : (some ((a0 - 48) % 256)) = some r := by rw [if_pos rfl] at H; exact H
    clear H
    have H := H1
    clear H1
    obtain rfl := Option.some.inj H
    go_wp2
    go_ret
    exact ⟨by rfl, by repeat (first | exact Drawn0.refl _ | apply Drawn0.step)⟩
   ·replace c4 := Bool.eq_false_iff.mpr c4
    subst c4
    have H1 : (if a0 ≥ 97 then (if a0 ≤ 102 then (some (((a0 - 97) % 256) + 10)) else (some (-1))) else (some (-1))) = some r := by rw [if_neg (show ¬ (false = true) by decide)] at H; exact H
    clear H
    have H := H1
    clear H1
    by_cases c5 : a0 ≥ 97
    ·rw [if_pos c5] at H
     have c5b0 : decide (97 ≤ a0) = true := decide_eq_true c5
     clear c5
     by_cases c6 : a0 ≤ 102
     ·rw [if_pos c6] at H
      have c6b0 : decide (a0 ≤ 102) = true := decide_eq_true c6
      clear c6
      obtain rfl := Option.some.inj H
      go_wp2
      go_ret
      exact ⟨by rfl, by repeat (first | exact Drawn0.refl _ | apply Drawn0.step)⟩
     ·rw [if_neg c6] at H
      have c6b0 : decide (a0 ≤ 102) = false := decide_eq_false c6
      clear c6
      obtain rfl := Option.some.inj H
      go_wp2
      go_ret
      exact ⟨by rfl, by repeat (first | exact Drawn0.refl _ | apply Drawn0.step)⟩
    ·rw [if_neg c5] at H
     have c5b0 : decide (97 ≤ a0) = false := decide_eq_false c5
     clear c5
     obtain rfl := Option.some.inj H
     go_wp2
     go_ret
     exact ⟨by rfl, by repeat (first | exact Drawn0.refl _ | apply Drawn0.step)⟩
end Go.Proofs.YtfigblfjogpojaaDoor.PBits
end
section
namespace Go.Proofs.YtfigblfjogpojaaDoor.PBits
open Go.RowKit Go.Proofs.YtfigblfjogpojaaDoorW.PrintWords Go.Proofs.YtfigblfjogpojaaDoorW.PrintLast Go.Proofs.YtfigblfjogpojaaDoorW.PrintMore
attribute [local go_sem] max2_int min2_int max_two min_two max_three min_three max_four min_four
set_option linter.unusedVariables false
set_option linter.unusedSimpArgs false
mutual
def bits_grouped.l0 : Nat → ByteArray → Int → Int → Int → Int → Int → Int → Int → Int → Option (Int × Int × Int × Int)
 | 0, _, _, _, _, _, _, _, _, _ => none
 | k + 1, x0, x1, x2, x3, x23, x24, x139000, x139001, x139002 => if x24 < x23 then (if 0 ≤ x24 then (if x24 < (x0.size : Int) then (if (bt x0 x24) = 120 then (bits_grouped.j1 k x0 x1 x2 x3 x23 x24 false x139000 x139001 x139002) else (if (bt x0 x24) = 122 then (bits_grouped.j1 k x0 x1 x2 x3 x23 x24 false x139000 x139001 x139002) else ((bits_digit.f k (bt x0 x24)).bind fun t139 => (if t139 < 0 then (bits_grouped.j1 k x0 x1 x2 x3 x23 x24 true x139000 x139001 x139002) else ((bits_digit.f k (bt x0 x24)).bind fun t140 => (if 0 ≤ x2 then (bits_grouped.j1 k x0 x1 x2 x3 x23 x24 (decide (t140 ≥ (shl .i64 1 x2))) x139000 x139001 x139002) else (none))))))) else (none)) else (none)) else (if x3 = 0 then (bits_grouped.l1 k x0 x1 x2 0 (wrap64 ((x0.size : Int) - 1)) x139000 x139001 x139002) else (some (0, 0, 0, x3)))
def bits_grouped.j1 : Nat → ByteArray → Int → Int → Int → Int → Int → Bool → Int → Int → Int → Option (Int × Int × Int × Int)
 | 0, _, _, _, _, _, _, _, _, _, _ => none
 | k + 1, x0, x1, x2, x3, x23, x24, x47, x139000, x139001, x139002 => if x47 = true then (some (0, 0, 0, 10)) else (bits_grouped.l0 k x0 x1 x2 x3 x23 (wrap64 (x24 + 1)) x139000 x139001 x139002)
def bits_grouped.l1 : Nat → ByteArray → Int → Int → Int → Int → Int → Int → Int → Option (Int × Int × Int × Int)
 | 0, _, _, _, _, _, _, _, _ => none
 | k + 1, x0, x1, x2, x13, x14, x139000, x139001, x139002 => if x14 ≥ 0 then (if 0 ≤ x14 then (if x14 < (x0.size : Int) then (if (bt x0 x14) = 120 then (bits_grouped.j3 k x0 x1 x2 x13 x14 (bt x0 x14) true x139000 x139001 x139002) else (bits_grouped.j3 k x0 x1 x2 x13 x14 (bt x0 x14) ((bt x0 x14) == 122) x139000 x139001 x139002)) else (none)) else (none)) else (if 0 < (x0.size : Int) then (if (bt x0 0) = 120 then (bits_grouped.j8 k x1 x13 (bt x0 0) (decide (x13 < x1)) x139000 x139001 x139002) else (if (bt x0 0) = 122 then (bits_grouped.j8 k x1 x13 (bt x0 0) (decide (x13 < x1)) x139000 x139001 x139002) else (bits_grouped.j8 k x1 x13 (bt x0 0) false x139000 x139001 x139002))) else (none))
def bits_grouped.j3 : Nat → ByteArray → Int → Int → Int → Int → Int → Bool → Int → Int → Int → Option (Int × Int × Int × Int)
 | 0, _, _, _, _, _, _, _, _, _, _ => none
 | k + 1, x0, x1, x2, x13, x14, x16, x69, x139000, x139001, x139002 => if x69 = true then ((bits_All.f k x2 x16).bind fun bt142 => (bits_grouped.j4 k x0 x1 x2 x13 x14 x139000 x139001 x139002 bt142.1 bt142.2.1 bt142.2.2)) else ((bits_digit.f k x16).bind fun t145 => ((bits_Of.f x2 (IntKind.u64.wrap (t145))).bind fun bt146 => (bits_grouped.j4 k x0 x1 x2 x13 x14 x139000 x139001 x139002 bt146.1 bt146.2.1 bt146.2.2)))
def bits_grouped.j4 : Nat → ByteArray → Int → Int → Int → Int → Int → Int → Int → Int → Int → Int → Option (Int × Int × Int × Int)
 | 0, _, _, _, _, _, _, _, _, _, _, _ => none
 | k + 1, x0, x1, x2, x13, x14, x139000, x139001, x139002, x142000, x142001, x142002 => bits_grouped.l2 k x0 x1 x2 x13 x14 x2 0 x139000 x139001 x139002 x142000 x142001 x142002
def bits_grouped.l2 : Nat → ByteArray → Int → Int → Int → Int → Int → Int → Int → Int → Int → Int → Int → Int → Option (Int × Int × Int × Int)
 | 0, _, _, _, _, _, _, _, _, _, _, _, _, _ => none
 | k + 1, x0, x1, x2, x13, x14, x78, x79, x139000, x139001, x139002, x142000, x142001, x142002 => if x79 < x78 then (if (wrap64 (x13 + x79)) ≥ x1 then ((bits_Bit.f k x142000 x142001 x142002 x79).bind fun t152 => (bits_grouped.j6 k x0 x1 x2 x13 x14 x78 x79 (t152 != 48) x139000 x139001 x139002 x142000 x142001 x142002)) else (bits_grouped.j6 k x0 x1 x2 x13 x14 x78 x79 false x139000 x139001 x139002 x142000 x142001 x142002)) else ((bits_Put.f k x139000 x139001 x139002 x13 x142000 x142001 x142002).bind fun bt149 => (bits_grouped.l1 k x0 x1 x2 (wrap64 (x13 + x2)) (wrap64 (x14 - 1)) bt149.1 bt149.2.1 bt149.2.2))
def bits_grouped.j6 : Nat → ByteArray → Int → Int → Int → Int → Int → Int → Bool → Int → Int → Int → Int → Int → Int → Option (Int × Int × Int × Int)
 | 0, _, _, _, _, _, _, _, _, _, _, _, _, _, _ => none
 | k + 1, x0, x1, x2, x13, x14, x78, x79, x92, x139000, x139001, x139002, x142000, x142001, x142002 => if x92 = true then (if 0 ≤ x14 then (if x14 < (x0.size : Int) then (if (bt x0 x14) = 120 then (bits_grouped.j7 k x0 x1 x2 x13 x14 x78 x79 (decide (x13 < x1)) x139000 x139001 x139002 x142000 x142001 x142002) else (if (bt x0 x14) = 122 then (bits_grouped.j7 k x0 x1 x2 x13 x14 x78 x79 (decide (x13 < x1)) x139000 x139001 x139002 x142000 x142001 x142002) else (bits_grouped.j7 k x0 x1 x2 x13 x14 x78 x79 false x139000 x139001 x139002 x142000 x142001 x142002))) else (none)) else (none)) else (bits_grouped.l2 k x0 x1 x2 x13 x14 x78 (wrap64 (x79 + 1)) x139000 x139001 x139002 x142000 x142001 x142002)
def bits_grouped.j7 : Nat → ByteArray → Int → Int → Int → Int → Int → Int → Bool → Int → Int → Int → Int → Int → Int → Option (Int × Int × Int × Int)
 | 0, _, _, _, _, _, _, _, _, _, _, _, _, _, _ => none
 | k + 1, x0, x1, x2, x13, x14, x78, x79, x106, x139000, x139001, x139002, x142000, x142001, x142002 => if x106 = true then (bits_grouped.l2 k x0 x1 x2 x13 x14 x78 (wrap64 (x79 + 1)) x139000 x139001 x139002 x142000 x142001 x142002) else (some (0, 0, 0, 3))
def bits_grouped.j8 : Nat → Int → Int → Int → Bool → Int → Int → Int → Option (Int × Int × Int × Int)
 | 0, _, _, _, _, _, _, _ => none
 | k + 1, x1, x13, x19, x128, x139000, x139001, x139002 => if x128 = true then ((bits_All.f k (wrap64 (x1 - x13)) x19).bind fun bt153 => ((bits_Put.f k x139000 x139001 x139002 x13 bt153.1 bt153.2.1 bt153.2.2).bind fun bt156 => (some (bt156.1, bt156.2.1, bt156.2.2, 0)))) else (some (x139000, x139001, x139002, 0))
end
def bits_grouped.f (k : Nat) (a0 : ByteArray) (a1 : Int) (a2 : Int) (a3 : Int) : Option (Int × Int × Int × Int) := bits_grouped.l0 k a0 a1 a2 a3 (a0.size : Int) 0 a1 0 0
theorem bits_grouped.mono_l : ∀ k, (∀ y0 y1 y2 y3 y4 y5 y6 y7 y8, LeO (bits_grouped.l0 k y0 y1 y2 y3 y4 y5 y6 y7 y8) (bits_grouped.l0 (k + 1) y0 y1 y2 y3 y4 y5 y6 y7 y8)) ∧ (∀ y0 y1 y2 y3 y4 y5 y6 y7 y8 y9, LeO (bits_grouped.j1 k y0 y1 y2 y3 y4 y5 y6 y7 y8 y9) (bits_grouped.j1 (k + 1) y0 y1 y2 y3 y4 y5 y6 y7 y8 y9)) ∧ (∀ y0 y1 y2 y3 y4 y5 y6 y7, LeO (bits_grouped.l1 k y0 y1 y2 y3 y4 y5 y6 y7) (bits_grouped.l1 (k + 1) y0 y1 y2 y3 y4 y5 y6 y7)) ∧ (∀ y0 y1 y2 y3 y4 y5 y6 y7 y8 y9, LeO (bits_grouped.j3 k y0 y1 y2 y3 y4 y5 y6 y7 y8 y9) (bits_grouped.j3 (k + 1) y0 y1 y2 y3 y4 y5 y6 y7 y8 y9)) ∧ (∀ y0 y1 y2 y3 y4 y5 y6 y7 y8 y9 y10, LeO (bits_grouped.j4 k y0 y1 y2 y3 y4 y5 y6 y7 y8 y9 y10) (bits_grouped.j4 (k + 1) y0 y1 y2 y3 y4 y5 y6 y7 y8 y9 y10)) ∧ (∀ y0 y1 y2 y3 y4 y5 y6 y7 y8 y9 y10 y11 y12, LeO (bits_grouped.l2 k y0 y1 y2 y3 y4 y5 y6 y7 y8 y9 y10 y11 y12) (bits_grouped.l2 (k + 1) y0 y1 y2 y3 y4 y5 y6 y7 y8 y9 y10 y11 y12)) ∧ (∀ y0 y1 y2 y3 y4 y5 y6 y7 y8 y9 y10 y11 y12 y13, LeO (bits_grouped.j6 k y0 y1 y2 y3 y4 y5 y6 y7 y8 y9 y10 y11 y12 y13) (bits_grouped.j6 (k + 1) y0 y1 y2 y3 y4 y5 y6 y7 y8 y9 y10 y11 y12 y13)) ∧ (∀ y0 y1 y2 y3 y4 y5 y6 y7 y8 y9 y10 y11 y12 y13, LeO (bits_grouped.j7 k y0 y1 y2 y3 y4 y5 y6 y7 y8 y9 y10 y11 y12 y13) (bits_grouped.j7 (k + 1) y0 y1 y2 y3 y4 y5 y6 y7 y8 y9 y10 y11 y12 y13)) ∧ (∀ y0 y1 y2 y3 y4 y5 y6, LeO (bits_grouped.j8 k y0 y1 y2 y3 y4 y5 y6) (bits_grouped.j8 (k + 1) y0 y1 y2 y3 y4 y5 y6))
 | 0 => ⟨fun _ _ _ _ _ _ _ _ _ r h => by simp [bits_grouped.l0] at h, fun _ _ _ _ _ _ _ _ _ _ r h => by simp [bits_grouped.j1] at h, fun _ _ _ _ _ _ _ _ r h => by simp [bits_grouped.l1] at h, fun _ _ _ _ _ _ _ _ _ _ r h => by simp [bits_grouped.j3] at h, fun _ _ _ _ _ _ _ _ _ _ _ r h => by simp [bits_grouped.j4] at h, fun _ _ _ _ _ _ _ _ _ _ _ _ _ r h => by simp [bits_grouped.l2] at h, fun _ _ _ _ _ _ _ _ _ _ _ _ _ _ r h => by simp [bits_grouped.j6] at h, fun _ _ _ _ _ _ _ _ _ _ _ _ _ _ r h => by simp [bits_grouped.j7] at h, fun _ _ _ _ _ _ _ r h => by simp [bits_grouped.j8] at h⟩
 | k + 1 => by
  obtain ⟨ih0, ih1, ih2, ih3, ih4, ih5, ih6, ih7, ih8⟩ := bits_grouped.mono_l k
  refine ⟨?_, ?_, ?_, ?_, ?_, ?_, ?_, ?_, ?_⟩
  ·intro y0 y1 y2 y3 y4 y5 y6 y7 y8
   unfold bits_grouped.l0
   repeat' first
   | (with_reducible exact ih0 _ _ _ _ _ _ _ _ _)
   | (with_reducible exact ih1 _ _ _ _ _ _ _ _ _ _)
   | (with_reducible exact ih2 _ _ _ _ _ _ _ _)
   | (with_reducible exact ih3 _ _ _ _ _ _ _ _ _ _)
   | (with_reducible exact ih4 _ _ _ _ _ _ _ _ _ _ _)
   | (with_reducible exact ih5 _ _ _ _ _ _ _ _ _ _ _ _ _)
   | (with_reducible exact ih6 _ _ _ _ _ _ _ _ _ _ _ _ _ _)
   | (with_reducible exact ih7 _ _ _ _ _ _ _ _ _ _ _ _ _ _)
   | (with_reducible exact ih8 _ _ _ _ _ _ _)
   | (with_reducible exact bits_All.mono _ _ _)
   | (with_reducible exact bits_Bit.mono _ _ _ _ _)
   | (with_reducible exact bits_Put.mono _ _ _ _ _ _ _ _)
   | (with_reducible exact bits_digit.mono _ _)
   | (with_reducible exact LeO.refl _)
   | (with_reducible exact LeO.none _)
   | (with_reducible refine LeO.ite ?_ ?_)
   | (with_reducible refine LeO.bind ?_ (fun _ => ?_))
   | exact ih0 _ _ _ _ _ _ _ _ _
   | exact ih1 _ _ _ _ _ _ _ _ _ _
   | exact ih2 _ _ _ _ _ _ _ _
   | exact ih3 _ _ _ _ _ _ _ _ _ _
   | exact ih4 _ _ _ _ _ _ _ _ _ _ _
   | exact ih5 _ _ _ _ _ _ _ _ _ _ _ _ _
   | exact ih6 _ _ _ _ _ _ _ _ _ _ _ _ _ _
   | exact ih7 _ _ _ _ _ _ _ _ _ _ _ _ _ _
   | exact ih8 _ _ _ _ _ _ _
   | exact bits_All.mono _ _ _
   | exact bits_Bit.mono _ _ _ _ _
   | exact bits_Put.mono _ _ _ _ _ _ _ _
   | exact bits_digit.mono _ _
   | exact LeO.none _
   | refine LeO.ite ?_ ?_
   | refine LeO.bind ?_ (fun _ => ?_)
  ·intro y0 y1 y2 y3 y4 y5 y6 y7 y8 y9
   unfold bits_grouped.j1
   repeat' first
   | (with_reducible exact ih0 _ _ _ _ _ _ _ _ _)
   | (with_reducible exact ih1 _ _ _ _ _ _ _ _ _ _)
   | (with_reducible exact ih2 _ _ _ _ _ _ _ _)
   | (with_reducible exact ih3 _ _ _ _ _ _ _ _ _ _)
   | (with_reducible exact ih4 _ _ _ _ _ _ _ _ _ _ _)
   | (with_reducible exact ih5 _ _ _ _ _ _ _ _ _ _ _ _ _)
   | (with_reducible exact ih6 _ _ _ _ _ _ _ _ _ _ _ _ _ _)
   | (with_reducible exact ih7 _ _ _ _ _ _ _ _ _ _ _ _ _ _)
   | (with_reducible exact ih8 _ _ _ _ _ _ _)
   | (with_reducible exact bits_All.mono _ _ _)
   | (with_reducible exact bits_Bit.mono _ _ _ _ _)
   | (with_reducible exact bits_Put.mono _ _ _ _ _ _ _ _)
   | (with_reducible exact bits_digit.mono _ _)
   | (with_reducible exact LeO.refl _)
   | (with_reducible exact LeO.none _)
   | (with_reducible refine LeO.ite ?_ ?_)
   | (with_reducible refine LeO.bind ?_ (fun _ => ?_))
   | exact ih0 _ _ _ _ _ _ _ _ _
   | exact ih1 _ _ _ _ _ _ _ _ _ _
   | exact ih2 _ _ _ _ _ _ _ _
   | exact ih3 _ _ _ _ _ _ _ _ _ _
   | exact ih4 _ _ _ _ _ _ _ _ _ _ _
   | exact ih5 _ _ _ _ _ _ _ _ _ _ _ _ _
   | exact ih6 _ _ _ _ _ _ _ _ _ _ _ _ _ _
   | exact ih7 _ _ _ _ _ _ _ _ _ _ _ _ _ _
   | exact ih8 _ _ _ _ _ _ _
   | exact bits_All.mono _ _ _
   | exact bits_Bit.mono _ _ _ _ _
   | exact bits_Put.mono _ _ _ _ _ _ _ _
   | exact bits_digit.mono _ _
   | exact LeO.none _
   | refine LeO.ite ?_ ?_
   | refine LeO.bind ?_ (fun _ => ?_)
  ·intro y0 y1 y2 y3 y4 y5 y6 y7
   unfold bits_grouped.l1
   repeat' first
   | (with_reducible exact ih0 _ _ _ _ _ _ _ _ _)
   | (with_reducible exact ih1 _ _ _ _ _ _ _ _ _ _)
   | (with_reducible exact ih2 _ _ _ _ _ _ _ _)
   | (with_reducible exact ih3 _ _ _ _ _ _ _ _ _ _)
   | (with_reducible exact ih4 _ _ _ _ _ _ _ _ _ _ _)
   | (with_reducible exact ih5 _ _ _ _ _ _ _ _ _ _ _ _ _)
   | (with_reducible exact ih6 _ _ _ _ _ _ _ _ _ _ _ _ _ _)
   | (with_reducible exact ih7 _ _ _ _ _ _ _ _ _ _ _ _ _ _)
   | (with_reducible exact ih8 _ _ _ _ _ _ _)
   | (with_reducible exact bits_All.mono _ _ _)
   | (with_reducible exact bits_Bit.mono _ _ _ _ _)
   | (with_reducible exact bits_Put.mono _ _ _ _ _ _ _ _)
   | (with_reducible exact bits_digit.mono _ _)
   | (with_reducible exact LeO.refl _)
   | (with_reducible exact LeO.none _)
   | (with_reducible refine LeO.ite ?_ ?_)
   | (with_reducible refine LeO.bind ?_ (fun _ => ?_))
   | exact ih0 _ _ _ _ _ _ _ _ _
   | exact ih1 _ _ _ _ _ _ _ _ _ _
   | exact ih2 _ _ _ _ _ _ _ _
   | exact ih3 _ _ _ _ _ _ _ _ _ _
   | exact ih4 _ _ _ _ _ _ _ _ _ _ _
   | exact ih5 _ _ _ _ _ _ _ _ _ _ _ _ _
   | exact ih6 _ _ _ _ _ _ _ _ _ _ _ _ _ _
   | exact ih7 _ _ _ _ _ _ _ _ _ _ _ _ _ _
   | exact ih8 _ _ _ _ _ _ _
   | exact bits_All.mono _ _ _
   | exact bits_Bit.mono _ _ _ _ _
   | exact bits_Put.mono _ _ _ _ _ _ _ _
   | exact bits_digit.mono _ _
   | exact LeO.none _
   | refine LeO.ite ?_ ?_
   | refine LeO.bind ?_ (fun _ => ?_)
  ·intro y0 y1 y2 y3 y4 y5 y6 y7 y8 y9
   unfold bits_grouped.j3
   repeat' first
   | (with_reducible exact ih0 _ _ _ _ _ _ _ _ _)
   | (with_reducible exact ih1 _ _ _ _ _ _ _ _ _ _)
   | (with_reducible exact ih2 _ _ _ _ _ _ _ _)
   | (with_reducible exact ih3 _ _ _ _ _ _ _ _ _ _)
   | (with_reducible exact ih4 _ _ _ _ _ _ _ _ _ _ _)
   | (with_reducible exact ih5 _ _ _ _ _ _ _ _ _ _ _ _ _)
   | (with_reducible exact ih6 _ _ _ _ _ _ _ _ _ _ _ _ _ _)
   | (with_reducible exact ih7 _ _ _ _ _ _ _ _ _ _ _ _ _ _)
   | (with_reducible exact ih8 _ _ _ _ _ _ _)
   | (with_reducible exact bits_All.mono _ _ _)
   | (with_reducible exact bits_Bit.mono _ _ _ _ _)
   | (with_reducible exact bits_Put.mono _ _ _ _ _ _ _ _)
   | (with_reducible exact bits_digit.mono _ _)
   | (with_reducible exact LeO.refl _)
   | (with_reducible exact LeO.none _)
   | (with_reducible refine LeO.ite ?_ ?_)
   | (with_reducible refine LeO.bind ?_ (fun _ => ?_))
   | exact ih0 _ _ _ _ _ _ _ _ _
   | exact ih1 _ _ _ _ _ _ _ _ _ _
   | exact ih2 _ _ _ _ _ _ _ _
   | exact ih3 _ _ _ _ _ _ _ _ _ _
   | exact ih4 _ _ _ _ _ _ _ _ _ _ _
   | exact ih5 _ _ _ _ _ _ _ _ _ _ _ _ _
   | exact ih6 _ _ _ _ _ _ _ _ _ _ _ _ _ _
   | exact ih7 _ _ _ _ _ _ _ _ _ _ _ _ _ _
   | exact ih8 _ _ _ _ _ _ _
   | exact bits_All.mono _ _ _
   | exact bits_Bit.mono _ _ _ _ _
   | exact bits_Put.mono _ _ _ _ _ _ _ _
   | exact bits_digit.mono _ _
   | exact LeO.none _
   | refine LeO.ite ?_ ?_
   | refine LeO.bind ?_ (fun _ => ?_)
  ·intro y0 y1 y2 y3 y4 y5 y6 y7 y8 y9 y10
   unfold bits_grouped.j4
   repeat' first
   | (with_reducible exact ih0 _ _ _ _ _ _ _ _ _)
   | (with_reducible exact ih1 _ _ _ _ _ _ _ _ _ _)
   | (with_reducible exact ih2 _ _ _ _ _ _ _ _)
   | (with_reducible exact ih3 _ _ _ _ _ _ _ _ _ _)
   | (with_reducible exact ih4 _ _ _ _ _ _ _ _ _ _ _)
   | (with_reducible exact ih5 _ _ _ _ _ _ _ _ _ _ _ _ _)
   | (with_reducible exact ih6 _ _ _ _ _ _ _ _ _ _ _ _ _ _)
   | (with_reducible exact ih7 _ _ _ _ _ _ _ _ _ _ _ _ _ _)
   | (with_reducible exact ih8 _ _ _ _ _ _ _)
   | (with_reducible exact bits_All.mono _ _ _)
   | (with_reducible exact bits_Bit.mono _ _ _ _ _)
   | (with_reducible exact bits_Put.mono _ _ _ _ _ _ _ _)
   | (with_reducible exact bits_digit.mono _ _)
   | (with_reducible exact LeO.refl _)
   | (with_reducible exact LeO.none _)
   | (with_reducible refine LeO.ite ?_ ?_)
   | (with_reducible refine LeO.bind ?_ (fun _ => ?_))
   | exact ih0 _ _ _ _ _ _ _ _ _
   | exact ih1 _ _ _ _ _ _ _ _ _ _
   | exact ih2 _ _ _ _ _ _ _ _
   | exact ih3 _ _ _ _ _ _ _ _ _ _
   | exact ih4 _ _ _ _ _ _ _ _ _ _ _
   | exact ih5 _ _ _ _ _ _ _ _ _ _ _ _ _
   | exact ih6 _ _ _ _ _ _ _ _ _ _ _ _ _ _
   | exact ih7 _ _ _ _ _ _ _ _ _ _ _ _ _ _
   | exact ih8 _ _ _ _ _ _ _
   | exact bits_All.mono _ _ _
   | exact bits_Bit.mono _ _ _ _ _
   | exact bits_Put.mono _ _ _ _ _ _ _ _
   | exact bits_digit.mono _ _
   | exact LeO.none _
   | refine LeO.ite ?_ ?_
   | refine LeO.bind ?_ (fun _ => ?_)
  ·intro y0 y1 y2 y3 y4 y5 y6 y7 y8 y9 y10 y11 y12
   unfold bits_grouped.l2
   repeat' first
   | (with_reducible exact ih0 _ _ _ _ _ _ _ _ _)
   | (with_reducible exact ih1 _ _ _ _ _ _ _ _ _ _)
   | (with_reducible exact ih2 _ _ _ _ _ _ _ _)
   | (with_reducible exact ih3 _ _ _ _ _ _ _ _ _ _)
   | (with_reducible exact ih4 _ _ _ _ _ _ _ _ _ _ _)
   | (with_reducible exact ih5 _ _ _ _ _ _ _ _ _ _ _ _ _)
   | (with_reducible exact ih6 _ _ _ _ _ _ _ _ _ _ _ _ _ _)
   | (with_reducible exact ih7 _ _ _ _ _ _ _ _ _ _ _ _ _ _)
   | (with_reducible exact ih8 _ _ _ _ _ _ _)
   | (with_reducible exact bits_All.mono _ _ _)
   | (with_reducible exact bits_Bit.mono _ _ _ _ _)
   | (with_reducible exact bits_Put.mono _ _ _ _ _ _ _ _)
   | (with_reducible exact bits_digit.mono _ _)
   | (with_reducible exact LeO.refl _)
   | (with_reducible exact LeO.none _)
   | (with_reducible refine LeO.ite ?_ ?_)
   | (with_reducible refine LeO.bind ?_ (fun _ => ?_))
   | exact ih0 _ _ _ _ _ _ _ _ _
   | exact ih1 _ _ _ _ _ _ _ _ _ _
   | exact ih2 _ _ _ _ _ _ _ _
   | exact ih3 _ _ _ _ _ _ _ _ _ _
   | exact ih4 _ _ _ _ _ _ _ _ _ _ _
   | exact ih5 _ _ _ _ _ _ _ _ _ _ _ _ _
   | exact ih6 _ _ _ _ _ _ _ _ _ _ _ _ _ _
   | exact ih7 _ _ _ _ _ _ _ _ _ _ _ _ _ _
   | exact ih8 _ _ _ _ _ _ _
   | exact bits_All.mono _ _ _
   | exact bits_Bit.mono _ _ _ _ _
   | exact bits_Put.mono _ _ _ _ _ _ _ _
   | exact bits_digit.mono _ _
   | exact LeO.none _
   | refine LeO.ite ?_ ?_
   | refine LeO.bind ?_ (fun _ => ?_)
  ·intro y0 y1 y2 y3 y4 y5 y6 y7 y8 y9 y10 y11 y12 y13
   unfold bits_grouped.j6
   repeat' first
   | (with_reducible exact ih0 _ _ _ _ _ _ _ _ _)
   | (with_reducible exact ih1 _ _ _ _ _ _ _ _ _ _)
   | (with_reducible exact ih2 _ _ _ _ _ _ _ _)
   | (with_reducible exact ih3 _ _ _ _ _ _ _ _ _ _)
   | (with_reducible exact ih4 _ _ _ _ _ _ _ _ _ _ _)
   | (with_reducible exact ih5 _ _ _ _ _ _ _ _ _ _ _ _ _)
   | (with_reducible exact ih6 _ _ _ _ _ _ _ _ _ _ _ _ _ _)
   | (with_reducible exact ih7 _ _ _ _ _ _ _ _ _ _ _ _ _ _)
   | (with_reducible exact ih8 _ _ _ _ _ _ _)
   | (with_reducible exact bits_All.mono _ _ _)
   | (with_reducible exact bits_Bit.mono _ _ _ _ _)
   | (with_reducible exact bits_Put.mono _ _ _ _ _ _ _ _)
   | (with_reducible exact bits_digit.mono _ _)
   | (with_reducible exact LeO.refl _)
   | (with_reducible exact LeO.none _)
   | (with_reducible refine LeO.ite ?_ ?_)
   | (with_reducible refine LeO.bind ?_ (fun _ => ?_))
   | exact ih0 _ _ _ _ _ _ _ _ _
   | exact ih1 _ _ _ _ _ _ _ _ _ _
   | exact ih2 _ _ _ _ _ _ _ _
   | exact ih3 _ _ _ _ _ _ _ _ _ _
   | exact ih4 _ _ _ _ _ _ _ _ _ _ _
   | exact ih5 _ _ _ _ _ _ _ _ _ _ _ _ _
   | exact ih6 _ _ _ _ _ _ _ _ _ _ _ _ _ _
   | exact ih7 _ _ _ _ _ _ _ _ _ _ _ _ _ _
   | exact ih8 _ _ _ _ _ _ _
   | exact bits_All.mono _ _ _
   | exact bits_Bit.mono _ _ _ _ _
   | exact bits_Put.mono _ _ _ _ _ _ _ _
   | exact bits_digit.mono _ _
   | exact LeO.none _
   | refine LeO.ite ?_ ?_
   | refine LeO.bind ?_ (fun _ => ?_)
  ·intro y0 y1 y2 y3 y4 y5 y6 y7 y8 y9 y10 y11 y12 y13
   unfold bits_grouped.j7
   repeat' first
   | (with_reducible exact ih0 _ _ _ _ _ _ _ _ _)
   | (with_reducible exact ih1 _ _ _ _ _ _ _ _ _ _)
   | (with_reducible exact ih2 _ _ _ _ _ _ _ _)
   | (with_reducible exact ih3 _ _ _ _ _ _ _ _ _ _)
   | (with_reducible exact ih4 _ _ _ _ _ _ _ _ _ _ _)
   | (with_reducible exact ih5 _ _ _ _ _ _ _ _ _ _ _ _ _)
   | (with_reducible exact ih6 _ _ _ _ _ _ _ _ _ _ _ _ _ _)
   | (with_reducible exact ih7 _ _ _ _ _ _ _ _ _ _ _ _ _ _)
   | (with_reducible exact ih8 _ _ _ _ _ _ _)
   | (with_reducible exact bits_All.mono _ _ _)
   | (with_reducible exact bits_Bit.mono _ _ _ _ _)
   | (with_reducible exact bits_Put.mono _ _ _ _ _ _ _ _)
   | (with_reducible exact bits_digit.mono _ _)
   | (with_reducible exact LeO.refl _)
   | (with_reducible exact LeO.none _)
   | (with_reducible refine LeO.ite ?_ ?_)
   | (with_reducible refine LeO.bind ?_ (fun _ => ?_))
   | exact ih0 _ _ _ _ _ _ _ _ _
   | exact ih1 _ _ _ _ _ _ _ _ _ _
   | exact ih2 _ _ _ _ _ _ _ _
   | exact ih3 _ _ _ _ _ _ _ _ _ _
   | exact ih4 _ _ _ _ _ _ _ _ _ _ _
   | exact ih5 _ _ _ _ _ _ _ _ _ _ _ _ _
   | exact ih6 _ _ _ _ _ _ _ _ _ _ _ _ _ _
   | exact ih7 _ _ _ _ _ _ _ _ _ _ _ _ _ _
   | exact ih8 _ _ _ _ _ _ _
   | exact bits_All.mono _ _ _
   | exact bits_Bit.mono _ _ _ _ _
   | exact bits_Put.mono _ _ _ _ _ _ _ _
   | exact bits_digit.mono _ _
   | exact LeO.none _
   | refine LeO.ite ?_ ?_
   | refine LeO.bind ?_ (fun _ => ?_)
  ·intro y0 y1 y2 y3 y4 y5 y6
   unfold bits_grouped.j8
   repeat' first
   | (with_reducible exact ih0 _ _ _ _ _ _ _ _ _)
   | (with_reducible exact ih1 _ _ _ _ _ _ _ _ _ _)
   | (with_reducible exact ih2 _ _ _ _ _ _ _ _)
   | (with_reducible exact ih3 _ _ _ _ _ _ _ _ _ _)
   | (with_reducible exact ih4 _ _ _ _ _ _ _ _ _ _ _)
   | (with_reducible exact ih5 _ _ _ _ _ _ _ _ _ _ _ _ _)
   | (with_reducible exact ih6 _ _ _ _ _ _ _ _ _ _ _ _ _ _)
   | (with_reducible exact ih7 _ _ _ _ _ _ _ _ _ _ _ _ _ _)
   | (with_reducible exact ih8 _ _ _ _ _ _ _)
   | (with_reducible exact bits_All.mono _ _ _)
   | (with_reducible exact bits_Bit.mono _ _ _ _ _)
   | (with_reducible exact bits_Put.mono _ _ _ _ _ _ _ _)
   | (with_reducible exact bits_digit.mono _ _)
   | (with_reducible exact LeO.refl _)
   | (with_reducible exact LeO.none _)
   | (with_reducible refine LeO.ite ?_ ?_)
   | (with_reducible refine LeO.bind ?_ (fun _ => ?_))
   | exact ih0 _ _ _ _ _ _ _ _ _
   | exact ih1 _ _ _ _ _ _ _ _ _ _
   | exact ih2 _ _ _ _ _ _ _ _
   | exact ih3 _ _ _ _ _ _ _ _ _ _
   | exact ih4 _ _ _ _ _ _ _ _ _ _ _
   | exact ih5 _ _ _ _ _ _ _ _ _ _ _ _ _
   | exact ih6 _ _ _ _ _ _ _ _ _ _ _ _ _ _
   | exact ih7 _ _ _ _ _ _ _ _ _ _ _ _ _ _
   | exact ih8 _ _ _ _ _ _ _
   | exact bits_All.mono _ _ _
   | exact bits_Bit.mono _ _ _ _ _
   | exact bits_Put.mono _ _ _ _ _ _ _ _
   | exact bits_digit.mono _ _
   | exact LeO.none _
   | refine LeO.ite ?_ ?_
   | refine LeO.bind ?_ (fun _ => ?_)
theorem bits_grouped.mono : ∀ a0 a1 a2 a3 k, LeO (bits_grouped.f k a0 a1 a2 a3) (bits_grouped.f (k + 1) a0 a1 a2 a3) := by
 intro a0 a1 a2 a3 k
 obtain ⟨ih0, ih1, ih2, ih3, ih4, ih5, ih6, ih7, ih8⟩ := bits_grouped.mono_l k
 unfold bits_grouped.f
 repeat' first
   | (with_reducible exact ih0 _ _ _ _ _ _ _ _ _)
   | (with_reducible exact ih1 _ _ _ _ _ _ _ _ _ _)
   | (with_reducible exact ih2 _ _ _ _ _ _ _ _)
   | (with_reducible exact ih3 _ _ _ _ _ _ _ _ _ _)
   | (with_reducible exact ih4 _ _ _ _ _ _ _ _ _ _ _)
   | (with_reducible exact ih5 _ _ _ _ _ _ _ _ _ _ _ _ _)
   | (with_reducible exact ih6 _ _ _ _ _ _ _ _ _ _ _ _ _ _)
   | (with_reducible exact ih7 _ _ _ _ _ _ _ _ _ _ _ _ _ _)
   | (with_reducible exact ih8 _ _ _ _ _ _ _)
   | (with_reducible exact bits_All.mono _ _ _)
   | (with_reducible exact bits_Bit.mono _ _ _ _ _)
   | (with_reducible exact bits_Put.mono _ _ _ _ _ _ _ _)
   | (with_reducible exact bits_digit.mono _ _)
   | (with_reducible exact LeO.refl _)
   | (with_reducible exact LeO.none _)
   | (with_reducible refine LeO.ite ?_ ?_)
   | (with_reducible refine LeO.bind ?_ (fun _ => ?_))
   | exact ih0 _ _ _ _ _ _ _ _ _
   | exact ih1 _ _ _ _ _ _ _ _ _ _
   | exact ih2 _ _ _ _ _ _ _ _
   | exact ih3 _ _ _ _ _ _ _ _ _ _
   | exact ih4 _ _ _ _ _ _ _ _ _ _ _
   | exact ih5 _ _ _ _ _ _ _ _ _ _ _ _ _
   | exact ih6 _ _ _ _ _ _ _ _ _ _ _ _ _ _
   | exact ih7 _ _ _ _ _ _ _ _ _ _ _ _ _ _
   | exact ih8 _ _ _ _ _ _ _
   | exact bits_All.mono _ _ _
   | exact bits_Bit.mono _ _ _ _ _
   | exact bits_Put.mono _ _ _ _ _ _ _ _
   | exact bits_digit.mono _ _
   | exact LeO.none _
   | refine LeO.ite ?_ ?_
   | refine LeO.bind ?_ (fun _ => ?_)
def bits_grouped.T6 : Bool × List (List Nat × List Nat) := (true, [([], []), ([0], [0]), ([1], [1]), ([2], [2]), ([3, 2], [2, 3]), ([2, 4], [2, 4]), ([5, 2], [5]), ([6], [6]), ([7, 6, 6], [6, 7]), ([8, 6], [6, 8]), ([9, 8, 6], [6, 9]), ([10], [10]), ([11, 10, 10], [10, 11]), ([10], [10]), ([13, 10], [10, 13]), ([12, 14, 10], [10, 12, 14]), ([10, 15, 6], [6, 10, 15]), ([6, 16], [6, 16])])
def bits_grouped.B6 : List Nat := [0, 1, 3, 7, 15, 31, 63, 127, 255, 511, 1023, 2047, 4095, 2047, 10239, 32767, 65535, 131071]
theorem bits_grouped.tab6 : rtab .any (opsOf Tryd.f52 6) = bits_grouped.T6 := by kernel_rfl
theorem bits_grouped.bits6 : waitsOk bits_grouped.T6.2 bits_grouped.B6 = true := by kernel_rfl
def bits_grouped.T32 : Bool × List (List Nat × List Nat) := (true, [([], []), ([], []), ([], []), ([], []), ([2, 3], [2, 3]), ([], []), ([4, 5], [4, 5]), ([0, 1, 6, 6], [0, 1, 6]), ([7, 7, 0, 1, 2, 3, 4, 5, 6, 7], [7])])
def bits_grouped.B32 : List Nat := [0, 0, 0, 0, 12, 0, 60, 127, 255]
theorem bits_grouped.tab32 : rtab .any (opsOf Tryd.f52 32) = bits_grouped.T32 := by kernel_rfl
theorem bits_grouped.bits32 : waitsOk bits_grouped.T32.2 bits_grouped.B32 = true := by kernel_rfl
set_option maxHeartbeats 8000000 in
set_option maxRecDepth 100000 in
theorem bits_grouped.calls (k : Nat) (a0 : ByteArray) (a1 : Int) (a2 : Int) (a3 : Int) (r1 : Int) (r2 : Int) (r3 : Int) (r4 : Int) (w : World) (h : bits_grouped.f k a0 a1 a2 a3 = some (r1, r2, r3, r4)) :
  Calls Tryd.prog 52 #[.string a0, .int .i64 a1, .int .i64 a2, .int .i64 a3] w fun e w' => e = .returned (.tuple #[.agg #[.int .i64 r1, .int .u64 r2, .int .u64 r3], .int .i64 r4]) ∧ Below w.heap.size w w' := by
 have hu24 := Tryd.underlying24
 have HB := Aside0.mk (Below.refl w.heap.size w)
 have H : (bits_grouped.l0 k a0 a1 a2 a3 (a0.size : Int) 0 a1 0 0) = some (r1, r2, r3, r4) := h
 clear h
 have H' := Aside0.mk H
 clear H
 go_enter Tryd.func52, Tryd.ntmps52
 go_wp2_with (first | ((with_reducible refine gate_dst (N := 8) rfl ?_); refine box_event ?hg (N := 8) ?hd (cs := #[.int .i64 0, .int .u64 0, .int .u64 0]) (t := 24) ?hr ?_; (case hd => rfl); (case hg => rfl); (case hr => (go_simp; done)); intro gb137 hg w5 hbox hb; have BK137 := Aside0.mk (hbox); have GW137 := ge1 HB hg; have GE137 := ge1 HB hg; replace HB := hb1 HB hb; clear hb hbox hg) | ((with_reducible refine gate_dst (N := 10) rfl ?_); refine box_event ?hg (N := 10) ?hd (cs := #[.int .i64 0, .int .u64 0, .int .u64 0]) (t := 24) ?hr ?_; (case hd => rfl); (case hg => rfl); (case hr => (go_simp; done)); intro gb138 hg w6 hbox hb; have BK138 := Aside0.mk (hbox); have GW138 := ge1 HB hg; have GE138 := ge1 HB hg; replace HB := hb1 HB hb; have NB137_138 := Aside0.mk ((by rw [hg]; exact Nat.ne_of_lt (blk_lt BK137.out) : gb137 ≠ gb138)); have NB138_137 := Aside0.mk ((by rw [hg]; exact Nat.ne_of_gt (blk_lt BK137.out) : gb138 ≠ gb137)); replace BK137 := bk1 BK137 hb; clear hb hbox hg; have hnb7 := NB138_137.out; have hnc7 := NB137_138.out; have hcz8_0 : w6.cell? ⟨gb138, 0, none⟩ = some (.int .i64 0) := (blk_cell BK138.out 0).trans rfl; have hcz8_1 : w6.cell? ⟨gb138, 1, none⟩ = some (.int .u64 0) := (blk_cell BK138.out 1).trans rfl; have hcz8_2 : w6.cell? ⟨gb138, 2, none⟩ = some (.int .u64 0) := (blk_cell BK138.out 2).trans rfl; have hfz8_0 := blk_frozen BK138.out 0; have hfz8_1 := blk_frozen BK138.out 1; have hfz8_2 := blk_frozen BK138.out 2))
 go_loopg [24] k (fun kq v24 w' => ∃ (x24_1 : Int) (x138000_1 : Int) (x138001_1 : Int) (x138002_1 : Int), v24 = .int .i64 x24_1 ∧ Aside0 (bits_grouped.l0 kq a0 a1 a2 a3 (a0.size : Int) x24_1 a1 0 0 = some (r1, r2, r3, r4)) ∧ Aside0 (kq ≤ k) ∧ Aside0 (w'.heap[gb137]? = some (.cells #[.int .i64 x138000_1, .int .u64 x138001_1, .int .u64 x138002_1] 24 (0, 0))) ∧ Aside0 (w'.heap[gb138]? = some (.cells #[.int .i64 a1, .int .u64 0, .int .u64 0] 24 (0, 0))) ∧ Aside0 (Below w.heap.size w w'))
 case atStart => exact ⟨(0), (0), (0), (0), (by rfl), H', ⟨Nat.le_refl _⟩, ⟨by refine blk_far ?_ NB137_138.out _; refine blk_far ?_ NB137_138.out _; refine blk_far ?_ NB137_138.out _; exact BK137.out⟩, ⟨by refine blk_put (cs := #[.int .i64 a1, .int .u64 0, .int .u64 0]) ?_ 2 _ rfl; refine blk_put (cs := #[.int .i64 a1, .int .u64 0, .int .u64 0]) ?_ 1 _ rfl; refine blk_put (cs := #[.int .i64 0, .int .u64 0, .int .u64 0]) ?_ 0 _ rfl; exact BK138.out⟩, ⟨by repeat (with_reducible first | exact HB.out | refine below_set ?_ GE138.out)⟩⟩
 case round =>
  clear H'
  (try clear hcz8_0 hcz8_1 hcz8_2 hfz8_0 hfz8_1 hfz8_2)
  obtain ⟨x24_1, x138000_1, x138001_1, x138002_1, rfl, HA, HK1, BK137, BK138, HB⟩ := hrel
  cases gk with
  | zero => exact absurd HA.out (by simp [bits_grouped.l0])
  | succ k1 =>
   have H := HA.out
   clear HA
   simp only [bits_grouped.l0] at H
   by_cases c9 : x24_1 < (a0.size : Int)
   ·rw [if_pos c9] at H
    have c9b0 : decide (x24_1 < (a0.size : Int)) = true := decide_eq_true c9
    clear c9
    by_cases c10 : 0 ≤ x24_1
    ·rw [if_pos c10] at H
     have c10b0 : decide (0 ≤ x24_1) = true := decide_eq_true c10
     clear c10
     by_cases c11 : x24_1 < (a0.size : Int)
     ·rw [if_pos c11] at H
      have c11b0 : decide (x24_1 < (a0.size : Int)) = true := decide_eq_true c11
      clear c11
      have HC13 := Aside0.mk H
      clear H
      have p12 : 0 ≤ (x24_1 : Int) := of_decide_eq_true (by (with_reducible assumption))
      have q12 : x24_1 < (a0.size : Int) := of_decide_eq_true (by (with_reducible assumption))
      have hx12 := bt_at a0 x24_1
      replace p12 := eq_true p12
      replace q12 := eq_true q12
      go_upto_region 6 with (fail)
      go_cut [47] (fun v47 wc => ∃ (kq : Nat) (x47_12 : Bool), v47 = .bool x47_12 ∧ Aside0 (bits_grouped.j1 kq a0 a1 a2 a3 (a0.size : Int) x24_1 x47_12 a1 0 0 = some (r1, r2, r3, r4)) ∧ Aside0 (kq ≤ k1) ∧ Aside0 (wc.heap[gb137]? = some (.cells #[.int .i64 x138000_1, .int .u64 x138001_1, .int .u64 x138002_1] 24 (0, 0))) ∧ Aside0 (wc.heap[gb138]? = some (.cells #[.int .i64 a1, .int .u64 0, .int .u64 0] 24 (0, 0))) ∧ Aside0 (Below w.heap.size w wc))
      case first =>
       have H := HC13.out
       clear HC13
       by_cases c14 : (bt a0 x24_1) = 120
       ·rw [if_pos c14] at H
        have c14b0 : ((bt a0 x24_1) == 120) = true := beq_iff_eq.mpr c14
        have c14b1 : ((bt a0 x24_1) != 120) = false := bne_eq_false_iff_eq.mpr c14
        clear c14
        (skip)
        have H' := Aside0.mk H
        clear H
        try go_wp2
        replace BK137 := bkd BK137
        replace BK138 := bkd BK138
        replace HB := hbd HB
        refine start_ (n := 18) (S := fun w' => True) (ds := []) (tb 18 0) (by kernel_rfl) rfl (by kernel_rfl) trivial (fun hHeld => ?_); refine with_tabW bits_grouped.tab6 bits_grouped.bits6 (fun HT_ HW_ => ?_)
        generalize wr.drew = w15 at BK137 BK138 HB hHeld ⊢
        refine pA 0 30 (tb 18 1) HT_ ?_
        refine pA 1 31 (tb 18 3) HT_ ?_
        refine pA 2 32 (tb 18 7) HT_ ?_
        refine pU 3 33 (tb 18 15) HT_ ?_
        refine pU 4 34 (tb 18 31) HT_ ?_
        refine pA 5 35 (tb 18 63) HT_ ?_
        refine pA 6 36 (tb 18 127) HT_ ?_
        refine pU 7 37 (tb 18 255) HT_ ?_
        refine pU 8 38 (tb 18 511) HT_ ?_
        refine pU 9 39 (tb 18 1023) HT_ ?_
        refine pU 10 40 (tb 18 2047) HT_ ?_
        refine pU 11 41 (tb 18 4095) HT_ ?_
        refine pU 12 42 (tb 18 8191) HT_ ?_
        refine pU 13 43 (tb 18 16383) HT_ ?_
        refine pU 14 44 (tb 18 32767) HT_ ?_
        refine pU 15 45 (tb 18 65535) HT_ ?_
        refine pU 16 46 (tb 18 131071) HT_ ?_
        refine pA 17 47 (tb 18 262143) HT_ ?_
        refine done_ (done_of HT_.out (by kernel_rfl)) ?_
        try go_wp2
        go_meet
        case rel => exact ⟨_, (false), (by rfl), H', ⟨by have := HK1.out; omega⟩, ⟨by exact BK137.out⟩, ⟨by exact BK138.out⟩, ⟨by repeat (with_reducible exact HB.out)⟩⟩
       ·rw [if_neg c14] at H
        have c14b0 : ((bt a0 x24_1) == 120) = false := beq_eq_false_iff_ne.mpr c14
        have c14b1 : ((bt a0 x24_1) != 120) = true := bne_iff_ne.mpr c14
        (skip)
        by_cases c16 : (bt a0 x24_1) = 122
        ·rw [if_pos c16] at H
         have c16b0 : ((bt a0 x24_1) == 122) = true := beq_iff_eq.mpr c16
         have c16b1 : ((bt a0 x24_1) != 122) = false := bne_eq_false_iff_eq.mpr c16
         clear c16
         have H' := Aside0.mk H
         clear H
         try go_wp2
         replace BK137 := bkd BK137
         replace BK138 := bkd BK138
         replace HB := hbd HB
         refine start_ (n := 18) (S := fun w' => True) (ds := []) (tb 18 0) (by kernel_rfl) rfl (by kernel_rfl) trivial (fun hHeld => ?_); refine with_tabW bits_grouped.tab6 bits_grouped.bits6 (fun HT_ HW_ => ?_)
         generalize wr.drew = w17 at BK137 BK138 HB hHeld ⊢
         refine pA 0 30 (tb 18 1) HT_ ?_
         refine pA 1 31 (tb 18 3) HT_ ?_
         refine pA 2 32 (tb 18 7) HT_ ?_
         refine pA 3 33 (tb 18 15) HT_ ?_
         refine pA 4 34 (tb 18 31) HT_ ?_
         refine pA 5 35 (tb 18 63) HT_ ?_
         refine pA 6 36 (tb 18 127) HT_ ?_
         refine pU 7 37 (tb 18 255) HT_ ?_
         refine pU 8 38 (tb 18 511) HT_ ?_
         refine pU 9 39 (tb 18 1023) HT_ ?_
         refine pU 10 40 (tb 18 2047) HT_ ?_
         refine pU 11 41 (tb 18 4095) HT_ ?_
         refine pU 12 42 (tb 18 8191) HT_ ?_
         refine pU 13 43 (tb 18 16383) HT_ ?_
         refine pU 14 44 (tb 18 32767) HT_ ?_
         refine pU 15 45 (tb 18 65535) HT_ ?_
         refine pU 16 46 (tb 18 131071) HT_ ?_
         refine pA 17 47 (tb 18 262143) HT_ ?_
         refine done_ (done_of HT_.out (by kernel_rfl)) ?_
         try go_wp2
         go_meet
         case rel => exact ⟨_, (false), (by rfl), H', ⟨by have := HK1.out; omega⟩, ⟨by exact BK137.out⟩, ⟨by exact BK138.out⟩, ⟨by repeat (with_reducible exact HB.out)⟩⟩
        ·rw [if_neg c16] at H
         have c16b0 : ((bt a0 x24_1) == 122) = false := beq_eq_false_iff_ne.mpr c16
         have c16b1 : ((bt a0 x24_1) != 122) = true := bne_iff_ne.mpr c16
         replace H := Option.bind_eq_some_iff.mp H
         obtain ⟨t139, A180, H⟩ := H
         replace H : (if t139 < 0 then (bits_grouped.j1 k1 a0 a1 a2 a3 (a0.size : Int) x24_1 true a1 0 0) else ((bits_digit.f k1 (bt a0 x24_1)).bind fun t140 => (if 0 ≤ a2 then (bits_grouped.j1 k1 a0 a1 a2 a3 (a0.size : Int) x24_1 (decide (t140 ≥ (shl .i64 1 a2))) a1 0 0) else (none)))) = some (r1, r2, r3, r4) := H
         have A18 := Aside0.mk A180
         clear A180
         by_cases c19 : t139 < 0
         ·rw [if_pos c19] at H
          have c19b0 : decide (t139 < 0) = true := decide_eq_true c19
          clear c19
          have H' := Aside0.mk H
          clear H
          try go_wp2
          replace BK137 := bkd BK137
          replace BK138 := bkd BK138
          replace HB := hbd HB
          refine start_ (n := 18) (S := fun w' => True) (ds := []) (tb 18 0) (by kernel_rfl) rfl (by kernel_rfl) trivial (fun hHeld => ?_); refine with_tabW bits_grouped.tab6 bits_grouped.bits6 (fun HT_ HW_ => ?_)
          generalize wr.drew = w20 at BK137 BK138 HB hHeld ⊢
          refine pA 0 30 (tb 18 1) HT_ ?_
          refine pA 1 31 (tb 18 3) HT_ ?_
          refine pA 2 32 (tb 18 7) HT_ ?_
          refine pA 3 33 (tb 18 15) HT_ ?_
          refine pA 4 34 (tb 18 31) HT_ ?_
          refine pA 5 35 (tb 18 63) HT_ ?_
          refine pA 6 36 (tb 18 127) HT_ ?_
          refine pA 7 37 (tb 18 255) HT_ ?_
          refine oA 8 (some 38) (tb 18 511) HT_ (fun K hK => ?_)
          refine gA Tryd.func74 #[.int .u8 (bt a0 x24_1)] ?_
          with_reducible refine (bits_digit.calls k1 (bt a0 x24_1) t139 _ A18.out).mono ?_
          rintro e w' ⟨rfl, ⟨nd, rfl⟩⟩
          refine ⟨_, rfl, ?_⟩
          refine hK.out _ _ trivial (fun hHeld => ?_)
          clear hK K
          refine nA ?_
          refine pA 9 39 (tb 18 1023) HT_ ?_
          refine pA 10 40 (tb 18 2047) HT_ ?_
          refine pU 11 41 (tb 18 4095) HT_ ?_
          refine pU 12 42 (tb 18 8191) HT_ ?_
          refine pU 13 43 (tb 18 16383) HT_ ?_
          refine pU 14 44 (tb 18 32767) HT_ ?_
          refine pU 15 45 (tb 18 65535) HT_ ?_
          refine pA 16 46 (tb 18 131071) HT_ ?_
          refine pA 17 47 (tb 18 262143) HT_ ?_
          refine done_ (done_of HT_.out (by kernel_rfl)) ?_
          try go_wp2
          go_meet
          case rel => exact ⟨_, (true), (by rfl), H', ⟨by have := HK1.out; omega⟩, ⟨by (with_reducible repeat (refine blk_drewN ?_ _)); exact BK137.out⟩, ⟨by (with_reducible repeat (refine blk_drewN ?_ _)); exact BK138.out⟩, ⟨by repeat (with_reducible first | exact HB.out | apply pw_below_drewN)⟩⟩
         ·rw [if_neg c19] at H
          have c19b0 : decide (t139 < 0) = false := decide_eq_false c19
          clear c19
          replace H := Option.bind_eq_some_iff.mp H
          obtain ⟨t140, A210, H⟩ := H
          replace H : (if 0 ≤ a2 then (bits_grouped.j1 k1 a0 a1 a2 a3 (a0.size : Int) x24_1 (decide (t140 ≥ (shl .i64 1 a2))) a1 0 0) else (none)) = some (r1, r2, r3, r4) := H
          have A21 := Aside0.mk A210
          clear A210
          by_cases c22 : 0 ≤ a2
          ·rw [if_pos c22] at H
           have c22b0 := eq_true c22
           have c22b1 : decide (0 ≤ a2) = true := decide_eq_true c22
           clear c22
           obtain ⟨ji23, hji23⟩ : ∃ j_ : Int, (shl .i64 1 a2) = j_ := ⟨_, rfl⟩
           replace H : (bits_grouped.j1 k1 a0 a1 a2 a3 (a0.size : Int) x24_1 (decide (t140 ≥ (ji23))) a1 0 0) = some (r1, r2, r3, r4) := by (rw [hji23] at H; exact H)
           have hji23_ : (IntKind.i64.wrap (1 * 2 ^ min a2.toNat 64)) = ji23 := hji23
           have hji23z : a2 ≤ 64 → (IntKind.i64.wrap (1 * 2 ^ a2.toNat)) = ji23 := shl_small hji23
           have hji23u : (IntKind.i64.wrap (2 ^ min a2.toNat 64)) = ji23 := by have h_ := hji23_; rw [Int.one_mul] at h_; exact h_
           have hji23v : a2 ≤ 64 → (IntKind.i64.wrap (2 ^ a2.toNat)) = ji23 := fun hle_ => by have h_ := hji23z hle_; rw [Int.one_mul] at h_; exact h_
           have hji23y : (wrap64 (1 * 2 ^ min a2.toNat 64)) = ji23 := (i64_w _).symm.trans hji23_
           have hji23x : a2 ≤ 64 → (wrap64 (1 * 2 ^ a2.toNat)) = ji23 := fun h_ => (i64_w _).symm.trans (hji23z h_)
           have H' := Aside0.mk H
           clear H
           try go_wp2
           replace BK137 := bkd BK137
           replace BK138 := bkd BK138
           replace HB := hbd HB
           refine start_ (n := 18) (S := fun w' => True) (ds := []) (tb 18 0) (by kernel_rfl) rfl (by kernel_rfl) trivial (fun hHeld => ?_); refine with_tabW bits_grouped.tab6 bits_grouped.bits6 (fun HT_ HW_ => ?_)
           generalize wr.drew = w24 at BK137 BK138 HB hHeld ⊢
           refine pA 0 30 (tb 18 1) HT_ ?_
           refine pA 1 31 (tb 18 3) HT_ ?_
           refine pA 2 32 (tb 18 7) HT_ ?_
           refine pA 3 33 (tb 18 15) HT_ ?_
           refine pA 4 34 (tb 18 31) HT_ ?_
           refine pA 5 35 (tb 18 63) HT_ ?_
           refine pA 6 36 (tb 18 127) HT_ ?_
           refine pA 7 37 (tb 18 255) HT_ ?_
           refine oA 8 (some 38) (tb 18 511) HT_ (fun K hK => ?_)
           refine gA Tryd.func74 #[.int .u8 (bt a0 x24_1)] ?_
           with_reducible refine (bits_digit.calls k1 (bt a0 x24_1) t139 _ A18.out).mono ?_
           rintro e w' ⟨rfl, ⟨nd, rfl⟩⟩
           refine ⟨_, rfl, ?_⟩
           refine hK.out _ _ trivial (fun hHeld => ?_)
           clear hK K
           refine nA ?_
           refine pA 9 39 (tb 18 1023) HT_ ?_
           refine pA 10 40 (tb 18 2047) HT_ ?_
           refine pA 11 41 (tb 18 4095) HT_ ?_
           refine pA 13 43 (tb 18 12287) HT_ ?_
           refine pA 14 44 (tb 18 28671) HT_ ?_
           refine oA 12 (some 42) (tb 18 32767) HT_ (fun K hK => ?_)
           refine gA Tryd.func74 #[.int .u8 (bt a0 x24_1)] ?_
           with_reducible refine (bits_digit.calls k1 (bt a0 x24_1) t140 _ A21.out).mono ?_
           rintro e w' ⟨rfl, ⟨nd, rfl⟩⟩
           refine ⟨_, rfl, ?_⟩
           refine hK.out _ _ trivial (fun hHeld => ?_)
           clear hK K
           refine nA ?_
           refine pA 15 45 (tb 18 65535) HT_ ?_
           refine pA 16 46 (tb 18 131071) HT_ ?_
           refine pA 17 47 (tb 18 262143) HT_ ?_
           refine done_ (done_of HT_.out (by kernel_rfl)) ?_
           try go_wp2
           go_meet
           case rel => exact ⟨_, (decide (t140 ≥ (ji23))), (by rfl), H', ⟨by have := HK1.out; omega⟩, ⟨by (with_reducible repeat (refine blk_drewN ?_ _)); exact BK137.out⟩, ⟨by (with_reducible repeat (refine blk_drewN ?_ _)); exact BK138.out⟩, ⟨by repeat (with_reducible first | exact HB.out | apply pw_below_drewN)⟩⟩
          ·rw [if_neg c22] at H
           exact absurd H (by simp)
      case rest =>
       clear HC13
       obtain ⟨kq, x47_12, rfl, HA, HJ12, BK137, BK138, HB⟩ := hcut
       cases kq with
       | zero => exact absurd HA.out (by simp [bits_grouped.j1])
       | succ kj12 =>
        have H := HA.out
        clear HA
        simp only [bits_grouped.j1] at H
        by_cases c25 : x47_12 = true
        ·subst c25
         have H1 : (some (0, 0, 0, 10)) = some (r1, r2, r3, r4) := by rw [if_pos rfl] at H; exact H
         clear H
         have H := H1
         clear H1
         simp only [Option.some.injEq, Prod.mk.injEq] at H
         obtain ⟨rfl, rfl, rfl, rfl⟩ := H
         have hnb26 := NB137_138.out
         have hnc26 := NB138_137.out
         obtain ⟨hcz27_0, hcz27_1, hcz27_2⟩ := sq_cells3 (W := wc) (g := gb137) BK137.out; obtain ⟨hfz27_0, hfz27_1, hfz27_2⟩ := sq_frozen3 BK137.out
         go_wp2
         refine bodyPost_ret (results_ct rfl _ _ gb137 24 #[.int .i64 0, .int .u64 0, .int .u64 0] (0, 0) _ rfl (by refine blk_put (cs := #[.int .i64 0, .int .u64 0, .int .u64 x138002_1]) ?_ 2 _ rfl; refine blk_put (cs := #[.int .i64 0, .int .u64 x138001_1, .int .u64 x138002_1]) ?_ 1 _ rfl; refine blk_put (cs := #[.int .i64 x138000_1, .int .u64 x138001_1, .int .u64 x138002_1]) ?_ 0 _ rfl; exact BK137.out) Tryd.underlying24 rfl (by kernel_rfl)) rfl ?_
         exact ⟨by rfl, by repeat (with_reducible first | exact HB.out | refine below_set ?_ GE137.out)⟩
        ·replace c25 := Bool.eq_false_iff.mpr c25
         subst c25
         have H1 : (bits_grouped.l0 kj12 a0 a1 a2 a3 (a0.size : Int) (wrap64 (x24_1 + 1)) a1 0 0) = some (r1, r2, r3, r4) := by rw [if_neg (show ¬ (false = true) by decide)] at H; exact H
         clear H
         have H := H1
         clear H1
         have H' := Aside0.mk H
         clear H
         go_wp2
         go_roundg kj12
         case measure => have := HK1.out; have := HJ12.out; omega
         case rel => exact ⟨(wrap64 (x24_1 + 1)), (x138000_1), (x138001_1), (x138002_1), (by rfl), H', ⟨by have := HK1.out; have := HJ12.out; omega⟩, ⟨by exact BK137.out⟩, ⟨by exact BK138.out⟩, ⟨by repeat (with_reducible exact HB.out)⟩⟩
     ·rw [if_neg c11] at H
      exact absurd H (by simp)
    ·rw [if_neg c10] at H
     exact absurd H (by simp)
   ·rw [if_neg c9] at H
    have c9b0 : decide (x24_1 < (a0.size : Int)) = false := decide_eq_false c9
    clear c9
    by_cases c28 : a3 = 0
    ·rw [if_pos c28] at H
     have c28b0 : (a3 == 0) = true := beq_iff_eq.mpr c28
     have c28b1 : (a3 != 0) = false := bne_eq_false_iff_eq.mpr c28
     clear c28
     have H' := Aside0.mk H
     clear H
     go_wp2
     go_loopg [13, 14] k1 (fun kq v13 v14 w' => ∃ (x13_2 : Int) (x14_2 : Int) (x138000_2 : Int) (x138001_2 : Int) (x138002_2 : Int) (x139000_2 : Int) (x139001_2 : Int) (x139002_2 : Int), v13 = .int .i64 x13_2 ∧ v14 = .int .i64 x14_2 ∧ Aside0 (bits_grouped.l1 kq a0 a1 a2 x13_2 x14_2 x139000_2 x139001_2 x139002_2 = some (r1, r2, r3, r4)) ∧ Aside0 (kq ≤ k1) ∧ Aside0 (w'.heap[gb137]? = some (.cells #[.int .i64 x138000_2, .int .u64 x138001_2, .int .u64 x138002_2] 24 (0, 0))) ∧ Aside0 (w'.heap[gb138]? = some (.cells #[.int .i64 x139000_2, .int .u64 x139001_2, .int .u64 x139002_2] 24 (0, 0))) ∧ Aside0 (Below w.heap.size w w'))
     case atStart => exact ⟨(0), (wrap64 ((a0.size : Int) - 1)), (x138000_1), (x138001_1), (x138002_1), (a1), (0), (0), (by rfl), (by rfl), H', ⟨Nat.le_refl _⟩, ⟨by exact BK137.out⟩, ⟨by exact BK138.out⟩, ⟨by repeat (with_reducible exact HB.out)⟩⟩
     case round =>
      clear H'
      (try clear c9b0); (try clear c28b0); (try clear c28b1)
      obtain ⟨x13_2, x14_2, x138000_2, x138001_2, x138002_2, x139000_2, x139001_2, x139002_2, rfl, rfl, HA, HK2, BK137, BK138, HB⟩ := hrel
      cases gk with
      | zero => exact absurd HA.out (by simp [bits_grouped.l1])
      | succ k2 =>
       have H := HA.out
       clear HA
       simp only [bits_grouped.l1] at H
       by_cases c29 : x14_2 ≥ 0
       ·rw [if_pos c29] at H
        have c29b0 : decide (0 ≤ x14_2) = true := decide_eq_true c29
        clear c29
        by_cases c30 : 0 ≤ x14_2
        ·rw [if_pos c30] at H
         have c30b0 : decide (0 ≤ x14_2) = true := decide_eq_true c30
         clear c30
         by_cases c31 : x14_2 < (a0.size : Int)
         ·rw [if_pos c31] at H
          have c31b0 : decide (x14_2 < (a0.size : Int)) = true := decide_eq_true c31
          clear c31
          have HC33 := Aside0.mk H
          clear H
          go_upto_region 17 with (((with_reducible refine gate_dst (N := 15) rfl ?_); refine box_event ?hg (N := 15) ?hd (cs := #[.int .i64 0, .int .u64 0, .int .u64 0]) (t := 24) ?hr ?_; (case hd => rfl); (case hg => rfl); (case hr => (go_simp; done)); intro gb141 hg w34 hbox hb; have BK141 := Aside0.mk (hbox); have GW141 := ge1 HB hg; have GE141 := ge1 HB hg; replace HB := hb1 HB hb; have NB137_141 := Aside0.mk ((by rw [hg]; exact Nat.ne_of_lt (blk_lt BK137.out) : gb137 ≠ gb141)); have NB141_137 := Aside0.mk ((by rw [hg]; exact Nat.ne_of_gt (blk_lt BK137.out) : gb141 ≠ gb137)); replace BK137 := bk1 BK137 hb; have NB138_141 := Aside0.mk ((by rw [hg]; exact Nat.ne_of_lt (blk_lt BK138.out) : gb138 ≠ gb141)); have NB141_138 := Aside0.mk ((by rw [hg]; exact Nat.ne_of_gt (blk_lt BK138.out) : gb141 ≠ gb138)); replace BK138 := bk1 BK138 hb; clear hb hbox hg; have p32 : 0 ≤ (x14_2 : Int) := of_decide_eq_true (by (with_reducible assumption)); have q32 : x14_2 < (a0.size : Int) := of_decide_eq_true (by (with_reducible assumption)); have hx32 := bt_at a0 x14_2; replace p32 := eq_true p32; replace q32 := eq_true q32))
          go_cut [69] (fun v69 wc => ∃ (kq : Nat) (x69_32 : Bool), v69 = .bool x69_32 ∧ Aside0 (bits_grouped.j3 kq a0 a1 a2 x13_2 x14_2 (bt a0 x14_2) x69_32 x139000_2 x139001_2 x139002_2 = some (r1, r2, r3, r4)) ∧ Aside0 (kq ≤ k2) ∧ Aside0 (wc.heap[gb137]? = some (.cells #[.int .i64 x138000_2, .int .u64 x138001_2, .int .u64 x138002_2] 24 (0, 0))) ∧ Aside0 (wc.heap[gb138]? = some (.cells #[.int .i64 x139000_2, .int .u64 x139001_2, .int .u64 x139002_2] 24 (0, 0))) ∧ Aside0 (wc.heap[gb141]? = some (.cells #[.int .i64 0, .int .u64 0, .int .u64 0] 24 (0, 0))) ∧ Aside0 (Below w.heap.size w wc))
          case first =>
           have H := HC33.out
           clear HC33
           by_cases c35 : (bt a0 x14_2) = 120
           ·rw [if_pos c35] at H
            have c35b0 : ((bt a0 x14_2) == 120) = true := beq_iff_eq.mpr c35
            have c35b1 : ((bt a0 x14_2) != 120) = false := bne_eq_false_iff_eq.mpr c35
            clear c35
            (skip)
            have H' := Aside0.mk H
            clear H
            go_wp2
            go_meet
            case rel => exact ⟨_, (true), (by rfl), H', ⟨by have := HK1.out; have := HK2.out; omega⟩, ⟨by exact BK137.out⟩, ⟨by exact BK138.out⟩, ⟨by exact BK141.out⟩, ⟨by repeat (with_reducible exact HB.out)⟩⟩
           ·rw [if_neg c35] at H
            have c35b0 : ((bt a0 x14_2) == 120) = false := beq_eq_false_iff_ne.mpr c35
            have c35b1 : ((bt a0 x14_2) != 120) = true := bne_iff_ne.mpr c35
            (skip)
            have H' := Aside0.mk H
            clear H
            go_wp2
            go_meet
            case rel => exact ⟨_, ((bt a0 x14_2) == 122), (by rfl), H', ⟨by have := HK1.out; have := HK2.out; omega⟩, ⟨by exact BK137.out⟩, ⟨by exact BK138.out⟩, ⟨by exact BK141.out⟩, ⟨by repeat (with_reducible exact HB.out)⟩⟩
          case rest =>
           clear HC33
           (try clear c29b0); (try clear c30b0); (try clear c31b0); (try clear p32); (try clear q32); (try clear hx32)
           obtain ⟨kq, x69_32, rfl, HA, HJ32, BK137, BK138, BK141, HB⟩ := hcut
           cases kq with
           | zero => exact absurd HA.out (by simp [bits_grouped.j3])
           | succ kj32 =>
            have H := HA.out
            clear HA
            simp only [bits_grouped.j3] at H
            have HC36 := Aside0.mk H
            clear H
            go_upto_if 69 with (fail)
            go_cut [] (fun wc => ∃ (kq : Nat) (x142000_35 : Int) (x142001_35 : Int) (x142002_35 : Int), Aside0 (bits_grouped.j4 kq a0 a1 a2 x13_2 x14_2 x139000_2 x139001_2 x139002_2 x142000_35 x142001_35 x142002_35 = some (r1, r2, r3, r4)) ∧ Aside0 (kq ≤ kj32) ∧ Aside0 (wc.heap[gb137]? = some (.cells #[.int .i64 x138000_2, .int .u64 x138001_2, .int .u64 x138002_2] 24 (0, 0))) ∧ Aside0 (wc.heap[gb138]? = some (.cells #[.int .i64 x139000_2, .int .u64 x139001_2, .int .u64 x139002_2] 24 (0, 0))) ∧ Aside0 (wc.heap[gb141]? = some (.cells #[.int .i64 x142000_35, .int .u64 x142001_35, .int .u64 x142002_35] 24 (0, 0))) ∧ Aside0 (Below w.heap.size w wc))
            case first =>
             have H := HC36.out
             clear HC36
             by_cases c37 : x69_32 = true
             ·subst c37
              have H1 : ((bits_All.f kj32 a2 (bt a0 x14_2)).bind fun bt142 => (bits_grouped.j4 kj32 a0 a1 a2 x13_2 x14_2 x139000_2 x139001_2 x139002_2 bt142.1 bt142.2.1 bt142.2.2)) = some (r1, r2, r3, r4) := by rw [if_pos rfl] at H; exact H
              clear H
              have H := H1
              clear H1
              replace H := Option.bind_eq_some_iff.mp H
              obtain ⟨⟨t142, t143, t144⟩, A380, H⟩ := H
              replace H : (bits_grouped.j4 kj32 a0 a1 a2 x13_2 x14_2 x139000_2 x139001_2 x139002_2 t142 t143 t144) = some (r1, r2, r3, r4) := H
              have A38 := Aside0.mk A380
              clear A380
              have H' := Aside0.mk H
              clear H
              go_wp2_with (((with_reducible refine gate_callee (f := 25) rfl ?_); refine goesL_ (some 72) rfl rfl Tryd.func25 (by kernel_rfl) rfl #[.int .i64 a2, .int .u8 (bt a0 x14_2)] rfl (by (try simp only [List.map_toArray, List.map_cons, List.map_nil]); rfl) ?_; (with_reducible refine (bits_All.calls kj32 a2 (bt a0 x14_2) t142 t143 t144 _ A38.out).mono ?_); rintro e w39 ⟨rfl, hb⟩; refine ⟨_, rfl, ?_⟩; replace BK137 := bk1 BK137 hb; replace BK138 := bk1 BK138 hb; replace BK141 := bk1 BK141 hb; replace HB := hb1 HB hb; (try clear hb); have hnb40 := NB141_137.out; have hnc40 := NB137_141.out; have hnb41 := NB141_138.out; have hnc41 := NB138_141.out; have hcz42_0 : w39.cell? ⟨gb141, 0, none⟩ = some (.int .i64 0) := (blk_cell BK141.out 0).trans rfl; have hcz42_1 : w39.cell? ⟨gb141, 1, none⟩ = some (.int .u64 0) := (blk_cell BK141.out 1).trans rfl; have hcz42_2 : w39.cell? ⟨gb141, 2, none⟩ = some (.int .u64 0) := (blk_cell BK141.out 2).trans rfl; have hfz42_0 := blk_frozen BK141.out 0; have hfz42_1 := blk_frozen BK141.out 1; have hfz42_2 := blk_frozen BK141.out 2))
              go_meet
              case rel => exact ⟨_, (t142), (t143), (t144), H', ⟨by have := HK1.out; have := HK2.out; have := HJ32.out; omega⟩, ⟨by refine blk_far ?_ NB137_141.out _; refine blk_far ?_ NB137_141.out _; refine blk_far ?_ NB137_141.out _; exact BK137.out⟩, ⟨by refine blk_far ?_ NB138_141.out _; refine blk_far ?_ NB138_141.out _; refine blk_far ?_ NB138_141.out _; exact BK138.out⟩, ⟨by refine blk_put (cs := #[.int .i64 t142, .int .u64 t143, .int .u64 0]) ?_ 2 _ rfl; refine blk_put (cs := #[.int .i64 t142, .int .u64 0, .int .u64 0]) ?_ 1 _ rfl; refine blk_put (cs := #[.int .i64 0, .int .u64 0, .int .u64 0]) ?_ 0 _ rfl; exact BK141.out⟩, ⟨by repeat (with_reducible first | exact HB.out | refine below_set ?_ GE141.out)⟩⟩
             ·replace c37 := Bool.eq_false_iff.mpr c37
              subst c37
              have H1 : ((bits_digit.f kj32 (bt a0 x14_2)).bind fun t145 => ((bits_Of.f a2 (IntKind.u64.wrap (t145))).bind fun bt146 => (bits_grouped.j4 kj32 a0 a1 a2 x13_2 x14_2 x139000_2 x139001_2 x139002_2 bt146.1 bt146.2.1 bt146.2.2))) = some (r1, r2, r3, r4) := by rw [if_neg (show ¬ (false = true) by decide)] at H; exact H
              clear H
              have H := H1
              clear H1
              replace H := Option.bind_eq_some_iff.mp H
              obtain ⟨t145, A430, H⟩ := H
              replace H : ((bits_Of.f a2 (IntKind.u64.wrap (t145))).bind fun bt146 => (bits_grouped.j4 kj32 a0 a1 a2 x13_2 x14_2 x139000_2 x139001_2 x139002_2 bt146.1 bt146.2.1 bt146.2.2)) = some (r1, r2, r3, r4) := H
              have A43 := Aside0.mk A430
              clear A430
              replace H := Option.bind_eq_some_iff.mp H
              obtain ⟨⟨t146, t147, t148⟩, A440, H⟩ := H
              replace H : (bits_grouped.j4 kj32 a0 a1 a2 x13_2 x14_2 x139000_2 x139001_2 x139002_2 t146 t147 t148) = some (r1, r2, r3, r4) := H
              have A44 := Aside0.mk A440
              clear A440
              have H' := Aside0.mk H
              clear H
              go_wp2_with (first | ((with_reducible refine gate_callee (f := 74) rfl ?_); refine goesL_ (some 75) rfl rfl Tryd.func74 (by kernel_rfl) rfl #[.int .u8 (bt a0 x14_2)] rfl (by (try simp only [List.map_toArray, List.map_cons, List.map_nil]); rfl) ?_; (with_reducible refine (bits_digit.calls kj32 (bt a0 x14_2) t145 _ A43.out).mono ?_); rintro e w' ⟨rfl, ⟨nd, rfl⟩⟩; refine ⟨_, rfl, ?_⟩; (try (rw [drewN_self wc]; generalize hq_ : World.drewN wc _ = wc; have n0_ : Aside0 (wc.heap[gb137]? = some (.cells #[.int .i64 x138000_2, .int .u64 x138001_2, .int .u64 x138002_2] 24 (0, 0))) := ⟨by rw [← hq_]; exact (by (with_reducible repeat (refine blk_drewN ?_ _)); exact BK137.out)⟩; have n1_ : Aside0 (wc.heap[gb138]? = some (.cells #[.int .i64 x139000_2, .int .u64 x139001_2, .int .u64 x139002_2] 24 (0, 0))) := ⟨by rw [← hq_]; exact (by (with_reducible repeat (refine blk_drewN ?_ _)); exact BK138.out)⟩; have n2_ : Aside0 (wc.heap[gb141]? = some (.cells #[.int .i64 0, .int .u64 0, .int .u64 0] 24 (0, 0))) := ⟨by rw [← hq_]; exact (by (with_reducible repeat (refine blk_drewN ?_ _)); exact BK141.out)⟩; have n3_ : Aside0 (Below w.heap.size w wc) := ⟨by rw [← hq_]; exact (by repeat (with_reducible first | exact HB.out | apply pw_below_drewN))⟩; clear BK137 BK138 BK141 HB hq_; have BK137 := n0_; have BK138 := n1_; have BK141 := n2_; have HB := n3_; clear n0_ n1_ n2_ n3_))) | ((with_reducible refine gate_callee (f := 24) rfl ?_); refine goesL_ (some 77) rfl rfl Tryd.func24 (by kernel_rfl) rfl #[.int .i64 a2, .int .u64 (IntKind.u64.wrap (t145))] rfl (by (try simp only [List.map_toArray, List.map_cons, List.map_nil]); rfl) ?_; (with_reducible refine (bits_Of.calls a2 (IntKind.u64.wrap (t145)) t146 t147 t148 _ A44.out).mono ?_); rintro e w45 ⟨rfl, hb⟩; refine ⟨_, rfl, ?_⟩; replace BK137 := bk1 BK137 hb; replace BK138 := bk1 BK138 hb; replace BK141 := bk1 BK141 hb; replace HB := hb1 HB hb; (try clear hb); have hnb46 := NB141_137.out; have hnc46 := NB137_141.out; have hnb47 := NB141_138.out; have hnc47 := NB138_141.out; have hcz48_0 : w45.cell? ⟨gb141, 0, none⟩ = some (.int .i64 0) := (blk_cell BK141.out 0).trans rfl; have hcz48_1 : w45.cell? ⟨gb141, 1, none⟩ = some (.int .u64 0) := (blk_cell BK141.out 1).trans rfl; have hcz48_2 : w45.cell? ⟨gb141, 2, none⟩ = some (.int .u64 0) := (blk_cell BK141.out 2).trans rfl; have hfz48_0 := blk_frozen BK141.out 0; have hfz48_1 := blk_frozen BK141.out 1; have hfz48_2 := blk_frozen BK141.out 2))
              go_meet
              case rel => exact ⟨_, (t146), (t147), (t148), H', ⟨by have := HK1.out; have := HK2.out; have := HJ32.out; omega⟩, ⟨by refine blk_far ?_ NB137_141.out _; refine blk_far ?_ NB137_141.out _; refine blk_far ?_ NB137_141.out _; exact BK137.out⟩, ⟨by refine blk_far ?_ NB138_141.out _; refine blk_far ?_ NB138_141.out _; refine blk_far ?_ NB138_141.out _; exact BK138.out⟩, ⟨by refine blk_put (cs := #[.int .i64 t146, .int .u64 t147, .int .u64 0]) ?_ 2 _ rfl; refine blk_put (cs := #[.int .i64 t146, .int .u64 0, .int .u64 0]) ?_ 1 _ rfl; refine blk_put (cs := #[.int .i64 0, .int .u64 0, .int .u64 0]) ?_ 0 _ rfl; exact BK141.out⟩, ⟨by repeat (with_reducible first | exact HB.out | refine below_set ?_ GE141.out)⟩⟩
            case rest =>
             clear HC36
             obtain ⟨kq, x142000_35, x142001_35, x142002_35, HA, HJ35, BK137, BK138, BK141, HB⟩ := hcut
             cases kq with
             | zero => exact absurd HA.out (by simp [bits_grouped.j4])
             | succ kj35 =>
              have H := HA.out
              clear HA
              simp only [bits_grouped.j4] at H
              have H' := Aside0.mk H
              clear H
              go_wp2
              go_loopg [79] kj35 (fun kq v79 w' => ∃ (x79_5 : Int) (x138000_5 : Int) (x138001_5 : Int) (x138002_5 : Int), v79 = .int .i64 x79_5 ∧ Aside0 (bits_grouped.l2 kq a0 a1 a2 x13_2 x14_2 a2 x79_5 x139000_2 x139001_2 x139002_2 x142000_35 x142001_35 x142002_35 = some (r1, r2, r3, r4)) ∧ Aside0 (kq ≤ kj35) ∧ Aside0 (w'.heap[gb137]? = some (.cells #[.int .i64 x138000_5, .int .u64 x138001_5, .int .u64 x138002_5] 24 (0, 0))) ∧ Aside0 (w'.heap[gb138]? = some (.cells #[.int .i64 x139000_2, .int .u64 x139001_2, .int .u64 x139002_2] 24 (0, 0))) ∧ Aside0 (w'.heap[gb141]? = some (.cells #[.int .i64 x142000_35, .int .u64 x142001_35, .int .u64 x142002_35] 24 (0, 0))) ∧ Aside0 (Below w.heap.size w w'))
              case atStart => exact ⟨(0), (x138000_2), (x138001_2), (x138002_2), (by rfl), H', ⟨Nat.le_refl _⟩, ⟨by exact BK137.out⟩, ⟨by exact BK138.out⟩, ⟨by exact BK141.out⟩, ⟨by repeat (with_reducible exact HB.out)⟩⟩
              case round =>
               clear H'
               obtain ⟨x79_5, x138000_5, x138001_5, x138002_5, rfl, HA, HK5, BK137, BK138, BK141, HB⟩ := hrel
               cases gk with
               | zero => exact absurd HA.out (by simp [bits_grouped.l2])
               | succ k5 =>
                have H := HA.out
                clear HA
                simp only [bits_grouped.l2] at H
                by_cases c49 : x79_5 < a2
                ·rw [if_pos c49] at H
                 have c49b0 : decide (x79_5 < a2) = true := decide_eq_true c49
                 clear c49
                 have HC50 := Aside0.mk H
                 clear H
                 go_upto_region 23 with (fail)
                 go_cut [92] (fun v92 wc => ∃ (kq : Nat) (x92_49 : Bool), v92 = .bool x92_49 ∧ Aside0 (bits_grouped.j6 kq a0 a1 a2 x13_2 x14_2 a2 x79_5 x92_49 x139000_2 x139001_2 x139002_2 x142000_35 x142001_35 x142002_35 = some (r1, r2, r3, r4)) ∧ Aside0 (kq ≤ k5) ∧ Aside0 (wc.heap[gb137]? = some (.cells #[.int .i64 x138000_5, .int .u64 x138001_5, .int .u64 x138002_5] 24 (0, 0))) ∧ Aside0 (wc.heap[gb138]? = some (.cells #[.int .i64 x139000_2, .int .u64 x139001_2, .int .u64 x139002_2] 24 (0, 0))) ∧ Aside0 (wc.heap[gb141]? = some (.cells #[.int .i64 x142000_35, .int .u64 x142001_35, .int .u64 x142002_35] 24 (0, 0))) ∧ Aside0 (Below w.heap.size w wc))
                 case first =>
                  have H := HC50.out
                  clear HC50
                  by_cases c51 : (wrap64 (x13_2 + x79_5)) ≥ a1
                  ·rw [if_pos c51] at H
                   have c51b0 : decide (a1 ≤ (wrap64 (x13_2 + x79_5))) = true := decide_eq_true c51
                   clear c51
                   (skip)
                   replace H := Option.bind_eq_some_iff.mp H
                   obtain ⟨t152, A520, H⟩ := H
                   replace H : (bits_grouped.j6 k5 a0 a1 a2 x13_2 x14_2 a2 x79_5 (t152 != 48) x139000_2 x139001_2 x139002_2 x142000_35 x142001_35 x142002_35) = some (r1, r2, r3, r4) := H
                   have A52 := Aside0.mk A520
                   clear A520
                   have H' := Aside0.mk H
                   clear H
                   have hnb53 := NB141_137.out
                   have hnc53 := NB137_141.out
                   have hnb54 := NB141_138.out
                   have hnc54 := NB138_141.out
                   obtain ⟨hcz55_0, hcz55_1, hcz55_2⟩ := sq_cells3 (W := wr) (g := gb141) BK141.out; obtain ⟨hfz55_0, hfz55_1, hfz55_2⟩ := sq_frozen3 BK141.out
                   go_wp2_with ((go_at_call 20; (with_reducible refine (bits_Bit.calls k5 x142000_35 x142001_35 x142002_35 x79_5 t152 _ A52.out).mono ?_); rintro e w56 ⟨rfl, hb⟩; replace BK137 := bk1 BK137 hb; replace BK138 := bk1 BK138 hb; replace BK141 := bk1 BK141 hb; replace HB := hb1 HB hb; (try clear hb)))
                   go_meet
                   case rel => exact ⟨_, (t152 != 48), (by rfl), H', ⟨by have := HK1.out; have := HK2.out; have := HJ32.out; have := HJ35.out; have := HK5.out; omega⟩, ⟨by exact BK137.out⟩, ⟨by exact BK138.out⟩, ⟨by exact BK141.out⟩, ⟨by repeat (with_reducible exact HB.out)⟩⟩
                  ·rw [if_neg c51] at H
                   have c51b0 : decide (a1 ≤ (wrap64 (x13_2 + x79_5))) = false := decide_eq_false c51
                   clear c51
                   (skip)
                   have H' := Aside0.mk H
                   clear H
                   go_wp2
                   go_meet
                   case rel => exact ⟨_, (false), (by rfl), H', ⟨by have := HK1.out; have := HK2.out; have := HJ32.out; have := HJ35.out; have := HK5.out; omega⟩, ⟨by exact BK137.out⟩, ⟨by exact BK138.out⟩, ⟨by exact BK141.out⟩, ⟨by repeat (with_reducible exact HB.out)⟩⟩
                 case rest =>
                  clear HC50
                  (try clear c49b0)
                  obtain ⟨kq, x92_49, rfl, HA, HJ49, BK137, BK138, BK141, HB⟩ := hcut
                  cases kq with
                  | zero => exact absurd HA.out (by simp [bits_grouped.j6])
                  | succ kj49 =>
                   have H := HA.out
                   clear HA
                   simp only [bits_grouped.j6] at H
                   by_cases c57 : x92_49 = true
                   ·subst c57
                    have H1 : (if 0 ≤ x14_2 then (if x14_2 < (a0.size : Int) then (if (bt a0 x14_2) = 120 then (bits_grouped.j7 kj49 a0 a1 a2 x13_2 x14_2 a2 x79_5 (decide (x13_2 < a1)) x139000_2 x139001_2 x139002_2 x142000_35 x142001_35 x142002_35) else (if (bt a0 x14_2) = 122 then (bits_grouped.j7 kj49 a0 a1 a2 x13_2 x14_2 a2 x79_5 (decide (x13_2 < a1)) x139000_2 x139001_2 x139002_2 x142000_35 x142001_35 x142002_35) else (bits_grouped.j7 kj49 a0 a1 a2 x13_2 x14_2 a2 x79_5 false x139000_2 x139001_2 x139002_2 x142000_35 x142001_35 x142002_35))) else (none)) else (none)) = some (r1, r2, r3, r4) := by rw [if_pos rfl] at H; exact H
                    clear H
                    have H := H1
                    clear H1
                    by_cases c58 : 0 ≤ x14_2
                    ·rw [if_pos c58] at H
                     have c58b0 : decide (0 ≤ x14_2) = true := decide_eq_true c58
                     clear c58
                     by_cases c59 : x14_2 < (a0.size : Int)
                     ·rw [if_pos c59] at H
                      have c59b0 : decide (x14_2 < (a0.size : Int)) = true := decide_eq_true c59
                      clear c59
                      have HC61 := Aside0.mk H
                      clear H
                      have p60 : 0 ≤ (x14_2 : Int) := of_decide_eq_true (by (with_reducible assumption))
                      have q60 : x14_2 < (a0.size : Int) := of_decide_eq_true (by (with_reducible assumption))
                      have hx60 := bt_at a0 x14_2
                      replace p60 := eq_true p60
                      replace q60 := eq_true q60
                      go_upto_region 25 with (fail)
                      go_cut [106] (fun v106 wc => ∃ (kq : Nat) (x106_60 : Bool), v106 = .bool x106_60 ∧ Aside0 (bits_grouped.j7 kq a0 a1 a2 x13_2 x14_2 a2 x79_5 x106_60 x139000_2 x139001_2 x139002_2 x142000_35 x142001_35 x142002_35 = some (r1, r2, r3, r4)) ∧ Aside0 (kq ≤ kj49) ∧ Aside0 (wc.heap[gb137]? = some (.cells #[.int .i64 x138000_5, .int .u64 x138001_5, .int .u64 x138002_5] 24 (0, 0))) ∧ Aside0 (wc.heap[gb138]? = some (.cells #[.int .i64 x139000_2, .int .u64 x139001_2, .int .u64 x139002_2] 24 (0, 0))) ∧ Aside0 (wc.heap[gb141]? = some (.cells #[.int .i64 x142000_35, .int .u64 x142001_35, .int .u64 x142002_35] 24 (0, 0))) ∧ Aside0 (Below w.heap.size w wc))
                      case first =>
                       have H := HC61.out
                       clear HC61
                       by_cases c62 : (bt a0 x14_2) = 120
                       ·rw [if_pos c62] at H
                        have c62b0 : ((bt a0 x14_2) == 120) = true := beq_iff_eq.mpr c62
                        have c62b1 : ((bt a0 x14_2) != 120) = false := bne_eq_false_iff_eq.mpr c62
                        clear c62
                        (skip)
                        have H' := Aside0.mk H
                        clear H
                        go_wp2
                        go_meet
                        case rel => exact ⟨_, (decide (x13_2 < a1)), (by rfl), H', ⟨by have := HK1.out; have := HK2.out; have := HJ32.out; have := HJ35.out; have := HK5.out; have := HJ49.out; omega⟩, ⟨by exact BK137.out⟩, ⟨by exact BK138.out⟩, ⟨by exact BK141.out⟩, ⟨by repeat (with_reducible exact HB.out)⟩⟩
                       ·rw [if_neg c62] at H
                        have c62b0 : ((bt a0 x14_2) == 120) = false := beq_eq_false_iff_ne.mpr c62
                        have c62b1 : ((bt a0 x14_2) != 120) = true := bne_iff_ne.mpr c62
                        (skip)
                        by_cases c63 : (bt a0 x14_2) = 122
                        ·rw [if_pos c63] at H
                         have c63b0 : ((bt a0 x14_2) == 122) = true := beq_iff_eq.mpr c63
                         have c63b1 : ((bt a0 x14_2) != 122) = false := bne_eq_false_iff_eq.mpr c63
                         clear c63
                         have H' := Aside0.mk H
                         clear H
                         go_wp2
                         go_meet
                         case rel => exact ⟨_, (decide (x13_2 < a1)), (by rfl), H', ⟨by have := HK1.out; have := HK2.out; have := HJ32.out; have := HJ35.out; have := HK5.out; have := HJ49.out; omega⟩, ⟨by exact BK137.out⟩, ⟨by exact BK138.out⟩, ⟨by exact BK141.out⟩, ⟨by repeat (with_reducible exact HB.out)⟩⟩
                        ·rw [if_neg c63] at H
                         have c63b0 : ((bt a0 x14_2) == 122) = false := beq_eq_false_iff_ne.mpr c63
                         have c63b1 : ((bt a0 x14_2) != 122) = true := bne_iff_ne.mpr c63
                         have H' := Aside0.mk H
                         clear H
                         go_wp2
                         go_meet
                         case rel => exact ⟨_, (false), (by rfl), H', ⟨by have := HK1.out; have := HK2.out; have := HJ32.out; have := HJ35.out; have := HK5.out; have := HJ49.out; omega⟩, ⟨by exact BK137.out⟩, ⟨by exact BK138.out⟩, ⟨by exact BK141.out⟩, ⟨by repeat (with_reducible exact HB.out)⟩⟩
                      case rest =>
                       clear HC61
                       (try clear c58b0); (try clear c59b0); (try clear p60); (try clear q60); (try clear hx60)
                       obtain ⟨kq, x106_60, rfl, HA, HJ60, BK137, BK138, BK141, HB⟩ := hcut
                       cases kq with
                       | zero => exact absurd HA.out (by simp [bits_grouped.j7])
                       | succ kj60 =>
                        have H := HA.out
                        clear HA
                        simp only [bits_grouped.j7] at H
                        by_cases c64 : x106_60 = true
                        ·subst c64
                         have H1 : (bits_grouped.l2 kj60 a0 a1 a2 x13_2 x14_2 a2 (wrap64 (x79_5 + 1)) x139000_2 x139001_2 x139002_2 x142000_35 x142001_35 x142002_35) = some (r1, r2, r3, r4) := by rw [if_pos rfl] at H; exact H
                         clear H
                         have H := H1
                         clear H1
                         have H' := Aside0.mk H
                         clear H
                         go_wp2
                         go_roundg kj60
                         case measure => have := HK1.out; have := HK2.out; have := HJ32.out; have := HJ35.out; have := HK5.out; have := HJ49.out; have := HJ60.out; omega
                         case rel => exact ⟨(wrap64 (x79_5 + 1)), (x138000_5), (x138001_5), (x138002_5), (by rfl), H', ⟨by have := HK1.out; have := HK2.out; have := HJ32.out; have := HJ35.out; have := HK5.out; have := HJ49.out; have := HJ60.out; omega⟩, ⟨by exact BK137.out⟩, ⟨by exact BK138.out⟩, ⟨by exact BK141.out⟩, ⟨by repeat (with_reducible exact HB.out)⟩⟩
                        ·replace c64 := Bool.eq_false_iff.mpr c64
                         subst c64
                         have H1 : (some (0, 0, 0, 3)) = some (r1, r2, r3, r4) := by rw [if_neg (show ¬ (false = true) by decide)] at H; exact H
                         clear H
                         have H := H1
                         clear H1
                         simp only [Option.some.injEq, Prod.mk.injEq] at H
                         obtain ⟨rfl, rfl, rfl, rfl⟩ := H
                         have hnb65 := NB137_138.out
                         have hnc65 := NB138_137.out
                         have hnb66 := NB137_141.out
                         have hnc66 := NB141_137.out
                         obtain ⟨hcz67_0, hcz67_1, hcz67_2⟩ := sq_cells3 (W := wc) (g := gb137) BK137.out; obtain ⟨hfz67_0, hfz67_1, hfz67_2⟩ := sq_frozen3 BK137.out
                         go_wp2
                         refine bodyPost_ret (results_ct rfl _ _ gb137 24 #[.int .i64 0, .int .u64 0, .int .u64 0] (0, 0) _ rfl (by refine blk_put (cs := #[.int .i64 0, .int .u64 0, .int .u64 x138002_5]) ?_ 2 _ rfl; refine blk_put (cs := #[.int .i64 0, .int .u64 x138001_5, .int .u64 x138002_5]) ?_ 1 _ rfl; refine blk_put (cs := #[.int .i64 x138000_5, .int .u64 x138001_5, .int .u64 x138002_5]) ?_ 0 _ rfl; exact BK137.out) Tryd.underlying24 rfl (by kernel_rfl)) rfl ?_
                         exact ⟨by rfl, by repeat (with_reducible first | exact HB.out | refine below_set ?_ GE137.out)⟩
                     ·rw [if_neg c59] at H
                      exact absurd H (by simp)
                    ·rw [if_neg c58] at H
                     exact absurd H (by simp)
                   ·replace c57 := Bool.eq_false_iff.mpr c57
                    subst c57
                    have H1 : (bits_grouped.l2 kj49 a0 a1 a2 x13_2 x14_2 a2 (wrap64 (x79_5 + 1)) x139000_2 x139001_2 x139002_2 x142000_35 x142001_35 x142002_35) = some (r1, r2, r3, r4) := by rw [if_neg (show ¬ (false = true) by decide)] at H; exact H
                    clear H
                    have H := H1
                    clear H1
                    have H' := Aside0.mk H
                    clear H
                    go_wp2
                    go_roundg kj49
                    case measure => have := HK1.out; have := HK2.out; have := HJ32.out; have := HJ35.out; have := HK5.out; have := HJ49.out; omega
                    case rel => exact ⟨(wrap64 (x79_5 + 1)), (x138000_5), (x138001_5), (x138002_5), (by rfl), H', ⟨by have := HK1.out; have := HK2.out; have := HJ32.out; have := HJ35.out; have := HK5.out; have := HJ49.out; omega⟩, ⟨by exact BK137.out⟩, ⟨by exact BK138.out⟩, ⟨by exact BK141.out⟩, ⟨by repeat (with_reducible exact HB.out)⟩⟩
                ·rw [if_neg c49] at H
                 have c49b0 : decide (x79_5 < a2) = false := decide_eq_false c49
                 clear c49
                 replace H := Option.bind_eq_some_iff.mp H
                 obtain ⟨⟨t149, t150, t151⟩, A680, H⟩ := H
                 replace H : (bits_grouped.l1 k5 a0 a1 a2 (wrap64 (x13_2 + a2)) (wrap64 (x14_2 - 1)) t149 t150 t151) = some (r1, r2, r3, r4) := H
                 have A68 := Aside0.mk A680
                 clear A680
                 have H' := Aside0.mk H
                 clear H
                 have hnb69 := NB138_137.out
                 have hnc69 := NB137_138.out
                 have hnb70 := NB138_141.out
                 have hnc70 := NB141_138.out
                 obtain ⟨hcz71_0, hcz71_1, hcz71_2⟩ := sq_cells3 (W := wr) (g := gb138) BK138.out; obtain ⟨hfz71_0, hfz71_1, hfz71_2⟩ := sq_frozen3 BK138.out
                 have hnb72 := NB141_137.out
                 have hnc72 := NB137_141.out
                 obtain ⟨hcz73_0, hcz73_1, hcz73_2⟩ := sq_cells3 (W := wr) (g := gb141) BK141.out; obtain ⟨hfz73_0, hfz73_1, hfz73_2⟩ := sq_frozen3 BK141.out
                 go_wp2_with (((with_reducible refine gate_callee (f := 38) rfl ?_); refine goesL_ (some 112) rfl rfl Tryd.func38 (by kernel_rfl) rfl #[.agg #[.int .i64 x139000_2, .int .u64 x139001_2, .int .u64 x139002_2], .int .i64 x13_2, .agg #[.int .i64 x142000_35, .int .u64 x142001_35, .int .u64 x142002_35]] rfl (by (try simp only [List.map_toArray, List.map_cons, List.map_nil]); rfl) ?_; (with_reducible refine (bits_Put.calls k5 x139000_2 x139001_2 x139002_2 x13_2 x142000_35 x142001_35 x142002_35 t149 t150 t151 _ A68.out).mono ?_); rintro e w74 ⟨rfl, hb⟩; refine ⟨_, rfl, ?_⟩; replace BK137 := bk1 BK137 hb; replace BK138 := bk1 BK138 hb; replace BK141 := bk1 BK141 hb; replace HB := hb1 HB hb; (try clear hb); have hcz75_0 : w74.cell? ⟨gb138, 0, none⟩ = some (.int .i64 x139000_2) := (blk_cell BK138.out 0).trans rfl; have hcz75_1 : w74.cell? ⟨gb138, 1, none⟩ = some (.int .u64 x139001_2) := (blk_cell BK138.out 1).trans rfl; have hcz75_2 : w74.cell? ⟨gb138, 2, none⟩ = some (.int .u64 x139002_2) := (blk_cell BK138.out 2).trans rfl; have hfz75_0 := blk_frozen BK138.out 0; have hfz75_1 := blk_frozen BK138.out 1; have hfz75_2 := blk_frozen BK138.out 2))
                 go_roundg k5
                 case measure => have := HK1.out; have := HK2.out; have := HJ32.out; have := HJ35.out; have := HK5.out; omega
                 case rel => exact ⟨(wrap64 (x13_2 + a2)), (wrap64 (x14_2 - 1)), (x138000_5), (x138001_5), (x138002_5), (t149), (t150), (t151), (by rfl), (by rfl), H', ⟨by have := HK1.out; have := HK2.out; have := HJ32.out; have := HJ35.out; have := HK5.out; omega⟩, ⟨by refine blk_far ?_ NB137_138.out _; refine blk_far ?_ NB137_138.out _; refine blk_far ?_ NB137_138.out _; exact BK137.out⟩, ⟨by refine blk_put (cs := #[.int .i64 t149, .int .u64 t150, .int .u64 x139002_2]) ?_ 2 _ rfl; refine blk_put (cs := #[.int .i64 t149, .int .u64 x139001_2, .int .u64 x139002_2]) ?_ 1 _ rfl; refine blk_put (cs := #[.int .i64 x139000_2, .int .u64 x139001_2, .int .u64 x139002_2]) ?_ 0 _ rfl; exact BK138.out⟩, ⟨by repeat (with_reducible first | exact HB.out | refine below_set ?_ GE138.out)⟩⟩
         ·rw [if_neg c31] at H
          exact absurd H (by simp)
        ·rw [if_neg c30] at H
         exact absurd H (by simp)
       ·rw [if_neg c29] at H
        have c29b0 : decide (0 ≤ x14_2) = false := decide_eq_false c29
        clear c29
        by_cases c76 : 0 < (a0.size : Int)
        ·rw [if_pos c76] at H
         have c76b0 : decide (0 < (a0.size : Int)) = true := decide_eq_true c76
         have c76b1 : decide (0 < a0.size) = true := decide_eq_true (by omega)
         clear c76
         have HC78 := Aside0.mk H
         clear H
         have p77 : 0 ≤ (0 : Int) := (by omega)
         have q77 : 0 < a0.size := (by have : (0 : Int) < (a0.size : Int) := of_decide_eq_true (by (with_reducible assumption)); omega)
         have hx77 : ∀ h : 0 < a0.size, ((a0[0]'h).toNat : Int) = bt a0 0 := bt_at a0 0
         clear p77
         have qi77 : (0 < (a0.size : Int)) = True := eq_true (of_decide_eq_true (by (with_reducible assumption)))
         replace q77 := eq_true q77
         go_upto_region 31 with (fail)
         go_cut [128] (fun v128 wc => ∃ (kq : Nat) (x128_77 : Bool), v128 = .bool x128_77 ∧ Aside0 (bits_grouped.j8 kq a1 x13_2 (bt a0 0) x128_77 x139000_2 x139001_2 x139002_2 = some (r1, r2, r3, r4)) ∧ Aside0 (kq ≤ k2) ∧ Aside0 (wc.heap[gb137]? = some (.cells #[.int .i64 x138000_2, .int .u64 x138001_2, .int .u64 x138002_2] 24 (0, 0))) ∧ Aside0 (wc.heap[gb138]? = some (.cells #[.int .i64 x139000_2, .int .u64 x139001_2, .int .u64 x139002_2] 24 (0, 0))) ∧ Aside0 (Below w.heap.size w wc))
         case first =>
          have H := HC78.out
          clear HC78
          by_cases c79 : (bt a0 0) = 120
          ·rw [if_pos c79] at H
           have c79b0 : ((bt a0 0) == 120) = true := beq_iff_eq.mpr c79
           have c79b1 : ((bt a0 0) != 120) = false := bne_eq_false_iff_eq.mpr c79
           clear c79
           (skip)
           have H' := Aside0.mk H
           clear H
           go_wp2
           go_meet
           case rel => exact ⟨_, (decide (x13_2 < a1)), (by rfl), H', ⟨by have := HK1.out; have := HK2.out; omega⟩, ⟨by exact BK137.out⟩, ⟨by exact BK138.out⟩, ⟨by repeat (with_reducible exact HB.out)⟩⟩
          ·rw [if_neg c79] at H
           have c79b0 : ((bt a0 0) == 120) = false := beq_eq_false_iff_ne.mpr c79
           have c79b1 : ((bt a0 0) != 120) = true := bne_iff_ne.mpr c79
           (skip)
           by_cases c80 : (bt a0 0) = 122
           ·rw [if_pos c80] at H
            have c80b0 : ((bt a0 0) == 122) = true := beq_iff_eq.mpr c80
            have c80b1 : ((bt a0 0) != 122) = false := bne_eq_false_iff_eq.mpr c80
            clear c80
            have H' := Aside0.mk H
            clear H
            go_wp2
            go_meet
            case rel => exact ⟨_, (decide (x13_2 < a1)), (by rfl), H', ⟨by have := HK1.out; have := HK2.out; omega⟩, ⟨by exact BK137.out⟩, ⟨by exact BK138.out⟩, ⟨by repeat (with_reducible exact HB.out)⟩⟩
           ·rw [if_neg c80] at H
            have c80b0 : ((bt a0 0) == 122) = false := beq_eq_false_iff_ne.mpr c80
            have c80b1 : ((bt a0 0) != 122) = true := bne_iff_ne.mpr c80
            have H' := Aside0.mk H
            clear H
            go_wp2
            go_meet
            case rel => exact ⟨_, (false), (by rfl), H', ⟨by have := HK1.out; have := HK2.out; omega⟩, ⟨by exact BK137.out⟩, ⟨by exact BK138.out⟩, ⟨by repeat (with_reducible exact HB.out)⟩⟩
         case rest =>
          clear HC78
          (try clear c29b0); (try clear c76b0); (try clear c76b1); (try clear q77); (try clear hx77); (try clear qi77)
          obtain ⟨kq, x128_77, rfl, HA, HJ77, BK137, BK138, HB⟩ := hcut
          cases kq with
          | zero => exact absurd HA.out (by simp [bits_grouped.j8])
          | succ kj77 =>
           have H := HA.out
           clear HA
           simp only [bits_grouped.j8] at H
           by_cases c81 : x128_77 = true
           ·subst c81
            have H1 : ((bits_All.f kj77 (wrap64 (a1 - x13_2)) (bt a0 0)).bind fun bt153 => ((bits_Put.f kj77 x139000_2 x139001_2 x139002_2 x13_2 bt153.1 bt153.2.1 bt153.2.2).bind fun bt156 => (some (bt156.1, bt156.2.1, bt156.2.2, 0)))) = some (r1, r2, r3, r4) := by rw [if_pos rfl] at H; exact H
            clear H
            have H := H1
            clear H1
            replace H := Option.bind_eq_some_iff.mp H
            obtain ⟨⟨t153, t154, t155⟩, A820, H⟩ := H
            replace H : ((bits_Put.f kj77 x139000_2 x139001_2 x139002_2 x13_2 t153 t154 t155).bind fun bt156 => (some (bt156.1, bt156.2.1, bt156.2.2, 0))) = some (r1, r2, r3, r4) := H
            have A82 := Aside0.mk A820
            clear A820
            replace H := Option.bind_eq_some_iff.mp H
            obtain ⟨⟨t156, t157, t158⟩, A830, H⟩ := H
            replace H : (some (t156, t157, t158, 0)) = some (r1, r2, r3, r4) := H
            have A83 := Aside0.mk A830
            clear A830
            simp only [Option.some.injEq, Prod.mk.injEq] at H
            obtain ⟨rfl, rfl, rfl, rfl⟩ := H
            try go_wp2
            replace BK137 := bkd BK137
            replace BK138 := bkd BK138
            replace HB := hbd HB
            refine start_ (n := 9) (S := fun w' => w'.cell? ⟨gb138, 0, none⟩ = some (.int .i64 x139000_2) ∧ w'.cell? ⟨gb138, 1, none⟩ = some (.int .u64 x139001_2) ∧ w'.cell? ⟨gb138, 2, none⟩ = some (.int .u64 x139002_2)) (ds := [8]) (tb 9 0) (by kernel_rfl) rfl (by kernel_rfl) (d3 BK138) (fun hHeld => ?_); refine with_tabW bits_grouped.tab32 bits_grouped.bits32 (fun HT_ HW_ => ?_)
            generalize wc.drew = w84 at BK137 BK138 HB hHeld ⊢
            refine pA 1 130 (tb 9 2) HT_ ?_
            refine pA 2 131 (tb 9 6) HT_ ?_
            refine pA 3 132 (tb 9 14) HT_ ?_
            refine pA 4 133 (tb 9 30) HT_ ?_
            refine pA 5 134 (tb 9 62) HT_ ?_
            refine tA 0 129 (tb 9 63) HT_ HW_ hHeld ?_
            refine oA 6 (some 135) (tb 9 127) HT_ (fun K hK => ?_)
            refine gA Tryd.func25 #[.int .i64 (wrap64 (a1 - x13_2)), .int .u8 (bt a0 0)] ?_
            with_reducible refine (bits_All.calls kj77 (wrap64 (a1 - x13_2)) (bt a0 0) t153 t154 t155 _ A82.out).mono ?_
            rintro e w85 ⟨rfl, hb⟩
            refine ⟨_, rfl, ?_⟩
            replace BK137 := bk1 BK137 hb
            replace BK138 := bk1 BK138 hb
            replace HB := hb1 HB hb
            (try clear hb)
            refine hK.out _ _ (d3 BK138) (fun hHeld => ?_)
            clear hK K
            refine nA ?_
            refine oA 7 (some 136) (tb 9 255) HT_ (fun K hK => ?_)
            refine gA Tryd.func38 #[.agg #[.int .i64 x139000_2, .int .u64 x139001_2, .int .u64 x139002_2], .int .i64 x13_2, .agg #[.int .i64 t153, .int .u64 t154, .int .u64 t155]] ?_
            with_reducible refine (bits_Put.calls kj77 x139000_2 x139001_2 x139002_2 x13_2 t153 t154 t155 t156 t157 t158 _ A83.out).mono ?_
            rintro e w86 ⟨rfl, hb⟩
            refine ⟨_, rfl, ?_⟩
            replace BK137 := bk1 BK137 hb
            replace BK138 := bk1 BK138 hb
            replace HB := hb1 HB hb
            (try clear hb)
            refine hK.out _ _ (d3 BK138) (fun hHeld => ?_)
            clear hK K
            refine nA ?_
            refine last_ (i := 8) (N := none) #[true, true, true, true, true, true, true, true, true] rfl rfl (one_of HT_.out (by kernel_rfl)) (by decide) (fun K hK => ?_)
            have hs87 : w86.cell? ⟨gb138, 0, none⟩ = some (.int .i64 x139000_2) := (blk_cell BK138.out 0).trans rfl
            have hfs87 := blk_frozen BK138.out 0
            have hns87_0 := NB137_138.out
            have hms87_0 := NB138_137.out
            have hs88 : w86.cell? ⟨gb138, 1, none⟩ = some (.int .u64 x139001_2) := (blk_cell BK138.out 1).trans rfl
            have hfs88 := blk_frozen BK138.out 1
            have hns88_0 := NB137_138.out
            have hms88_0 := NB138_137.out
            have hs89 : w86.cell? ⟨gb138, 2, none⟩ = some (.int .u64 x139002_2) := (blk_cell BK138.out 2).trans rfl
            have hfs89 := blk_frozen BK138.out 2
            have hns89_0 := NB137_138.out
            have hms89_0 := NB138_137.out
            refine skip_ (w1 := ?_) (by rfl) rfl ?_ ?_
            rotate_left
            ·go_simp
             rfl
            refine hK.out _ _ ?_
            clear hK K
            refine done_ (done_of HT_.out (by kernel_rfl)) ?_
            have hnb90 := NB138_137.out
            have hnc90 := NB137_138.out
            obtain ⟨hcz91_0, hcz91_1, hcz91_2⟩ := sq_cells3 (W := w86) (g := gb138) BK138.out; obtain ⟨hfz91_0, hfz91_1, hfz91_2⟩ := sq_frozen3 BK138.out
            obtain ⟨hcz92_0, hcz92_1, hcz92_2⟩ := sq_cells3 (W := w86) (g := gb137) BK137.out; obtain ⟨hfz92_0, hfz92_1, hfz92_2⟩ := sq_frozen3 BK137.out
            try go_wp2
            refine bodyPost_ret (results_ct rfl _ _ gb137 24 #[.int .i64 t156, .int .u64 t157, .int .u64 t158] (0, 0) _ rfl (by refine blk_put (cs := #[.int .i64 t156, .int .u64 t157, .int .u64 x138002_2]) ?_ 2 _ rfl; refine blk_put (cs := #[.int .i64 t156, .int .u64 x138001_2, .int .u64 x138002_2]) ?_ 1 _ rfl; refine blk_put (cs := #[.int .i64 x138000_2, .int .u64 x138001_2, .int .u64 x138002_2]) ?_ 0 _ rfl; refine blk_far ?_ NB137_138.out _; refine blk_far ?_ NB137_138.out _; refine blk_far ?_ NB137_138.out _; exact BK137.out) Tryd.underlying24 rfl (by kernel_rfl)) rfl ?_
            exact ⟨by rfl, by repeat (with_reducible first | exact HB.out | refine below_set ?_ GE137.out | refine below_set ?_ GE138.out)⟩
           ·replace c81 := Bool.eq_false_iff.mpr c81
            subst c81
            have H1 : (some (x139000_2, x139001_2, x139002_2, 0)) = some (r1, r2, r3, r4) := by rw [if_neg (show ¬ (false = true) by decide)] at H; exact H
            clear H
            have H := H1
            clear H1
            simp only [Option.some.injEq, Prod.mk.injEq] at H
            obtain ⟨rfl, rfl, rfl, rfl⟩ := H
            have hnb93 := NB138_137.out
            have hnc93 := NB137_138.out
            obtain ⟨hcz94_0, hcz94_1, hcz94_2⟩ := sq_cells3 (W := wc) (g := gb138) BK138.out; obtain ⟨hfz94_0, hfz94_1, hfz94_2⟩ := sq_frozen3 BK138.out
            obtain ⟨hcz95_0, hcz95_1, hcz95_2⟩ := sq_cells3 (W := wc) (g := gb137) BK137.out; obtain ⟨hfz95_0, hfz95_1, hfz95_2⟩ := sq_frozen3 BK137.out
            go_wp2
            refine bodyPost_ret (results_ct rfl _ _ gb137 24 #[.int .i64 x139000_2, .int .u64 x139001_2, .int .u64 x139002_2] (0, 0) _ rfl (by refine blk_put (cs := #[.int .i64 x139000_2, .int .u64 x139001_2, .int .u64 x138002_2]) ?_ 2 _ rfl; refine blk_put (cs := #[.int .i64 x139000_2, .int .u64 x138001_2, .int .u64 x138002_2]) ?_ 1 _ rfl; refine blk_put (cs := #[.int .i64 x138000_2, .int .u64 x138001_2, .int .u64 x138002_2]) ?_ 0 _ rfl; exact BK137.out) Tryd.underlying24 rfl (by kernel_rfl)) rfl ?_
            exact ⟨by rfl, by repeat (with_reducible first | exact HB.out | refine below_set ?_ GE137.out)⟩
        ·rw [if_neg c76] at H
         exact absurd H (by simp)
    ·rw [if_neg c28] at H
     have c28b0 : (a3 == 0) = false := beq_eq_false_iff_ne.mpr c28
     have c28b1 : (a3 != 0) = true := bne_iff_ne.mpr c28
     simp only [Option.some.injEq, Prod.mk.injEq] at H
     obtain ⟨rfl, rfl, rfl, rfl⟩ := H
     have hnb96 := NB137_138.out
     have hnc96 := NB138_137.out
     obtain ⟨hcz97_0, hcz97_1, hcz97_2⟩ := sq_cells3 (W := wr) (g := gb137) BK137.out; obtain ⟨hfz97_0, hfz97_1, hfz97_2⟩ := sq_frozen3 BK137.out
     go_wp2
     refine bodyPost_ret (results_ct rfl _ _ gb137 24 #[.int .i64 0, .int .u64 0, .int .u64 0] (0, 0) _ rfl (by refine blk_put (cs := #[.int .i64 0, .int .u64 0, .int .u64 x138002_1]) ?_ 2 _ rfl; refine blk_put (cs := #[.int .i64 0, .int .u64 x138001_1, .int .u64 x138002_1]) ?_ 1 _ rfl; refine blk_put (cs := #[.int .i64 x138000_1, .int .u64 x138001_1, .int .u64 x138002_1]) ?_ 0 _ rfl; exact BK137.out) Tryd.underlying24 rfl (by kernel_rfl)) rfl ?_
     exact ⟨by rfl, by repeat (with_reducible first | exact HB.out | refine below_set ?_ GE137.out)⟩
end Go.Proofs.YtfigblfjogpojaaDoor.PBits
end
section
namespace Go.Proofs.YtfigblfjogpojaaDoor.PBits
open Go.RowKit Go.Proofs.YtfigblfjogpojaaDoorW.PrintWords Go.Proofs.YtfigblfjogpojaaDoorW.PrintLast Go.Proofs.YtfigblfjogpojaaDoorW.PrintMore
attribute [local go_sem] max2_int min2_int max_two min_two max_three min_three max_four min_four
set_option linter.unusedVariables false
set_option linter.unusedSimpArgs false
mutual
def bits_Read.j0 : Nat → ByteArray → Int → Int → Int → Bool → Option (Int × Int × Int × Int)
 | 0, _, _, _, _, _ => none
 | k + 1, x0, x4, x5, x6, x27 => if x27 = true then (some (0, 0, 0, 10)) else (if 0 ≤ (wrap64 (x5 + 1)) then (if (wrap64 (x5 + 1)) ≤ (x0.size : Int) then (if ((x0.extract ((wrap64 (x5 + 1)) : Int).toNat x0.size).size : Int) > 0 then (if 0 < ((x0.extract ((wrap64 (x5 + 1)) : Int).toNat x0.size).size : Int) then (bits_Read.j1 k (x0.extract ((wrap64 (x5 + 1)) : Int).toNat x0.size) x4 x6 ((bt (x0.extract ((wrap64 (x5 + 1)) : Int).toNat x0.size) 0) == 115)) else (none)) else (bits_Read.j1 k (x0.extract ((wrap64 (x5 + 1)) : Int).toNat x0.size) x4 x6 false)) else (none)) else (none))
def bits_Read.j1 : Nat → ByteArray → Int → Int → Bool → Option (Int × Int × Int × Int)
 | 0, _, _, _, _ => none
 | k + 1, x0, x4, x6, x40 => if x40 = true then (if 1 ≤ (x0.size : Int) then (bits_Read.j2 k (x0.extract 1 x0.size) x4 x6) else (none)) else (bits_Read.j2 k x0 x4 x6)
def bits_Read.j2 : Nat → ByteArray → Int → Int → Option (Int × Int × Int × Int)
 | 0, _, _, _ => none
 | k + 1, x0, x4, x6 => if (x0.size : Int) < 2 then (some (0, 0, 0, 10)) else (if 0 < (x0.size : Int) then (if (bt x0 0) = 98 then (bits_Read.j3 k x0 x4 x6 1) else (if (bt x0 0) = 111 then (bits_Read.j3 k x0 x4 x6 3) else (if (bt x0 0) = 104 then (bits_Read.j3 k x0 x4 x6 4) else (if (bt x0 0) = 100 then (if 1 ≤ (x0.size : Int) then ((bits_decimal.f k (x0.extract 1 x0.size) x4 x6).bind fun bt163 => (some (bt163.1, bt163.2.1, bt163.2.2.1, bt163.2.2.2))) else (none)) else (bits_Read.j3 k x0 x4 x6 0))))) else (none))
def bits_Read.j3 : Nat → ByteArray → Int → Int → Int → Option (Int × Int × Int × Int)
 | 0, _, _, _, _ => none
 | k + 1, x0, x4, x6, x7 => if x7 = 0 then (some (0, 0, 0, 10)) else (if 1 ≤ (x0.size : Int) then ((bits_grouped.f k (x0.extract 1 x0.size) x4 x7 x6).bind fun bt167 => (some (bt167.1, bt167.2.1, bt167.2.2.1, bt167.2.2.2))) else (none))
end
def bits_Read.f (k : Nat) (a0 : ByteArray) : Option (Int × Int × Int × Int) := (bits_size.f k a0).bind fun bt160 => (if bt160.2.2 = 10 then (bits_Read.j0 k a0 bt160.1 bt160.2.1 bt160.2.2 true) else (if bt160.2.1 ≥ (a0.size : Int) then (bits_Read.j0 k a0 bt160.1 bt160.2.1 bt160.2.2 true) else (if 0 ≤ bt160.2.1 then (if bt160.2.1 < (a0.size : Int) then (bits_Read.j0 k a0 bt160.1 bt160.2.1 bt160.2.2 ((bt a0 bt160.2.1) != 39)) else (none)) else (none))))
theorem bits_Read.mono_l : ∀ k, (∀ y0 y1 y2 y3 y4, LeO (bits_Read.j0 k y0 y1 y2 y3 y4) (bits_Read.j0 (k + 1) y0 y1 y2 y3 y4)) ∧ (∀ y0 y1 y2 y3, LeO (bits_Read.j1 k y0 y1 y2 y3) (bits_Read.j1 (k + 1) y0 y1 y2 y3)) ∧ (∀ y0 y1 y2, LeO (bits_Read.j2 k y0 y1 y2) (bits_Read.j2 (k + 1) y0 y1 y2)) ∧ (∀ y0 y1 y2 y3, LeO (bits_Read.j3 k y0 y1 y2 y3) (bits_Read.j3 (k + 1) y0 y1 y2 y3))
 | 0 => ⟨fun _ _ _ _ _ r h => by simp [bits_Read.j0] at h, fun _ _ _ _ r h => by simp [bits_Read.j1] at h, fun _ _ _ r h => by simp [bits_Read.j2] at h, fun _ _ _ _ r h => by simp [bits_Read.j3] at h⟩
 | k + 1 => by
  obtain ⟨ih0, ih1, ih2, ih3⟩ := bits_Read.mono_l k
  refine ⟨?_, ?_, ?_, ?_⟩
  ·intro y0 y1 y2 y3 y4
   unfold bits_Read.j0
   repeat' first
   | (with_reducible exact ih0 _ _ _ _ _)
   | (with_reducible exact ih1 _ _ _ _)
   | (with_reducible exact ih2 _ _ _)
   | (with_reducible exact ih3 _ _ _ _)
   | (with_reducible exact bits_decimal.mono _ _ _ _)
   | (with_reducible exact bits_grouped.mono _ _ _ _ _)
   | (with_reducible exact bits_size.mono _ _)
   | (with_reducible exact LeO.refl _)
   | (with_reducible exact LeO.none _)
   | (with_reducible refine LeO.ite ?_ ?_)
   | (with_reducible refine LeO.bind ?_ (fun _ => ?_))
   | exact ih0 _ _ _ _ _
   | exact ih1 _ _ _ _
   | exact ih2 _ _ _
   | exact ih3 _ _ _ _
   | exact bits_decimal.mono _ _ _ _
   | exact bits_grouped.mono _ _ _ _ _
   | exact bits_size.mono _ _
   | exact LeO.none _
   | refine LeO.ite ?_ ?_
   | refine LeO.bind ?_ (fun _ => ?_)
  ·intro y0 y1 y2 y3
   unfold bits_Read.j1
   repeat' first
   | (with_reducible exact ih0 _ _ _ _ _)
   | (with_reducible exact ih1 _ _ _ _)
   | (with_reducible exact ih2 _ _ _)
   | (with_reducible exact ih3 _ _ _ _)
   | (with_reducible exact bits_decimal.mono _ _ _ _)
   | (with_reducible exact bits_grouped.mono _ _ _ _ _)
   | (with_reducible exact bits_size.mono _ _)
   | (with_reducible exact LeO.refl _)
   | (with_reducible exact LeO.none _)
   | (with_reducible refine LeO.ite ?_ ?_)
   | (with_reducible refine LeO.bind ?_ (fun _ => ?_))
   | exact ih0 _ _ _ _ _
   | exact ih1 _ _ _ _
   | exact ih2 _ _ _
   | exact ih3 _ _ _ _
   | exact bits_decimal.mono _ _ _ _
   | exact bits_grouped.mono _ _ _ _ _
   | exact bits_size.mono _ _
   | exact LeO.none _
   | refine LeO.ite ?_ ?_
   | refine LeO.bind ?_ (fun _ => ?_)
  ·intro y0 y1 y2
   unfold bits_Read.j2
   repeat' first
   | (with_reducible exact ih0 _ _ _ _ _)
   | (with_reducible exact ih1 _ _ _ _)
   | (with_reducible exact ih2 _ _ _)
   | (with_reducible exact ih3 _ _ _ _)
   | (with_reducible exact bits_decimal.mono _ _ _ _)
   | (with_reducible exact bits_grouped.mono _ _ _ _ _)
   | (with_reducible exact bits_size.mono _ _)
   | (with_reducible exact LeO.refl _)
   | (with_reducible exact LeO.none _)
   | (with_reducible refine LeO.ite ?_ ?_)
   | (with_reducible refine LeO.bind ?_ (fun _ => ?_))
   | exact ih0 _ _ _ _ _
   | exact ih1 _ _ _ _
   | exact ih2 _ _ _
   | exact ih3 _ _ _ _
   | exact bits_decimal.mono _ _ _ _
   | exact bits_grouped.mono _ _ _ _ _
   | exact bits_size.mono _ _
   | exact LeO.none _
   | refine LeO.ite ?_ ?_
   | refine LeO.bind ?_ (fun _ => ?_)
  ·intro y0 y1 y2 y3
   unfold bits_Read.j3
   repeat' first
   | (with_reducible exact ih0 _ _ _ _ _)
   | (with_reducible exact ih1 _ _ _ _)
   | (with_reducible exact ih2 _ _ _)
   | (with_reducible exact ih3 _ _ _ _)
   | (with_reducible exact bits_decimal.mono _ _ _ _)
   | (with_reducible exact bits_grouped.mono _ _ _ _ _)
   | (with_reducible exact bits_size.mono _ _)
   | (with_reducible exact LeO.refl _)
   | (with_reducible exact LeO.none _)
   | (with_reducible refine LeO.ite ?_ ?_)
   | (with_reducible refine LeO.bind ?_ (fun _ => ?_))
   | exact ih0 _ _ _ _ _
   | exact ih1 _ _ _ _
   | exact ih2 _ _ _
   | exact ih3 _ _ _ _
   | exact bits_decimal.mono _ _ _ _
   | exact bits_grouped.mono _ _ _ _ _
   | exact bits_size.mono _ _
   | exact LeO.none _
   | refine LeO.ite ?_ ?_
   | refine LeO.bind ?_ (fun _ => ?_)
theorem bits_Read.mono : ∀ a0 k, LeO (bits_Read.f k a0) (bits_Read.f (k + 1) a0) := by
 intro a0 k
 obtain ⟨ih0, ih1, ih2, ih3⟩ := bits_Read.mono_l k
 unfold bits_Read.f
 repeat' first
   | (with_reducible exact ih0 _ _ _ _ _)
   | (with_reducible exact ih1 _ _ _ _)
   | (with_reducible exact ih2 _ _ _)
   | (with_reducible exact ih3 _ _ _ _)
   | (with_reducible exact bits_decimal.mono _ _ _ _)
   | (with_reducible exact bits_grouped.mono _ _ _ _ _)
   | (with_reducible exact bits_size.mono _ _)
   | (with_reducible exact LeO.refl _)
   | (with_reducible exact LeO.none _)
   | (with_reducible refine LeO.ite ?_ ?_)
   | (with_reducible refine LeO.bind ?_ (fun _ => ?_))
   | exact ih0 _ _ _ _ _
   | exact ih1 _ _ _ _
   | exact ih2 _ _ _
   | exact ih3 _ _ _ _
   | exact bits_decimal.mono _ _ _ _
   | exact bits_grouped.mono _ _ _ _ _
   | exact bits_size.mono _ _
   | exact LeO.none _
   | refine LeO.ite ?_ ?_
   | refine LeO.bind ?_ (fun _ => ?_)
set_option maxHeartbeats 8000000 in
set_option maxRecDepth 100000 in
theorem bits_Read.calls (k : Nat) (a0 : ByteArray) (r1 : Int) (r2 : Int) (r3 : Int) (r4 : Int) (w : World) (h : bits_Read.f k a0 = some (r1, r2, r3, r4)) :
  Calls Tryd.prog 12 #[.string a0] w fun e w' => e = .returned (.tuple #[.agg #[.int .i64 r1, .int .u64 r2, .int .u64 r3], .int .i64 r4]) ∧ Below w.heap.size w w' := by
 have hu24 := Tryd.underlying24
 have HB := Aside0.mk (Below.refl w.heap.size w)
 have H : ((bits_size.f k a0).bind fun bt160 => (if bt160.2.2 = 10 then (bits_Read.j0 k a0 bt160.1 bt160.2.1 bt160.2.2 true) else (if bt160.2.1 ≥ (a0.size : Int) then (bits_Read.j0 k a0 bt160.1 bt160.2.1 bt160.2.2 true) else (if 0 ≤ bt160.2.1 then (if bt160.2.1 < (a0.size : Int) then (bits_Read.j0 k a0 bt160.1 bt160.2.1 bt160.2.2 ((bt a0 bt160.2.1) != 39)) else (none)) else (none))))) = some (r1, r2, r3, r4) := h
 clear h
 replace H := Option.bind_eq_some_iff.mp H
 obtain ⟨⟨t160, t161, t162⟩, A20, H⟩ := H
 replace H : (if t162 = 10 then (bits_Read.j0 k a0 t160 t161 t162 true) else (if t161 ≥ (a0.size : Int) then (bits_Read.j0 k a0 t160 t161 t162 true) else (if 0 ≤ t161 then (if t161 < (a0.size : Int) then (bits_Read.j0 k a0 t160 t161 t162 ((bt a0 t161) != 39)) else (none)) else (none)))) = some (r1, r2, r3, r4) := H
 have A2 := Aside0.mk A20
 clear A20
 have HC3 := Aside0.mk H
 clear H
 go_enter Tryd.func12, Tryd.ntmps12
 go_upto_region 2 with (first | ((with_reducible refine gate_dst (N := 2) rfl ?_); (try (refine gate_guard (by rfl) ?_; dsimp only)); refine box_event ?hg (N := 2) ?hd (cs := #[.int .i64 0, .int .u64 0, .int .u64 0]) (t := 24) ?hr ?_; (case hd => rfl); (case hg => rfl); (case hr => (go_simp; done)); intro gb159 hg w4 hbox hb; have BK159 := Aside0.mk (hbox); have GW159 := ge1 HB hg; have GE159 := ge1 HB hg; replace HB := hb1 HB hb; clear hb hbox hg) | ((with_reducible refine gate_callee (f := 50) rfl ?_); refine goesL_ (some 10) rfl rfl Tryd.func50 (by kernel_rfl) rfl #[.string a0] rfl (by (try simp only [List.map_toArray, List.map_cons, List.map_nil]); rfl) ?_; (with_reducible refine (bits_size.calls k a0 t160 t161 t162 _ A2.out).mono ?_); rintro e w5 ⟨rfl, hb⟩; refine ⟨_, rfl, ?_⟩; replace BK159 := bk1 BK159 hb; replace HB := hb1 HB hb; (try clear hb)))
 go_cut [27] (fun v27 wc => ∃ (kq : Nat) (x27_2 : Bool), v27 = .bool x27_2 ∧ Aside0 (bits_Read.j0 kq a0 t160 t161 t162 x27_2 = some (r1, r2, r3, r4)) ∧ Aside0 (kq ≤ k) ∧ Aside0 (wc.heap[gb159]? = some (.cells #[.int .i64 0, .int .u64 0, .int .u64 0] 24 (0, 0))) ∧ Aside0 (Below w.heap.size w wc))
 case first =>
  have H := HC3.out
  clear HC3
  by_cases c6 : t162 = 10
  ·rw [if_pos c6] at H
   have c6b0 : (t162 == 10) = true := beq_iff_eq.mpr c6
   have c6b1 : (t162 != 10) = false := bne_eq_false_iff_eq.mpr c6
   clear c6
   (skip)
   have H' := Aside0.mk H
   clear H
   go_wp2
   go_meet
   case rel => exact ⟨_, (true), (by rfl), H', ⟨by omega⟩, ⟨by exact BK159.out⟩, ⟨by repeat (with_reducible exact HB.out)⟩⟩
  ·rw [if_neg c6] at H
   have c6b0 : (t162 == 10) = false := beq_eq_false_iff_ne.mpr c6
   have c6b1 : (t162 != 10) = true := bne_iff_ne.mpr c6
   (skip)
   by_cases c7 : t161 ≥ (a0.size : Int)
   ·rw [if_pos c7] at H
    have c7b0 : decide ((a0.size : Int) ≤ t161) = true := decide_eq_true c7
    clear c7
    have H' := Aside0.mk H
    clear H
    go_wp2
    go_meet
    case rel => exact ⟨_, (true), (by rfl), H', ⟨by omega⟩, ⟨by exact BK159.out⟩, ⟨by repeat (with_reducible exact HB.out)⟩⟩
   ·rw [if_neg c7] at H
    have c7b0 : decide ((a0.size : Int) ≤ t161) = false := decide_eq_false c7
    clear c7
    by_cases c8 : 0 ≤ t161
    ·rw [if_pos c8] at H
     have c8b0 : decide (0 ≤ t161) = true := decide_eq_true c8
     clear c8
     by_cases c9 : t161 < (a0.size : Int)
     ·rw [if_pos c9] at H
      have c9b0 : decide (t161 < (a0.size : Int)) = true := decide_eq_true c9
      clear c9
      have H' := Aside0.mk H
      clear H
      have p10 : 0 ≤ (t161 : Int) := of_decide_eq_true (by (with_reducible assumption))
      have q10 : t161 < (a0.size : Int) := of_decide_eq_true (by (with_reducible assumption))
      have hx10 := bt_at a0 t161
      replace p10 := eq_true p10
      replace q10 := eq_true q10
      go_wp2
      go_meet
      case rel => exact ⟨_, ((bt a0 t161) != 39), (by rfl), H', ⟨by omega⟩, ⟨by exact BK159.out⟩, ⟨by repeat (with_reducible exact HB.out)⟩⟩
     ·rw [if_neg c9] at H
      exact absurd H (by simp)
    ·rw [if_neg c8] at H
     exact absurd H (by simp)
 case rest =>
  clear HC3
  obtain ⟨kq, x27_2, rfl, HA, HJ2, BK159, HB⟩ := hcut
  cases kq with
  | zero => exact absurd HA.out (by simp [bits_Read.j0])
  | succ kj2 =>
   have H := HA.out
   clear HA
   simp only [bits_Read.j0] at H
   by_cases c11 : x27_2 = true
   ·subst c11
    have H1 : (some (0, 0, 0, 10)) = some (r1, r2, r3, r4) := by rw [if_pos rfl] at H; exact H
    clear H
    have H := H1
    clear H1
    simp only [Option.some.injEq, Prod.mk.injEq] at H
    obtain ⟨rfl, rfl, rfl, rfl⟩ := H
    obtain ⟨hcz12_0, hcz12_1, hcz12_2⟩ := sq_cells3 (W := wc) (g := gb159) BK159.out; obtain ⟨hfz12_0, hfz12_1, hfz12_2⟩ := sq_frozen3 BK159.out
    go_wp2
    refine bodyPost_ret (results_ct rfl _ _ gb159 24 #[.int .i64 0, .int .u64 0, .int .u64 0] (0, 0) _ rfl (by refine blk_put (cs := #[.int .i64 0, .int .u64 0, .int .u64 0]) ?_ 2 _ rfl; refine blk_put (cs := #[.int .i64 0, .int .u64 0, .int .u64 0]) ?_ 1 _ rfl; refine blk_put (cs := #[.int .i64 0, .int .u64 0, .int .u64 0]) ?_ 0 _ rfl; exact BK159.out) Tryd.underlying24 rfl (by kernel_rfl)) rfl ?_
    exact ⟨by rfl, by repeat (with_reducible first | exact HB.out | refine below_set ?_ GE159.out)⟩
   ·replace c11 := Bool.eq_false_iff.mpr c11
    subst c11
    have H1 : (if 0 ≤ (wrap64 (t161 + 1)) then (if (wrap64 (t161 + 1)) ≤ (a0.size : Int) then (if ((a0.extract ((wrap64 (t161 + 1)) : Int).toNat a0.size).size : Int) > 0 then (if 0 < ((a0.extract ((wrap64 (t161 + 1)) : Int).toNat a0.size).size : Int) then (bits_Read.j1 kj2 (a0.extract ((wrap64 (t161 + 1)) : Int).toNat a0.size) t160 t162 ((bt (a0.extract ((wrap64 (t161 + 1)) : Int).toNat a0.size) 0) == 115)) else (none)) else (bits_Read.j1 kj2 (a0.extract ((wrap64 (t161 + 1)) : Int).toNat a0.size) t160 t162 false)) else (none)) else (none)) = some (r1, r2, r3, r4) := by rw [if_neg (show ¬ (false = true) by decide)] at H; exact H
    clear H
    have H := H1
    clear H1
    obtain ⟨ji13, hji13⟩ : ∃ j_ : Int, (wrap64 (t161 + 1)) = j_ := ⟨_, rfl⟩
    replace H : (if 0 ≤ (ji13) then (if (ji13) ≤ (a0.size : Int) then (if ((a0.extract ((ji13) : Int).toNat a0.size).size : Int) > 0 then (if 0 < ((a0.extract ((ji13) : Int).toNat a0.size).size : Int) then (bits_Read.j1 kj2 (a0.extract ((ji13) : Int).toNat a0.size) t160 t162 ((bt (a0.extract ((ji13) : Int).toNat a0.size) 0) == 115)) else (none)) else (bits_Read.j1 kj2 (a0.extract ((ji13) : Int).toNat a0.size) t160 t162 false)) else (none)) else (none)) = some (r1, r2, r3, r4) := by (rw [hji13] at H; exact H)
    have hji13w : (IntKind.i64.wrap (t161 + 1)) = ji13 := (i64_w _).trans hji13
    by_cases c14 : 0 ≤ (ji13)
    ·rw [if_pos c14] at H
     have c14b0 := eq_true c14
     have c14b1 : decide (0 ≤ (ji13)) = true := decide_eq_true c14
     clear c14
     by_cases c15 : (ji13) ≤ (a0.size : Int)
     ·rw [if_pos c15] at H
      have c15b0 := eq_true c15
      have c15b1 : decide ((ji13) ≤ (a0.size : Int)) = true := decide_eq_true c15
      clear c15
      have HC16 := Aside0.mk H
      clear H
      go_upto_region 5 with (fail)
      go_cut [40] (fun v40 wc => ∃ (kq : Nat) (x40_15 : Bool), v40 = .bool x40_15 ∧ Aside0 (bits_Read.j1 kq (a0.extract ((ji13) : Int).toNat a0.size) t160 t162 x40_15 = some (r1, r2, r3, r4)) ∧ Aside0 (kq ≤ kj2) ∧ Aside0 (wc.heap[gb159]? = some (.cells #[.int .i64 0, .int .u64 0, .int .u64 0] 24 (0, 0))) ∧ Aside0 (Below w.heap.size w wc))
      case first =>
       have H := HC16.out
       clear HC16
       by_cases c17 : ((a0.extract ((ji13) : Int).toNat a0.size).size : Int) > 0
       ·rw [if_pos c17] at H
        have c17b0 : decide (0 < ((a0.extract ((ji13) : Int).toNat a0.size).size : Int)) = true := decide_eq_true c17
        try have c17b0e : decide (0 < ((a0.size - ((ji13) : Int).toNat : Nat) : Int)) = true := by have h_ := c17b0; simp only [ByteArray.size_extract, Nat.min_self] at h_; exact h_
        have c17b1 : decide (0 < (a0.extract ((ji13) : Int).toNat a0.size).size) = true := decide_eq_true (by omega)
        try have c17b1e : decide (0 < (a0.size - ((ji13) : Int).toNat)) = true := by have h_ := c17b1; simp only [ByteArray.size_extract, Nat.min_self] at h_; exact h_
        clear c17
        (skip)
        by_cases c18 : 0 < ((a0.extract ((ji13) : Int).toNat a0.size).size : Int)
        ·rw [if_pos c18] at H
         have c18b0 : decide (0 < ((a0.extract ((ji13) : Int).toNat a0.size).size : Int)) = true := decide_eq_true c18
         try have c18b0e : decide (0 < ((a0.size - ((ji13) : Int).toNat : Nat) : Int)) = true := by have h_ := c18b0; simp only [ByteArray.size_extract, Nat.min_self] at h_; exact h_
         have c18b1 : decide (0 < (a0.extract ((ji13) : Int).toNat a0.size).size) = true := decide_eq_true (by omega)
         try have c18b1e : decide (0 < (a0.size - ((ji13) : Int).toNat)) = true := by have h_ := c18b1; simp only [ByteArray.size_extract, Nat.min_self] at h_; exact h_
         clear c18
         have H' := Aside0.mk H
         clear H
         have p19 : 0 ≤ (0 : Int) := (by omega)
         have q19 : 0 < (a0.extract ((ji13) : Int).toNat a0.size).size := (by have : (0 : Int) < ((a0.extract ((ji13) : Int).toNat a0.size).size : Int) := of_decide_eq_true (by (with_reducible assumption)); omega)
         try have q19e : 0 < (a0.size - ((ji13) : Int).toNat) := by have h_ := q19; simp only [ByteArray.size_extract, Nat.min_self] at h_; exact h_
         have hx19 : ∀ h : 0 < (a0.extract ((ji13) : Int).toNat a0.size).size, (((a0.extract ((ji13) : Int).toNat a0.size)[0]'h).toNat : Int) = bt (a0.extract ((ji13) : Int).toNat a0.size) 0 := bt_at (a0.extract ((ji13) : Int).toNat a0.size) 0
         clear p19
         have qi19 : (0 < ((a0.extract ((ji13) : Int).toNat a0.size).size : Int)) = True := eq_true (of_decide_eq_true (by (with_reducible assumption)))
         try have qi19e : (0 < ((a0.size - ((ji13) : Int).toNat : Nat) : Int)) = True := by have h_ := qi19; simp only [ByteArray.size_extract, Nat.min_self] at h_; exact h_
         replace q19 := eq_true q19
         go_wp2
         go_meet
         case rel => exact ⟨_, (((bt (a0.extract ((ji13) : Int).toNat a0.size) 0) == 115)), (by (with_reducible rfl)), H', ⟨by have := HJ2.out; omega⟩, ⟨by exact BK159.out⟩, ⟨by repeat (with_reducible exact HB.out)⟩⟩
        ·rw [if_neg c18] at H
         exact absurd H (by simp)
       ·rw [if_neg c17] at H
        have c17b0 : decide (0 < ((a0.extract ((ji13) : Int).toNat a0.size).size : Int)) = false := decide_eq_false c17
        try have c17b0e : decide (0 < ((a0.size - ((ji13) : Int).toNat : Nat) : Int)) = false := by have h_ := c17b0; simp only [ByteArray.size_extract, Nat.min_self] at h_; exact h_
        have c17b1 : decide (0 < (a0.extract ((ji13) : Int).toNat a0.size).size) = false := decide_eq_false (by omega)
        try have c17b1e : decide (0 < (a0.size - ((ji13) : Int).toNat)) = false := by have h_ := c17b1; simp only [ByteArray.size_extract, Nat.min_self] at h_; exact h_
        clear c17
        (skip)
        have H' := Aside0.mk H
        clear H
        go_wp2
        go_meet
        case rel => exact ⟨_, (false), (by rfl), H', ⟨by have := HJ2.out; omega⟩, ⟨by exact BK159.out⟩, ⟨by repeat (with_reducible exact HB.out)⟩⟩
      case rest =>
       clear HC16
       (try clear c14b0); (try clear c14b1); (try clear c15b0); (try clear c15b1)
       obtain ⟨kq, x40_15, rfl, HA, HJ15, BK159, HB⟩ := hcut
       cases kq with
       | zero => exact absurd HA.out (by simp [bits_Read.j1])
       | succ kj15 =>
        have H := HA.out
        clear HA
        simp only [bits_Read.j1] at H
        have HC20 := Aside0.mk H
        clear H
        go_upto_if 40 with (fail)
        go_cut [0] (fun v0 wc => ∃ (kq : Nat) (x0_19 : ByteArray), v0 = .string x0_19 ∧ Aside0 (bits_Read.j2 kq x0_19 t160 t162 = some (r1, r2, r3, r4)) ∧ Aside0 (kq ≤ kj15) ∧ Aside0 (wc.heap[gb159]? = some (.cells #[.int .i64 0, .int .u64 0, .int .u64 0] 24 (0, 0))) ∧ Aside0 (Below w.heap.size w wc))
        case first =>
         have H := HC20.out
         clear HC20
         by_cases c21 : x40_15 = true
         ·subst c21
          have H1 : (if 1 ≤ ((a0.extract ((ji13) : Int).toNat a0.size).size : Int) then (bits_Read.j2 kj15 ((a0.extract ((ji13) : Int).toNat a0.size).extract 1 (a0.extract ((ji13) : Int).toNat a0.size).size) t160 t162) else (none)) = some (r1, r2, r3, r4) := by rw [if_pos rfl] at H; exact H
          clear H
          have H := H1
          clear H1
          by_cases c22 : 1 ≤ ((a0.extract ((ji13) : Int).toNat a0.size).size : Int)
          ·rw [if_pos c22] at H
           have c22b0 := eq_true c22
           have c22b1 : decide (1 ≤ ((a0.extract ((ji13) : Int).toNat a0.size).size : Int)) = true := decide_eq_true c22
           try have c22b1e : decide (1 ≤ ((a0.size - ((ji13) : Int).toNat : Nat) : Int)) = true := by have h_ := c22b1; simp only [ByteArray.size_extract, Nat.min_self] at h_; exact h_
           try have c22b1f : (1 ≤ ((a0.size - ((ji13) : Int).toNat : Nat) : Int)) = True := eq_true (of_decide_eq_true c22b1e)
           clear c22
           have H' := Aside0.mk H
           clear H
           go_wp2
           go_meet
           case rel => exact ⟨_, ((a0.extract ((ji13) : Int).toNat a0.size).extract 1 (a0.extract ((ji13) : Int).toNat a0.size).size), (by (simp only [ByteArray.size_extract, Nat.min_self]; done)), H', ⟨by have := HJ2.out; have := HJ15.out; omega⟩, ⟨by exact BK159.out⟩, ⟨by repeat (with_reducible exact HB.out)⟩⟩
          ·rw [if_neg c22] at H
           exact absurd H (by simp)
         ·replace c21 := Bool.eq_false_iff.mpr c21
          subst c21
          have H1 : (bits_Read.j2 kj15 (a0.extract ((ji13) : Int).toNat a0.size) t160 t162) = some (r1, r2, r3, r4) := by rw [if_neg (show ¬ (false = true) by decide)] at H; exact H
          clear H
          have H := H1
          clear H1
          have H' := Aside0.mk H
          clear H
          go_wp2
          go_meet
          case rel => exact ⟨_, ((a0.extract ((ji13) : Int).toNat a0.size)), (by (with_reducible rfl)), H', ⟨by have := HJ2.out; have := HJ15.out; omega⟩, ⟨by exact BK159.out⟩, ⟨by repeat (with_reducible exact HB.out)⟩⟩
        case rest =>
         clear HC20
         obtain ⟨kq, x0_19, rfl, HA, HJ19, BK159, HB⟩ := hcut
         cases kq with
         | zero => exact absurd HA.out (by simp [bits_Read.j2])
         | succ kj19 =>
          have H := HA.out
          clear HA
          simp only [bits_Read.j2] at H
          by_cases c23 : (x0_19.size : Int) < 2
          ·rw [if_pos c23] at H
           have c23b0 : decide ((x0_19.size : Int) < 2) = true := decide_eq_true c23
           have c23b1 : decide (x0_19.size < 2) = true := decide_eq_true (by omega)
           clear c23
           simp only [Option.some.injEq, Prod.mk.injEq] at H
           obtain ⟨rfl, rfl, rfl, rfl⟩ := H
           obtain ⟨hcz24_0, hcz24_1, hcz24_2⟩ := sq_cells3 (W := wc) (g := gb159) BK159.out; obtain ⟨hfz24_0, hfz24_1, hfz24_2⟩ := sq_frozen3 BK159.out
           go_wp2
           refine bodyPost_ret (results_ct rfl _ _ gb159 24 #[.int .i64 0, .int .u64 0, .int .u64 0] (0, 0) _ rfl (by refine blk_put (cs := #[.int .i64 0, .int .u64 0, .int .u64 0]) ?_ 2 _ rfl; refine blk_put (cs := #[.int .i64 0, .int .u64 0, .int .u64 0]) ?_ 1 _ rfl; refine blk_put (cs := #[.int .i64 0, .int .u64 0, .int .u64 0]) ?_ 0 _ rfl; exact BK159.out) Tryd.underlying24 rfl (by kernel_rfl)) rfl ?_
           exact ⟨by rfl, by repeat (with_reducible first | exact HB.out | refine below_set ?_ GE159.out)⟩
          ·rw [if_neg c23] at H
           have c23b0 : decide ((x0_19.size : Int) < 2) = false := decide_eq_false c23
           have c23b1 : decide (x0_19.size < 2) = false := decide_eq_false (by omega)
           clear c23
           by_cases c25 : 0 < (x0_19.size : Int)
           ·rw [if_pos c25] at H
            have c25b0 : decide (0 < (x0_19.size : Int)) = true := decide_eq_true c25
            have c25b1 : decide (0 < x0_19.size) = true := decide_eq_true (by omega)
            clear c25
            have HC27 := Aside0.mk H
            clear H
            have p26 : 0 ≤ (0 : Int) := (by omega)
            have q26 : 0 < x0_19.size := (by have : (0 : Int) < (x0_19.size : Int) := of_decide_eq_true (by (with_reducible assumption)); omega)
            have hx26 : ∀ h : 0 < x0_19.size, ((x0_19[0]'h).toNat : Int) = bt x0_19 0 := bt_at x0_19 0
            clear p26
            have qi26 : (0 < (x0_19.size : Int)) = True := eq_true (of_decide_eq_true (by (with_reducible assumption)))
            replace q26 := eq_true q26
            go_upto_block 0 with (fail)
            go_cut [7] (fun v7 wc => ∃ (kq : Nat) (x7_26 : Int) (x160000_26 : Int) (x160001_26 : Int) (x160002_26 : Int), v7 = .int .i64 x7_26 ∧ Aside0 (bits_Read.j3 kq x0_19 t160 t162 x7_26 = some (r1, r2, r3, r4)) ∧ Aside0 (kq ≤ kj19) ∧ Aside0 (wc.heap[gb159]? = some (.cells #[.int .i64 x160000_26, .int .u64 x160001_26, .int .u64 x160002_26] 24 (0, 0))) ∧ Aside0 (Below w.heap.size w wc))
            case first =>
             have H := HC27.out
             clear HC27
             by_cases c28 : (bt x0_19 0) = 98
             ·rw [if_pos c28] at H
              have c28b0 : ((bt x0_19 0) == 98) = true := beq_iff_eq.mpr c28
              have c28b1 : ((bt x0_19 0) != 98) = false := bne_eq_false_iff_eq.mpr c28
              clear c28
              (skip)
              have H' := Aside0.mk H
              clear H
              go_wp2
              go_meet
              case rel => exact ⟨_, (1), (0), (0), (0), (by rfl), H', ⟨by have := HJ2.out; have := HJ15.out; have := HJ19.out; omega⟩, ⟨by exact BK159.out⟩, ⟨by repeat (with_reducible exact HB.out)⟩⟩
             ·rw [if_neg c28] at H
              have c28b0 : ((bt x0_19 0) == 98) = false := beq_eq_false_iff_ne.mpr c28
              have c28b1 : ((bt x0_19 0) != 98) = true := bne_iff_ne.mpr c28
              (skip)
              by_cases c29 : (bt x0_19 0) = 111
              ·rw [if_pos c29] at H
               have c29b0 : ((bt x0_19 0) == 111) = true := beq_iff_eq.mpr c29
               have c29b1 : ((bt x0_19 0) != 111) = false := bne_eq_false_iff_eq.mpr c29
               clear c29
               have H' := Aside0.mk H
               clear H
               go_wp2
               go_meet
               case rel => exact ⟨_, (3), (0), (0), (0), (by rfl), H', ⟨by have := HJ2.out; have := HJ15.out; have := HJ19.out; omega⟩, ⟨by exact BK159.out⟩, ⟨by repeat (with_reducible exact HB.out)⟩⟩
              ·rw [if_neg c29] at H
               have c29b0 : ((bt x0_19 0) == 111) = false := beq_eq_false_iff_ne.mpr c29
               have c29b1 : ((bt x0_19 0) != 111) = true := bne_iff_ne.mpr c29
               by_cases c30 : (bt x0_19 0) = 104
               ·rw [if_pos c30] at H
                have c30b0 : ((bt x0_19 0) == 104) = true := beq_iff_eq.mpr c30
                have c30b1 : ((bt x0_19 0) != 104) = false := bne_eq_false_iff_eq.mpr c30
                clear c30
                have H' := Aside0.mk H
                clear H
                go_wp2
                go_meet
                case rel => exact ⟨_, (4), (0), (0), (0), (by rfl), H', ⟨by have := HJ2.out; have := HJ15.out; have := HJ19.out; omega⟩, ⟨by exact BK159.out⟩, ⟨by repeat (with_reducible exact HB.out)⟩⟩
               ·rw [if_neg c30] at H
                have c30b0 : ((bt x0_19 0) == 104) = false := beq_eq_false_iff_ne.mpr c30
                have c30b1 : ((bt x0_19 0) != 104) = true := bne_iff_ne.mpr c30
                by_cases c31 : (bt x0_19 0) = 100
                ·rw [if_pos c31] at H
                 have c31b0 : ((bt x0_19 0) == 100) = true := beq_iff_eq.mpr c31
                 have c31b1 : ((bt x0_19 0) != 100) = false := bne_eq_false_iff_eq.mpr c31
                 clear c31
                 by_cases c32 : 1 ≤ (x0_19.size : Int)
                 ·rw [if_pos c32] at H
                  have c32b0 := eq_true c32
                  have c32b1 : decide (1 ≤ (x0_19.size : Int)) = true := decide_eq_true c32
                  clear c32
                  replace H := Option.bind_eq_some_iff.mp H
                  obtain ⟨⟨t163, t164, t165, t166⟩, A330, H⟩ := H
                  replace H : (some (t163, t164, t165, t166)) = some (r1, r2, r3, r4) := H
                  have A33 := Aside0.mk A330
                  clear A330
                  simp only [Option.some.injEq, Prod.mk.injEq] at H
                  obtain ⟨rfl, rfl, rfl, rfl⟩ := H
                  go_wp2_with (((with_reducible refine gate_callee (f := 51) rfl ?_); refine goesL_ (some 61) rfl rfl Tryd.func51 (by kernel_rfl) rfl #[.string (x0_19.extract 1 x0_19.size), .int .i64 t160, .int .i64 t162] rfl (by (try simp only [List.map_toArray, List.map_cons, List.map_nil]); rfl) ?_; (with_reducible refine (bits_decimal.calls kj19 (x0_19.extract 1 x0_19.size) t160 t162 t163 t164 t165 t166 _ A33.out).mono ?_); rintro e w34 ⟨rfl, hb⟩; refine ⟨_, rfl, ?_⟩; replace BK159 := bk1 BK159 hb; replace HB := hb1 HB hb; (try clear hb); have hcz35_0 : w34.cell? ⟨gb159, 0, none⟩ = some (.int .i64 0) := (blk_cell BK159.out 0).trans rfl; have hcz35_1 : w34.cell? ⟨gb159, 1, none⟩ = some (.int .u64 0) := (blk_cell BK159.out 1).trans rfl; have hcz35_2 : w34.cell? ⟨gb159, 2, none⟩ = some (.int .u64 0) := (blk_cell BK159.out 2).trans rfl; have hfz35_0 := blk_frozen BK159.out 0; have hfz35_1 := blk_frozen BK159.out 1; have hfz35_2 := blk_frozen BK159.out 2))
                  refine bodyPost_ret (results_ct rfl _ _ gb159 24 #[.int .i64 t163, .int .u64 t164, .int .u64 t165] (0, 0) _ rfl (by refine blk_put (cs := #[.int .i64 t163, .int .u64 t164, .int .u64 0]) ?_ 2 _ rfl; refine blk_put (cs := #[.int .i64 t163, .int .u64 0, .int .u64 0]) ?_ 1 _ rfl; refine blk_put (cs := #[.int .i64 0, .int .u64 0, .int .u64 0]) ?_ 0 _ rfl; exact BK159.out) Tryd.underlying24 rfl (by kernel_rfl)) rfl ?_
                  exact ⟨by rfl, by repeat (with_reducible first | exact HB.out | refine below_set ?_ GE159.out)⟩
                 ·rw [if_neg c32] at H
                  exact absurd H (by simp)
                ·rw [if_neg c31] at H
                 have c31b0 : ((bt x0_19 0) == 100) = false := beq_eq_false_iff_ne.mpr c31
                 have c31b1 : ((bt x0_19 0) != 100) = true := bne_iff_ne.mpr c31
                 have H' := Aside0.mk H
                 clear H
                 go_wp2
                 go_meet
                 case rel => exact ⟨_, (0), (0), (0), (0), (by rfl), H', ⟨by have := HJ2.out; have := HJ15.out; have := HJ19.out; omega⟩, ⟨by exact BK159.out⟩, ⟨by repeat (with_reducible exact HB.out)⟩⟩
            case rest =>
             clear HC27
             (try clear c23b0); (try clear c23b1); (try clear c25b0); (try clear c25b1); (try clear q26); (try clear hx26); (try clear qi26)
             obtain ⟨kq, x7_26, x160000_26, x160001_26, x160002_26, rfl, HA, HJ26, BK159, HB⟩ := hcut
             cases kq with
             | zero => exact absurd HA.out (by simp [bits_Read.j3])
             | succ kj26 =>
              have H := HA.out
              clear HA
              simp only [bits_Read.j3] at H
              by_cases c36 : x7_26 = 0
              ·rw [if_pos c36] at H
               have c36b0 : (x7_26 == 0) = true := beq_iff_eq.mpr c36
               have c36b1 : (x7_26 != 0) = false := bne_eq_false_iff_eq.mpr c36
               clear c36
               simp only [Option.some.injEq, Prod.mk.injEq] at H
               obtain ⟨rfl, rfl, rfl, rfl⟩ := H
               obtain ⟨hcz37_0, hcz37_1, hcz37_2⟩ := sq_cells3 (W := wc) (g := gb159) BK159.out; obtain ⟨hfz37_0, hfz37_1, hfz37_2⟩ := sq_frozen3 BK159.out
               go_wp2
               refine bodyPost_ret (results_ct rfl _ _ gb159 24 #[.int .i64 0, .int .u64 0, .int .u64 0] (0, 0) _ rfl (by refine blk_put (cs := #[.int .i64 0, .int .u64 0, .int .u64 x160002_26]) ?_ 2 _ rfl; refine blk_put (cs := #[.int .i64 0, .int .u64 x160001_26, .int .u64 x160002_26]) ?_ 1 _ rfl; refine blk_put (cs := #[.int .i64 x160000_26, .int .u64 x160001_26, .int .u64 x160002_26]) ?_ 0 _ rfl; exact BK159.out) Tryd.underlying24 rfl (by kernel_rfl)) rfl ?_
               exact ⟨by rfl, by repeat (with_reducible first | exact HB.out | refine below_set ?_ GE159.out)⟩
              ·rw [if_neg c36] at H
               have c36b0 : (x7_26 == 0) = false := beq_eq_false_iff_ne.mpr c36
               have c36b1 : (x7_26 != 0) = true := bne_iff_ne.mpr c36
               by_cases c38 : 1 ≤ (x0_19.size : Int)
               ·rw [if_pos c38] at H
                have c38b0 := eq_true c38
                have c38b1 : decide (1 ≤ (x0_19.size : Int)) = true := decide_eq_true c38
                clear c38
                replace H := Option.bind_eq_some_iff.mp H
                obtain ⟨⟨t167, t168, t169, t170⟩, A390, H⟩ := H
                replace H : (some (t167, t168, t169, t170)) = some (r1, r2, r3, r4) := H
                have A39 := Aside0.mk A390
                clear A390
                simp only [Option.some.injEq, Prod.mk.injEq] at H
                obtain ⟨rfl, rfl, rfl, rfl⟩ := H
                go_wp2_with (((with_reducible refine gate_callee (f := 52) rfl ?_); refine goesL_ (some 72) rfl rfl Tryd.func52 (by kernel_rfl) rfl #[.string (x0_19.extract 1 x0_19.size), .int .i64 t160, .int .i64 x7_26, .int .i64 t162] rfl (by (try simp only [List.map_toArray, List.map_cons, List.map_nil]); rfl) ?_; (with_reducible refine (bits_grouped.calls kj26 (x0_19.extract 1 x0_19.size) t160 x7_26 t162 t167 t168 t169 t170 _ A39.out).mono ?_); rintro e w40 ⟨rfl, hb⟩; refine ⟨_, rfl, ?_⟩; replace BK159 := bk1 BK159 hb; replace HB := hb1 HB hb; (try clear hb); have hcz41_0 : w40.cell? ⟨gb159, 0, none⟩ = some (.int .i64 x160000_26) := (blk_cell BK159.out 0).trans rfl; have hcz41_1 : w40.cell? ⟨gb159, 1, none⟩ = some (.int .u64 x160001_26) := (blk_cell BK159.out 1).trans rfl; have hcz41_2 : w40.cell? ⟨gb159, 2, none⟩ = some (.int .u64 x160002_26) := (blk_cell BK159.out 2).trans rfl; have hfz41_0 := blk_frozen BK159.out 0; have hfz41_1 := blk_frozen BK159.out 1; have hfz41_2 := blk_frozen BK159.out 2))
                refine bodyPost_ret (results_ct rfl _ _ gb159 24 #[.int .i64 t167, .int .u64 t168, .int .u64 t169] (0, 0) _ rfl (by refine blk_put (cs := #[.int .i64 t167, .int .u64 t168, .int .u64 x160002_26]) ?_ 2 _ rfl; refine blk_put (cs := #[.int .i64 t167, .int .u64 x160001_26, .int .u64 x160002_26]) ?_ 1 _ rfl; refine blk_put (cs := #[.int .i64 x160000_26, .int .u64 x160001_26, .int .u64 x160002_26]) ?_ 0 _ rfl; exact BK159.out) Tryd.underlying24 rfl (by kernel_rfl)) rfl ?_
                exact ⟨by rfl, by repeat (with_reducible first | exact HB.out | refine below_set ?_ GE159.out)⟩
               ·rw [if_neg c38] at H
                exact absurd H (by simp)
           ·rw [if_neg c25] at H
            exact absurd H (by simp)
     ·rw [if_neg c15] at H
      exact absurd H (by simp)
    ·rw [if_neg c14] at H
     exact absurd H (by simp)
end Go.Proofs.YtfigblfjogpojaaDoor.PBits
end
