/- Part 34 of the proof of BitsJoinedCardSaid: The law BitsJoined: for all arguments it returns true; each argument reads behind the call as it read before. Out of the plain theorem of YtfigblfjogpojaaGreatDoorPureBitsJoined and the printed contract. -/
import Derived.Test.YtfigblfjogpojaaGreatDoorQBitsJoined13
import Derived.Test.YtfigblfjogpojaaGreatDoorQBitsJoined15
import Derived.Test.YtfigblfjogpojaaGreatDoorQBitsJoined16
import Derived.Test.YtfigblfjogpojaaGreatDoorQBitsJoined25
section
namespace Go.Proofs.YtfigblfjogpojaaGreatDoor.PBits
open Go.RowKit Go.Proofs.YtfigblfjogpojaaGreatDoorW.PrintWords Go.Proofs.YtfigblfjogpojaaGreatDoorW.PrintLast Go.Proofs.YtfigblfjogpojaaGreatDoorW.PrintMore
attribute [local go_sem] max2_int min2_int max_two min_two max_three min_three max_four min_four
set_option linter.unusedVariables false
set_option linter.unusedSimpArgs false
theorem eqA24 (d : Nat) (w : World) (x0 y0 : Int) (x1 y1 : Int) (x2 y2 : Int) :
  (Op.equalIn (d + 2) 24 (.agg #[.int .i64 x0, .int .u64 x1, .int .u64 x2]) (.agg #[.int .i64 y0, .int .u64 y1, .int .u64 y2])).run Tryz.prog w = .ok (x0 == y0 && (x1 == y1 && (x2 == y2))) w := by
 refine eqA_of Tryz.underlying24 (by kernel_rfl) ?_
 refine eqf_cons (by rfl) (by go_simp; rfl) (by go_simp; rfl) (by go_simp) ?_
 refine eqf_cons (by rfl) (by go_simp; rfl) (by go_simp; rfl) (by go_simp) ?_
 exact eqf_last (by rfl) (by go_simp; rfl) (by go_simp; rfl) (by go_simp)
end Go.Proofs.YtfigblfjogpojaaGreatDoor.PBits
end
section
namespace Go.Proofs.YtfigblfjogpojaaGreatDoor.PBits
open Go.RowKit Go.Proofs.YtfigblfjogpojaaGreatDoorW.PrintWords Go.Proofs.YtfigblfjogpojaaGreatDoorW.PrintLast Go.Proofs.YtfigblfjogpojaaGreatDoorW.PrintMore
attribute [local go_sem] max2_int min2_int max_two min_two max_three min_three max_four min_four
set_option linter.unusedVariables false
set_option linter.unusedSimpArgs false
mutual
def bits_size.l0 : Nat → ByteArray → Int → Int → Option (Int × Int × Int)
 | 0, _, _, _ => none
 | k + 1, x0, x5, x6 => if x6 < (x0.size : Int) then (if 0 ≤ x6 then (if (bt x0 x6) ≥ 48 then (bits_size.j1 k x0 x5 x6 (decide ((bt x0 x6) ≤ 57))) else (bits_size.j1 k x0 x5 x6 false)) else (none)) else (bits_size.j1 k x0 x5 x6 false)
def bits_size.j1 : Nat → ByteArray → Int → Int → Bool → Option (Int × Int × Int)
 | 0, _, _, _, _ => none
 | k + 1, x0, x5, x6, x22 => if x22 = true then (if 0 ≤ x6 then (if x6 < (x0.size : Int) then (bits_size.l0 k x0 (mn (wrap64 ((wrap64 (10 * x5)) + (((bt x0 x6) - 48) % 256))) 1000) (wrap64 (x6 + 1))) else (none)) else (none)) else (if x6 = 0 then (bits_size.j2 k x5 x6 true) else (if 0 < (x0.size : Int) then (bits_size.j2 k x5 x6 ((bt x0 0) == 48)) else (none)))
def bits_size.j2 : Nat → Int → Int → Bool → Option (Int × Int × Int)
 | 0, _, _, _ => none
 | k + 1, x5, x6, x34 => if x34 = true then (some (0, 0, 10)) else (if x5 > 64 then (some (x5, x6, 2)) else (some (x5, x6, 0)))
end
def bits_size.f (k : Nat) (a0 : ByteArray) : Option (Int × Int × Int) := bits_size.l0 k a0 0 0
theorem bits_size.mono_l : ∀ k, (∀ y0 y1 y2, LeO (bits_size.l0 k y0 y1 y2) (bits_size.l0 (k + 1) y0 y1 y2)) ∧ (∀ y0 y1 y2 y3, LeO (bits_size.j1 k y0 y1 y2 y3) (bits_size.j1 (k + 1) y0 y1 y2 y3)) ∧ (∀ y0 y1 y2, LeO (bits_size.j2 k y0 y1 y2) (bits_size.j2 (k + 1) y0 y1 y2))
 | 0 => ⟨fun _ _ _ r h => by simp [bits_size.l0] at h, fun _ _ _ _ r h => by simp [bits_size.j1] at h, fun _ _ _ r h => by simp [bits_size.j2] at h⟩
 | k + 1 => by
  obtain ⟨ih0, ih1, ih2⟩ := bits_size.mono_l k
  refine ⟨?_, ?_, ?_⟩
  ·intro y0 y1 y2
   unfold bits_size.l0
   repeat' first | with_reducible exact ih0 _ _ _ | with_reducible exact ih1 _ _ _ _ | with_reducible exact ih2 _ _ _ | with_reducible exact LeO.refl _ | with_reducible exact LeO.none _ | with_reducible refine LeO.ite ?_ ?_ | with_reducible refine LeO.bind ?_ (fun _ => ?_)
  ·intro y0 y1 y2 y3
   unfold bits_size.j1
   repeat' first | with_reducible exact ih0 _ _ _ | with_reducible exact ih1 _ _ _ _ | with_reducible exact ih2 _ _ _ | with_reducible exact LeO.refl _ | with_reducible exact LeO.none _ | with_reducible refine LeO.ite ?_ ?_ | with_reducible refine LeO.bind ?_ (fun _ => ?_)
  ·intro y0 y1 y2
   unfold bits_size.j2
   repeat' first | with_reducible exact ih0 _ _ _ | with_reducible exact ih1 _ _ _ _ | with_reducible exact ih2 _ _ _ | with_reducible exact LeO.refl _ | with_reducible exact LeO.none _ | with_reducible refine LeO.ite ?_ ?_ | with_reducible refine LeO.bind ?_ (fun _ => ?_)
theorem bits_size.mono : ∀ a0 k, LeO (bits_size.f k a0) (bits_size.f (k + 1) a0) := by
 intro a0 k
 obtain ⟨ih0, ih1, ih2⟩ := bits_size.mono_l k
 unfold bits_size.f
 repeat' first | with_reducible exact ih0 _ _ _ | with_reducible exact ih1 _ _ _ _ | with_reducible exact ih2 _ _ _ | with_reducible exact LeO.refl _ | with_reducible exact LeO.none _ | with_reducible refine LeO.ite ?_ ?_ | with_reducible refine LeO.bind ?_ (fun _ => ?_)
set_option maxHeartbeats 8000000 in
set_option maxRecDepth 100000 in
theorem bits_size.calls (k : Nat) (a0 : ByteArray) (r1 : Int) (r2 : Int) (r3 : Int) (w : World) (h : bits_size.f k a0 = some (r1, r2, r3)) :
  Calls Tryz.prog 39 #[.string a0] w fun e w' => e = .returned (.tuple #[.int .i64 r1, .int .i64 r2, .int .i64 r3]) ∧ Below w.heap.size w w' := by
 have HB := Aside0.mk (Below.refl w.heap.size w)
 have H := h
 clear h
 unfold bits_size.f at H
 have H' := Aside0.mk H
 clear H
 go_enter Tryz.func39, Tryz.ntmps39
 go_wp2
 go_loopg [5, 6] k (fun kq v5 v6 w' => ∃ (x5_1 : Int) (x6_1 : Int), v5 = .int .i64 x5_1 ∧ v6 = .int .i64 x6_1 ∧ Aside0 (bits_size.l0 kq a0 x5_1 x6_1 = some (r1, r2, r3)) ∧ Aside0 (kq ≤ k) ∧ Aside0 (Below w.heap.size w w'))
 case atStart => exact ⟨(0), (0), (by rfl), (by rfl), H', ⟨Nat.le_refl _⟩, ⟨by repeat (with_reducible exact HB.out)⟩⟩
 case round =>
  clear H'
  obtain ⟨x5_1, x6_1, rfl, rfl, HA, HK1, HB⟩ := hrel
  cases gk with
  | zero => exact absurd HA.out (by simp [bits_size.l0])
  | succ k1 =>
   have H := HA.out
   clear HA
   simp only [bits_size.l0] at H
   have HC2 := Aside0.mk H
   clear H
   go_upto_region 2 with (fail)
   go_cut [22] (fun v22 wc => ∃ (kq : Nat) (x22_1 : Bool), v22 = .bool x22_1 ∧ Aside0 (bits_size.j1 kq a0 x5_1 x6_1 x22_1 = some (r1, r2, r3)) ∧ Aside0 (kq ≤ k1) ∧ Aside0 (Below w.heap.size w wc))
   case first =>
    have H := HC2.out
    clear HC2
    replace H := iD H; rcases H with ⟨c3b0, H⟩ | ⟨c3b0, H⟩
    ·(skip)
     replace H := iN H; obtain ⟨c4b0, H⟩ := H
     replace H := iD H; rcases H with ⟨c6b0, H⟩ | ⟨c6b0, H⟩
     ·replace c6b0 : decide (48 ≤ (bt a0 x6_1)) = true := c6b0
      have H' := Aside0.mk H
      clear H
      have p5 : 0 ≤ (x6_1 : Int) := of_decide_eq_true (by (with_reducible assumption))
      have q5 : x6_1 < (a0.size : Int) := of_decide_eq_true (by (with_reducible assumption))
      have hx5 := bt_at a0 x6_1
      replace p5 := eq_true p5
      replace q5 := eq_true q5
      have p7 : 0 ≤ (x6_1 : Int) := of_decide_eq_true (by (with_reducible assumption))
      have q7 : x6_1 < (a0.size : Int) := of_decide_eq_true (by (with_reducible assumption))
      have hx7 := bt_at a0 x6_1
      replace p7 := eq_true p7
      replace q7 := eq_true q7
      go_wp2
      go_meet
      case rel => exact ⟨_, (decide ((bt a0 x6_1) ≤ 57)), (by rfl), H', ⟨by have := HK1.out; omega⟩, ⟨by repeat (with_reducible exact HB.out)⟩⟩
     ·replace c6b0 : decide (48 ≤ (bt a0 x6_1)) = false := c6b0
      have H' := Aside0.mk H
      clear H
      have p5 : 0 ≤ (x6_1 : Int) := of_decide_eq_true (by (with_reducible assumption))
      have q5 : x6_1 < (a0.size : Int) := of_decide_eq_true (by (with_reducible assumption))
      have hx5 := bt_at a0 x6_1
      replace p5 := eq_true p5
      replace q5 := eq_true q5
      go_wp2
      go_meet
      case rel => exact ⟨_, (false), (by rfl), H', ⟨by have := HK1.out; omega⟩, ⟨by repeat (with_reducible exact HB.out)⟩⟩
    ·(skip)
     have H' := Aside0.mk H
     clear H
     go_wp2
     go_meet
     case rel => exact ⟨_, (false), (by rfl), H', ⟨by have := HK1.out; omega⟩, ⟨by repeat (with_reducible exact HB.out)⟩⟩
   case rest =>
    clear HC2
    obtain ⟨kq, x22_1, rfl, HA, HJ1, HB⟩ := hcut
    cases kq with
    | zero => exact absurd HA.out (by simp [bits_size.j1])
    | succ kj1 =>
     have H := HA.out
     clear HA
     simp only [bits_size.j1] at H
     replace H := iB H; rcases H with ⟨rfl, H⟩ | ⟨rfl, H⟩
     ·replace H := iN H; obtain ⟨c9b0, H⟩ := H
      replace H := iN H; obtain ⟨c10b0, H⟩ := H
      obtain ⟨ji12, hji12⟩ : ∃ j_ : Int, (mn (wrap64 ((wrap64 (10 * x5_1)) + (((bt a0 x6_1) - 48) % 256))) 1000) = j_ := ⟨_, rfl⟩
      replace H : (bits_size.l0 kj1 a0 ji12 (wrap64 (x6_1 + 1))) = some (r1, r2, r3) := by (rw [hji12] at H; exact H)
      have hji12_ : (if 1000 < (wrap64 ((wrap64 (10 * x5_1)) + (((bt a0 x6_1) - 48) % 256))) then 1000 else (wrap64 ((wrap64 (10 * x5_1)) + (((bt a0 x6_1) - 48) % 256)))) = ji12 := hji12
      have H' := Aside0.mk H
      clear H
      have p11 : 0 ≤ (x6_1 : Int) := of_decide_eq_true (by (with_reducible assumption))
      have q11 : x6_1 < (a0.size : Int) := of_decide_eq_true (by (with_reducible assumption))
      have hx11 := bt_at a0 x6_1
      replace p11 := eq_true p11
      replace q11 := eq_true q11
      go_wp2
      go_roundg kj1
      case measure => have := HK1.out; have := HJ1.out; omega
      case rel => exact ⟨(ji12), (wrap64 (x6_1 + 1)), (by rfl), (by rfl), H', ⟨by have := HK1.out; have := HJ1.out; omega⟩, ⟨by repeat (with_reducible exact HB.out)⟩⟩
     ·have HC13 := Aside0.mk H
      clear H
      go_upto_region 5 with (fail)
      go_cut [34] (fun v34 wc => ∃ (kq : Nat) (x34_12 : Bool), v34 = .bool x34_12 ∧ Aside0 (bits_size.j2 kq x5_1 x6_1 x34_12 = some (r1, r2, r3)) ∧ Aside0 (kq ≤ kj1) ∧ Aside0 (Below w.heap.size w wc))
      case first =>
       have H := HC13.out
       clear HC13
       replace H := iE H; rcases H with ⟨c14b0, c14b1, H⟩ | ⟨c14, c14b0, c14b1, H⟩
       ·(skip)
        have H' := Aside0.mk H
        clear H
        go_wp2
        go_meet
        case rel => exact ⟨_, (true), (by rfl), H', ⟨by have := HK1.out; have := HJ1.out; omega⟩, ⟨by repeat (with_reducible exact HB.out)⟩⟩
       ·(skip)
        by_cases c15 : 0 < (a0.size : Int)
        ·rw [if_pos c15] at H
         have c15b0 : decide (0 < (a0.size : Int)) = true := decide_eq_true c15
         have c15b1 : decide (0 < a0.size) = true := decide_eq_true (by omega)
         clear c15
         have H' := Aside0.mk H
         clear H
         have p16 : 0 ≤ (0 : Int) := (by omega)
         have q16 : 0 < a0.size := (by have : (0 : Int) < (a0.size : Int) := of_decide_eq_true (by (with_reducible assumption)); omega)
         have hx16 : ∀ h : 0 < a0.size, ((a0[0]'h).toNat : Int) = bt a0 0 := bt_at a0 0
         clear p16
         have qi16 : (0 < (a0.size : Int)) = True := eq_true (of_decide_eq_true (by (with_reducible assumption)))
         replace q16 := eq_true q16
         go_wp2
         go_meet
         case rel => exact ⟨_, ((bt a0 0) == 48), (by rfl), H', ⟨by have := HK1.out; have := HJ1.out; omega⟩, ⟨by repeat (with_reducible exact HB.out)⟩⟩
        ·rw [if_neg c15] at H
         exact absurd H (by simp)
      case rest =>
       clear HC13
       obtain ⟨kq, x34_12, rfl, HA, HJ12, HB⟩ := hcut
       cases kq with
       | zero => exact absurd HA.out (by simp [bits_size.j2])
       | succ kj12 =>
        have H := HA.out
        clear HA
        simp only [bits_size.j2] at H
        replace H := iB H; rcases H with ⟨rfl, H⟩ | ⟨rfl, H⟩
        ·replace H := s3 H; obtain ⟨rfl, rfl, rfl⟩ := H
         go_wp2
         go_ret3
         exact ⟨by rfl, by repeat (with_reducible exact HB.out)⟩
        ·replace H := iD H; rcases H with ⟨c18b0, H⟩ | ⟨c18b0, H⟩
         ·replace c18b0 : decide (64 < x5_1) = true := c18b0
          replace H := s3 H; obtain ⟨rfl, rfl, rfl⟩ := H
          go_wp2
          go_ret3
          exact ⟨by rfl, by repeat (with_reducible exact HB.out)⟩
         ·replace c18b0 : decide (64 < x5_1) = false := c18b0
          replace H := s3 H; obtain ⟨rfl, rfl, rfl⟩ := H
          go_wp2
          go_ret3
          exact ⟨by rfl, by repeat (with_reducible exact HB.out)⟩
end Go.Proofs.YtfigblfjogpojaaGreatDoor.PBits
end
section
namespace Go.Proofs.YtfigblfjogpojaaGreatDoor.PBits
open Go.RowKit Go.Proofs.YtfigblfjogpojaaGreatDoorW.PrintWords Go.Proofs.YtfigblfjogpojaaGreatDoorW.PrintLast Go.Proofs.YtfigblfjogpojaaGreatDoorW.PrintMore
attribute [local go_sem] max2_int min2_int max_two min_two max_three min_three max_four min_four
set_option linter.unusedVariables false
set_option linter.unusedSimpArgs false
def bits_Of.f (a0 : Int) (a1 : Int) : Option (Int × Int × Int) := if a0 < 1 then (some (0, 0, 0)) else (if a0 > 64 then (some (0, 0, 0)) else ((bits_mask.f a0).bind fun t398 => (some (a0, Go.bits .and .u64 a1 t398, 0))))
set_option maxHeartbeats 8000000 in
set_option maxRecDepth 100000 in
theorem bits_Of.calls (a0 : Int) (a1 : Int) (r1 : Int) (r2 : Int) (r3 : Int) (w : World) (h : bits_Of.f a0 a1 = some (r1, r2, r3)) :
  Calls Tryz.prog 78 #[.int .i64 a0, .int .u64 a1] w fun e w' => e = .returned (.agg #[.int .i64 r1, .int .u64 r2, .int .u64 r3]) ∧ Below w.heap.size w w' := by
 have hu24 := Tryz.underlying24
 have HB := Aside0.mk (Below.refl w.heap.size w)
 have H := h
 clear h
 unfold bits_Of.f at H
 replace H := iD H; rcases H with ⟨c3b0, H⟩ | ⟨c3b0, H⟩
 ·replace H := s3 H; obtain ⟨rfl, rfl, rfl⟩ := H
  go_enter Tryz.func78, Tryz.ntmps78
  go_wp2_with ((refine boxA HB 4 #[.int .i64 0, .int .u64 0, .int .u64 0] 24 ?_; clear HB; intro gb397 w4 BK397 GE397 hg hb HB; clear hb hg; obtain ⟨hcz5_0, hcz5_1, hcz5_2, hfz5_0, hfz5_1, hfz5_2⟩ := cf3 BK397))
  refine retA gb397 24 #[.int .i64 0, .int .u64 0, .int .u64 0] (put3 BK397) Tryz.underlying24 ?_
  exact ⟨by rfl, by repeat (with_reducible first | exact HB.out | refine below_set ?_ GE397.out)⟩
 ·replace H := iD H; rcases H with ⟨c6b0, H⟩ | ⟨c6b0, H⟩
  ·replace c6b0 : decide (64 < a0) = true := c6b0
   replace H := s3 H; obtain ⟨rfl, rfl, rfl⟩ := H
   go_enter Tryz.func78, Tryz.ntmps78
   go_wp2_with ((refine boxA HB 4 #[.int .i64 0, .int .u64 0, .int .u64 0] 24 ?_; clear HB; intro gb397 w7 BK397 GE397 hg hb HB; clear hb hg; obtain ⟨hcz8_0, hcz8_1, hcz8_2, hfz8_0, hfz8_1, hfz8_2⟩ := cf3 BK397))
   refine retA gb397 24 #[.int .i64 0, .int .u64 0, .int .u64 0] (put3 BK397) Tryz.underlying24 ?_
   exact ⟨by rfl, by repeat (with_reducible first | exact HB.out | refine below_set ?_ GE397.out)⟩
  ·replace c6b0 : decide (64 < a0) = false := c6b0
   replace H := bN H; obtain ⟨t398, A9, H⟩ := H
   replace H := s3 H; obtain ⟨rfl, rfl, rfl⟩ := H
   go_enter Tryz.func78, Tryz.ntmps78
   go_wp2_with (first | (refine boxA HB 4 #[.int .i64 0, .int .u64 0, .int .u64 0] 24 ?_; clear HB; intro gb397 w10 BK397 GE397 hg hb HB; clear hb hg) | (refine callA (some 15) Tryz.func17 #[.int .i64 a0] ?_; (with_reducible refine (bits_mask.calls a0 t398 _ A9.out).mono ?_); rintro e w' ⟨rfl, ⟨nd, rfl⟩⟩; refine ⟨_, rfl, ?_⟩; (try (rw [drewN_self w10]; generalize hq_ : World.drewN w10 _ = w10; have n0_ : Aside0 (w10.heap[gb397]? = some (.cells #[.int .i64 0, .int .u64 0, .int .u64 0] 24 (0, 0))) := ⟨by rw [← hq_]; exact (by (with_reducible repeat (refine blk_drewN ?_ _)); exact BK397.out)⟩; have n1_ : Aside0 (Below w.heap.size w w10) := ⟨by rw [← hq_]; exact (by repeat (with_reducible first | exact HB.out | apply pw_below_drewN))⟩; clear BK397 HB hq_; have BK397 := n0_; have HB := n1_; clear n0_ n1_)); obtain ⟨hcz11_0, hcz11_1, hcz11_2, hfz11_0, hfz11_1, hfz11_2⟩ := cf3 BK397))
   refine retA gb397 24 #[.int .i64 a0, .int .u64 (Go.bits .and .u64 a1 t398), .int .u64 0] (put3 BK397) Tryz.underlying24 ?_
   exact ⟨by rfl, by repeat (with_reducible first | exact HB.out | refine below_set ?_ GE397.out)⟩
end Go.Proofs.YtfigblfjogpojaaGreatDoor.PBits
end
section
namespace Go.Proofs.YtfigblfjogpojaaGreatDoor.PBits
open Go.RowKit Go.Proofs.YtfigblfjogpojaaGreatDoorW.PrintWords Go.Proofs.YtfigblfjogpojaaGreatDoorW.PrintLast Go.Proofs.YtfigblfjogpojaaGreatDoorW.PrintMore
attribute [local go_sem] max2_int min2_int max_two min_two max_three min_three max_four min_four
set_option linter.unusedVariables false
set_option linter.unusedSimpArgs false
mutual
def bits_decimal.j0 : Nat → ByteArray → Int → Int → Bool → Option (Int × Int × Int × Int)
 | 0, _, _, _, _ => none
 | k + 1, x0, x1, x2, x17 => if x17 = true then (if x2 = 0 then (if 0 < (x0.size : Int) then ((bits_All.f k x1 (bt x0 0)).bind fun bt400 => (some (bt400.1, bt400.2.1, bt400.2.2, 0))) else (none)) else (some (0, 0, 0, x2))) else (bits_decimal.l0 k x0 x1 x2 0 false (x0.size : Int) 0)
def bits_decimal.l0 : Nat → ByteArray → Int → Int → Int → Bool → Int → Int → Option (Int × Int × Int × Int)
 | 0, _, _, _, _, _, _, _ => none
 | k + 1, x0, x1, x2, x8, x9, x27, x28 => if x28 < x27 then (if 0 ≤ x28 then (if x28 < (x0.size : Int) then (if (bt x0 x28) < 48 then (bits_decimal.j2 k x0 x1 x2 x8 x9 x28 x27 x28 true) else (bits_decimal.j2 k x0 x1 x2 x8 x9 x28 x27 x28 (decide ((bt x0 x28) > 57)))) else (none)) else (none)) else (if x2 = 0 then (if x9 = true then (some (0, 0, 0, 3)) else ((bits_mask.f x1).bind fun t403 => (if (Go.bits .andNot .u64 x8 t403) = 0 then ((bits_Of.f x1 x8).bind fun bt404 => (some (bt404.1, bt404.2.1, bt404.2.2, 0))) else (some (0, 0, 0, 3))))) else (some (0, 0, 0, x2)))
def bits_decimal.j2 : Nat → ByteArray → Int → Int → Int → Bool → Int → Int → Int → Bool → Option (Int × Int × Int × Int)
 | 0, _, _, _, _, _, _, _, _, _ => none
 | k + 1, x0, x1, x2, x8, x9, x10, x27, x28, x40 => if x40 = true then (some (0, 0, 0, 10)) else (if 0 ≤ x10 then (if x10 < (x0.size : Int) then (if x8 > ((18446744073709551615 - (((bt x0 x10) - 48) % 256)) / 10) then (bits_decimal.l0 k x0 x1 x2 (IntKind.u64.wrap ((IntKind.u64.wrap (10 * x8)) + (((bt x0 x10) - 48) % 256))) true x27 (wrap64 (x28 + 1))) else (bits_decimal.l0 k x0 x1 x2 (IntKind.u64.wrap ((IntKind.u64.wrap (10 * x8)) + (((bt x0 x10) - 48) % 256))) x9 x27 (wrap64 (x28 + 1)))) else (none)) else (none))
end
def bits_decimal.f (k : Nat) (a0 : ByteArray) (a1 : Int) (a2 : Int) : Option (Int × Int × Int × Int) := if a0.toList = ([120] : List UInt8) then (bits_decimal.j0 k a0 a1 a2 true) else (bits_decimal.j0 k a0 a1 a2 (a0.toList == ([122] : List UInt8)))
theorem bits_decimal.mono_l : ∀ k, (∀ y0 y1 y2 y3, LeO (bits_decimal.j0 k y0 y1 y2 y3) (bits_decimal.j0 (k + 1) y0 y1 y2 y3)) ∧ (∀ y0 y1 y2 y3 y4 y5 y6, LeO (bits_decimal.l0 k y0 y1 y2 y3 y4 y5 y6) (bits_decimal.l0 (k + 1) y0 y1 y2 y3 y4 y5 y6)) ∧ (∀ y0 y1 y2 y3 y4 y5 y6 y7 y8, LeO (bits_decimal.j2 k y0 y1 y2 y3 y4 y5 y6 y7 y8) (bits_decimal.j2 (k + 1) y0 y1 y2 y3 y4 y5 y6 y7 y8))
 | 0 => ⟨fun _ _ _ _ r h => by simp [bits_decimal.j0] at h, fun _ _ _ _ _ _ _ r h => by simp [bits_decimal.l0] at h, fun _ _ _ _ _ _ _ _ _ r h => by simp [bits_decimal.j2] at h⟩
 | k + 1 => by
  obtain ⟨ih0, ih1, ih2⟩ := bits_decimal.mono_l k
  refine ⟨?_, ?_, ?_⟩
  ·intro y0 y1 y2 y3
   unfold bits_decimal.j0
   repeat' first | with_reducible exact ih0 _ _ _ _ | with_reducible exact ih1 _ _ _ _ _ _ _ | with_reducible exact ih2 _ _ _ _ _ _ _ _ _ | with_reducible exact bits_All.mono _ _ _ | with_reducible exact LeO.refl _ | with_reducible exact LeO.none _ | with_reducible refine LeO.ite ?_ ?_ | with_reducible refine LeO.bind ?_ (fun _ => ?_)
  ·intro y0 y1 y2 y3 y4 y5 y6
   unfold bits_decimal.l0
   repeat' first | with_reducible exact ih0 _ _ _ _ | with_reducible exact ih1 _ _ _ _ _ _ _ | with_reducible exact ih2 _ _ _ _ _ _ _ _ _ | with_reducible exact bits_All.mono _ _ _ | with_reducible exact LeO.refl _ | with_reducible exact LeO.none _ | with_reducible refine LeO.ite ?_ ?_ | with_reducible refine LeO.bind ?_ (fun _ => ?_)
  ·intro y0 y1 y2 y3 y4 y5 y6 y7 y8
   unfold bits_decimal.j2
   repeat' first | with_reducible exact ih0 _ _ _ _ | with_reducible exact ih1 _ _ _ _ _ _ _ | with_reducible exact ih2 _ _ _ _ _ _ _ _ _ | with_reducible exact bits_All.mono _ _ _ | with_reducible exact LeO.refl _ | with_reducible exact LeO.none _ | with_reducible refine LeO.ite ?_ ?_ | with_reducible refine LeO.bind ?_ (fun _ => ?_)
theorem bits_decimal.mono : ∀ a0 a1 a2 k, LeO (bits_decimal.f k a0 a1 a2) (bits_decimal.f (k + 1) a0 a1 a2) := by
 intro a0 a1 a2 k
 obtain ⟨ih0, ih1, ih2⟩ := bits_decimal.mono_l k
 unfold bits_decimal.f
 repeat' first | with_reducible exact ih0 _ _ _ _ | with_reducible exact ih1 _ _ _ _ _ _ _ | with_reducible exact ih2 _ _ _ _ _ _ _ _ _ | with_reducible exact bits_All.mono _ _ _ | with_reducible exact LeO.refl _ | with_reducible exact LeO.none _ | with_reducible refine LeO.ite ?_ ?_ | with_reducible refine LeO.bind ?_ (fun _ => ?_)
set_option maxHeartbeats 8000000 in
set_option maxRecDepth 100000 in
theorem bits_decimal.calls (k : Nat) (a0 : ByteArray) (a1 : Int) (a2 : Int) (r1 : Int) (r2 : Int) (r3 : Int) (r4 : Int) (w : World) (h : bits_decimal.f k a0 a1 a2 = some (r1, r2, r3, r4)) :
  Calls Tryz.prog 40 #[.string a0, .int .i64 a1, .int .i64 a2] w fun e w' => e = .returned (.tuple #[.agg #[.int .i64 r1, .int .u64 r2, .int .u64 r3], .int .i64 r4]) ∧ Below w.heap.size w w' := by
 have hu24 := Tryz.underlying24
 have HB := Aside0.mk (Below.refl w.heap.size w)
 have H := h
 clear h
 unfold bits_decimal.f at H
 have HC4 := Aside0.mk H
 clear H
 go_enter Tryz.func40, Tryz.ntmps40
 go_upto_region 1 with ((refine boxA HB 6 #[.int .i64 0, .int .u64 0, .int .u64 0] 24 ?_; clear HB; intro gb399 w5 BK399 GE399 hg hb HB; clear hb hg))
 go_cut [17] (fun v17 wc => ∃ (kq : Nat) (x17_3 : Bool), v17 = .bool x17_3 ∧ Aside0 (bits_decimal.j0 kq a0 a1 a2 x17_3 = some (r1, r2, r3, r4)) ∧ Aside0 (kq ≤ k) ∧ Aside0 (wc.heap[gb399]? = some (.cells #[.int .i64 0, .int .u64 0, .int .u64 0] 24 (0, 0))) ∧ Aside0 (Below w.heap.size w wc))
 case first =>
  have H := HC4.out
  clear HC4
  replace H := iE H; rcases H with ⟨c6b0, c6b1, H⟩ | ⟨c6, c6b0, c6b1, H⟩
  ·(skip)
   have H' := Aside0.mk H
   clear H
   go_wp2
   go_meet
   case rel => exact ⟨_, (true), (by rfl), H', ⟨by omega⟩, ⟨by exact BK399.out⟩, ⟨by repeat (with_reducible exact HB.out)⟩⟩
  ·(skip)
   have H' := Aside0.mk H
   clear H
   go_wp2
   go_meet
   case rel => exact ⟨_, (a0.toList == ([122] : List UInt8)), (by rfl), H', ⟨by omega⟩, ⟨by exact BK399.out⟩, ⟨by repeat (with_reducible exact HB.out)⟩⟩
 case rest =>
  clear HC4
  obtain ⟨kq, x17_3, rfl, HA, HJ3, BK399, HB⟩ := hcut
  cases kq with
  | zero => exact absurd HA.out (by simp [bits_decimal.j0])
  | succ kj3 =>
   have H := HA.out
   clear HA
   simp only [bits_decimal.j0] at H
   replace H := iB H; rcases H with ⟨rfl, H⟩ | ⟨rfl, H⟩
   ·replace H := iE H; rcases H with ⟨c8b0, c8b1, H⟩ | ⟨c8, c8b0, c8b1, H⟩
    ·by_cases c9 : 0 < (a0.size : Int)
     ·rw [if_pos c9] at H
      have c9b0 : decide (0 < (a0.size : Int)) = true := decide_eq_true c9
      have c9b1 : decide (0 < a0.size) = true := decide_eq_true (by omega)
      clear c9
      replace H := bN H; obtain ⟨⟨t400, t401, t402⟩, A11, H⟩ := H; dsimp only at H
      replace H := s4 H; obtain ⟨rfl, rfl, rfl, rfl⟩ := H
      have p10 : 0 ≤ (0 : Int) := (by omega)
      have q10 : 0 < a0.size := (by have : (0 : Int) < (a0.size : Int) := of_decide_eq_true (by (with_reducible assumption)); omega)
      have hx10 : ∀ h : 0 < a0.size, ((a0[0]'h).toNat : Int) = bt a0 0 := bt_at a0 0
      clear p10
      have qi10 : (0 < (a0.size : Int)) = True := eq_true (of_decide_eq_true (by (with_reducible assumption)))
      replace q10 := eq_true q10
      go_wp2_with ((refine callA (some 25) Tryz.func77 #[.int .i64 a1, .int .u8 (bt a0 0)] ?_; (with_reducible refine (bits_All.calls kj3 a1 (bt a0 0) t400 t401 t402 _ A11.out).mono ?_); rintro e w12 ⟨rfl, hb⟩; refine ⟨_, rfl, ?_⟩; replace BK399 := bk1 BK399 hb; replace HB := hb1 HB hb; (try clear hb); obtain ⟨hcz13_0, hcz13_1, hcz13_2, hfz13_0, hfz13_1, hfz13_2⟩ := cf3 BK399))
      refine bodyPost_ret (results_ct rfl _ _ gb399 24 #[.int .i64 t400, .int .u64 t401, .int .u64 t402] (0, 0) _ rfl (by refine blk_put (cs := #[.int .i64 t400, .int .u64 t401, .int .u64 0]) ?_ 2 _ rfl; refine blk_put (cs := #[.int .i64 t400, .int .u64 0, .int .u64 0]) ?_ 1 _ rfl; refine blk_put (cs := #[.int .i64 0, .int .u64 0, .int .u64 0]) ?_ 0 _ rfl; exact BK399.out) Tryz.underlying24 rfl (by kernel_rfl)) rfl ?_
      exact ⟨by rfl, by repeat (with_reducible first | exact HB.out | refine below_set ?_ GE399.out)⟩
     ·rw [if_neg c9] at H
      exact absurd H (by simp)
    ·replace H := s4 H; obtain ⟨rfl, rfl, rfl, rfl⟩ := H
     obtain ⟨hcz14_0, hcz14_1, hcz14_2, hfz14_0, hfz14_1, hfz14_2⟩ := cf3 BK399
     go_wp2
     refine bodyPost_ret (results_ct rfl _ _ gb399 24 #[.int .i64 0, .int .u64 0, .int .u64 0] (0, 0) _ rfl (by refine blk_put (cs := #[.int .i64 0, .int .u64 0, .int .u64 0]) ?_ 2 _ rfl; refine blk_put (cs := #[.int .i64 0, .int .u64 0, .int .u64 0]) ?_ 1 _ rfl; refine blk_put (cs := #[.int .i64 0, .int .u64 0, .int .u64 0]) ?_ 0 _ rfl; exact BK399.out) Tryz.underlying24 rfl (by kernel_rfl)) rfl ?_
     exact ⟨by rfl, by repeat (with_reducible first | exact HB.out | refine below_set ?_ GE399.out)⟩
   ·have H' := Aside0.mk H
    clear H
    go_wp2
    go_loopg [8, 9, 28] kj3 (fun kq v8 v9 v28 w' => ∃ (x8_2 : Int) (x9_2 : Bool) (x28_2 : Int) (x400000_2 : Int) (x400001_2 : Int) (x400002_2 : Int), v8 = .int .u64 x8_2 ∧ v9 = .bool x9_2 ∧ v28 = .int .i64 x28_2 ∧ Aside0 (bits_decimal.l0 kq a0 a1 a2 x8_2 x9_2 (a0.size : Int) x28_2 = some (r1, r2, r3, r4)) ∧ Aside0 (kq ≤ kj3) ∧ Aside0 (w'.heap[gb399]? = some (.cells #[.int .i64 x400000_2, .int .u64 x400001_2, .int .u64 x400002_2] 24 (0, 0))) ∧ Aside0 (Below w.heap.size w w'))
    case atStart => exact ⟨(0), (false), (0), (0), (0), (0), (by rfl), (by rfl), (by rfl), H', ⟨Nat.le_refl _⟩, ⟨by exact BK399.out⟩, ⟨by repeat (with_reducible exact HB.out)⟩⟩
    case round =>
     clear H'
     obtain ⟨x8_2, x9_2, x28_2, x400000_2, x400001_2, x400002_2, rfl, rfl, rfl, HA, HK2, BK399, HB⟩ := hrel
     cases gk with
     | zero => exact absurd HA.out (by simp [bits_decimal.l0])
     | succ k2 =>
      have H := HA.out
      clear HA
      simp only [bits_decimal.l0] at H
      replace H := iD H; rcases H with ⟨c15b0, H⟩ | ⟨c15b0, H⟩
      ·have HC16 := Aside0.mk H
       clear H
       go_upto_region 10 with (fail)
       go_cut [40] (fun v40 wc => ∃ (kq : Nat) (x40_15 : Bool), v40 = .bool x40_15 ∧ Aside0 (bits_decimal.j2 kq a0 a1 a2 x8_2 x9_2 x28_2 (a0.size : Int) x28_2 x40_15 = some (r1, r2, r3, r4)) ∧ Aside0 (kq ≤ k2) ∧ Aside0 (wc.heap[gb399]? = some (.cells #[.int .i64 x400000_2, .int .u64 x400001_2, .int .u64 x400002_2] 24 (0, 0))) ∧ Aside0 (Below w.heap.size w wc))
       case first =>
        have H := HC16.out
        clear HC16
        replace H := iN H; obtain ⟨c17b0, H⟩ := H
        (skip)
        replace H := iN H; obtain ⟨c18b0, H⟩ := H
        replace H := iD H; rcases H with ⟨c20b0, H⟩ | ⟨c20b0, H⟩
        ·have H' := Aside0.mk H
         clear H
         have p19 : 0 ≤ (x28_2 : Int) := of_decide_eq_true (by (with_reducible assumption))
         have q19 : x28_2 < (a0.size : Int) := of_decide_eq_true (by (with_reducible assumption))
         have hx19 := bt_at a0 x28_2
         replace p19 := eq_true p19
         replace q19 := eq_true q19
         go_wp2
         go_meet
         case rel => exact ⟨_, (true), (by rfl), H', ⟨by have := HJ3.out; have := HK2.out; omega⟩, ⟨by exact BK399.out⟩, ⟨by repeat (with_reducible exact HB.out)⟩⟩
        ·have H' := Aside0.mk H
         clear H
         have p19 : 0 ≤ (x28_2 : Int) := of_decide_eq_true (by (with_reducible assumption))
         have q19 : x28_2 < (a0.size : Int) := of_decide_eq_true (by (with_reducible assumption))
         have hx19 := bt_at a0 x28_2
         replace p19 := eq_true p19
         replace q19 := eq_true q19
         have p21 : 0 ≤ (x28_2 : Int) := of_decide_eq_true (by (with_reducible assumption))
         have q21 : x28_2 < (a0.size : Int) := of_decide_eq_true (by (with_reducible assumption))
         have hx21 := bt_at a0 x28_2
         replace p21 := eq_true p21
         replace q21 := eq_true q21
         go_wp2
         go_meet
         case rel => exact ⟨_, (decide ((bt a0 x28_2) > 57)), (by rfl), H', ⟨by have := HJ3.out; have := HK2.out; omega⟩, ⟨by exact BK399.out⟩, ⟨by repeat (with_reducible exact HB.out)⟩⟩
       case rest =>
        clear HC16
        (try clear c15b0)
        obtain ⟨kq, x40_15, rfl, HA, HJ15, BK399, HB⟩ := hcut
        cases kq with
        | zero => exact absurd HA.out (by simp [bits_decimal.j2])
        | succ kj15 =>
         have H := HA.out
         clear HA
         simp only [bits_decimal.j2] at H
         replace H := iB H; rcases H with ⟨rfl, H⟩ | ⟨rfl, H⟩
         ·replace H := s4 H; obtain ⟨rfl, rfl, rfl, rfl⟩ := H
          obtain ⟨hcz23_0, hcz23_1, hcz23_2, hfz23_0, hfz23_1, hfz23_2⟩ := cf3 BK399
          go_wp2
          refine bodyPost_ret (results_ct rfl _ _ gb399 24 #[.int .i64 0, .int .u64 0, .int .u64 0] (0, 0) _ rfl (by refine blk_put (cs := #[.int .i64 0, .int .u64 0, .int .u64 x400002_2]) ?_ 2 _ rfl; refine blk_put (cs := #[.int .i64 0, .int .u64 x400001_2, .int .u64 x400002_2]) ?_ 1 _ rfl; refine blk_put (cs := #[.int .i64 x400000_2, .int .u64 x400001_2, .int .u64 x400002_2]) ?_ 0 _ rfl; exact BK399.out) Tryz.underlying24 rfl (by kernel_rfl)) rfl ?_
          exact ⟨by rfl, by repeat (with_reducible first | exact HB.out | refine below_set ?_ GE399.out)⟩
         ·replace H := iN H; obtain ⟨c24b0, H⟩ := H
          replace H := iN H; obtain ⟨c25b0, H⟩ := H
          replace H := iD H; rcases H with ⟨c27b0, H⟩ | ⟨c27b0, H⟩
          ·replace c27b0 : decide (((18446744073709551615 - (((bt a0 x28_2) - 48) % 256)) / 10) < x8_2) = true := c27b0
           have H' := Aside0.mk H
           clear H
           have p26 : 0 ≤ (x28_2 : Int) := of_decide_eq_true (by (with_reducible assumption))
           have q26 : x28_2 < (a0.size : Int) := of_decide_eq_true (by (with_reducible assumption))
           have hx26 := bt_at a0 x28_2
           replace p26 := eq_true p26
           replace q26 := eq_true q26
           go_wp2
           go_roundg kj15
           case measure => have := HJ3.out; have := HK2.out; have := HJ15.out; omega
           case rel => exact ⟨(IntKind.u64.wrap ((IntKind.u64.wrap (10 * x8_2)) + (((bt a0 x28_2) - 48) % 256))), (true), (wrap64 (x28_2 + 1)), (x400000_2), (x400001_2), (x400002_2), (by rfl), (by rfl), (by rfl), H', ⟨by have := HJ3.out; have := HK2.out; have := HJ15.out; omega⟩, ⟨by exact BK399.out⟩, ⟨by repeat (with_reducible exact HB.out)⟩⟩
          ·replace c27b0 : decide (((18446744073709551615 - (((bt a0 x28_2) - 48) % 256)) / 10) < x8_2) = false := c27b0
           have H' := Aside0.mk H
           clear H
           have p26 : 0 ≤ (x28_2 : Int) := of_decide_eq_true (by (with_reducible assumption))
           have q26 : x28_2 < (a0.size : Int) := of_decide_eq_true (by (with_reducible assumption))
           have hx26 := bt_at a0 x28_2
           replace p26 := eq_true p26
           replace q26 := eq_true q26
           go_wp2
           go_roundg kj15
           case measure => have := HJ3.out; have := HK2.out; have := HJ15.out; omega
           case rel => exact ⟨(IntKind.u64.wrap ((IntKind.u64.wrap (10 * x8_2)) + (((bt a0 x28_2) - 48) % 256))), (x9_2), (wrap64 (x28_2 + 1)), (x400000_2), (x400001_2), (x400002_2), (by rfl), (by rfl), (by rfl), H', ⟨by have := HJ3.out; have := HK2.out; have := HJ15.out; omega⟩, ⟨by exact BK399.out⟩, ⟨by repeat (with_reducible exact HB.out)⟩⟩
      ·replace H := iE H; rcases H with ⟨c28b0, c28b1, H⟩ | ⟨c28, c28b0, c28b1, H⟩
       ·replace H := iB H; rcases H with ⟨rfl, H⟩ | ⟨rfl, H⟩
        ·replace H := s4 H; obtain ⟨rfl, rfl, rfl, rfl⟩ := H
         obtain ⟨hcz30_0, hcz30_1, hcz30_2, hfz30_0, hfz30_1, hfz30_2⟩ := cf3 BK399
         go_wp2
         refine bodyPost_ret (results_ct rfl _ _ gb399 24 #[.int .i64 0, .int .u64 0, .int .u64 0] (0, 0) _ rfl (by refine blk_put (cs := #[.int .i64 0, .int .u64 0, .int .u64 x400002_2]) ?_ 2 _ rfl; refine blk_put (cs := #[.int .i64 0, .int .u64 x400001_2, .int .u64 x400002_2]) ?_ 1 _ rfl; refine blk_put (cs := #[.int .i64 x400000_2, .int .u64 x400001_2, .int .u64 x400002_2]) ?_ 0 _ rfl; exact BK399.out) Tryz.underlying24 rfl (by kernel_rfl)) rfl ?_
         exact ⟨by rfl, by repeat (with_reducible first | exact HB.out | refine below_set ?_ GE399.out)⟩
        ·replace H := bN H; obtain ⟨t403, A31, H⟩ := H
         replace H := iE H; rcases H with ⟨c32b0, c32b1, H⟩ | ⟨c32, c32b0, c32b1, H⟩
         ·replace H := bN H; obtain ⟨⟨t404, t405, t406⟩, A33, H⟩ := H; dsimp only at H
          replace H := s4 H; obtain ⟨rfl, rfl, rfl, rfl⟩ := H
          go_wp2_with (first | (go_at_call 17; (with_reducible refine (bits_mask.calls a1 t403 _ A31.out).mono ?_); rintro e w' ⟨rfl, ⟨nd, rfl⟩⟩; (try (rw [drewN_self wr]; generalize hq_ : World.drewN wr _ = wr; have n0_ : Aside0 (wr.heap[gb399]? = some (.cells #[.int .i64 x400000_2, .int .u64 x400001_2, .int .u64 x400002_2] 24 (0, 0))) := ⟨by rw [← hq_]; exact (by (with_reducible repeat (refine blk_drewN ?_ _)); exact BK399.out)⟩; have n1_ : Aside0 (Below w.heap.size w wr) := ⟨by rw [← hq_]; exact (by repeat (with_reducible first | exact HB.out | apply pw_below_drewN))⟩; clear BK399 HB hq_; have BK399 := n0_; have HB := n1_; clear n0_ n1_))) | (refine callA (some 74) Tryz.func78 #[.int .i64 a1, .int .u64 x8_2] ?_; (with_reducible refine (bits_Of.calls a1 x8_2 t404 t405 t406 _ A33.out).mono ?_); rintro e w34 ⟨rfl, hb⟩; refine ⟨_, rfl, ?_⟩; replace BK399 := bk1 BK399 hb; replace HB := hb1 HB hb; (try clear hb); obtain ⟨hcz35_0, hcz35_1, hcz35_2, hfz35_0, hfz35_1, hfz35_2⟩ := cf3 BK399))
          refine bodyPost_ret (results_ct rfl _ _ gb399 24 #[.int .i64 t404, .int .u64 t405, .int .u64 t406] (0, 0) _ rfl (by refine blk_put (cs := #[.int .i64 t404, .int .u64 t405, .int .u64 x400002_2]) ?_ 2 _ rfl; refine blk_put (cs := #[.int .i64 t404, .int .u64 x400001_2, .int .u64 x400002_2]) ?_ 1 _ rfl; refine blk_put (cs := #[.int .i64 x400000_2, .int .u64 x400001_2, .int .u64 x400002_2]) ?_ 0 _ rfl; exact BK399.out) Tryz.underlying24 rfl (by kernel_rfl)) rfl ?_
          exact ⟨by rfl, by repeat (with_reducible first | exact HB.out | refine below_set ?_ GE399.out)⟩
         ·replace H := s4 H; obtain ⟨rfl, rfl, rfl, rfl⟩ := H
          go_wp2_with ((go_at_call 17; (with_reducible refine (bits_mask.calls a1 t403 _ A31.out).mono ?_); rintro e w' ⟨rfl, ⟨nd, rfl⟩⟩; (try (rw [drewN_self wr]; generalize hq_ : World.drewN wr _ = wr; have n0_ : Aside0 (wr.heap[gb399]? = some (.cells #[.int .i64 x400000_2, .int .u64 x400001_2, .int .u64 x400002_2] 24 (0, 0))) := ⟨by rw [← hq_]; exact (by (with_reducible repeat (refine blk_drewN ?_ _)); exact BK399.out)⟩; have n1_ : Aside0 (Below w.heap.size w wr) := ⟨by rw [← hq_]; exact (by repeat (with_reducible first | exact HB.out | apply pw_below_drewN))⟩; clear BK399 HB hq_; have BK399 := n0_; have HB := n1_; clear n0_ n1_)); obtain ⟨hcz36_0, hcz36_1, hcz36_2, hfz36_0, hfz36_1, hfz36_2⟩ := cf3 BK399))
          refine bodyPost_ret (results_ct rfl _ _ gb399 24 #[.int .i64 0, .int .u64 0, .int .u64 0] (0, 0) _ rfl (by refine blk_put (cs := #[.int .i64 0, .int .u64 0, .int .u64 x400002_2]) ?_ 2 _ rfl; refine blk_put (cs := #[.int .i64 0, .int .u64 x400001_2, .int .u64 x400002_2]) ?_ 1 _ rfl; refine blk_put (cs := #[.int .i64 x400000_2, .int .u64 x400001_2, .int .u64 x400002_2]) ?_ 0 _ rfl; exact BK399.out) Tryz.underlying24 rfl (by kernel_rfl)) rfl ?_
          exact ⟨by rfl, by repeat (with_reducible first | exact HB.out | refine below_set ?_ GE399.out)⟩
       ·replace H := s4 H; obtain ⟨rfl, rfl, rfl, rfl⟩ := H
        obtain ⟨hcz37_0, hcz37_1, hcz37_2, hfz37_0, hfz37_1, hfz37_2⟩ := cf3 BK399
        go_wp2
        refine bodyPost_ret (results_ct rfl _ _ gb399 24 #[.int .i64 0, .int .u64 0, .int .u64 0] (0, 0) _ rfl (by refine blk_put (cs := #[.int .i64 0, .int .u64 0, .int .u64 x400002_2]) ?_ 2 _ rfl; refine blk_put (cs := #[.int .i64 0, .int .u64 x400001_2, .int .u64 x400002_2]) ?_ 1 _ rfl; refine blk_put (cs := #[.int .i64 x400000_2, .int .u64 x400001_2, .int .u64 x400002_2]) ?_ 0 _ rfl; exact BK399.out) Tryz.underlying24 rfl (by kernel_rfl)) rfl ?_
        exact ⟨by rfl, by repeat (with_reducible first | exact HB.out | refine below_set ?_ GE399.out)⟩
end Go.Proofs.YtfigblfjogpojaaGreatDoor.PBits
end
section
namespace Go.Proofs.YtfigblfjogpojaaGreatDoor.PBits
open Go.RowKit Go.Proofs.YtfigblfjogpojaaGreatDoorW.PrintWords Go.Proofs.YtfigblfjogpojaaGreatDoorW.PrintLast Go.Proofs.YtfigblfjogpojaaGreatDoorW.PrintMore
attribute [local go_sem] max2_int min2_int max_two min_two max_three min_three max_four min_four
set_option linter.unusedVariables false
set_option linter.unusedSimpArgs false
def bits_Bit.j0 : Nat → Int → Bool → Int → Int → Int → Option (Int)
 | 0, _, _, _, _, _ => none
 | k + 1, x1, x18, x408000, x408001, x408002 => if x18 = true then (some 0) else (if 0 ≤ x1 then (if 0 ≤ (Go.bits .or .u64 (Go.bits .and .u64 (shr .u64 x408001 x1) 1) (IntKind.u64.wrap ((Go.bits .and .u64 (shr .u64 x408002 x1) 1) * 2))) then (if (Go.bits .or .u64 (Go.bits .and .u64 (shr .u64 x408001 x1) 1) (IntKind.u64.wrap ((Go.bits .and .u64 (shr .u64 x408002 x1) 1) * 2))) < 4 then (some (bt (⟨#[48, 49, 122, 120]⟩ : ByteArray) (Go.bits .or .u64 (Go.bits .and .u64 (shr .u64 x408001 x1) 1) (IntKind.u64.wrap ((Go.bits .and .u64 (shr .u64 x408002 x1) 1) * 2))))) else (none)) else (none)) else (none))
def bits_Bit.f (k : Nat) (a0_0 : Int) (a0_1 : Int) (a0_2 : Int) (a1 : Int) : Option (Int) := (bits_valid.f k (([(⟨a0_0, a0_1, a0_2⟩ : S24)] : List (S24)))).bind fun t411 => (if t411 = true then (if a1 < 0 then (bits_Bit.j0 k a1 true a0_0 a0_1 a0_2) else (bits_Bit.j0 k a1 (decide (a1 ≥ a0_0)) a0_0 a0_1 a0_2)) else (bits_Bit.j0 k a1 true a0_0 a0_1 a0_2))
theorem bits_Bit.mono_l : ∀ k, (∀ y0 y1 y2 y3 y4, LeO (bits_Bit.j0 k y0 y1 y2 y3 y4) (bits_Bit.j0 (k + 1) y0 y1 y2 y3 y4))
 | 0 => fun _ _ _ _ _ r h => by simp [bits_Bit.j0] at h
 | k + 1 => by
  have ih0 := bits_Bit.mono_l k
  ·intro y0 y1 y2 y3 y4
   unfold bits_Bit.j0
   repeat' first | with_reducible exact ih0 _ _ _ _ _ | with_reducible exact bits_valid.mono _ _ | with_reducible exact LeO.refl _ | with_reducible exact LeO.none _ | with_reducible refine LeO.ite ?_ ?_ | with_reducible refine LeO.bind ?_ (fun _ => ?_)
theorem bits_Bit.mono : ∀ a0 a1 a2 a3 k, LeO (bits_Bit.f k a0 a1 a2 a3) (bits_Bit.f (k + 1) a0 a1 a2 a3) := by
 intro a0 a1 a2 a3 k
 have ih0 := bits_Bit.mono_l k
 unfold bits_Bit.f
 repeat' first | with_reducible exact ih0 _ _ _ _ _ | with_reducible exact bits_valid.mono _ _ | with_reducible exact LeO.refl _ | with_reducible exact LeO.none _ | with_reducible refine LeO.ite ?_ ?_ | with_reducible refine LeO.bind ?_ (fun _ => ?_)
set_option maxHeartbeats 8000000 in
set_option maxRecDepth 100000 in
theorem bits_Bit.calls (k : Nat) (a0_0 : Int) (a0_1 : Int) (a0_2 : Int) (a1 : Int) (r : Int) (w : World) (h : bits_Bit.f k a0_0 a0_1 a0_2 a1 = some r) :
  Calls Tryz.prog 44 #[.agg #[.int .i64 a0_0, .int .u64 a0_1, .int .u64 a0_2], .int .i64 a1] w fun e w' => e = .returned (.int .u8 r) ∧ Below w.heap.size w w' := by
 have hu24 := Tryz.underlying24
 have HB := Aside0.mk (Below.refl w.heap.size w)
 have H := h
 clear h
 unfold bits_Bit.f at H
 have HC3 := Aside0.mk H
 clear H
 go_enter Tryz.func44, Tryz.ntmps44
 go_upto_region 1 with ((refine boxA HB 2 #[.int .i64 a0_0, .int .u64 a0_1, .int .u64 a0_2] 24 ?_; clear HB; intro gb407 w4 BK407 GE407 hg hb HB; clear hb hg))
 go_cut [18] (fun v18 wc => ∃ (kq : Nat) (x18_2 : Bool), v18 = .bool x18_2 ∧ Aside0 (bits_Bit.j0 kq a1 x18_2 a0_0 a0_1 a0_2 = some r) ∧ Aside0 (kq ≤ k) ∧ Aside0 (wc.heap[gb407]? = some (.cells #[.int .i64 a0_0, .int .u64 a0_1, .int .u64 a0_2] 24 (0, 0))) ∧ Aside0 (Below w.heap.size w wc))
 case first =>
  have H := HC3.out
  clear HC3
  obtain ⟨y408, hy408⟩ : ∃ y_ : List (S24), y_ = ([(⟨a0_0, a0_1, a0_2⟩ : S24)] : List (S24)) := ⟨_, rfl⟩
  replace H : ((bits_valid.f k y408).bind fun t411 => (if t411 = true then (if a1 < 0 then (bits_Bit.j0 k a1 true a0_0 a0_1 a0_2) else (bits_Bit.j0 k a1 (decide (a1 ≥ a0_0)) a0_0 a0_1 a0_2)) else (bits_Bit.j0 k a1 true a0_0 a0_1 a0_2))) = some r := by (rw [hy408]; with_reducible exact H)
  have Ny408 := Aside0.mk hy408
  clear hy408
  replace H := bN H; obtain ⟨t411, A5, H⟩ := H
  replace H := iB H; rcases H with ⟨rfl, H⟩ | ⟨rfl, H⟩
  ·replace H := iD H; rcases H with ⟨c7b0, H⟩ | ⟨c7b0, H⟩
   ·(skip)
    have H' := Aside0.mk H
    clear H
    obtain ⟨hcz8_0, hcz8_1, hcz8_2, hfz8_0, hfz8_1, hfz8_2⟩ := cf3 BK407
    go_wp2_with (first | ((with_reducible refine gate_dst (N := 6) rfl ?_); refine Kd.R_lit k24 _ 24 ?hg (N := 6) ?hd (xs := ([(⟨a0_0, a0_1, a0_2⟩ : S24)] : List (S24))) (inner := [.int .i64 a0_0, .int .u64 a0_1, .int .u64 a0_2]) (ok := fun _ => True) (okp := fun _ => True) ?hr ?hp (fun _ hk => hk) trivial (Below.refl _ _) (Nat.le_refl _) (by simp) ?_; (case hd => rfl); (case hg => rfl); (case hr => (go_simp; done)); (case hp => exact (Reps.c3 (show Kd.M k24 _ _ _ (⟨a0_0, a0_1, a0_2⟩ : S24) [.int .i64 a0_0, .int .u64 a0_1, .int .u64 a0_2] from (k24_mkM _ _ _ (⟨a0_0, a0_1, a0_2⟩ : S24) )) (Reps.none _ _))); intro v409 w9 ho10 hb hg_ hnew_; clear hg_ hnew_; (rw [← Ny408.out] at ho10); have HO410 := Aside0.mk (Kd.R_lower (Kd.R_newB ho10 BK407.out) (below_size HB.out)); replace BK407 := bk1 BK407 hb; replace HB := hb1 HB hb; clear hb ho10; obtain ⟨Ao11, co11, eo11⟩ := Kd.R_slice HO410.out; subst eo11) | (go_at_call 15; (with_reducible refine (bits_valid.calls k _ _ y408 true _ ?side1 ?side2 A5.out).mono ?_); (case side1 => exact (Kd.R_reads' HO410.out).2.2); (case side2 => exact (Kd.R_reads' HO410.out).2.1); rintro e w12 ⟨rfl, hb⟩; replace HO410 := Kd.rb1 HO410 hb; replace BK407 := bk1 BK407 hb; replace HB := hb1 HB hb; (try clear hb)))
    go_meet
    case rel => exact ⟨_, (true), (by rfl), H', ⟨by omega⟩, ⟨by exact BK407.out⟩, ⟨by repeat (with_reducible exact HB.out)⟩⟩
   ·(skip)
    have H' := Aside0.mk H
    clear H
    obtain ⟨hcz13_0, hcz13_1, hcz13_2, hfz13_0, hfz13_1, hfz13_2⟩ := cf3 BK407
    go_wp2_with (first | ((with_reducible refine gate_dst (N := 6) rfl ?_); refine Kd.R_lit k24 _ 24 ?hg (N := 6) ?hd (xs := ([(⟨a0_0, a0_1, a0_2⟩ : S24)] : List (S24))) (inner := [.int .i64 a0_0, .int .u64 a0_1, .int .u64 a0_2]) (ok := fun _ => True) (okp := fun _ => True) ?hr ?hp (fun _ hk => hk) trivial (Below.refl _ _) (Nat.le_refl _) (by simp) ?_; (case hd => rfl); (case hg => rfl); (case hr => (go_simp; done)); (case hp => exact (Reps.c3 (show Kd.M k24 _ _ _ (⟨a0_0, a0_1, a0_2⟩ : S24) [.int .i64 a0_0, .int .u64 a0_1, .int .u64 a0_2] from (k24_mkM _ _ _ (⟨a0_0, a0_1, a0_2⟩ : S24) )) (Reps.none _ _))); intro v409 w14 ho15 hb hg_ hnew_; clear hg_ hnew_; (rw [← Ny408.out] at ho15); have HO410 := Aside0.mk (Kd.R_lower (Kd.R_newB ho15 BK407.out) (below_size HB.out)); replace BK407 := bk1 BK407 hb; replace HB := hb1 HB hb; clear hb ho15; obtain ⟨Ao16, co16, eo16⟩ := Kd.R_slice HO410.out; subst eo16) | (go_at_call 15; (with_reducible refine (bits_valid.calls k _ _ y408 true _ ?side1 ?side2 A5.out).mono ?_); (case side1 => exact (Kd.R_reads' HO410.out).2.2); (case side2 => exact (Kd.R_reads' HO410.out).2.1); rintro e w17 ⟨rfl, hb⟩; replace HO410 := Kd.rb1 HO410 hb; replace BK407 := bk1 BK407 hb; replace HB := hb1 HB hb; (try clear hb); obtain ⟨hcz18_0, hcz18_1, hcz18_2, hfz18_0, hfz18_1, hfz18_2⟩ := cf3 BK407))
    go_meet
    case rel => exact ⟨_, (decide (a1 ≥ a0_0)), (by rfl), H', ⟨by omega⟩, ⟨by exact BK407.out⟩, ⟨by repeat (with_reducible exact HB.out)⟩⟩
  ·have H' := Aside0.mk H
   clear H
   obtain ⟨hcz19_0, hcz19_1, hcz19_2, hfz19_0, hfz19_1, hfz19_2⟩ := cf3 BK407
   go_wp2_with (first | ((with_reducible refine gate_dst (N := 6) rfl ?_); refine Kd.R_lit k24 _ 24 ?hg (N := 6) ?hd (xs := ([(⟨a0_0, a0_1, a0_2⟩ : S24)] : List (S24))) (inner := [.int .i64 a0_0, .int .u64 a0_1, .int .u64 a0_2]) (ok := fun _ => True) (okp := fun _ => True) ?hr ?hp (fun _ hk => hk) trivial (Below.refl _ _) (Nat.le_refl _) (by simp) ?_; (case hd => rfl); (case hg => rfl); (case hr => (go_simp; done)); (case hp => exact (Reps.c3 (show Kd.M k24 _ _ _ (⟨a0_0, a0_1, a0_2⟩ : S24) [.int .i64 a0_0, .int .u64 a0_1, .int .u64 a0_2] from (k24_mkM _ _ _ (⟨a0_0, a0_1, a0_2⟩ : S24) )) (Reps.none _ _))); intro v409 w20 ho21 hb hg_ hnew_; clear hg_ hnew_; (rw [← Ny408.out] at ho21); have HO410 := Aside0.mk (Kd.R_lower (Kd.R_newB ho21 BK407.out) (below_size HB.out)); replace BK407 := bk1 BK407 hb; replace HB := hb1 HB hb; clear hb ho21; obtain ⟨Ao22, co22, eo22⟩ := Kd.R_slice HO410.out; subst eo22) | (go_at_call 15; (with_reducible refine (bits_valid.calls k _ _ y408 false _ ?side1 ?side2 A5.out).mono ?_); (case side1 => exact (Kd.R_reads' HO410.out).2.2); (case side2 => exact (Kd.R_reads' HO410.out).2.1); rintro e w23 ⟨rfl, hb⟩; replace HO410 := Kd.rb1 HO410 hb; replace BK407 := bk1 BK407 hb; replace HB := hb1 HB hb; (try clear hb)))
   go_meet
   case rel => exact ⟨_, (true), (by rfl), H', ⟨by omega⟩, ⟨by exact BK407.out⟩, ⟨by repeat (with_reducible exact HB.out)⟩⟩
 case rest =>
  clear HC3
  obtain ⟨kq, x18_2, rfl, HA, HJ2, BK407, HB⟩ := hcut
  cases kq with
  | zero => exact absurd HA.out (by simp [bits_Bit.j0])
  | succ kj2 =>
   have H := HA.out
   clear HA
   simp only [bits_Bit.j0] at H
   replace H := iB H; rcases H with ⟨rfl, H⟩ | ⟨rfl, H⟩
   ·obtain rfl := Option.some.inj H
    go_wp2
    go_ret
    exact ⟨by rfl, by repeat (with_reducible exact HB.out)⟩
   ·by_cases c25 : 0 ≤ a1
    ·rw [if_pos c25] at H
     have c25b0 := eq_true c25
     have c25b1 : decide (0 ≤ a1) = true := decide_eq_true c25
     clear c25
     obtain ⟨ji26, hji26⟩ : ∃ j_ : Int, (shr .u64 a0_1 a1) = j_ := ⟨_, rfl⟩
     replace H : (if 0 ≤ (Go.bits .or .u64 (Go.bits .and .u64 (ji26) 1) (IntKind.u64.wrap ((Go.bits .and .u64 (shr .u64 a0_2 a1) 1) * 2))) then (if (Go.bits .or .u64 (Go.bits .and .u64 (ji26) 1) (IntKind.u64.wrap ((Go.bits .and .u64 (shr .u64 a0_2 a1) 1) * 2))) < 4 then (some (bt (⟨#[48, 49, 122, 120]⟩ : ByteArray) (Go.bits .or .u64 (Go.bits .and .u64 (ji26) 1) (IntKind.u64.wrap ((Go.bits .and .u64 (shr .u64 a0_2 a1) 1) * 2))))) else (none)) else (none)) = some r := by (rw [hji26] at H; exact H)
     have hji26_ : (a0_1 / 2 ^ min a1.toNat 64) = ji26 := hji26
     have hji26z : a1 ≤ 64 → (a0_1 / 2 ^ a1.toNat) = ji26 := shr_small hji26
     have c27b0 := eq_true (of_decide_eq_true (by (with_reducible assumption)) : 0 ≤ a1)
     obtain ⟨ji28, hji28⟩ : ∃ j_ : Int, (shr .u64 a0_2 a1) = j_ := ⟨_, rfl⟩
     replace H : (if 0 ≤ (Go.bits .or .u64 (Go.bits .and .u64 (ji26) 1) (IntKind.u64.wrap ((Go.bits .and .u64 (ji28) 1) * 2))) then (if (Go.bits .or .u64 (Go.bits .and .u64 (ji26) 1) (IntKind.u64.wrap ((Go.bits .and .u64 (ji28) 1) * 2))) < 4 then (some (bt (⟨#[48, 49, 122, 120]⟩ : ByteArray) (Go.bits .or .u64 (Go.bits .and .u64 (ji26) 1) (IntKind.u64.wrap ((Go.bits .and .u64 (ji28) 1) * 2))))) else (none)) else (none)) = some r := by (rw [hji28] at H; exact H)
     have hji28_ : (a0_2 / 2 ^ min a1.toNat 64) = ji28 := hji28
     have hji28z : a1 ≤ 64 → (a0_2 / 2 ^ a1.toNat) = ji28 := shr_small hji28
     obtain ⟨ji29, hji29⟩ : ∃ j_ : Int, (Go.bits .or .u64 (Go.bits .and .u64 (ji26) 1) (IntKind.u64.wrap ((Go.bits .and .u64 (ji28) 1) * 2))) = j_ := ⟨_, rfl⟩
     replace H : (if 0 ≤ (ji29) then (if (ji29) < 4 then (some (bt (⟨#[48, 49, 122, 120]⟩ : ByteArray) (ji29))) else (none)) else (none)) = some r := by (rw [hji29] at H; exact H)
     replace H := iN H; obtain ⟨c30b0, H⟩ := H
     replace H := iN H; obtain ⟨c31b0, H⟩ := H
     obtain rfl := Option.some.inj H
     obtain ⟨hcz33_0, hcz33_1, hcz33_2, hfz33_0, hfz33_1, hfz33_2⟩ := cf3 BK407
     have p32 : 0 ≤ ((ji29) : Int) := of_decide_eq_true (by (with_reducible assumption))
     have q32 : (ji29) < (4 : Int) := of_decide_eq_true (by (with_reducible assumption))
     have hx32 := bt_at (⟨#[48, 49, 122, 120]⟩ : ByteArray) (ji29)
     replace p32 := eq_true p32
     replace q32 := eq_true q32
     go_wp2
     repeat (go_quiet (fail); try go_wp2)
     go_ret
     exact ⟨by rfl, by repeat (with_reducible first | exact HB.out | apply pw_below_drewN)⟩
    ·rw [if_neg c25] at H
     exact absurd H (by simp)
end Go.Proofs.YtfigblfjogpojaaGreatDoor.PBits
end
section
namespace Go.Proofs.YtfigblfjogpojaaGreatDoor.PBits
open Go.RowKit Go.Proofs.YtfigblfjogpojaaGreatDoorW.PrintWords Go.Proofs.YtfigblfjogpojaaGreatDoorW.PrintLast Go.Proofs.YtfigblfjogpojaaGreatDoorW.PrintMore
attribute [local go_sem] max2_int min2_int max_two min_two max_three min_three max_four min_four
set_option linter.unusedVariables false
set_option linter.unusedSimpArgs false
def bits_digit.j0 : Nat → Int → Bool → Option (Int)
 | 0, _, _ => none
 | k + 1, x0, x3 => if x3 = true then (some ((x0 - 48) % 256)) else (if x0 ≥ 97 then (if x0 ≤ 102 then (some (((x0 - 97) % 256) + 10)) else (some (-1))) else (some (-1)))
def bits_digit.f (k : Nat) (a0 : Int) : Option (Int) := if a0 ≥ 48 then (bits_digit.j0 k a0 (decide (a0 ≤ 57))) else (bits_digit.j0 k a0 false)
theorem bits_digit.mono_l : ∀ k, (∀ y0 y1, LeO (bits_digit.j0 k y0 y1) (bits_digit.j0 (k + 1) y0 y1))
 | 0 => fun _ _ r h => by simp [bits_digit.j0] at h
 | k + 1 => by
  have ih0 := bits_digit.mono_l k
  ·intro y0 y1
   unfold bits_digit.j0
   repeat' first | with_reducible exact ih0 _ _ | with_reducible exact LeO.refl _ | with_reducible exact LeO.none _ | with_reducible refine LeO.ite ?_ ?_ | with_reducible refine LeO.bind ?_ (fun _ => ?_)
theorem bits_digit.mono : ∀ a0 k, LeO (bits_digit.f k a0) (bits_digit.f (k + 1) a0) := by
 intro a0 k
 have ih0 := bits_digit.mono_l k
 unfold bits_digit.f
 repeat' first | with_reducible exact ih0 _ _ | with_reducible exact LeO.refl _ | with_reducible exact LeO.none _ | with_reducible refine LeO.ite ?_ ?_ | with_reducible refine LeO.bind ?_ (fun _ => ?_)
set_option maxHeartbeats 8000000 in
set_option maxRecDepth 100000 in
theorem bits_digit.calls (k : Nat) (a0 : Int) (r : Int) (w : World) (h : bits_digit.f k a0 = some r) :
  Calls Tryz.prog 79 #[.int .u8 a0] w fun e w' => e = .returned (.int .i64 r) ∧ Drawn0 w w' := by
 have H := h
 clear h
 unfold bits_digit.f at H
 have HC2 := Aside0.mk H
 clear H
 go_enter Tryz.func79, Tryz.ntmps79
 go_upto_region 1 with (fail)
 go_cut [3] (fun v3 wc => ∃ (kq : Nat) (x3_1 : Bool), v3 = .bool x3_1 ∧ Aside0 (bits_digit.j0 kq a0 x3_1 = some r) ∧ Aside0 (kq ≤ k) ∧ Drawn0 w wc)
 case first =>
  have H := HC2.out
  clear HC2
  replace H := iD H; rcases H with ⟨c3b0, H⟩ | ⟨c3b0, H⟩
  ·replace c3b0 : decide (48 ≤ a0) = true := c3b0
   (skip)
   have H' := Aside0.mk H
   clear H
   go_wp2
   go_meet
   case rel => exact ⟨_, (decide (a0 ≤ 57)), (by rfl), H', ⟨by omega⟩, by repeat (exact Drawn0.refl _)⟩
  ·replace c3b0 : decide (48 ≤ a0) = false := c3b0
   (skip)
   have H' := Aside0.mk H
   clear H
   go_wp2
   go_meet
   case rel => exact ⟨_, (false), (by rfl), H', ⟨by omega⟩, by repeat (exact Drawn0.refl _)⟩
 case rest =>
  clear HC2
  obtain ⟨kq, x3_1, rfl, HA, HJ1, ⟨mc1, rfl⟩⟩ := hcut
  cases kq with
  | zero => exact absurd HA.out (by simp [bits_digit.j0])
  | succ kj1 =>
   have H := HA.out
   clear HA
   simp only [bits_digit.j0] at H
   replace H := iB H; rcases H with ⟨rfl, H⟩ | ⟨rfl, H⟩
   ·obtain rfl := Option.some.inj H
    go_wp2
    go_ret
    exact ⟨by rfl, by repeat (first | exact Drawn0.refl _ | apply Drawn0.step)⟩
   ·replace H := iD H; rcases H with ⟨c5b0, H⟩ | ⟨c5b0, H⟩
    ·replace c5b0 : decide (97 ≤ a0) = true := c5b0
     replace H := iD H; rcases H with ⟨c6b0, H⟩ | ⟨c6b0, H⟩
     ·obtain rfl := Option.some.inj H
      go_wp2
      go_ret
      exact ⟨by rfl, by repeat (first | exact Drawn0.refl _ | apply Drawn0.step)⟩
     ·obtain rfl := Option.some.inj H
      go_wp2
      go_ret
      exact ⟨by rfl, by repeat (first | exact Drawn0.refl _ | apply Drawn0.step)⟩
    ·replace c5b0 : decide (97 ≤ a0) = false := c5b0
     obtain rfl := Option.some.inj H
     go_wp2
     go_ret
     exact ⟨by rfl, by repeat (first | exact Drawn0.refl _ | apply Drawn0.step)⟩
end Go.Proofs.YtfigblfjogpojaaGreatDoor.PBits
end
section
namespace Go.Proofs.YtfigblfjogpojaaGreatDoor.PBits
open Go.RowKit Go.Proofs.YtfigblfjogpojaaGreatDoorW.PrintWords Go.Proofs.YtfigblfjogpojaaGreatDoorW.PrintLast Go.Proofs.YtfigblfjogpojaaGreatDoorW.PrintMore
attribute [local go_sem] max2_int min2_int max_two min_two max_three min_three max_four min_four
set_option linter.unusedVariables false
set_option linter.unusedSimpArgs false
mutual
def bits_grouped.l0 : Nat → ByteArray → Int → Int → Int → Int → Int → Int → Int → Int → Option (Int × Int × Int × Int)
 | 0, _, _, _, _, _, _, _, _, _ => none
 | k + 1, x0, x1, x2, x3, x23, x24, x428000, x428001, x428002 => if x24 < x23 then (if 0 ≤ x24 then (if x24 < (x0.size : Int) then (if (bt x0 x24) = 120 then (bits_grouped.j1 k x0 x1 x2 x3 x23 x24 false x428000 x428001 x428002) else (if (bt x0 x24) = 122 then (bits_grouped.j1 k x0 x1 x2 x3 x23 x24 false x428000 x428001 x428002) else ((bits_digit.f k (bt x0 x24)).bind fun t428 => (if t428 < 0 then (bits_grouped.j1 k x0 x1 x2 x3 x23 x24 true x428000 x428001 x428002) else ((bits_digit.f k (bt x0 x24)).bind fun t429 => (if 0 ≤ x2 then (bits_grouped.j1 k x0 x1 x2 x3 x23 x24 (decide (t429 ≥ (shl .i64 1 x2))) x428000 x428001 x428002) else (none))))))) else (none)) else (none)) else (if x3 = 0 then (bits_grouped.l1 k x0 x1 x2 0 (wrap64 ((x0.size : Int) - 1)) x428000 x428001 x428002) else (some (0, 0, 0, x3)))
def bits_grouped.j1 : Nat → ByteArray → Int → Int → Int → Int → Int → Bool → Int → Int → Int → Option (Int × Int × Int × Int)
 | 0, _, _, _, _, _, _, _, _, _, _ => none
 | k + 1, x0, x1, x2, x3, x23, x24, x47, x428000, x428001, x428002 => if x47 = true then (some (0, 0, 0, 10)) else (bits_grouped.l0 k x0 x1 x2 x3 x23 (wrap64 (x24 + 1)) x428000 x428001 x428002)
def bits_grouped.l1 : Nat → ByteArray → Int → Int → Int → Int → Int → Int → Int → Option (Int × Int × Int × Int)
 | 0, _, _, _, _, _, _, _, _ => none
 | k + 1, x0, x1, x2, x13, x14, x428000, x428001, x428002 => if x14 ≥ 0 then (if 0 ≤ x14 then (if x14 < (x0.size : Int) then (if (bt x0 x14) = 120 then (bits_grouped.j3 k x0 x1 x2 x13 x14 (bt x0 x14) true x428000 x428001 x428002) else (bits_grouped.j3 k x0 x1 x2 x13 x14 (bt x0 x14) ((bt x0 x14) == 122) x428000 x428001 x428002)) else (none)) else (none)) else (if 0 < (x0.size : Int) then (if (bt x0 0) = 120 then (bits_grouped.j8 k x1 x13 (bt x0 0) (decide (x13 < x1)) x428000 x428001 x428002) else (if (bt x0 0) = 122 then (bits_grouped.j8 k x1 x13 (bt x0 0) (decide (x13 < x1)) x428000 x428001 x428002) else (bits_grouped.j8 k x1 x13 (bt x0 0) false x428000 x428001 x428002))) else (none))
def bits_grouped.j3 : Nat → ByteArray → Int → Int → Int → Int → Int → Bool → Int → Int → Int → Option (Int × Int × Int × Int)
 | 0, _, _, _, _, _, _, _, _, _, _ => none
 | k + 1, x0, x1, x2, x13, x14, x16, x69, x428000, x428001, x428002 => if x69 = true then ((bits_All.f k x2 x16).bind fun bt431 => (bits_grouped.j4 k x0 x1 x2 x13 x14 x428000 x428001 x428002 bt431.1 bt431.2.1 bt431.2.2)) else ((bits_digit.f k x16).bind fun t434 => ((bits_Of.f x2 (IntKind.u64.wrap (t434))).bind fun bt435 => (bits_grouped.j4 k x0 x1 x2 x13 x14 x428000 x428001 x428002 bt435.1 bt435.2.1 bt435.2.2)))
def bits_grouped.j4 : Nat → ByteArray → Int → Int → Int → Int → Int → Int → Int → Int → Int → Int → Option (Int × Int × Int × Int)
 | 0, _, _, _, _, _, _, _, _, _, _, _ => none
 | k + 1, x0, x1, x2, x13, x14, x428000, x428001, x428002, x431000, x431001, x431002 => bits_grouped.l2 k x0 x1 x2 x13 x14 x2 0 x428000 x428001 x428002 x431000 x431001 x431002
def bits_grouped.l2 : Nat → ByteArray → Int → Int → Int → Int → Int → Int → Int → Int → Int → Int → Int → Int → Option (Int × Int × Int × Int)
 | 0, _, _, _, _, _, _, _, _, _, _, _, _, _ => none
 | k + 1, x0, x1, x2, x13, x14, x78, x79, x428000, x428001, x428002, x431000, x431001, x431002 => if x79 < x78 then (if (wrap64 (x13 + x79)) ≥ x1 then ((bits_Bit.f k x431000 x431001 x431002 x79).bind fun t441 => (bits_grouped.j6 k x0 x1 x2 x13 x14 x78 x79 (t441 != 48) x428000 x428001 x428002 x431000 x431001 x431002)) else (bits_grouped.j6 k x0 x1 x2 x13 x14 x78 x79 false x428000 x428001 x428002 x431000 x431001 x431002)) else ((bits_Put.f k x428000 x428001 x428002 x13 x431000 x431001 x431002).bind fun bt438 => (bits_grouped.l1 k x0 x1 x2 (wrap64 (x13 + x2)) (wrap64 (x14 - 1)) bt438.1 bt438.2.1 bt438.2.2))
def bits_grouped.j6 : Nat → ByteArray → Int → Int → Int → Int → Int → Int → Bool → Int → Int → Int → Int → Int → Int → Option (Int × Int × Int × Int)
 | 0, _, _, _, _, _, _, _, _, _, _, _, _, _, _ => none
 | k + 1, x0, x1, x2, x13, x14, x78, x79, x92, x428000, x428001, x428002, x431000, x431001, x431002 => if x92 = true then (if 0 ≤ x14 then (if x14 < (x0.size : Int) then (if (bt x0 x14) = 120 then (bits_grouped.j7 k x0 x1 x2 x13 x14 x78 x79 (decide (x13 < x1)) x428000 x428001 x428002 x431000 x431001 x431002) else (if (bt x0 x14) = 122 then (bits_grouped.j7 k x0 x1 x2 x13 x14 x78 x79 (decide (x13 < x1)) x428000 x428001 x428002 x431000 x431001 x431002) else (bits_grouped.j7 k x0 x1 x2 x13 x14 x78 x79 false x428000 x428001 x428002 x431000 x431001 x431002))) else (none)) else (none)) else (bits_grouped.l2 k x0 x1 x2 x13 x14 x78 (wrap64 (x79 + 1)) x428000 x428001 x428002 x431000 x431001 x431002)
def bits_grouped.j7 : Nat → ByteArray → Int → Int → Int → Int → Int → Int → Bool → Int → Int → Int → Int → Int → Int → Option (Int × Int × Int × Int)
 | 0, _, _, _, _, _, _, _, _, _, _, _, _, _, _ => none
 | k + 1, x0, x1, x2, x13, x14, x78, x79, x106, x428000, x428001, x428002, x431000, x431001, x431002 => if x106 = true then (bits_grouped.l2 k x0 x1 x2 x13 x14 x78 (wrap64 (x79 + 1)) x428000 x428001 x428002 x431000 x431001 x431002) else (some (0, 0, 0, 3))
def bits_grouped.j8 : Nat → Int → Int → Int → Bool → Int → Int → Int → Option (Int × Int × Int × Int)
 | 0, _, _, _, _, _, _, _ => none
 | k + 1, x1, x13, x19, x128, x428000, x428001, x428002 => if x128 = true then ((bits_All.f k (wrap64 (x1 - x13)) x19).bind fun bt442 => ((bits_Put.f k x428000 x428001 x428002 x13 bt442.1 bt442.2.1 bt442.2.2).bind fun bt445 => (some (bt445.1, bt445.2.1, bt445.2.2, 0)))) else (some (x428000, x428001, x428002, 0))
end
def bits_grouped.f (k : Nat) (a0 : ByteArray) (a1 : Int) (a2 : Int) (a3 : Int) : Option (Int × Int × Int × Int) := bits_grouped.l0 k a0 a1 a2 a3 (a0.size : Int) 0 a1 0 0
theorem bits_grouped.mono_l : ∀ k, (∀ y0 y1 y2 y3 y4 y5 y6 y7 y8, LeO (bits_grouped.l0 k y0 y1 y2 y3 y4 y5 y6 y7 y8) (bits_grouped.l0 (k + 1) y0 y1 y2 y3 y4 y5 y6 y7 y8)) ∧ (∀ y0 y1 y2 y3 y4 y5 y6 y7 y8 y9, LeO (bits_grouped.j1 k y0 y1 y2 y3 y4 y5 y6 y7 y8 y9) (bits_grouped.j1 (k + 1) y0 y1 y2 y3 y4 y5 y6 y7 y8 y9)) ∧ (∀ y0 y1 y2 y3 y4 y5 y6 y7, LeO (bits_grouped.l1 k y0 y1 y2 y3 y4 y5 y6 y7) (bits_grouped.l1 (k + 1) y0 y1 y2 y3 y4 y5 y6 y7)) ∧ (∀ y0 y1 y2 y3 y4 y5 y6 y7 y8 y9, LeO (bits_grouped.j3 k y0 y1 y2 y3 y4 y5 y6 y7 y8 y9) (bits_grouped.j3 (k + 1) y0 y1 y2 y3 y4 y5 y6 y7 y8 y9)) ∧ (∀ y0 y1 y2 y3 y4 y5 y6 y7 y8 y9 y10, LeO (bits_grouped.j4 k y0 y1 y2 y3 y4 y5 y6 y7 y8 y9 y10) (bits_grouped.j4 (k + 1) y0 y1 y2 y3 y4 y5 y6 y7 y8 y9 y10)) ∧ (∀ y0 y1 y2 y3 y4 y5 y6 y7 y8 y9 y10 y11 y12, LeO (bits_grouped.l2 k y0 y1 y2 y3 y4 y5 y6 y7 y8 y9 y10 y11 y12) (bits_grouped.l2 (k + 1) y0 y1 y2 y3 y4 y5 y6 y7 y8 y9 y10 y11 y12)) ∧ (∀ y0 y1 y2 y3 y4 y5 y6 y7 y8 y9 y10 y11 y12 y13, LeO (bits_grouped.j6 k y0 y1 y2 y3 y4 y5 y6 y7 y8 y9 y10 y11 y12 y13) (bits_grouped.j6 (k + 1) y0 y1 y2 y3 y4 y5 y6 y7 y8 y9 y10 y11 y12 y13)) ∧ (∀ y0 y1 y2 y3 y4 y5 y6 y7 y8 y9 y10 y11 y12 y13, LeO (bits_grouped.j7 k y0 y1 y2 y3 y4 y5 y6 y7 y8 y9 y10 y11 y12 y13) (bits_grouped.j7 (k + 1) y0 y1 y2 y3 y4 y5 y6 y7 y8 y9 y10 y11 y12 y13)) ∧ (∀ y0 y1 y2 y3 y4 y5 y6, LeO (bits_grouped.j8 k y0 y1 y2 y3 y4 y5 y6) (bits_grouped.j8 (k + 1) y0 y1 y2 y3 y4 y5 y6))
 | 0 => ⟨fun _ _ _ _ _ _ _ _ _ r h => by simp [bits_grouped.l0] at h, fun _ _ _ _ _ _ _ _ _ _ r h => by simp [bits_grouped.j1] at h, fun _ _ _ _ _ _ _ _ r h => by simp [bits_grouped.l1] at h, fun _ _ _ _ _ _ _ _ _ _ r h => by simp [bits_grouped.j3] at h, fun _ _ _ _ _ _ _ _ _ _ _ r h => by simp [bits_grouped.j4] at h, fun _ _ _ _ _ _ _ _ _ _ _ _ _ r h => by simp [bits_grouped.l2] at h, fun _ _ _ _ _ _ _ _ _ _ _ _ _ _ r h => by simp [bits_grouped.j6] at h, fun _ _ _ _ _ _ _ _ _ _ _ _ _ _ r h => by simp [bits_grouped.j7] at h, fun _ _ _ _ _ _ _ r h => by simp [bits_grouped.j8] at h⟩
 | k + 1 => by
  obtain ⟨ih0, ih1, ih2, ih3, ih4, ih5, ih6, ih7, ih8⟩ := bits_grouped.mono_l k
  refine ⟨?_, ?_, ?_, ?_, ?_, ?_, ?_, ?_, ?_⟩
  ·intro y0 y1 y2 y3 y4 y5 y6 y7 y8
   unfold bits_grouped.l0
   repeat' first | with_reducible exact ih0 _ _ _ _ _ _ _ _ _ | with_reducible exact ih1 _ _ _ _ _ _ _ _ _ _ | with_reducible exact ih2 _ _ _ _ _ _ _ _ | with_reducible exact ih3 _ _ _ _ _ _ _ _ _ _ | with_reducible exact ih4 _ _ _ _ _ _ _ _ _ _ _ | with_reducible exact ih5 _ _ _ _ _ _ _ _ _ _ _ _ _ | with_reducible exact ih6 _ _ _ _ _ _ _ _ _ _ _ _ _ _ | with_reducible exact ih7 _ _ _ _ _ _ _ _ _ _ _ _ _ _ | with_reducible exact ih8 _ _ _ _ _ _ _ | with_reducible exact bits_All.mono _ _ _ | with_reducible exact bits_Bit.mono _ _ _ _ _ | with_reducible exact bits_Put.mono _ _ _ _ _ _ _ _ | with_reducible exact bits_digit.mono _ _ | with_reducible exact LeO.refl _ | with_reducible exact LeO.none _ | with_reducible refine LeO.ite ?_ ?_ | with_reducible refine LeO.bind ?_ (fun _ => ?_)
  ·intro y0 y1 y2 y3 y4 y5 y6 y7 y8 y9
   unfold bits_grouped.j1
   repeat' first | with_reducible exact ih0 _ _ _ _ _ _ _ _ _ | with_reducible exact ih1 _ _ _ _ _ _ _ _ _ _ | with_reducible exact ih2 _ _ _ _ _ _ _ _ | with_reducible exact ih3 _ _ _ _ _ _ _ _ _ _ | with_reducible exact ih4 _ _ _ _ _ _ _ _ _ _ _ | with_reducible exact ih5 _ _ _ _ _ _ _ _ _ _ _ _ _ | with_reducible exact ih6 _ _ _ _ _ _ _ _ _ _ _ _ _ _ | with_reducible exact ih7 _ _ _ _ _ _ _ _ _ _ _ _ _ _ | with_reducible exact ih8 _ _ _ _ _ _ _ | with_reducible exact bits_All.mono _ _ _ | with_reducible exact bits_Bit.mono _ _ _ _ _ | with_reducible exact bits_Put.mono _ _ _ _ _ _ _ _ | with_reducible exact bits_digit.mono _ _ | with_reducible exact LeO.refl _ | with_reducible exact LeO.none _ | with_reducible refine LeO.ite ?_ ?_ | with_reducible refine LeO.bind ?_ (fun _ => ?_)
  ·intro y0 y1 y2 y3 y4 y5 y6 y7
   unfold bits_grouped.l1
   repeat' first | with_reducible exact ih0 _ _ _ _ _ _ _ _ _ | with_reducible exact ih1 _ _ _ _ _ _ _ _ _ _ | with_reducible exact ih2 _ _ _ _ _ _ _ _ | with_reducible exact ih3 _ _ _ _ _ _ _ _ _ _ | with_reducible exact ih4 _ _ _ _ _ _ _ _ _ _ _ | with_reducible exact ih5 _ _ _ _ _ _ _ _ _ _ _ _ _ | with_reducible exact ih6 _ _ _ _ _ _ _ _ _ _ _ _ _ _ | with_reducible exact ih7 _ _ _ _ _ _ _ _ _ _ _ _ _ _ | with_reducible exact ih8 _ _ _ _ _ _ _ | with_reducible exact bits_All.mono _ _ _ | with_reducible exact bits_Bit.mono _ _ _ _ _ | with_reducible exact bits_Put.mono _ _ _ _ _ _ _ _ | with_reducible exact bits_digit.mono _ _ | with_reducible exact LeO.refl _ | with_reducible exact LeO.none _ | with_reducible refine LeO.ite ?_ ?_ | with_reducible refine LeO.bind ?_ (fun _ => ?_)
  ·intro y0 y1 y2 y3 y4 y5 y6 y7 y8 y9
   unfold bits_grouped.j3
   repeat' first | with_reducible exact ih0 _ _ _ _ _ _ _ _ _ | with_reducible exact ih1 _ _ _ _ _ _ _ _ _ _ | with_reducible exact ih2 _ _ _ _ _ _ _ _ | with_reducible exact ih3 _ _ _ _ _ _ _ _ _ _ | with_reducible exact ih4 _ _ _ _ _ _ _ _ _ _ _ | with_reducible exact ih5 _ _ _ _ _ _ _ _ _ _ _ _ _ | with_reducible exact ih6 _ _ _ _ _ _ _ _ _ _ _ _ _ _ | with_reducible exact ih7 _ _ _ _ _ _ _ _ _ _ _ _ _ _ | with_reducible exact ih8 _ _ _ _ _ _ _ | with_reducible exact bits_All.mono _ _ _ | with_reducible exact bits_Bit.mono _ _ _ _ _ | with_reducible exact bits_Put.mono _ _ _ _ _ _ _ _ | with_reducible exact bits_digit.mono _ _ | with_reducible exact LeO.refl _ | with_reducible exact LeO.none _ | with_reducible refine LeO.ite ?_ ?_ | with_reducible refine LeO.bind ?_ (fun _ => ?_)
  ·intro y0 y1 y2 y3 y4 y5 y6 y7 y8 y9 y10
   unfold bits_grouped.j4
   repeat' first | with_reducible exact ih0 _ _ _ _ _ _ _ _ _ | with_reducible exact ih1 _ _ _ _ _ _ _ _ _ _ | with_reducible exact ih2 _ _ _ _ _ _ _ _ | with_reducible exact ih3 _ _ _ _ _ _ _ _ _ _ | with_reducible exact ih4 _ _ _ _ _ _ _ _ _ _ _ | with_reducible exact ih5 _ _ _ _ _ _ _ _ _ _ _ _ _ | with_reducible exact ih6 _ _ _ _ _ _ _ _ _ _ _ _ _ _ | with_reducible exact ih7 _ _ _ _ _ _ _ _ _ _ _ _ _ _ | with_reducible exact ih8 _ _ _ _ _ _ _ | with_reducible exact bits_All.mono _ _ _ | with_reducible exact bits_Bit.mono _ _ _ _ _ | with_reducible exact bits_Put.mono _ _ _ _ _ _ _ _ | with_reducible exact bits_digit.mono _ _ | with_reducible exact LeO.refl _ | with_reducible exact LeO.none _ | with_reducible refine LeO.ite ?_ ?_ | with_reducible refine LeO.bind ?_ (fun _ => ?_)
  ·intro y0 y1 y2 y3 y4 y5 y6 y7 y8 y9 y10 y11 y12
   unfold bits_grouped.l2
   repeat' first | with_reducible exact ih0 _ _ _ _ _ _ _ _ _ | with_reducible exact ih1 _ _ _ _ _ _ _ _ _ _ | with_reducible exact ih2 _ _ _ _ _ _ _ _ | with_reducible exact ih3 _ _ _ _ _ _ _ _ _ _ | with_reducible exact ih4 _ _ _ _ _ _ _ _ _ _ _ | with_reducible exact ih5 _ _ _ _ _ _ _ _ _ _ _ _ _ | with_reducible exact ih6 _ _ _ _ _ _ _ _ _ _ _ _ _ _ | with_reducible exact ih7 _ _ _ _ _ _ _ _ _ _ _ _ _ _ | with_reducible exact ih8 _ _ _ _ _ _ _ | with_reducible exact bits_All.mono _ _ _ | with_reducible exact bits_Bit.mono _ _ _ _ _ | with_reducible exact bits_Put.mono _ _ _ _ _ _ _ _ | with_reducible exact bits_digit.mono _ _ | with_reducible exact LeO.refl _ | with_reducible exact LeO.none _ | with_reducible refine LeO.ite ?_ ?_ | with_reducible refine LeO.bind ?_ (fun _ => ?_)
  ·intro y0 y1 y2 y3 y4 y5 y6 y7 y8 y9 y10 y11 y12 y13
   unfold bits_grouped.j6
   repeat' first | with_reducible exact ih0 _ _ _ _ _ _ _ _ _ | with_reducible exact ih1 _ _ _ _ _ _ _ _ _ _ | with_reducible exact ih2 _ _ _ _ _ _ _ _ | with_reducible exact ih3 _ _ _ _ _ _ _ _ _ _ | with_reducible exact ih4 _ _ _ _ _ _ _ _ _ _ _ | with_reducible exact ih5 _ _ _ _ _ _ _ _ _ _ _ _ _ | with_reducible exact ih6 _ _ _ _ _ _ _ _ _ _ _ _ _ _ | with_reducible exact ih7 _ _ _ _ _ _ _ _ _ _ _ _ _ _ | with_reducible exact ih8 _ _ _ _ _ _ _ | with_reducible exact bits_All.mono _ _ _ | with_reducible exact bits_Bit.mono _ _ _ _ _ | with_reducible exact bits_Put.mono _ _ _ _ _ _ _ _ | with_reducible exact bits_digit.mono _ _ | with_reducible exact LeO.refl _ | with_reducible exact LeO.none _ | with_reducible refine LeO.ite ?_ ?_ | with_reducible refine LeO.bind ?_ (fun _ => ?_)
  ·intro y0 y1 y2 y3 y4 y5 y6 y7 y8 y9 y10 y11 y12 y13
   unfold bits_grouped.j7
   repeat' first | with_reducible exact ih0 _ _ _ _ _ _ _ _ _ | with_reducible exact ih1 _ _ _ _ _ _ _ _ _ _ | with_reducible exact ih2 _ _ _ _ _ _ _ _ | with_reducible exact ih3 _ _ _ _ _ _ _ _ _ _ | with_reducible exact ih4 _ _ _ _ _ _ _ _ _ _ _ | with_reducible exact ih5 _ _ _ _ _ _ _ _ _ _ _ _ _ | with_reducible exact ih6 _ _ _ _ _ _ _ _ _ _ _ _ _ _ | with_reducible exact ih7 _ _ _ _ _ _ _ _ _ _ _ _ _ _ | with_reducible exact ih8 _ _ _ _ _ _ _ | with_reducible exact bits_All.mono _ _ _ | with_reducible exact bits_Bit.mono _ _ _ _ _ | with_reducible exact bits_Put.mono _ _ _ _ _ _ _ _ | with_reducible exact bits_digit.mono _ _ | with_reducible exact LeO.refl _ | with_reducible exact LeO.none _ | with_reducible refine LeO.ite ?_ ?_ | with_reducible refine LeO.bind ?_ (fun _ => ?_)
  ·intro y0 y1 y2 y3 y4 y5 y6
   unfold bits_grouped.j8
   repeat' first | with_reducible exact ih0 _ _ _ _ _ _ _ _ _ | with_reducible exact ih1 _ _ _ _ _ _ _ _ _ _ | with_reducible exact ih2 _ _ _ _ _ _ _ _ | with_reducible exact ih3 _ _ _ _ _ _ _ _ _ _ | with_reducible exact ih4 _ _ _ _ _ _ _ _ _ _ _ | with_reducible exact ih5 _ _ _ _ _ _ _ _ _ _ _ _ _ | with_reducible exact ih6 _ _ _ _ _ _ _ _ _ _ _ _ _ _ | with_reducible exact ih7 _ _ _ _ _ _ _ _ _ _ _ _ _ _ | with_reducible exact ih8 _ _ _ _ _ _ _ | with_reducible exact bits_All.mono _ _ _ | with_reducible exact bits_Bit.mono _ _ _ _ _ | with_reducible exact bits_Put.mono _ _ _ _ _ _ _ _ | with_reducible exact bits_digit.mono _ _ | with_reducible exact LeO.refl _ | with_reducible exact LeO.none _ | with_reducible refine LeO.ite ?_ ?_ | with_reducible refine LeO.bind ?_ (fun _ => ?_)
theorem bits_grouped.mono : ∀ a0 a1 a2 a3 k, LeO (bits_grouped.f k a0 a1 a2 a3) (bits_grouped.f (k + 1) a0 a1 a2 a3) := by
 intro a0 a1 a2 a3 k
 obtain ⟨ih0, ih1, ih2, ih3, ih4, ih5, ih6, ih7, ih8⟩ := bits_grouped.mono_l k
 unfold bits_grouped.f
 repeat' first | with_reducible exact ih0 _ _ _ _ _ _ _ _ _ | with_reducible exact ih1 _ _ _ _ _ _ _ _ _ _ | with_reducible exact ih2 _ _ _ _ _ _ _ _ | with_reducible exact ih3 _ _ _ _ _ _ _ _ _ _ | with_reducible exact ih4 _ _ _ _ _ _ _ _ _ _ _ | with_reducible exact ih5 _ _ _ _ _ _ _ _ _ _ _ _ _ | with_reducible exact ih6 _ _ _ _ _ _ _ _ _ _ _ _ _ _ | with_reducible exact ih7 _ _ _ _ _ _ _ _ _ _ _ _ _ _ | with_reducible exact ih8 _ _ _ _ _ _ _ | with_reducible exact bits_All.mono _ _ _ | with_reducible exact bits_Bit.mono _ _ _ _ _ | with_reducible exact bits_Put.mono _ _ _ _ _ _ _ _ | with_reducible exact bits_digit.mono _ _ | with_reducible exact LeO.refl _ | with_reducible exact LeO.none _ | with_reducible refine LeO.ite ?_ ?_ | with_reducible refine LeO.bind ?_ (fun _ => ?_)
def bits_grouped.T6 : Bool × List (List Nat × List Nat) := (true, [([], []), ([0], [0]), ([1], [1]), ([2], [2]), ([3, 2], [2, 3]), ([2, 4], [2, 4]), ([5, 2], [5]), ([6], [6]), ([7, 6, 6], [6, 7]), ([8, 6], [6, 8]), ([9, 8, 6], [6, 9]), ([10], [10]), ([11, 10, 10], [10, 11]), ([10], [10]), ([13, 10], [10, 13]), ([12, 14, 10], [10, 12, 14]), ([10, 15, 6], [6, 10, 15]), ([6, 16], [6, 16])])
def bits_grouped.B6 : List Nat := [0, 1, 3, 7, 15, 31, 63, 127, 255, 511, 1023, 2047, 4095, 2047, 10239, 32767, 65535, 131071]
theorem bits_grouped.tab6 : rtab .any (opsOf Tryz.f41 6) = bits_grouped.T6 := by kernel_rfl
theorem bits_grouped.bits6 : waitsOk bits_grouped.T6.2 bits_grouped.B6 = true := by kernel_rfl
def bits_grouped.T32 : Bool × List (List Nat × List Nat) := (true, [([], []), ([], []), ([], []), ([], []), ([2, 3], [2, 3]), ([], []), ([4, 5], [4, 5]), ([0, 1, 6, 6], [0, 1, 6]), ([7, 7, 0, 1, 2, 3, 4, 5, 6, 7], [7])])
def bits_grouped.B32 : List Nat := [0, 0, 0, 0, 12, 0, 60, 127, 255]
theorem bits_grouped.tab32 : rtab .any (opsOf Tryz.f41 32) = bits_grouped.T32 := by kernel_rfl
theorem bits_grouped.bits32 : waitsOk bits_grouped.T32.2 bits_grouped.B32 = true := by kernel_rfl
set_option maxHeartbeats 8000000 in
set_option maxRecDepth 100000 in
theorem bits_grouped.calls (k : Nat) (a0 : ByteArray) (a1 : Int) (a2 : Int) (a3 : Int) (r1 : Int) (r2 : Int) (r3 : Int) (r4 : Int) (w : World) (h : bits_grouped.f k a0 a1 a2 a3 = some (r1, r2, r3, r4)) :
  Calls Tryz.prog 41 #[.string a0, .int .i64 a1, .int .i64 a2, .int .i64 a3] w fun e w' => e = .returned (.tuple #[.agg #[.int .i64 r1, .int .u64 r2, .int .u64 r3], .int .i64 r4]) ∧ Below w.heap.size w w' := by
 have hu24 := Tryz.underlying24
 have HB := Aside0.mk (Below.refl w.heap.size w)
 have H := h
 clear h
 unfold bits_grouped.f at H
 have H' := Aside0.mk H
 clear H
 go_enter Tryz.func41, Tryz.ntmps41
 go_wp2_with (first | (refine boxA HB 8 #[.int .i64 0, .int .u64 0, .int .u64 0] 24 ?_; clear HB; intro gb426 w5 BK426 GE426 hg hb HB; clear hb hg) | (refine boxA HB 10 #[.int .i64 0, .int .u64 0, .int .u64 0] 24 ?_; clear HB; intro gb427 w6 BK427 GE427 hg hb HB; have NB426_427 := nbA BK426 hg; have NB427_426 := nbB BK426 hg; replace BK426 := bk1 BK426 hb; clear hb hg; have hnb7 := NB427_426.out; have hnc7 := NB426_427.out; obtain ⟨hcz8_0, hcz8_1, hcz8_2, hfz8_0, hfz8_1, hfz8_2⟩ := cf3 BK427))
 go_loopg [24] k (fun kq v24 w' => ∃ (x24_1 : Int) (x427000_1 : Int) (x427001_1 : Int) (x427002_1 : Int), v24 = .int .i64 x24_1 ∧ Aside0 (bits_grouped.l0 kq a0 a1 a2 a3 (a0.size : Int) x24_1 a1 0 0 = some (r1, r2, r3, r4)) ∧ Aside0 (kq ≤ k) ∧ Aside0 (w'.heap[gb426]? = some (.cells #[.int .i64 x427000_1, .int .u64 x427001_1, .int .u64 x427002_1] 24 (0, 0))) ∧ Aside0 (w'.heap[gb427]? = some (.cells #[.int .i64 a1, .int .u64 0, .int .u64 0] 24 (0, 0))) ∧ Aside0 (Below w.heap.size w w'))
 case atStart => exact ⟨(0), (0), (0), (0), (by rfl), H', ⟨Nat.le_refl _⟩, ⟨by refine blk_far ?_ NB426_427.out _; refine blk_far ?_ NB426_427.out _; refine blk_far ?_ NB426_427.out _; exact BK426.out⟩, ⟨by refine blk_put (cs := #[.int .i64 a1, .int .u64 0, .int .u64 0]) ?_ 2 _ rfl; refine blk_put (cs := #[.int .i64 a1, .int .u64 0, .int .u64 0]) ?_ 1 _ rfl; refine blk_put (cs := #[.int .i64 0, .int .u64 0, .int .u64 0]) ?_ 0 _ rfl; exact BK427.out⟩, ⟨by repeat (with_reducible first | exact HB.out | refine below_set ?_ GE427.out)⟩⟩
 case round =>
  clear H'
  (try clear hcz8_0 hcz8_1 hcz8_2 hfz8_0 hfz8_1 hfz8_2)
  obtain ⟨x24_1, x427000_1, x427001_1, x427002_1, rfl, HA, HK1, BK426, BK427, HB⟩ := hrel
  cases gk with
  | zero => exact absurd HA.out (by simp [bits_grouped.l0])
  | succ k1 =>
   have H := HA.out
   clear HA
   simp only [bits_grouped.l0] at H
   replace H := iD H; rcases H with ⟨c9b0, H⟩ | ⟨c9b0, H⟩
   ·replace H := iN H; obtain ⟨c10b0, H⟩ := H
    replace H := iN H; obtain ⟨c11b0, H⟩ := H
    have HC13 := Aside0.mk H
    clear H
    have p12 : 0 ≤ (x24_1 : Int) := of_decide_eq_true (by (with_reducible assumption))
    have q12 : x24_1 < (a0.size : Int) := of_decide_eq_true (by (with_reducible assumption))
    have hx12 := bt_at a0 x24_1
    replace p12 := eq_true p12
    replace q12 := eq_true q12
    go_upto_region 6 with (fail)
    go_cut [47] (fun v47 wc => ∃ (kq : Nat) (x47_12 : Bool), v47 = .bool x47_12 ∧ Aside0 (bits_grouped.j1 kq a0 a1 a2 a3 (a0.size : Int) x24_1 x47_12 a1 0 0 = some (r1, r2, r3, r4)) ∧ Aside0 (kq ≤ k1) ∧ Aside0 (wc.heap[gb426]? = some (.cells #[.int .i64 x427000_1, .int .u64 x427001_1, .int .u64 x427002_1] 24 (0, 0))) ∧ Aside0 (wc.heap[gb427]? = some (.cells #[.int .i64 a1, .int .u64 0, .int .u64 0] 24 (0, 0))) ∧ Aside0 (Below w.heap.size w wc))
    case first =>
     have H := HC13.out
     clear HC13
     replace H := iE H; rcases H with ⟨c14b0, c14b1, H⟩ | ⟨c14, c14b0, c14b1, H⟩
     ·(skip)
      have H' := Aside0.mk H
      clear H
      try go_wp2
      replace BK426 := bkd BK426
      replace BK427 := bkd BK427
      replace HB := hbd HB
      refine start_ (n := 18) (S := fun w' => True) (ds := []) (tb 18 0) (by kernel_rfl) rfl (by kernel_rfl) trivial (fun hHeld => ?_); refine with_tabW bits_grouped.tab6 bits_grouped.bits6 (fun HT_ HW_ => ?_)
      generalize wr.drew = w15 at BK426 BK427 HB hHeld ⊢
      refine pA 0 30 (tb 18 1) HT_ ?_
      refine pA 1 31 (tb 18 3) HT_ ?_
      refine pA 2 32 (tb 18 7) HT_ ?_
      refine pU 3 33 (tb 18 15) HT_ ?_
      refine pU 4 34 (tb 18 31) HT_ ?_
      refine pA 5 35 (tb 18 63) HT_ ?_
      refine pA 6 36 (tb 18 127) HT_ ?_
      refine pU 7 37 (tb 18 255) HT_ ?_
      refine pU 8 38 (tb 18 511) HT_ ?_
      refine pU 9 39 (tb 18 1023) HT_ ?_
      refine pU 10 40 (tb 18 2047) HT_ ?_
      refine pU 11 41 (tb 18 4095) HT_ ?_
      refine pU 12 42 (tb 18 8191) HT_ ?_
      refine pU 13 43 (tb 18 16383) HT_ ?_
      refine pU 14 44 (tb 18 32767) HT_ ?_
      refine pU 15 45 (tb 18 65535) HT_ ?_
      refine pU 16 46 (tb 18 131071) HT_ ?_
      refine pA 17 47 (tb 18 262143) HT_ ?_
      refine done_ (done_of HT_.out (by kernel_rfl)) ?_
      try go_wp2
      go_meet
      case rel => exact ⟨_, (false), (by rfl), H', ⟨by have := HK1.out; omega⟩, ⟨by exact BK426.out⟩, ⟨by exact BK427.out⟩, ⟨by repeat (with_reducible exact HB.out)⟩⟩
     ·(skip)
      replace H := iE H; rcases H with ⟨c16b0, c16b1, H⟩ | ⟨c16, c16b0, c16b1, H⟩
      ·have H' := Aside0.mk H
       clear H
       try go_wp2
       replace BK426 := bkd BK426
       replace BK427 := bkd BK427
       replace HB := hbd HB
       refine start_ (n := 18) (S := fun w' => True) (ds := []) (tb 18 0) (by kernel_rfl) rfl (by kernel_rfl) trivial (fun hHeld => ?_); refine with_tabW bits_grouped.tab6 bits_grouped.bits6 (fun HT_ HW_ => ?_)
       generalize wr.drew = w17 at BK426 BK427 HB hHeld ⊢
       refine pA 0 30 (tb 18 1) HT_ ?_
       refine pA 1 31 (tb 18 3) HT_ ?_
       refine pA 2 32 (tb 18 7) HT_ ?_
       refine pA 3 33 (tb 18 15) HT_ ?_
       refine pA 4 34 (tb 18 31) HT_ ?_
       refine pA 5 35 (tb 18 63) HT_ ?_
       refine pA 6 36 (tb 18 127) HT_ ?_
       refine pU 7 37 (tb 18 255) HT_ ?_
       refine pU 8 38 (tb 18 511) HT_ ?_
       refine pU 9 39 (tb 18 1023) HT_ ?_
       refine pU 10 40 (tb 18 2047) HT_ ?_
       refine pU 11 41 (tb 18 4095) HT_ ?_
       refine pU 12 42 (tb 18 8191) HT_ ?_
       refine pU 13 43 (tb 18 16383) HT_ ?_
       refine pU 14 44 (tb 18 32767) HT_ ?_
       refine pU 15 45 (tb 18 65535) HT_ ?_
       refine pU 16 46 (tb 18 131071) HT_ ?_
       refine pA 17 47 (tb 18 262143) HT_ ?_
       refine done_ (done_of HT_.out (by kernel_rfl)) ?_
       try go_wp2
       go_meet
       case rel => exact ⟨_, (false), (by rfl), H', ⟨by have := HK1.out; omega⟩, ⟨by exact BK426.out⟩, ⟨by exact BK427.out⟩, ⟨by repeat (with_reducible exact HB.out)⟩⟩
      ·replace H := bN H; obtain ⟨t428, A18, H⟩ := H
       replace H := iD H; rcases H with ⟨c19b0, H⟩ | ⟨c19b0, H⟩
       ·have H' := Aside0.mk H
        clear H
        try go_wp2
        replace BK426 := bkd BK426
        replace BK427 := bkd BK427
        replace HB := hbd HB
        refine start_ (n := 18) (S := fun w' => True) (ds := []) (tb 18 0) (by kernel_rfl) rfl (by kernel_rfl) trivial (fun hHeld => ?_); refine with_tabW bits_grouped.tab6 bits_grouped.bits6 (fun HT_ HW_ => ?_)
        generalize wr.drew = w20 at BK426 BK427 HB hHeld ⊢
        refine pA 0 30 (tb 18 1) HT_ ?_
        refine pA 1 31 (tb 18 3) HT_ ?_
        refine pA 2 32 (tb 18 7) HT_ ?_
        refine pA 3 33 (tb 18 15) HT_ ?_
        refine pA 4 34 (tb 18 31) HT_ ?_
        refine pA 5 35 (tb 18 63) HT_ ?_
        refine pA 6 36 (tb 18 127) HT_ ?_
        refine pA 7 37 (tb 18 255) HT_ ?_
        refine oA 8 (some 38) (tb 18 511) HT_ (fun K hK => ?_)
        refine gA Tryz.func79 #[.int .u8 (bt a0 x24_1)] ?_
        with_reducible refine (bits_digit.calls k1 (bt a0 x24_1) t428 _ A18.out).mono ?_
        rintro e w' ⟨rfl, ⟨nd, rfl⟩⟩
        refine ⟨_, rfl, ?_⟩
        refine hK.out _ _ trivial (fun hHeld => ?_)
        clear hK K
        refine nA ?_
        refine pA 9 39 (tb 18 1023) HT_ ?_
        refine pA 10 40 (tb 18 2047) HT_ ?_
        refine pU 11 41 (tb 18 4095) HT_ ?_
        refine pU 12 42 (tb 18 8191) HT_ ?_
        refine pU 13 43 (tb 18 16383) HT_ ?_
        refine pU 14 44 (tb 18 32767) HT_ ?_
        refine pU 15 45 (tb 18 65535) HT_ ?_
        refine pA 16 46 (tb 18 131071) HT_ ?_
        refine pA 17 47 (tb 18 262143) HT_ ?_
        refine done_ (done_of HT_.out (by kernel_rfl)) ?_
        try go_wp2
        go_meet
        case rel => exact ⟨_, (true), (by rfl), H', ⟨by have := HK1.out; omega⟩, ⟨by (with_reducible repeat (refine blk_drewN ?_ _)); exact BK426.out⟩, ⟨by (with_reducible repeat (refine blk_drewN ?_ _)); exact BK427.out⟩, ⟨by repeat (with_reducible first | exact HB.out | apply pw_below_drewN)⟩⟩
       ·replace H := bN H; obtain ⟨t429, A21, H⟩ := H
        by_cases c22 : 0 ≤ a2
        ·rw [if_pos c22] at H
         have c22b0 := eq_true c22
         have c22b1 : decide (0 ≤ a2) = true := decide_eq_true c22
         clear c22
         obtain ⟨ji23, hji23⟩ : ∃ j_ : Int, (shl .i64 1 a2) = j_ := ⟨_, rfl⟩
         replace H : (bits_grouped.j1 k1 a0 a1 a2 a3 (a0.size : Int) x24_1 (decide (t429 ≥ (ji23))) a1 0 0) = some (r1, r2, r3, r4) := by (rw [hji23] at H; exact H)
         have hji23_ : (IntKind.i64.wrap (1 * 2 ^ min a2.toNat 64)) = ji23 := hji23
         have hji23z : a2 ≤ 64 → (IntKind.i64.wrap (1 * 2 ^ a2.toNat)) = ji23 := shl_small hji23
         have hji23u : (IntKind.i64.wrap (2 ^ min a2.toNat 64)) = ji23 := by have h_ := hji23_; rw [Int.one_mul] at h_; exact h_
         have hji23v : a2 ≤ 64 → (IntKind.i64.wrap (2 ^ a2.toNat)) = ji23 := fun hle_ => by have h_ := hji23z hle_; rw [Int.one_mul] at h_; exact h_
         have hji23y : (wrap64 (1 * 2 ^ min a2.toNat 64)) = ji23 := (i64_w _).symm.trans hji23_
         have hji23x : a2 ≤ 64 → (wrap64 (1 * 2 ^ a2.toNat)) = ji23 := fun h_ => (i64_w _).symm.trans (hji23z h_)
         have H' := Aside0.mk H
         clear H
         try go_wp2
         replace BK426 := bkd BK426
         replace BK427 := bkd BK427
         replace HB := hbd HB
         refine start_ (n := 18) (S := fun w' => True) (ds := []) (tb 18 0) (by kernel_rfl) rfl (by kernel_rfl) trivial (fun hHeld => ?_); refine with_tabW bits_grouped.tab6 bits_grouped.bits6 (fun HT_ HW_ => ?_)
         generalize wr.drew = w24 at BK426 BK427 HB hHeld ⊢
         refine pA 0 30 (tb 18 1) HT_ ?_
         refine pA 1 31 (tb 18 3) HT_ ?_
         refine pA 2 32 (tb 18 7) HT_ ?_
         refine pA 3 33 (tb 18 15) HT_ ?_
         refine pA 4 34 (tb 18 31) HT_ ?_
         refine pA 5 35 (tb 18 63) HT_ ?_
         refine pA 6 36 (tb 18 127) HT_ ?_
         refine pA 7 37 (tb 18 255) HT_ ?_
         refine oA 8 (some 38) (tb 18 511) HT_ (fun K hK => ?_)
         refine gA Tryz.func79 #[.int .u8 (bt a0 x24_1)] ?_
         with_reducible refine (bits_digit.calls k1 (bt a0 x24_1) t428 _ A18.out).mono ?_
         rintro e w' ⟨rfl, ⟨nd, rfl⟩⟩
         refine ⟨_, rfl, ?_⟩
         refine hK.out _ _ trivial (fun hHeld => ?_)
         clear hK K
         refine nA ?_
         refine pA 9 39 (tb 18 1023) HT_ ?_
         refine pA 10 40 (tb 18 2047) HT_ ?_
         refine pA 11 41 (tb 18 4095) HT_ ?_
         refine pA 13 43 (tb 18 12287) HT_ ?_
         refine pA 14 44 (tb 18 28671) HT_ ?_
         refine oA 12 (some 42) (tb 18 32767) HT_ (fun K hK => ?_)
         refine gA Tryz.func79 #[.int .u8 (bt a0 x24_1)] ?_
         with_reducible refine (bits_digit.calls k1 (bt a0 x24_1) t429 _ A21.out).mono ?_
         rintro e w' ⟨rfl, ⟨nd, rfl⟩⟩
         refine ⟨_, rfl, ?_⟩
         refine hK.out _ _ trivial (fun hHeld => ?_)
         clear hK K
         refine nA ?_
         refine pA 15 45 (tb 18 65535) HT_ ?_
         refine pA 16 46 (tb 18 131071) HT_ ?_
         refine pA 17 47 (tb 18 262143) HT_ ?_
         refine done_ (done_of HT_.out (by kernel_rfl)) ?_
         try go_wp2
         go_meet
         case rel => exact ⟨_, (decide (t429 ≥ (ji23))), (by rfl), H', ⟨by have := HK1.out; omega⟩, ⟨by (with_reducible repeat (refine blk_drewN ?_ _)); exact BK426.out⟩, ⟨by (with_reducible repeat (refine blk_drewN ?_ _)); exact BK427.out⟩, ⟨by repeat (with_reducible first | exact HB.out | apply pw_below_drewN)⟩⟩
        ·rw [if_neg c22] at H
         exact absurd H (by simp)
    case rest =>
     clear HC13
     obtain ⟨kq, x47_12, rfl, HA, HJ12, BK426, BK427, HB⟩ := hcut
     cases kq with
     | zero => exact absurd HA.out (by simp [bits_grouped.j1])
     | succ kj12 =>
      have H := HA.out
      clear HA
      simp only [bits_grouped.j1] at H
      replace H := iB H; rcases H with ⟨rfl, H⟩ | ⟨rfl, H⟩
      ·replace H := s4 H; obtain ⟨rfl, rfl, rfl, rfl⟩ := H
       have hnb26 := NB426_427.out
       have hnc26 := NB427_426.out
       obtain ⟨hcz27_0, hcz27_1, hcz27_2, hfz27_0, hfz27_1, hfz27_2⟩ := cf3 BK426
       go_wp2
       refine bodyPost_ret (results_ct rfl _ _ gb426 24 #[.int .i64 0, .int .u64 0, .int .u64 0] (0, 0) _ rfl (by refine blk_put (cs := #[.int .i64 0, .int .u64 0, .int .u64 x427002_1]) ?_ 2 _ rfl; refine blk_put (cs := #[.int .i64 0, .int .u64 x427001_1, .int .u64 x427002_1]) ?_ 1 _ rfl; refine blk_put (cs := #[.int .i64 x427000_1, .int .u64 x427001_1, .int .u64 x427002_1]) ?_ 0 _ rfl; exact BK426.out) Tryz.underlying24 rfl (by kernel_rfl)) rfl ?_
       exact ⟨by rfl, by repeat (with_reducible first | exact HB.out | refine below_set ?_ GE426.out)⟩
      ·have H' := Aside0.mk H
       clear H
       go_wp2
       go_roundg kj12
       case measure => have := HK1.out; have := HJ12.out; omega
       case rel => exact ⟨(wrap64 (x24_1 + 1)), (x427000_1), (x427001_1), (x427002_1), (by rfl), H', ⟨by have := HK1.out; have := HJ12.out; omega⟩, ⟨by exact BK426.out⟩, ⟨by exact BK427.out⟩, ⟨by repeat (with_reducible exact HB.out)⟩⟩
   ·replace H := iE H; rcases H with ⟨c28b0, c28b1, H⟩ | ⟨c28, c28b0, c28b1, H⟩
    ·have H' := Aside0.mk H
     clear H
     go_wp2
     go_loopg [13, 14] k1 (fun kq v13 v14 w' => ∃ (x13_2 : Int) (x14_2 : Int) (x427000_2 : Int) (x427001_2 : Int) (x427002_2 : Int) (x428000_2 : Int) (x428001_2 : Int) (x428002_2 : Int), v13 = .int .i64 x13_2 ∧ v14 = .int .i64 x14_2 ∧ Aside0 (bits_grouped.l1 kq a0 a1 a2 x13_2 x14_2 x428000_2 x428001_2 x428002_2 = some (r1, r2, r3, r4)) ∧ Aside0 (kq ≤ k1) ∧ Aside0 (w'.heap[gb426]? = some (.cells #[.int .i64 x427000_2, .int .u64 x427001_2, .int .u64 x427002_2] 24 (0, 0))) ∧ Aside0 (w'.heap[gb427]? = some (.cells #[.int .i64 x428000_2, .int .u64 x428001_2, .int .u64 x428002_2] 24 (0, 0))) ∧ Aside0 (Below w.heap.size w w'))
     case atStart => exact ⟨(0), (wrap64 ((a0.size : Int) - 1)), (x427000_1), (x427001_1), (x427002_1), (a1), (0), (0), (by rfl), (by rfl), H', ⟨Nat.le_refl _⟩, ⟨by exact BK426.out⟩, ⟨by exact BK427.out⟩, ⟨by repeat (with_reducible exact HB.out)⟩⟩
     case round =>
      clear H'
      (try clear c9b0); (try clear c28b0); (try clear c28b1)
      obtain ⟨x13_2, x14_2, x427000_2, x427001_2, x427002_2, x428000_2, x428001_2, x428002_2, rfl, rfl, HA, HK2, BK426, BK427, HB⟩ := hrel
      cases gk with
      | zero => exact absurd HA.out (by simp [bits_grouped.l1])
      | succ k2 =>
       have H := HA.out
       clear HA
       simp only [bits_grouped.l1] at H
       replace H := iD H; rcases H with ⟨c29b0, H⟩ | ⟨c29b0, H⟩
       ·replace c29b0 : decide (0 ≤ x14_2) = true := c29b0
        replace H := iN H; obtain ⟨c30b0, H⟩ := H
        replace H := iN H; obtain ⟨c31b0, H⟩ := H
        have HC33 := Aside0.mk H
        clear H
        go_upto_region 17 with ((refine boxA HB 15 #[.int .i64 0, .int .u64 0, .int .u64 0] 24 ?_; clear HB; intro gb430 w34 BK430 GE430 hg hb HB; have NB426_430 := nbA BK426 hg; have NB430_426 := nbB BK426 hg; replace BK426 := bk1 BK426 hb; have NB427_430 := nbA BK427 hg; have NB430_427 := nbB BK427 hg; replace BK427 := bk1 BK427 hb; clear hb hg; have p32 : 0 ≤ (x14_2 : Int) := of_decide_eq_true (by (with_reducible assumption)); have q32 : x14_2 < (a0.size : Int) := of_decide_eq_true (by (with_reducible assumption)); have hx32 := bt_at a0 x14_2; replace p32 := eq_true p32; replace q32 := eq_true q32))
        go_cut [69] (fun v69 wc => ∃ (kq : Nat) (x69_32 : Bool), v69 = .bool x69_32 ∧ Aside0 (bits_grouped.j3 kq a0 a1 a2 x13_2 x14_2 (bt a0 x14_2) x69_32 x428000_2 x428001_2 x428002_2 = some (r1, r2, r3, r4)) ∧ Aside0 (kq ≤ k2) ∧ Aside0 (wc.heap[gb426]? = some (.cells #[.int .i64 x427000_2, .int .u64 x427001_2, .int .u64 x427002_2] 24 (0, 0))) ∧ Aside0 (wc.heap[gb427]? = some (.cells #[.int .i64 x428000_2, .int .u64 x428001_2, .int .u64 x428002_2] 24 (0, 0))) ∧ Aside0 (wc.heap[gb430]? = some (.cells #[.int .i64 0, .int .u64 0, .int .u64 0] 24 (0, 0))) ∧ Aside0 (Below w.heap.size w wc))
        case first =>
         have H := HC33.out
         clear HC33
         replace H := iE H; rcases H with ⟨c35b0, c35b1, H⟩ | ⟨c35, c35b0, c35b1, H⟩
         ·(skip)
          have H' := Aside0.mk H
          clear H
          go_wp2
          go_meet
          case rel => exact ⟨_, (true), (by rfl), H', ⟨by have := HK1.out; have := HK2.out; omega⟩, ⟨by exact BK426.out⟩, ⟨by exact BK427.out⟩, ⟨by exact BK430.out⟩, ⟨by repeat (with_reducible exact HB.out)⟩⟩
         ·(skip)
          have H' := Aside0.mk H
          clear H
          go_wp2
          go_meet
          case rel => exact ⟨_, ((bt a0 x14_2) == 122), (by rfl), H', ⟨by have := HK1.out; have := HK2.out; omega⟩, ⟨by exact BK426.out⟩, ⟨by exact BK427.out⟩, ⟨by exact BK430.out⟩, ⟨by repeat (with_reducible exact HB.out)⟩⟩
        case rest =>
         clear HC33
         (try clear c29b0); (try clear c30b0); (try clear c31b0); (try clear p32); (try clear q32); (try clear hx32)
         obtain ⟨kq, x69_32, rfl, HA, HJ32, BK426, BK427, BK430, HB⟩ := hcut
         cases kq with
         | zero => exact absurd HA.out (by simp [bits_grouped.j3])
         | succ kj32 =>
          have H := HA.out
          clear HA
          simp only [bits_grouped.j3] at H
          have HC36 := Aside0.mk H
          clear H
          go_upto_if 69 with (fail)
          go_cut [] (fun wc => ∃ (kq : Nat) (x431000_35 : Int) (x431001_35 : Int) (x431002_35 : Int), Aside0 (bits_grouped.j4 kq a0 a1 a2 x13_2 x14_2 x428000_2 x428001_2 x428002_2 x431000_35 x431001_35 x431002_35 = some (r1, r2, r3, r4)) ∧ Aside0 (kq ≤ kj32) ∧ Aside0 (wc.heap[gb426]? = some (.cells #[.int .i64 x427000_2, .int .u64 x427001_2, .int .u64 x427002_2] 24 (0, 0))) ∧ Aside0 (wc.heap[gb427]? = some (.cells #[.int .i64 x428000_2, .int .u64 x428001_2, .int .u64 x428002_2] 24 (0, 0))) ∧ Aside0 (wc.heap[gb430]? = some (.cells #[.int .i64 x431000_35, .int .u64 x431001_35, .int .u64 x431002_35] 24 (0, 0))) ∧ Aside0 (Below w.heap.size w wc))
          case first =>
           have H := HC36.out
           clear HC36
           replace H := iB H; rcases H with ⟨rfl, H⟩ | ⟨rfl, H⟩
           ·replace H := bN H; obtain ⟨⟨t431, t432, t433⟩, A38, H⟩ := H; dsimp only at H
            have H' := Aside0.mk H
            clear H
            go_wp2_with ((refine callA (some 72) Tryz.func77 #[.int .i64 a2, .int .u8 (bt a0 x14_2)] ?_; (with_reducible refine (bits_All.calls kj32 a2 (bt a0 x14_2) t431 t432 t433 _ A38.out).mono ?_); rintro e w39 ⟨rfl, hb⟩; refine ⟨_, rfl, ?_⟩; replace BK426 := bk1 BK426 hb; replace BK427 := bk1 BK427 hb; replace BK430 := bk1 BK430 hb; replace HB := hb1 HB hb; (try clear hb); have hnb40 := NB430_426.out; have hnc40 := NB426_430.out; have hnb41 := NB430_427.out; have hnc41 := NB427_430.out; obtain ⟨hcz42_0, hcz42_1, hcz42_2, hfz42_0, hfz42_1, hfz42_2⟩ := cf3 BK430))
            go_meet
            case rel => exact ⟨_, (t431), (t432), (t433), H', ⟨by have := HK1.out; have := HK2.out; have := HJ32.out; omega⟩, ⟨by refine blk_far ?_ NB426_430.out _; refine blk_far ?_ NB426_430.out _; refine blk_far ?_ NB426_430.out _; exact BK426.out⟩, ⟨by refine blk_far ?_ NB427_430.out _; refine blk_far ?_ NB427_430.out _; refine blk_far ?_ NB427_430.out _; exact BK427.out⟩, ⟨by refine blk_put (cs := #[.int .i64 t431, .int .u64 t432, .int .u64 0]) ?_ 2 _ rfl; refine blk_put (cs := #[.int .i64 t431, .int .u64 0, .int .u64 0]) ?_ 1 _ rfl; refine blk_put (cs := #[.int .i64 0, .int .u64 0, .int .u64 0]) ?_ 0 _ rfl; exact BK430.out⟩, ⟨by repeat (with_reducible first | exact HB.out | refine below_set ?_ GE430.out)⟩⟩
           ·replace H := bN H; obtain ⟨t434, A43, H⟩ := H
            replace H := bN H; obtain ⟨⟨t435, t436, t437⟩, A44, H⟩ := H; dsimp only at H
            have H' := Aside0.mk H
            clear H
            go_wp2_with (first | (refine callA (some 75) Tryz.func79 #[.int .u8 (bt a0 x14_2)] ?_; (with_reducible refine (bits_digit.calls kj32 (bt a0 x14_2) t434 _ A43.out).mono ?_); rintro e w' ⟨rfl, ⟨nd, rfl⟩⟩; refine ⟨_, rfl, ?_⟩; (try (rw [drewN_self wc]; generalize hq_ : World.drewN wc _ = wc; have n0_ : Aside0 (wc.heap[gb426]? = some (.cells #[.int .i64 x427000_2, .int .u64 x427001_2, .int .u64 x427002_2] 24 (0, 0))) := ⟨by rw [← hq_]; exact (by (with_reducible repeat (refine blk_drewN ?_ _)); exact BK426.out)⟩; have n1_ : Aside0 (wc.heap[gb427]? = some (.cells #[.int .i64 x428000_2, .int .u64 x428001_2, .int .u64 x428002_2] 24 (0, 0))) := ⟨by rw [← hq_]; exact (by (with_reducible repeat (refine blk_drewN ?_ _)); exact BK427.out)⟩; have n2_ : Aside0 (wc.heap[gb430]? = some (.cells #[.int .i64 0, .int .u64 0, .int .u64 0] 24 (0, 0))) := ⟨by rw [← hq_]; exact (by (with_reducible repeat (refine blk_drewN ?_ _)); exact BK430.out)⟩; have n3_ : Aside0 (Below w.heap.size w wc) := ⟨by rw [← hq_]; exact (by repeat (with_reducible first | exact HB.out | apply pw_below_drewN))⟩; clear BK426 BK427 BK430 HB hq_; have BK426 := n0_; have BK427 := n1_; have BK430 := n2_; have HB := n3_; clear n0_ n1_ n2_ n3_))) | (refine callA (some 77) Tryz.func78 #[.int .i64 a2, .int .u64 (IntKind.u64.wrap (t434))] ?_; (with_reducible refine (bits_Of.calls a2 (IntKind.u64.wrap (t434)) t435 t436 t437 _ A44.out).mono ?_); rintro e w45 ⟨rfl, hb⟩; refine ⟨_, rfl, ?_⟩; replace BK426 := bk1 BK426 hb; replace BK427 := bk1 BK427 hb; replace BK430 := bk1 BK430 hb; replace HB := hb1 HB hb; (try clear hb); have hnb46 := NB430_426.out; have hnc46 := NB426_430.out; have hnb47 := NB430_427.out; have hnc47 := NB427_430.out; obtain ⟨hcz48_0, hcz48_1, hcz48_2, hfz48_0, hfz48_1, hfz48_2⟩ := cf3 BK430))
            go_meet
            case rel => exact ⟨_, (t435), (t436), (t437), H', ⟨by have := HK1.out; have := HK2.out; have := HJ32.out; omega⟩, ⟨by refine blk_far ?_ NB426_430.out _; refine blk_far ?_ NB426_430.out _; refine blk_far ?_ NB426_430.out _; exact BK426.out⟩, ⟨by refine blk_far ?_ NB427_430.out _; refine blk_far ?_ NB427_430.out _; refine blk_far ?_ NB427_430.out _; exact BK427.out⟩, ⟨by refine blk_put (cs := #[.int .i64 t435, .int .u64 t436, .int .u64 0]) ?_ 2 _ rfl; refine blk_put (cs := #[.int .i64 t435, .int .u64 0, .int .u64 0]) ?_ 1 _ rfl; refine blk_put (cs := #[.int .i64 0, .int .u64 0, .int .u64 0]) ?_ 0 _ rfl; exact BK430.out⟩, ⟨by repeat (with_reducible first | exact HB.out | refine below_set ?_ GE430.out)⟩⟩
          case rest =>
           clear HC36
           obtain ⟨kq, x431000_35, x431001_35, x431002_35, HA, HJ35, BK426, BK427, BK430, HB⟩ := hcut
           cases kq with
           | zero => exact absurd HA.out (by simp [bits_grouped.j4])
           | succ kj35 =>
            have H := HA.out
            clear HA
            simp only [bits_grouped.j4] at H
            have H' := Aside0.mk H
            clear H
            go_wp2
            go_loopg [79] kj35 (fun kq v79 w' => ∃ (x79_5 : Int) (x427000_5 : Int) (x427001_5 : Int) (x427002_5 : Int), v79 = .int .i64 x79_5 ∧ Aside0 (bits_grouped.l2 kq a0 a1 a2 x13_2 x14_2 a2 x79_5 x428000_2 x428001_2 x428002_2 x431000_35 x431001_35 x431002_35 = some (r1, r2, r3, r4)) ∧ Aside0 (kq ≤ kj35) ∧ Aside0 (w'.heap[gb426]? = some (.cells #[.int .i64 x427000_5, .int .u64 x427001_5, .int .u64 x427002_5] 24 (0, 0))) ∧ Aside0 (w'.heap[gb427]? = some (.cells #[.int .i64 x428000_2, .int .u64 x428001_2, .int .u64 x428002_2] 24 (0, 0))) ∧ Aside0 (w'.heap[gb430]? = some (.cells #[.int .i64 x431000_35, .int .u64 x431001_35, .int .u64 x431002_35] 24 (0, 0))) ∧ Aside0 (Below w.heap.size w w'))
            case atStart => exact ⟨(0), (x427000_2), (x427001_2), (x427002_2), (by rfl), H', ⟨Nat.le_refl _⟩, ⟨by exact BK426.out⟩, ⟨by exact BK427.out⟩, ⟨by exact BK430.out⟩, ⟨by repeat (with_reducible exact HB.out)⟩⟩
            case round =>
             clear H'
             obtain ⟨x79_5, x427000_5, x427001_5, x427002_5, rfl, HA, HK5, BK426, BK427, BK430, HB⟩ := hrel
             cases gk with
             | zero => exact absurd HA.out (by simp [bits_grouped.l2])
             | succ k5 =>
              have H := HA.out
              clear HA
              simp only [bits_grouped.l2] at H
              replace H := iD H; rcases H with ⟨c49b0, H⟩ | ⟨c49b0, H⟩
              ·have HC50 := Aside0.mk H
               clear H
               go_upto_region 23 with (fail)
               go_cut [92] (fun v92 wc => ∃ (kq : Nat) (x92_49 : Bool), v92 = .bool x92_49 ∧ Aside0 (bits_grouped.j6 kq a0 a1 a2 x13_2 x14_2 a2 x79_5 x92_49 x428000_2 x428001_2 x428002_2 x431000_35 x431001_35 x431002_35 = some (r1, r2, r3, r4)) ∧ Aside0 (kq ≤ k5) ∧ Aside0 (wc.heap[gb426]? = some (.cells #[.int .i64 x427000_5, .int .u64 x427001_5, .int .u64 x427002_5] 24 (0, 0))) ∧ Aside0 (wc.heap[gb427]? = some (.cells #[.int .i64 x428000_2, .int .u64 x428001_2, .int .u64 x428002_2] 24 (0, 0))) ∧ Aside0 (wc.heap[gb430]? = some (.cells #[.int .i64 x431000_35, .int .u64 x431001_35, .int .u64 x431002_35] 24 (0, 0))) ∧ Aside0 (Below w.heap.size w wc))
               case first =>
                have H := HC50.out
                clear HC50
                replace H := iD H; rcases H with ⟨c51b0, H⟩ | ⟨c51b0, H⟩
                ·replace c51b0 : decide (a1 ≤ (wrap64 (x13_2 + x79_5))) = true := c51b0
                 (skip)
                 replace H := bN H; obtain ⟨t441, A52, H⟩ := H
                 have H' := Aside0.mk H
                 clear H
                 have hnb53 := NB430_426.out
                 have hnc53 := NB426_430.out
                 have hnb54 := NB430_427.out
                 have hnc54 := NB427_430.out
                 obtain ⟨hcz55_0, hcz55_1, hcz55_2, hfz55_0, hfz55_1, hfz55_2⟩ := cf3 BK430
                 go_wp2_with ((go_at_call 44; (with_reducible refine (bits_Bit.calls k5 x431000_35 x431001_35 x431002_35 x79_5 t441 _ A52.out).mono ?_); rintro e w56 ⟨rfl, hb⟩; replace BK426 := bk1 BK426 hb; replace BK427 := bk1 BK427 hb; replace BK430 := bk1 BK430 hb; replace HB := hb1 HB hb; (try clear hb)))
                 go_meet
                 case rel => exact ⟨_, (t441 != 48), (by rfl), H', ⟨by have := HK1.out; have := HK2.out; have := HJ32.out; have := HJ35.out; have := HK5.out; omega⟩, ⟨by exact BK426.out⟩, ⟨by exact BK427.out⟩, ⟨by exact BK430.out⟩, ⟨by repeat (with_reducible exact HB.out)⟩⟩
                ·replace c51b0 : decide (a1 ≤ (wrap64 (x13_2 + x79_5))) = false := c51b0
                 (skip)
                 have H' := Aside0.mk H
                 clear H
                 go_wp2
                 go_meet
                 case rel => exact ⟨_, (false), (by rfl), H', ⟨by have := HK1.out; have := HK2.out; have := HJ32.out; have := HJ35.out; have := HK5.out; omega⟩, ⟨by exact BK426.out⟩, ⟨by exact BK427.out⟩, ⟨by exact BK430.out⟩, ⟨by repeat (with_reducible exact HB.out)⟩⟩
               case rest =>
                clear HC50
                (try clear c49b0)
                obtain ⟨kq, x92_49, rfl, HA, HJ49, BK426, BK427, BK430, HB⟩ := hcut
                cases kq with
                | zero => exact absurd HA.out (by simp [bits_grouped.j6])
                | succ kj49 =>
                 have H := HA.out
                 clear HA
                 simp only [bits_grouped.j6] at H
                 replace H := iB H; rcases H with ⟨rfl, H⟩ | ⟨rfl, H⟩
                 ·replace H := iN H; obtain ⟨c58b0, H⟩ := H
                  replace H := iN H; obtain ⟨c59b0, H⟩ := H
                  have HC61 := Aside0.mk H
                  clear H
                  have p60 : 0 ≤ (x14_2 : Int) := of_decide_eq_true (by (with_reducible assumption))
                  have q60 : x14_2 < (a0.size : Int) := of_decide_eq_true (by (with_reducible assumption))
                  have hx60 := bt_at a0 x14_2
                  replace p60 := eq_true p60
                  replace q60 := eq_true q60
                  go_upto_region 25 with (fail)
                  go_cut [106] (fun v106 wc => ∃ (kq : Nat) (x106_60 : Bool), v106 = .bool x106_60 ∧ Aside0 (bits_grouped.j7 kq a0 a1 a2 x13_2 x14_2 a2 x79_5 x106_60 x428000_2 x428001_2 x428002_2 x431000_35 x431001_35 x431002_35 = some (r1, r2, r3, r4)) ∧ Aside0 (kq ≤ kj49) ∧ Aside0 (wc.heap[gb426]? = some (.cells #[.int .i64 x427000_5, .int .u64 x427001_5, .int .u64 x427002_5] 24 (0, 0))) ∧ Aside0 (wc.heap[gb427]? = some (.cells #[.int .i64 x428000_2, .int .u64 x428001_2, .int .u64 x428002_2] 24 (0, 0))) ∧ Aside0 (wc.heap[gb430]? = some (.cells #[.int .i64 x431000_35, .int .u64 x431001_35, .int .u64 x431002_35] 24 (0, 0))) ∧ Aside0 (Below w.heap.size w wc))
                  case first =>
                   have H := HC61.out
                   clear HC61
                   replace H := iE H; rcases H with ⟨c62b0, c62b1, H⟩ | ⟨c62, c62b0, c62b1, H⟩
                   ·(skip)
                    have H' := Aside0.mk H
                    clear H
                    go_wp2
                    go_meet
                    case rel => exact ⟨_, (decide (x13_2 < a1)), (by rfl), H', ⟨by have := HK1.out; have := HK2.out; have := HJ32.out; have := HJ35.out; have := HK5.out; have := HJ49.out; omega⟩, ⟨by exact BK426.out⟩, ⟨by exact BK427.out⟩, ⟨by exact BK430.out⟩, ⟨by repeat (with_reducible exact HB.out)⟩⟩
                   ·(skip)
                    replace H := iE H; rcases H with ⟨c63b0, c63b1, H⟩ | ⟨c63, c63b0, c63b1, H⟩
                    ·have H' := Aside0.mk H
                     clear H
                     go_wp2
                     go_meet
                     case rel => exact ⟨_, (decide (x13_2 < a1)), (by rfl), H', ⟨by have := HK1.out; have := HK2.out; have := HJ32.out; have := HJ35.out; have := HK5.out; have := HJ49.out; omega⟩, ⟨by exact BK426.out⟩, ⟨by exact BK427.out⟩, ⟨by exact BK430.out⟩, ⟨by repeat (with_reducible exact HB.out)⟩⟩
                    ·have H' := Aside0.mk H
                     clear H
                     go_wp2
                     go_meet
                     case rel => exact ⟨_, (false), (by rfl), H', ⟨by have := HK1.out; have := HK2.out; have := HJ32.out; have := HJ35.out; have := HK5.out; have := HJ49.out; omega⟩, ⟨by exact BK426.out⟩, ⟨by exact BK427.out⟩, ⟨by exact BK430.out⟩, ⟨by repeat (with_reducible exact HB.out)⟩⟩
                  case rest =>
                   clear HC61
                   (try clear c58b0); (try clear c59b0); (try clear p60); (try clear q60); (try clear hx60)
                   obtain ⟨kq, x106_60, rfl, HA, HJ60, BK426, BK427, BK430, HB⟩ := hcut
                   cases kq with
                   | zero => exact absurd HA.out (by simp [bits_grouped.j7])
                   | succ kj60 =>
                    have H := HA.out
                    clear HA
                    simp only [bits_grouped.j7] at H
                    replace H := iB H; rcases H with ⟨rfl, H⟩ | ⟨rfl, H⟩
                    ·have H' := Aside0.mk H
                     clear H
                     go_wp2
                     go_roundg kj60
                     case measure => have := HK1.out; have := HK2.out; have := HJ32.out; have := HJ35.out; have := HK5.out; have := HJ49.out; have := HJ60.out; omega
                     case rel => exact ⟨(wrap64 (x79_5 + 1)), (x427000_5), (x427001_5), (x427002_5), (by rfl), H', ⟨by have := HK1.out; have := HK2.out; have := HJ32.out; have := HJ35.out; have := HK5.out; have := HJ49.out; have := HJ60.out; omega⟩, ⟨by exact BK426.out⟩, ⟨by exact BK427.out⟩, ⟨by exact BK430.out⟩, ⟨by repeat (with_reducible exact HB.out)⟩⟩
                    ·replace H := s4 H; obtain ⟨rfl, rfl, rfl, rfl⟩ := H
                     have hnb65 := NB426_427.out
                     have hnc65 := NB427_426.out
                     have hnb66 := NB426_430.out
                     have hnc66 := NB430_426.out
                     obtain ⟨hcz67_0, hcz67_1, hcz67_2, hfz67_0, hfz67_1, hfz67_2⟩ := cf3 BK426
                     go_wp2
                     refine bodyPost_ret (results_ct rfl _ _ gb426 24 #[.int .i64 0, .int .u64 0, .int .u64 0] (0, 0) _ rfl (by refine blk_put (cs := #[.int .i64 0, .int .u64 0, .int .u64 x427002_5]) ?_ 2 _ rfl; refine blk_put (cs := #[.int .i64 0, .int .u64 x427001_5, .int .u64 x427002_5]) ?_ 1 _ rfl; refine blk_put (cs := #[.int .i64 x427000_5, .int .u64 x427001_5, .int .u64 x427002_5]) ?_ 0 _ rfl; exact BK426.out) Tryz.underlying24 rfl (by kernel_rfl)) rfl ?_
                     exact ⟨by rfl, by repeat (with_reducible first | exact HB.out | refine below_set ?_ GE426.out)⟩
                 ·have H' := Aside0.mk H
                  clear H
                  go_wp2
                  go_roundg kj49
                  case measure => have := HK1.out; have := HK2.out; have := HJ32.out; have := HJ35.out; have := HK5.out; have := HJ49.out; omega
                  case rel => exact ⟨(wrap64 (x79_5 + 1)), (x427000_5), (x427001_5), (x427002_5), (by rfl), H', ⟨by have := HK1.out; have := HK2.out; have := HJ32.out; have := HJ35.out; have := HK5.out; have := HJ49.out; omega⟩, ⟨by exact BK426.out⟩, ⟨by exact BK427.out⟩, ⟨by exact BK430.out⟩, ⟨by repeat (with_reducible exact HB.out)⟩⟩
              ·replace H := bN H; obtain ⟨⟨t438, t439, t440⟩, A68, H⟩ := H; dsimp only at H
               have H' := Aside0.mk H
               clear H
               have hnb69 := NB427_426.out
               have hnc69 := NB426_427.out
               have hnb70 := NB427_430.out
               have hnc70 := NB430_427.out
               obtain ⟨hcz71_0, hcz71_1, hcz71_2, hfz71_0, hfz71_1, hfz71_2⟩ := cf3 BK427
               have hnb72 := NB430_426.out
               have hnc72 := NB426_430.out
               obtain ⟨hcz73_0, hcz73_1, hcz73_2, hfz73_0, hfz73_1, hfz73_2⟩ := cf3 BK430
               go_wp2_with ((refine callA (some 112) Tryz.func80 #[.agg #[.int .i64 x428000_2, .int .u64 x428001_2, .int .u64 x428002_2], .int .i64 x13_2, .agg #[.int .i64 x431000_35, .int .u64 x431001_35, .int .u64 x431002_35]] ?_; (with_reducible refine (bits_Put.calls k5 x428000_2 x428001_2 x428002_2 x13_2 x431000_35 x431001_35 x431002_35 t438 t439 t440 _ A68.out).mono ?_); rintro e w74 ⟨rfl, hb⟩; refine ⟨_, rfl, ?_⟩; replace BK426 := bk1 BK426 hb; replace BK427 := bk1 BK427 hb; replace BK430 := bk1 BK430 hb; replace HB := hb1 HB hb; (try clear hb); obtain ⟨hcz75_0, hcz75_1, hcz75_2, hfz75_0, hfz75_1, hfz75_2⟩ := cf3 BK427))
               go_roundg k5
               case measure => have := HK1.out; have := HK2.out; have := HJ32.out; have := HJ35.out; have := HK5.out; omega
               case rel => exact ⟨(wrap64 (x13_2 + a2)), (wrap64 (x14_2 - 1)), (x427000_5), (x427001_5), (x427002_5), (t438), (t439), (t440), (by rfl), (by rfl), H', ⟨by have := HK1.out; have := HK2.out; have := HJ32.out; have := HJ35.out; have := HK5.out; omega⟩, ⟨by refine blk_far ?_ NB426_427.out _; refine blk_far ?_ NB426_427.out _; refine blk_far ?_ NB426_427.out _; exact BK426.out⟩, ⟨by refine blk_put (cs := #[.int .i64 t438, .int .u64 t439, .int .u64 x428002_2]) ?_ 2 _ rfl; refine blk_put (cs := #[.int .i64 t438, .int .u64 x428001_2, .int .u64 x428002_2]) ?_ 1 _ rfl; refine blk_put (cs := #[.int .i64 x428000_2, .int .u64 x428001_2, .int .u64 x428002_2]) ?_ 0 _ rfl; exact BK427.out⟩, ⟨by repeat (with_reducible first | exact HB.out | refine below_set ?_ GE427.out)⟩⟩
       ·replace c29b0 : decide (0 ≤ x14_2) = false := c29b0
        by_cases c76 : 0 < (a0.size : Int)
        ·rw [if_pos c76] at H
         have c76b0 : decide (0 < (a0.size : Int)) = true := decide_eq_true c76
         have c76b1 : decide (0 < a0.size) = true := decide_eq_true (by omega)
         clear c76
         have HC78 := Aside0.mk H
         clear H
         have p77 : 0 ≤ (0 : Int) := (by omega)
         have q77 : 0 < a0.size := (by have : (0 : Int) < (a0.size : Int) := of_decide_eq_true (by (with_reducible assumption)); omega)
         have hx77 : ∀ h : 0 < a0.size, ((a0[0]'h).toNat : Int) = bt a0 0 := bt_at a0 0
         clear p77
         have qi77 : (0 < (a0.size : Int)) = True := eq_true (of_decide_eq_true (by (with_reducible assumption)))
         replace q77 := eq_true q77
         go_upto_region 31 with (fail)
         go_cut [128] (fun v128 wc => ∃ (kq : Nat) (x128_77 : Bool), v128 = .bool x128_77 ∧ Aside0 (bits_grouped.j8 kq a1 x13_2 (bt a0 0) x128_77 x428000_2 x428001_2 x428002_2 = some (r1, r2, r3, r4)) ∧ Aside0 (kq ≤ k2) ∧ Aside0 (wc.heap[gb426]? = some (.cells #[.int .i64 x427000_2, .int .u64 x427001_2, .int .u64 x427002_2] 24 (0, 0))) ∧ Aside0 (wc.heap[gb427]? = some (.cells #[.int .i64 x428000_2, .int .u64 x428001_2, .int .u64 x428002_2] 24 (0, 0))) ∧ Aside0 (Below w.heap.size w wc))
         case first =>
          have H := HC78.out
          clear HC78
          replace H := iE H; rcases H with ⟨c79b0, c79b1, H⟩ | ⟨c79, c79b0, c79b1, H⟩
          ·(skip)
           have H' := Aside0.mk H
           clear H
           go_wp2
           go_meet
           case rel => exact ⟨_, (decide (x13_2 < a1)), (by rfl), H', ⟨by have := HK1.out; have := HK2.out; omega⟩, ⟨by exact BK426.out⟩, ⟨by exact BK427.out⟩, ⟨by repeat (with_reducible exact HB.out)⟩⟩
          ·(skip)
           replace H := iE H; rcases H with ⟨c80b0, c80b1, H⟩ | ⟨c80, c80b0, c80b1, H⟩
           ·have H' := Aside0.mk H
            clear H
            go_wp2
            go_meet
            case rel => exact ⟨_, (decide (x13_2 < a1)), (by rfl), H', ⟨by have := HK1.out; have := HK2.out; omega⟩, ⟨by exact BK426.out⟩, ⟨by exact BK427.out⟩, ⟨by repeat (with_reducible exact HB.out)⟩⟩
           ·have H' := Aside0.mk H
            clear H
            go_wp2
            go_meet
            case rel => exact ⟨_, (false), (by rfl), H', ⟨by have := HK1.out; have := HK2.out; omega⟩, ⟨by exact BK426.out⟩, ⟨by exact BK427.out⟩, ⟨by repeat (with_reducible exact HB.out)⟩⟩
         case rest =>
          clear HC78
          (try clear c29b0); (try clear c76b0); (try clear c76b1); (try clear q77); (try clear hx77); (try clear qi77)
          obtain ⟨kq, x128_77, rfl, HA, HJ77, BK426, BK427, HB⟩ := hcut
          cases kq with
          | zero => exact absurd HA.out (by simp [bits_grouped.j8])
          | succ kj77 =>
           have H := HA.out
           clear HA
           simp only [bits_grouped.j8] at H
           replace H := iB H; rcases H with ⟨rfl, H⟩ | ⟨rfl, H⟩
           ·replace H := bN H; obtain ⟨⟨t442, t443, t444⟩, A82, H⟩ := H; dsimp only at H
            replace H := bN H; obtain ⟨⟨t445, t446, t447⟩, A83, H⟩ := H; dsimp only at H
            replace H := s4 H; obtain ⟨rfl, rfl, rfl, rfl⟩ := H
            try go_wp2
            replace BK426 := bkd BK426
            replace BK427 := bkd BK427
            replace HB := hbd HB
            refine start_ (n := 9) (S := fun w' => w'.cell? ⟨gb427, 0, none⟩ = some (.int .i64 x428000_2) ∧ w'.cell? ⟨gb427, 1, none⟩ = some (.int .u64 x428001_2) ∧ w'.cell? ⟨gb427, 2, none⟩ = some (.int .u64 x428002_2)) (ds := [8]) (tb 9 0) (by kernel_rfl) rfl (by kernel_rfl) (d3 BK427) (fun hHeld => ?_); refine with_tabW bits_grouped.tab32 bits_grouped.bits32 (fun HT_ HW_ => ?_)
            generalize wc.drew = w84 at BK426 BK427 HB hHeld ⊢
            refine pA 1 130 (tb 9 2) HT_ ?_
            refine pA 2 131 (tb 9 6) HT_ ?_
            refine pA 3 132 (tb 9 14) HT_ ?_
            refine pA 4 133 (tb 9 30) HT_ ?_
            refine pA 5 134 (tb 9 62) HT_ ?_
            refine tA 0 129 (tb 9 63) HT_ HW_ hHeld ?_
            refine oA 6 (some 135) (tb 9 127) HT_ (fun K hK => ?_)
            refine gA Tryz.func77 #[.int .i64 (wrap64 (a1 - x13_2)), .int .u8 (bt a0 0)] ?_
            with_reducible refine (bits_All.calls kj77 (wrap64 (a1 - x13_2)) (bt a0 0) t442 t443 t444 _ A82.out).mono ?_
            rintro e w85 ⟨rfl, hb⟩
            refine ⟨_, rfl, ?_⟩
            replace BK426 := bk1 BK426 hb
            replace BK427 := bk1 BK427 hb
            replace HB := hb1 HB hb
            (try clear hb)
            refine hK.out _ _ (d3 BK427) (fun hHeld => ?_)
            clear hK K
            refine nA ?_
            refine oA 7 (some 136) (tb 9 255) HT_ (fun K hK => ?_)
            refine gA Tryz.func80 #[.agg #[.int .i64 x428000_2, .int .u64 x428001_2, .int .u64 x428002_2], .int .i64 x13_2, .agg #[.int .i64 t442, .int .u64 t443, .int .u64 t444]] ?_
            with_reducible refine (bits_Put.calls kj77 x428000_2 x428001_2 x428002_2 x13_2 t442 t443 t444 t445 t446 t447 _ A83.out).mono ?_
            rintro e w86 ⟨rfl, hb⟩
            refine ⟨_, rfl, ?_⟩
            replace BK426 := bk1 BK426 hb
            replace BK427 := bk1 BK427 hb
            replace HB := hb1 HB hb
            (try clear hb)
            refine hK.out _ _ (d3 BK427) (fun hHeld => ?_)
            clear hK K
            refine nA ?_
            refine last_ (i := 8) (N := none) #[true, true, true, true, true, true, true, true, true] rfl rfl (one_of HT_.out (by kernel_rfl)) (by decide) (fun K hK => ?_)
            have hs87 : w86.cell? ⟨gb427, 0, none⟩ = some (.int .i64 x428000_2) := (blk_cell BK427.out 0).trans rfl
            have hfs87 := blk_frozen BK427.out 0
            have hns87_0 := NB426_427.out
            have hms87_0 := NB427_426.out
            have hs88 : w86.cell? ⟨gb427, 1, none⟩ = some (.int .u64 x428001_2) := (blk_cell BK427.out 1).trans rfl
            have hfs88 := blk_frozen BK427.out 1
            have hns88_0 := NB426_427.out
            have hms88_0 := NB427_426.out
            have hs89 : w86.cell? ⟨gb427, 2, none⟩ = some (.int .u64 x428002_2) := (blk_cell BK427.out 2).trans rfl
            have hfs89 := blk_frozen BK427.out 2
            have hns89_0 := NB426_427.out
            have hms89_0 := NB427_426.out
            refine skip_ (w1 := ?_) (by rfl) rfl ?_ ?_
            rotate_left
            ·go_simp
             rfl
            refine hK.out _ _ ?_
            clear hK K
            refine done_ (done_of HT_.out (by kernel_rfl)) ?_
            have hnb90 := NB427_426.out
            have hnc90 := NB426_427.out
            obtain ⟨hcz91_0, hcz91_1, hcz91_2, hfz91_0, hfz91_1, hfz91_2⟩ := cf3 BK427
            obtain ⟨hcz92_0, hcz92_1, hcz92_2, hfz92_0, hfz92_1, hfz92_2⟩ := cf3 BK426
            try go_wp2
            refine bodyPost_ret (results_ct rfl _ _ gb426 24 #[.int .i64 t445, .int .u64 t446, .int .u64 t447] (0, 0) _ rfl (by refine blk_put (cs := #[.int .i64 t445, .int .u64 t446, .int .u64 x427002_2]) ?_ 2 _ rfl; refine blk_put (cs := #[.int .i64 t445, .int .u64 x427001_2, .int .u64 x427002_2]) ?_ 1 _ rfl; refine blk_put (cs := #[.int .i64 x427000_2, .int .u64 x427001_2, .int .u64 x427002_2]) ?_ 0 _ rfl; refine blk_far ?_ NB426_427.out _; refine blk_far ?_ NB426_427.out _; refine blk_far ?_ NB426_427.out _; exact BK426.out) Tryz.underlying24 rfl (by kernel_rfl)) rfl ?_
            exact ⟨by rfl, by repeat (with_reducible first | exact HB.out | refine below_set ?_ GE426.out | refine below_set ?_ GE427.out)⟩
           ·replace H := s4 H; obtain ⟨rfl, rfl, rfl, rfl⟩ := H
            have hnb93 := NB427_426.out
            have hnc93 := NB426_427.out
            obtain ⟨hcz94_0, hcz94_1, hcz94_2, hfz94_0, hfz94_1, hfz94_2⟩ := cf3 BK427
            obtain ⟨hcz95_0, hcz95_1, hcz95_2, hfz95_0, hfz95_1, hfz95_2⟩ := cf3 BK426
            go_wp2
            refine bodyPost_ret (results_ct rfl _ _ gb426 24 #[.int .i64 x428000_2, .int .u64 x428001_2, .int .u64 x428002_2] (0, 0) _ rfl (by refine blk_put (cs := #[.int .i64 x428000_2, .int .u64 x428001_2, .int .u64 x427002_2]) ?_ 2 _ rfl; refine blk_put (cs := #[.int .i64 x428000_2, .int .u64 x427001_2, .int .u64 x427002_2]) ?_ 1 _ rfl; refine blk_put (cs := #[.int .i64 x427000_2, .int .u64 x427001_2, .int .u64 x427002_2]) ?_ 0 _ rfl; exact BK426.out) Tryz.underlying24 rfl (by kernel_rfl)) rfl ?_
            exact ⟨by rfl, by repeat (with_reducible first | exact HB.out | refine below_set ?_ GE426.out)⟩
        ·rw [if_neg c76] at H
         exact absurd H (by simp)
    ·replace H := s4 H; obtain ⟨rfl, rfl, rfl, rfl⟩ := H
     have hnb96 := NB426_427.out
     have hnc96 := NB427_426.out
     obtain ⟨hcz97_0, hcz97_1, hcz97_2, hfz97_0, hfz97_1, hfz97_2⟩ := cf3 BK426
     go_wp2
     refine bodyPost_ret (results_ct rfl _ _ gb426 24 #[.int .i64 0, .int .u64 0, .int .u64 0] (0, 0) _ rfl (by refine blk_put (cs := #[.int .i64 0, .int .u64 0, .int .u64 x427002_1]) ?_ 2 _ rfl; refine blk_put (cs := #[.int .i64 0, .int .u64 x427001_1, .int .u64 x427002_1]) ?_ 1 _ rfl; refine blk_put (cs := #[.int .i64 x427000_1, .int .u64 x427001_1, .int .u64 x427002_1]) ?_ 0 _ rfl; exact BK426.out) Tryz.underlying24 rfl (by kernel_rfl)) rfl ?_
     exact ⟨by rfl, by repeat (with_reducible first | exact HB.out | refine below_set ?_ GE426.out)⟩
end Go.Proofs.YtfigblfjogpojaaGreatDoor.PBits
end
section
namespace Go.Proofs.YtfigblfjogpojaaGreatDoor.PBits
open Go.RowKit Go.Proofs.YtfigblfjogpojaaGreatDoorW.PrintWords Go.Proofs.YtfigblfjogpojaaGreatDoorW.PrintLast Go.Proofs.YtfigblfjogpojaaGreatDoorW.PrintMore
attribute [local go_sem] max2_int min2_int max_two min_two max_three min_three max_four min_four
set_option linter.unusedVariables false
set_option linter.unusedSimpArgs false
mutual
def bits_Read.j0 : Nat → ByteArray → Int → Int → Int → Bool → Option (Int × Int × Int × Int)
 | 0, _, _, _, _, _ => none
 | k + 1, x0, x4, x5, x6, x27 => if x27 = true then (some (0, 0, 0, 10)) else (if 0 ≤ (wrap64 (x5 + 1)) then (if (wrap64 (x5 + 1)) ≤ (x0.size : Int) then (if ((x0.extract ((wrap64 (x5 + 1)) : Int).toNat x0.size).size : Int) > 0 then (if 0 < ((x0.extract ((wrap64 (x5 + 1)) : Int).toNat x0.size).size : Int) then (bits_Read.j1 k (x0.extract ((wrap64 (x5 + 1)) : Int).toNat x0.size) x4 x6 ((bt (x0.extract ((wrap64 (x5 + 1)) : Int).toNat x0.size) 0) == 115)) else (none)) else (bits_Read.j1 k (x0.extract ((wrap64 (x5 + 1)) : Int).toNat x0.size) x4 x6 false)) else (none)) else (none))
def bits_Read.j1 : Nat → ByteArray → Int → Int → Bool → Option (Int × Int × Int × Int)
 | 0, _, _, _, _ => none
 | k + 1, x0, x4, x6, x40 => if x40 = true then (if 1 ≤ (x0.size : Int) then (bits_Read.j2 k (x0.extract 1 x0.size) x4 x6) else (none)) else (bits_Read.j2 k x0 x4 x6)
def bits_Read.j2 : Nat → ByteArray → Int → Int → Option (Int × Int × Int × Int)
 | 0, _, _, _ => none
 | k + 1, x0, x4, x6 => if (x0.size : Int) < 2 then (some (0, 0, 0, 10)) else (if 0 < (x0.size : Int) then (if (bt x0 0) = 98 then (bits_Read.j3 k x0 x4 x6 1) else (if (bt x0 0) = 111 then (bits_Read.j3 k x0 x4 x6 3) else (if (bt x0 0) = 104 then (bits_Read.j3 k x0 x4 x6 4) else (if (bt x0 0) = 100 then (if 1 ≤ (x0.size : Int) then ((bits_decimal.f k (x0.extract 1 x0.size) x4 x6).bind fun bt452 => (some (bt452.1, bt452.2.1, bt452.2.2.1, bt452.2.2.2))) else (none)) else (bits_Read.j3 k x0 x4 x6 0))))) else (none))
def bits_Read.j3 : Nat → ByteArray → Int → Int → Int → Option (Int × Int × Int × Int)
 | 0, _, _, _, _ => none
 | k + 1, x0, x4, x6, x7 => if x7 = 0 then (some (0, 0, 0, 10)) else (if 1 ≤ (x0.size : Int) then ((bits_grouped.f k (x0.extract 1 x0.size) x4 x7 x6).bind fun bt456 => (some (bt456.1, bt456.2.1, bt456.2.2.1, bt456.2.2.2))) else (none))
end
def bits_Read.f (k : Nat) (a0 : ByteArray) : Option (Int × Int × Int × Int) := (bits_size.f k a0).bind fun bt449 => (if bt449.2.2 = 10 then (bits_Read.j0 k a0 bt449.1 bt449.2.1 bt449.2.2 true) else (if bt449.2.1 ≥ (a0.size : Int) then (bits_Read.j0 k a0 bt449.1 bt449.2.1 bt449.2.2 true) else (if 0 ≤ bt449.2.1 then (if bt449.2.1 < (a0.size : Int) then (bits_Read.j0 k a0 bt449.1 bt449.2.1 bt449.2.2 ((bt a0 bt449.2.1) != 39)) else (none)) else (none))))
theorem bits_Read.mono_l : ∀ k, (∀ y0 y1 y2 y3 y4, LeO (bits_Read.j0 k y0 y1 y2 y3 y4) (bits_Read.j0 (k + 1) y0 y1 y2 y3 y4)) ∧ (∀ y0 y1 y2 y3, LeO (bits_Read.j1 k y0 y1 y2 y3) (bits_Read.j1 (k + 1) y0 y1 y2 y3)) ∧ (∀ y0 y1 y2, LeO (bits_Read.j2 k y0 y1 y2) (bits_Read.j2 (k + 1) y0 y1 y2)) ∧ (∀ y0 y1 y2 y3, LeO (bits_Read.j3 k y0 y1 y2 y3) (bits_Read.j3 (k + 1) y0 y1 y2 y3))
 | 0 => ⟨fun _ _ _ _ _ r h => by simp [bits_Read.j0] at h, fun _ _ _ _ r h => by simp [bits_Read.j1] at h, fun _ _ _ r h => by simp [bits_Read.j2] at h, fun _ _ _ _ r h => by simp [bits_Read.j3] at h⟩
 | k + 1 => by
  obtain ⟨ih0, ih1, ih2, ih3⟩ := bits_Read.mono_l k
  refine ⟨?_, ?_, ?_, ?_⟩
  ·intro y0 y1 y2 y3 y4
   unfold bits_Read.j0
   repeat' first | with_reducible exact ih0 _ _ _ _ _ | with_reducible exact ih1 _ _ _ _ | with_reducible exact ih2 _ _ _ | with_reducible exact ih3 _ _ _ _ | with_reducible exact bits_decimal.mono _ _ _ _ | with_reducible exact bits_grouped.mono _ _ _ _ _ | with_reducible exact bits_size.mono _ _ | with_reducible exact LeO.refl _ | with_reducible exact LeO.none _ | with_reducible refine LeO.ite ?_ ?_ | with_reducible refine LeO.bind ?_ (fun _ => ?_)
  ·intro y0 y1 y2 y3
   unfold bits_Read.j1
   repeat' first | with_reducible exact ih0 _ _ _ _ _ | with_reducible exact ih1 _ _ _ _ | with_reducible exact ih2 _ _ _ | with_reducible exact ih3 _ _ _ _ | with_reducible exact bits_decimal.mono _ _ _ _ | with_reducible exact bits_grouped.mono _ _ _ _ _ | with_reducible exact bits_size.mono _ _ | with_reducible exact LeO.refl _ | with_reducible exact LeO.none _ | with_reducible refine LeO.ite ?_ ?_ | with_reducible refine LeO.bind ?_ (fun _ => ?_)
  ·intro y0 y1 y2
   unfold bits_Read.j2
   repeat' first | with_reducible exact ih0 _ _ _ _ _ | with_reducible exact ih1 _ _ _ _ | with_reducible exact ih2 _ _ _ | with_reducible exact ih3 _ _ _ _ | with_reducible exact bits_decimal.mono _ _ _ _ | with_reducible exact bits_grouped.mono _ _ _ _ _ | with_reducible exact bits_size.mono _ _ | with_reducible exact LeO.refl _ | with_reducible exact LeO.none _ | with_reducible refine LeO.ite ?_ ?_ | with_reducible refine LeO.bind ?_ (fun _ => ?_)
  ·intro y0 y1 y2 y3
   unfold bits_Read.j3
   repeat' first | with_reducible exact ih0 _ _ _ _ _ | with_reducible exact ih1 _ _ _ _ | with_reducible exact ih2 _ _ _ | with_reducible exact ih3 _ _ _ _ | with_reducible exact bits_decimal.mono _ _ _ _ | with_reducible exact bits_grouped.mono _ _ _ _ _ | with_reducible exact bits_size.mono _ _ | with_reducible exact LeO.refl _ | with_reducible exact LeO.none _ | with_reducible refine LeO.ite ?_ ?_ | with_reducible refine LeO.bind ?_ (fun _ => ?_)
theorem bits_Read.mono : ∀ a0 k, LeO (bits_Read.f k a0) (bits_Read.f (k + 1) a0) := by
 intro a0 k
 obtain ⟨ih0, ih1, ih2, ih3⟩ := bits_Read.mono_l k
 unfold bits_Read.f
 repeat' first | with_reducible exact ih0 _ _ _ _ _ | with_reducible exact ih1 _ _ _ _ | with_reducible exact ih2 _ _ _ | with_reducible exact ih3 _ _ _ _ | with_reducible exact bits_decimal.mono _ _ _ _ | with_reducible exact bits_grouped.mono _ _ _ _ _ | with_reducible exact bits_size.mono _ _ | with_reducible exact LeO.refl _ | with_reducible exact LeO.none _ | with_reducible refine LeO.ite ?_ ?_ | with_reducible refine LeO.bind ?_ (fun _ => ?_)
set_option maxHeartbeats 8000000 in
set_option maxRecDepth 100000 in
theorem bits_Read.calls (k : Nat) (a0 : ByteArray) (r1 : Int) (r2 : Int) (r3 : Int) (r4 : Int) (w : World) (h : bits_Read.f k a0 = some (r1, r2, r3, r4)) :
  Calls Tryz.prog 22 #[.string a0] w fun e w' => e = .returned (.tuple #[.agg #[.int .i64 r1, .int .u64 r2, .int .u64 r3], .int .i64 r4]) ∧ Below w.heap.size w w' := by
 have hu24 := Tryz.underlying24
 have HB := Aside0.mk (Below.refl w.heap.size w)
 have H := h
 clear h
 unfold bits_Read.f at H
 replace H := bN H; obtain ⟨⟨t449, t450, t451⟩, A2, H⟩ := H; dsimp only at H
 have HC3 := Aside0.mk H
 clear H
 go_enter Tryz.func22, Tryz.ntmps22
 go_upto_region 2 with (first | ((with_reducible refine gate_dst (N := 2) rfl ?_); (try (refine gate_guard (by rfl) ?_; dsimp only)); refine boxA HB 2 #[.int .i64 0, .int .u64 0, .int .u64 0] 24 ?_; clear HB; intro gb448 w4 BK448 GE448 hg hb HB; clear hb hg) | (refine callA (some 10) Tryz.func39 #[.string a0] ?_; (with_reducible refine (bits_size.calls k a0 t449 t450 t451 _ A2.out).mono ?_); rintro e w5 ⟨rfl, hb⟩; refine ⟨_, rfl, ?_⟩; replace BK448 := bk1 BK448 hb; replace HB := hb1 HB hb; (try clear hb)))
 go_cut [27] (fun v27 wc => ∃ (kq : Nat) (x27_2 : Bool), v27 = .bool x27_2 ∧ Aside0 (bits_Read.j0 kq a0 t449 t450 t451 x27_2 = some (r1, r2, r3, r4)) ∧ Aside0 (kq ≤ k) ∧ Aside0 (wc.heap[gb448]? = some (.cells #[.int .i64 0, .int .u64 0, .int .u64 0] 24 (0, 0))) ∧ Aside0 (Below w.heap.size w wc))
 case first =>
  have H := HC3.out
  clear HC3
  replace H := iE H; rcases H with ⟨c6b0, c6b1, H⟩ | ⟨c6, c6b0, c6b1, H⟩
  ·(skip)
   have H' := Aside0.mk H
   clear H
   go_wp2
   go_meet
   case rel => exact ⟨_, (true), (by rfl), H', ⟨by omega⟩, ⟨by exact BK448.out⟩, ⟨by repeat (with_reducible exact HB.out)⟩⟩
  ·(skip)
   replace H := iD H; rcases H with ⟨c7b0, H⟩ | ⟨c7b0, H⟩
   ·replace c7b0 : decide ((a0.size : Int) ≤ t450) = true := c7b0
    have H' := Aside0.mk H
    clear H
    go_wp2
    go_meet
    case rel => exact ⟨_, (true), (by rfl), H', ⟨by omega⟩, ⟨by exact BK448.out⟩, ⟨by repeat (with_reducible exact HB.out)⟩⟩
   ·replace c7b0 : decide ((a0.size : Int) ≤ t450) = false := c7b0
    replace H := iN H; obtain ⟨c8b0, H⟩ := H
    replace H := iN H; obtain ⟨c9b0, H⟩ := H
    have H' := Aside0.mk H
    clear H
    have p10 : 0 ≤ (t450 : Int) := of_decide_eq_true (by (with_reducible assumption))
    have q10 : t450 < (a0.size : Int) := of_decide_eq_true (by (with_reducible assumption))
    have hx10 := bt_at a0 t450
    replace p10 := eq_true p10
    replace q10 := eq_true q10
    go_wp2
    go_meet
    case rel => exact ⟨_, ((bt a0 t450) != 39), (by rfl), H', ⟨by omega⟩, ⟨by exact BK448.out⟩, ⟨by repeat (with_reducible exact HB.out)⟩⟩
 case rest =>
  clear HC3
  obtain ⟨kq, x27_2, rfl, HA, HJ2, BK448, HB⟩ := hcut
  cases kq with
  | zero => exact absurd HA.out (by simp [bits_Read.j0])
  | succ kj2 =>
   have H := HA.out
   clear HA
   simp only [bits_Read.j0] at H
   replace H := iB H; rcases H with ⟨rfl, H⟩ | ⟨rfl, H⟩
   ·replace H := s4 H; obtain ⟨rfl, rfl, rfl, rfl⟩ := H
    obtain ⟨hcz12_0, hcz12_1, hcz12_2, hfz12_0, hfz12_1, hfz12_2⟩ := cf3 BK448
    go_wp2
    refine bodyPost_ret (results_ct rfl _ _ gb448 24 #[.int .i64 0, .int .u64 0, .int .u64 0] (0, 0) _ rfl (by refine blk_put (cs := #[.int .i64 0, .int .u64 0, .int .u64 0]) ?_ 2 _ rfl; refine blk_put (cs := #[.int .i64 0, .int .u64 0, .int .u64 0]) ?_ 1 _ rfl; refine blk_put (cs := #[.int .i64 0, .int .u64 0, .int .u64 0]) ?_ 0 _ rfl; exact BK448.out) Tryz.underlying24 rfl (by kernel_rfl)) rfl ?_
    exact ⟨by rfl, by repeat (with_reducible first | exact HB.out | refine below_set ?_ GE448.out)⟩
   ·obtain ⟨ji13, hji13⟩ : ∃ j_ : Int, (wrap64 (t450 + 1)) = j_ := ⟨_, rfl⟩
    replace H : (if 0 ≤ (ji13) then (if (ji13) ≤ (a0.size : Int) then (if ((a0.extract ((ji13) : Int).toNat a0.size).size : Int) > 0 then (if 0 < ((a0.extract ((ji13) : Int).toNat a0.size).size : Int) then (bits_Read.j1 kj2 (a0.extract ((ji13) : Int).toNat a0.size) t449 t451 ((bt (a0.extract ((ji13) : Int).toNat a0.size) 0) == 115)) else (none)) else (bits_Read.j1 kj2 (a0.extract ((ji13) : Int).toNat a0.size) t449 t451 false)) else (none)) else (none)) = some (r1, r2, r3, r4) := by (rw [hji13] at H; exact H)
    have hji13w : (IntKind.i64.wrap (t450 + 1)) = ji13 := (i64_w _).trans hji13
    by_cases c14 : 0 ≤ (ji13)
    ·rw [if_pos c14] at H
     have c14b0 := eq_true c14
     have c14b1 : decide (0 ≤ (ji13)) = true := decide_eq_true c14
     clear c14
     by_cases c15 : (ji13) ≤ (a0.size : Int)
     ·rw [if_pos c15] at H
      have c15b0 := eq_true c15
      have c15b1 : decide ((ji13) ≤ (a0.size : Int)) = true := decide_eq_true c15
      clear c15
      have HC16 := Aside0.mk H
      clear H
      go_upto_region 5 with (fail)
      go_cut [40] (fun v40 wc => ∃ (kq : Nat) (x40_15 : Bool), v40 = .bool x40_15 ∧ Aside0 (bits_Read.j1 kq (a0.extract ((ji13) : Int).toNat a0.size) t449 t451 x40_15 = some (r1, r2, r3, r4)) ∧ Aside0 (kq ≤ kj2) ∧ Aside0 (wc.heap[gb448]? = some (.cells #[.int .i64 0, .int .u64 0, .int .u64 0] 24 (0, 0))) ∧ Aside0 (Below w.heap.size w wc))
      case first =>
       have H := HC16.out
       clear HC16
       by_cases c17 : ((a0.extract ((ji13) : Int).toNat a0.size).size : Int) > 0
       ·rw [if_pos c17] at H
        have c17b0 : decide (0 < ((a0.extract ((ji13) : Int).toNat a0.size).size : Int)) = true := decide_eq_true c17
        try have c17b0e : decide (0 < ((a0.size - ((ji13) : Int).toNat : Nat) : Int)) = true := by have h_ := c17b0; simp only [ByteArray.size_extract, Nat.min_self] at h_; exact h_
        have c17b1 : decide (0 < (a0.extract ((ji13) : Int).toNat a0.size).size) = true := decide_eq_true (by omega)
        try have c17b1e : decide (0 < (a0.size - ((ji13) : Int).toNat)) = true := by have h_ := c17b1; simp only [ByteArray.size_extract, Nat.min_self] at h_; exact h_
        clear c17
        (skip)
        by_cases c18 : 0 < ((a0.extract ((ji13) : Int).toNat a0.size).size : Int)
        ·rw [if_pos c18] at H
         have c18b0 : decide (0 < ((a0.extract ((ji13) : Int).toNat a0.size).size : Int)) = true := decide_eq_true c18
         try have c18b0e : decide (0 < ((a0.size - ((ji13) : Int).toNat : Nat) : Int)) = true := by have h_ := c18b0; simp only [ByteArray.size_extract, Nat.min_self] at h_; exact h_
         have c18b1 : decide (0 < (a0.extract ((ji13) : Int).toNat a0.size).size) = true := decide_eq_true (by omega)
         try have c18b1e : decide (0 < (a0.size - ((ji13) : Int).toNat)) = true := by have h_ := c18b1; simp only [ByteArray.size_extract, Nat.min_self] at h_; exact h_
         clear c18
         have H' := Aside0.mk H
         clear H
         have p19 : 0 ≤ (0 : Int) := (by omega)
         have q19 : 0 < (a0.extract ((ji13) : Int).toNat a0.size).size := (by have : (0 : Int) < ((a0.extract ((ji13) : Int).toNat a0.size).size : Int) := of_decide_eq_true (by (with_reducible assumption)); omega)
         try have q19e : 0 < (a0.size - ((ji13) : Int).toNat) := by have h_ := q19; simp only [ByteArray.size_extract, Nat.min_self] at h_; exact h_
         have hx19 : ∀ h : 0 < (a0.extract ((ji13) : Int).toNat a0.size).size, (((a0.extract ((ji13) : Int).toNat a0.size)[0]'h).toNat : Int) = bt (a0.extract ((ji13) : Int).toNat a0.size) 0 := bt_at (a0.extract ((ji13) : Int).toNat a0.size) 0
         clear p19
         have qi19 : (0 < ((a0.extract ((ji13) : Int).toNat a0.size).size : Int)) = True := eq_true (of_decide_eq_true (by (with_reducible assumption)))
         try have qi19e : (0 < ((a0.size - ((ji13) : Int).toNat : Nat) : Int)) = True := by have h_ := qi19; simp only [ByteArray.size_extract, Nat.min_self] at h_; exact h_
         replace q19 := eq_true q19
         go_wp2
         go_meet
         case rel => exact ⟨_, (((bt (a0.extract ((ji13) : Int).toNat a0.size) 0) == 115)), (by (with_reducible rfl)), H', ⟨by have := HJ2.out; omega⟩, ⟨by exact BK448.out⟩, ⟨by repeat (with_reducible exact HB.out)⟩⟩
        ·rw [if_neg c18] at H
         exact absurd H (by simp)
       ·rw [if_neg c17] at H
        have c17b0 : decide (0 < ((a0.extract ((ji13) : Int).toNat a0.size).size : Int)) = false := decide_eq_false c17
        try have c17b0e : decide (0 < ((a0.size - ((ji13) : Int).toNat : Nat) : Int)) = false := by have h_ := c17b0; simp only [ByteArray.size_extract, Nat.min_self] at h_; exact h_
        have c17b1 : decide (0 < (a0.extract ((ji13) : Int).toNat a0.size).size) = false := decide_eq_false (by omega)
        try have c17b1e : decide (0 < (a0.size - ((ji13) : Int).toNat)) = false := by have h_ := c17b1; simp only [ByteArray.size_extract, Nat.min_self] at h_; exact h_
        clear c17
        (skip)
        have H' := Aside0.mk H
        clear H
        go_wp2
        go_meet
        case rel => exact ⟨_, (false), (by rfl), H', ⟨by have := HJ2.out; omega⟩, ⟨by exact BK448.out⟩, ⟨by repeat (with_reducible exact HB.out)⟩⟩
      case rest =>
       clear HC16
       (try clear c14b0); (try clear c14b1); (try clear c15b0); (try clear c15b1)
       obtain ⟨kq, x40_15, rfl, HA, HJ15, BK448, HB⟩ := hcut
       cases kq with
       | zero => exact absurd HA.out (by simp [bits_Read.j1])
       | succ kj15 =>
        have H := HA.out
        clear HA
        simp only [bits_Read.j1] at H
        have HC20 := Aside0.mk H
        clear H
        go_upto_if 40 with (fail)
        go_cut [0] (fun v0 wc => ∃ (kq : Nat) (x0_19 : ByteArray), v0 = .string x0_19 ∧ Aside0 (bits_Read.j2 kq x0_19 t449 t451 = some (r1, r2, r3, r4)) ∧ Aside0 (kq ≤ kj15) ∧ Aside0 (wc.heap[gb448]? = some (.cells #[.int .i64 0, .int .u64 0, .int .u64 0] 24 (0, 0))) ∧ Aside0 (Below w.heap.size w wc))
        case first =>
         have H := HC20.out
         clear HC20
         replace H := iB H; rcases H with ⟨rfl, H⟩ | ⟨rfl, H⟩
         ·by_cases c22 : 1 ≤ ((a0.extract ((ji13) : Int).toNat a0.size).size : Int)
          ·rw [if_pos c22] at H
           have c22b0 := eq_true c22
           have c22b1 : decide (1 ≤ ((a0.extract ((ji13) : Int).toNat a0.size).size : Int)) = true := decide_eq_true c22
           try have c22b1e : decide (1 ≤ ((a0.size - ((ji13) : Int).toNat : Nat) : Int)) = true := by have h_ := c22b1; simp only [ByteArray.size_extract, Nat.min_self] at h_; exact h_
           try have c22b1f : (1 ≤ ((a0.size - ((ji13) : Int).toNat : Nat) : Int)) = True := eq_true (of_decide_eq_true c22b1e)
           clear c22
           have H' := Aside0.mk H
           clear H
           go_wp2
           go_meet
           case rel => exact ⟨_, ((a0.extract ((ji13) : Int).toNat a0.size).extract 1 (a0.extract ((ji13) : Int).toNat a0.size).size), (by (simp only [ByteArray.size_extract, Nat.min_self]; done)), H', ⟨by have := HJ2.out; have := HJ15.out; omega⟩, ⟨by exact BK448.out⟩, ⟨by repeat (with_reducible exact HB.out)⟩⟩
          ·rw [if_neg c22] at H
           exact absurd H (by simp)
         ·have H' := Aside0.mk H
          clear H
          go_wp2
          go_meet
          case rel => exact ⟨_, ((a0.extract ((ji13) : Int).toNat a0.size)), (by (with_reducible rfl)), H', ⟨by have := HJ2.out; have := HJ15.out; omega⟩, ⟨by exact BK448.out⟩, ⟨by repeat (with_reducible exact HB.out)⟩⟩
        case rest =>
         clear HC20
         obtain ⟨kq, x0_19, rfl, HA, HJ19, BK448, HB⟩ := hcut
         cases kq with
         | zero => exact absurd HA.out (by simp [bits_Read.j2])
         | succ kj19 =>
          have H := HA.out
          clear HA
          simp only [bits_Read.j2] at H
          by_cases c23 : (x0_19.size : Int) < 2
          ·rw [if_pos c23] at H
           have c23b0 : decide ((x0_19.size : Int) < 2) = true := decide_eq_true c23
           have c23b1 : decide (x0_19.size < 2) = true := decide_eq_true (by omega)
           clear c23
           replace H := s4 H; obtain ⟨rfl, rfl, rfl, rfl⟩ := H
           obtain ⟨hcz24_0, hcz24_1, hcz24_2, hfz24_0, hfz24_1, hfz24_2⟩ := cf3 BK448
           go_wp2
           refine bodyPost_ret (results_ct rfl _ _ gb448 24 #[.int .i64 0, .int .u64 0, .int .u64 0] (0, 0) _ rfl (by refine blk_put (cs := #[.int .i64 0, .int .u64 0, .int .u64 0]) ?_ 2 _ rfl; refine blk_put (cs := #[.int .i64 0, .int .u64 0, .int .u64 0]) ?_ 1 _ rfl; refine blk_put (cs := #[.int .i64 0, .int .u64 0, .int .u64 0]) ?_ 0 _ rfl; exact BK448.out) Tryz.underlying24 rfl (by kernel_rfl)) rfl ?_
           exact ⟨by rfl, by repeat (with_reducible first | exact HB.out | refine below_set ?_ GE448.out)⟩
          ·rw [if_neg c23] at H
           have c23b0 : decide ((x0_19.size : Int) < 2) = false := decide_eq_false c23
           have c23b1 : decide (x0_19.size < 2) = false := decide_eq_false (by omega)
           clear c23
           by_cases c25 : 0 < (x0_19.size : Int)
           ·rw [if_pos c25] at H
            have c25b0 : decide (0 < (x0_19.size : Int)) = true := decide_eq_true c25
            have c25b1 : decide (0 < x0_19.size) = true := decide_eq_true (by omega)
            clear c25
            have HC27 := Aside0.mk H
            clear H
            have p26 : 0 ≤ (0 : Int) := (by omega)
            have q26 : 0 < x0_19.size := (by have : (0 : Int) < (x0_19.size : Int) := of_decide_eq_true (by (with_reducible assumption)); omega)
            have hx26 : ∀ h : 0 < x0_19.size, ((x0_19[0]'h).toNat : Int) = bt x0_19 0 := bt_at x0_19 0
            clear p26
            have qi26 : (0 < (x0_19.size : Int)) = True := eq_true (of_decide_eq_true (by (with_reducible assumption)))
            replace q26 := eq_true q26
            go_upto_block 0 with (fail)
            go_cut [7] (fun v7 wc => ∃ (kq : Nat) (x7_26 : Int) (x449000_26 : Int) (x449001_26 : Int) (x449002_26 : Int), v7 = .int .i64 x7_26 ∧ Aside0 (bits_Read.j3 kq x0_19 t449 t451 x7_26 = some (r1, r2, r3, r4)) ∧ Aside0 (kq ≤ kj19) ∧ Aside0 (wc.heap[gb448]? = some (.cells #[.int .i64 x449000_26, .int .u64 x449001_26, .int .u64 x449002_26] 24 (0, 0))) ∧ Aside0 (Below w.heap.size w wc))
            case first =>
             have H := HC27.out
             clear HC27
             replace H := iE H; rcases H with ⟨c28b0, c28b1, H⟩ | ⟨c28, c28b0, c28b1, H⟩
             ·(skip)
              have H' := Aside0.mk H
              clear H
              go_wp2
              go_meet
              case rel => exact ⟨_, (1), (0), (0), (0), (by rfl), H', ⟨by have := HJ2.out; have := HJ15.out; have := HJ19.out; omega⟩, ⟨by exact BK448.out⟩, ⟨by repeat (with_reducible exact HB.out)⟩⟩
             ·(skip)
              replace H := iE H; rcases H with ⟨c29b0, c29b1, H⟩ | ⟨c29, c29b0, c29b1, H⟩
              ·have H' := Aside0.mk H
               clear H
               go_wp2
               go_meet
               case rel => exact ⟨_, (3), (0), (0), (0), (by rfl), H', ⟨by have := HJ2.out; have := HJ15.out; have := HJ19.out; omega⟩, ⟨by exact BK448.out⟩, ⟨by repeat (with_reducible exact HB.out)⟩⟩
              ·replace H := iE H; rcases H with ⟨c30b0, c30b1, H⟩ | ⟨c30, c30b0, c30b1, H⟩
               ·have H' := Aside0.mk H
                clear H
                go_wp2
                go_meet
                case rel => exact ⟨_, (4), (0), (0), (0), (by rfl), H', ⟨by have := HJ2.out; have := HJ15.out; have := HJ19.out; omega⟩, ⟨by exact BK448.out⟩, ⟨by repeat (with_reducible exact HB.out)⟩⟩
               ·replace H := iE H; rcases H with ⟨c31b0, c31b1, H⟩ | ⟨c31, c31b0, c31b1, H⟩
                ·by_cases c32 : 1 ≤ (x0_19.size : Int)
                 ·rw [if_pos c32] at H
                  have c32b0 := eq_true c32
                  have c32b1 : decide (1 ≤ (x0_19.size : Int)) = true := decide_eq_true c32
                  clear c32
                  replace H := bN H; obtain ⟨⟨t452, t453, t454, t455⟩, A33, H⟩ := H; dsimp only at H
                  replace H := s4 H; obtain ⟨rfl, rfl, rfl, rfl⟩ := H
                  go_wp2_with ((refine callA (some 61) Tryz.func40 #[.string (x0_19.extract 1 x0_19.size), .int .i64 t449, .int .i64 t451] ?_; (with_reducible refine (bits_decimal.calls kj19 (x0_19.extract 1 x0_19.size) t449 t451 t452 t453 t454 t455 _ A33.out).mono ?_); rintro e w34 ⟨rfl, hb⟩; refine ⟨_, rfl, ?_⟩; replace BK448 := bk1 BK448 hb; replace HB := hb1 HB hb; (try clear hb); obtain ⟨hcz35_0, hcz35_1, hcz35_2, hfz35_0, hfz35_1, hfz35_2⟩ := cf3 BK448))
                  refine bodyPost_ret (results_ct rfl _ _ gb448 24 #[.int .i64 t452, .int .u64 t453, .int .u64 t454] (0, 0) _ rfl (by refine blk_put (cs := #[.int .i64 t452, .int .u64 t453, .int .u64 0]) ?_ 2 _ rfl; refine blk_put (cs := #[.int .i64 t452, .int .u64 0, .int .u64 0]) ?_ 1 _ rfl; refine blk_put (cs := #[.int .i64 0, .int .u64 0, .int .u64 0]) ?_ 0 _ rfl; exact BK448.out) Tryz.underlying24 rfl (by kernel_rfl)) rfl ?_
                  exact ⟨by rfl, by repeat (with_reducible first | exact HB.out | refine below_set ?_ GE448.out)⟩
                 ·rw [if_neg c32] at H
                  exact absurd H (by simp)
                ·have H' := Aside0.mk H
                 clear H
                 go_wp2
                 go_meet
                 case rel => exact ⟨_, (0), (0), (0), (0), (by rfl), H', ⟨by have := HJ2.out; have := HJ15.out; have := HJ19.out; omega⟩, ⟨by exact BK448.out⟩, ⟨by repeat (with_reducible exact HB.out)⟩⟩
            case rest =>
             clear HC27
             (try clear c23b0); (try clear c23b1); (try clear c25b0); (try clear c25b1); (try clear q26); (try clear hx26); (try clear qi26)
             obtain ⟨kq, x7_26, x449000_26, x449001_26, x449002_26, rfl, HA, HJ26, BK448, HB⟩ := hcut
             cases kq with
             | zero => exact absurd HA.out (by simp [bits_Read.j3])
             | succ kj26 =>
              have H := HA.out
              clear HA
              simp only [bits_Read.j3] at H
              replace H := iE H; rcases H with ⟨c36b0, c36b1, H⟩ | ⟨c36, c36b0, c36b1, H⟩
              ·replace H := s4 H; obtain ⟨rfl, rfl, rfl, rfl⟩ := H
               obtain ⟨hcz37_0, hcz37_1, hcz37_2, hfz37_0, hfz37_1, hfz37_2⟩ := cf3 BK448
               go_wp2
               refine bodyPost_ret (results_ct rfl _ _ gb448 24 #[.int .i64 0, .int .u64 0, .int .u64 0] (0, 0) _ rfl (by refine blk_put (cs := #[.int .i64 0, .int .u64 0, .int .u64 x449002_26]) ?_ 2 _ rfl; refine blk_put (cs := #[.int .i64 0, .int .u64 x449001_26, .int .u64 x449002_26]) ?_ 1 _ rfl; refine blk_put (cs := #[.int .i64 x449000_26, .int .u64 x449001_26, .int .u64 x449002_26]) ?_ 0 _ rfl; exact BK448.out) Tryz.underlying24 rfl (by kernel_rfl)) rfl ?_
               exact ⟨by rfl, by repeat (with_reducible first | exact HB.out | refine below_set ?_ GE448.out)⟩
              ·by_cases c38 : 1 ≤ (x0_19.size : Int)
               ·rw [if_pos c38] at H
                have c38b0 := eq_true c38
                have c38b1 : decide (1 ≤ (x0_19.size : Int)) = true := decide_eq_true c38
                clear c38
                replace H := bN H; obtain ⟨⟨t456, t457, t458, t459⟩, A39, H⟩ := H; dsimp only at H
                replace H := s4 H; obtain ⟨rfl, rfl, rfl, rfl⟩ := H
                go_wp2_with ((refine callA (some 72) Tryz.func41 #[.string (x0_19.extract 1 x0_19.size), .int .i64 t449, .int .i64 x7_26, .int .i64 t451] ?_; (with_reducible refine (bits_grouped.calls kj26 (x0_19.extract 1 x0_19.size) t449 x7_26 t451 t456 t457 t458 t459 _ A39.out).mono ?_); rintro e w40 ⟨rfl, hb⟩; refine ⟨_, rfl, ?_⟩; replace BK448 := bk1 BK448 hb; replace HB := hb1 HB hb; (try clear hb); obtain ⟨hcz41_0, hcz41_1, hcz41_2, hfz41_0, hfz41_1, hfz41_2⟩ := cf3 BK448))
                refine bodyPost_ret (results_ct rfl _ _ gb448 24 #[.int .i64 t456, .int .u64 t457, .int .u64 t458] (0, 0) _ rfl (by refine blk_put (cs := #[.int .i64 t456, .int .u64 t457, .int .u64 x449002_26]) ?_ 2 _ rfl; refine blk_put (cs := #[.int .i64 t456, .int .u64 x449001_26, .int .u64 x449002_26]) ?_ 1 _ rfl; refine blk_put (cs := #[.int .i64 x449000_26, .int .u64 x449001_26, .int .u64 x449002_26]) ?_ 0 _ rfl; exact BK448.out) Tryz.underlying24 rfl (by kernel_rfl)) rfl ?_
                exact ⟨by rfl, by repeat (with_reducible first | exact HB.out | refine below_set ?_ GE448.out)⟩
               ·rw [if_neg c38] at H
                exact absurd H (by simp)
           ·rw [if_neg c25] at H
            exact absurd H (by simp)
     ·rw [if_neg c15] at H
      exact absurd H (by simp)
    ·rw [if_neg c14] at H
     exact absurd H (by simp)
end Go.Proofs.YtfigblfjogpojaaGreatDoor.PBits
end
