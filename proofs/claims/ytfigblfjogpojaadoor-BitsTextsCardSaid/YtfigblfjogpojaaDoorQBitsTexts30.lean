/- Part 31 of the proof of BitsTextsCardSaid: The law BitsTexts: for all arguments it returns true; each argument reads behind the call as it read before. Out of the plain theorem of YtfigblfjogpojaaDoorPureBitsTexts and the printed contract. -/
import Derived.Test.YtfigblfjogpojaaDoorQBitsTexts15
import Derived.Test.YtfigblfjogpojaaDoorQBitsTexts14
import Derived.Test.YtfigblfjogpojaaDoorQBitsTexts28
import Derived.Test.YtfigblfjogpojaaDoorQBitsTexts22
import Derived.Test.YtfigblfjogpojaaDoorQBitsTexts25
section
namespace Go.Proofs.YtfigblfjogpojaaDoor.PBits
open Go.RowKit Go.Proofs.YtfigblfjogpojaaDoorW.PrintWords Go.Proofs.YtfigblfjogpojaaDoorW.PrintLast Go.Proofs.YtfigblfjogpojaaDoorW.PrintMore
attribute [local go_sem] max2_int min2_int max_two min_two max_three min_three max_four min_four
set_option linter.unusedVariables false
set_option linter.unusedSimpArgs false
mutual
def bits_size.l0 : Nat → ByteArray → Int → Int → Option (Int × Int × Int)
 | 0, _, _, _ => none
 | k + 1, x0, x5, x6 => if x6 < (x0.size : Int) then (if 0 ≤ x6 then (if (bt x0 x6) ≥ 48 then (bits_size.j1 k x0 x5 x6 (decide ((bt x0 x6) ≤ 57))) else (bits_size.j1 k x0 x5 x6 false)) else (none)) else (bits_size.j1 k x0 x5 x6 false)
def bits_size.j1 : Nat → ByteArray → Int → Int → Bool → Option (Int × Int × Int)
 | 0, _, _, _, _ => none
 | k + 1, x0, x5, x6, x22 => if x22 = true then (if 0 ≤ x6 then (if x6 < (x0.size : Int) then (bits_size.l0 k x0 (mn (wrap64 ((wrap64 (10 * x5)) + (((bt x0 x6) - 48) % 256))) 1000) (wrap64 (x6 + 1))) else (none)) else (none)) else (if x6 = 0 then (bits_size.j2 k x5 x6 true) else (if 0 < (x0.size : Int) then (bits_size.j2 k x5 x6 ((bt x0 0) == 48)) else (none)))
def bits_size.j2 : Nat → Int → Int → Bool → Option (Int × Int × Int)
 | 0, _, _, _ => none
 | k + 1, x5, x6, x34 => if x34 = true then (some (0, 0, 10)) else (if x5 > 64 then (some (x5, x6, 2)) else (some (x5, x6, 0)))
end
def bits_size.f (k : Nat) (a0 : ByteArray) : Option (Int × Int × Int) := bits_size.l0 k a0 0 0
theorem bits_size.mono_l : ∀ k, (∀ y0 y1 y2, LeO (bits_size.l0 k y0 y1 y2) (bits_size.l0 (k + 1) y0 y1 y2)) ∧ (∀ y0 y1 y2 y3, LeO (bits_size.j1 k y0 y1 y2 y3) (bits_size.j1 (k + 1) y0 y1 y2 y3)) ∧ (∀ y0 y1 y2, LeO (bits_size.j2 k y0 y1 y2) (bits_size.j2 (k + 1) y0 y1 y2))
 | 0 => ⟨fun _ _ _ r h => by simp [bits_size.l0] at h, fun _ _ _ _ r h => by simp [bits_size.j1] at h, fun _ _ _ r h => by simp [bits_size.j2] at h⟩
 | k + 1 => by
  obtain ⟨ih0, ih1, ih2⟩ := bits_size.mono_l k
  refine ⟨?_, ?_, ?_⟩
  ·intro y0 y1 y2
   unfold bits_size.l0
   repeat' first | with_reducible exact ih0 _ _ _ | with_reducible exact ih1 _ _ _ _ | with_reducible exact ih2 _ _ _ | with_reducible exact LeO.refl _ | with_reducible exact LeO.none _ | with_reducible refine LeO.ite ?_ ?_ | with_reducible refine LeO.bind ?_ (fun _ => ?_)
  ·intro y0 y1 y2 y3
   unfold bits_size.j1
   repeat' first | with_reducible exact ih0 _ _ _ | with_reducible exact ih1 _ _ _ _ | with_reducible exact ih2 _ _ _ | with_reducible exact LeO.refl _ | with_reducible exact LeO.none _ | with_reducible refine LeO.ite ?_ ?_ | with_reducible refine LeO.bind ?_ (fun _ => ?_)
  ·intro y0 y1 y2
   unfold bits_size.j2
   repeat' first | with_reducible exact ih0 _ _ _ | with_reducible exact ih1 _ _ _ _ | with_reducible exact ih2 _ _ _ | with_reducible exact LeO.refl _ | with_reducible exact LeO.none _ | with_reducible refine LeO.ite ?_ ?_ | with_reducible refine LeO.bind ?_ (fun _ => ?_)
theorem bits_size.mono : ∀ a0 k, LeO (bits_size.f k a0) (bits_size.f (k + 1) a0) := by
 intro a0 k
 obtain ⟨ih0, ih1, ih2⟩ := bits_size.mono_l k
 unfold bits_size.f
 repeat' first | with_reducible exact ih0 _ _ _ | with_reducible exact ih1 _ _ _ _ | with_reducible exact ih2 _ _ _ | with_reducible exact LeO.refl _ | with_reducible exact LeO.none _ | with_reducible refine LeO.ite ?_ ?_ | with_reducible refine LeO.bind ?_ (fun _ => ?_)
set_option maxHeartbeats 8000000 in
set_option maxRecDepth 100000 in
theorem bits_size.calls (k : Nat) (a0 : ByteArray) (r1 : Int) (r2 : Int) (r3 : Int) (w : World) (h : bits_size.f k a0 = some (r1, r2, r3)) :
  Calls Tryd.prog 50 #[.string a0] w fun e w' => e = .returned (.tuple #[.int .i64 r1, .int .i64 r2, .int .i64 r3]) ∧ Below w.heap.size w w' := by
 have HB := Aside0.mk (Below.refl w.heap.size w)
 have H := h
 clear h
 unfold bits_size.f at H
 have H' := Aside0.mk H
 clear H
 go_enter Tryd.func50, Tryd.ntmps50
 go_wp2
 go_loopg [5, 6] k (fun kq v5 v6 w' => ∃ (x5_1 : Int) (x6_1 : Int), v5 = .int .i64 x5_1 ∧ v6 = .int .i64 x6_1 ∧ Aside0 (bits_size.l0 kq a0 x5_1 x6_1 = some (r1, r2, r3)) ∧ Aside0 (kq ≤ k) ∧ Aside0 (Below w.heap.size w w'))
 case atStart => exact ⟨(0), (0), (by rfl), (by rfl), H', ⟨Nat.le_refl _⟩, ⟨by repeat (with_reducible exact HB.out)⟩⟩
 case round =>
  clear H'
  obtain ⟨x5_1, x6_1, rfl, rfl, HA, HK1, HB⟩ := hrel
  cases gk with
  | zero => exact absurd HA.out (by simp [bits_size.l0])
  | succ k1 =>
   have H := HA.out
   clear HA
   simp only [bits_size.l0] at H
   have HC2 := Aside0.mk H
   clear H
   go_upto_region 2 with (fail)
   go_cut [22] (fun v22 wc => ∃ (kq : Nat) (x22_1 : Bool), v22 = .bool x22_1 ∧ Aside0 (bits_size.j1 kq a0 x5_1 x6_1 x22_1 = some (r1, r2, r3)) ∧ Aside0 (kq ≤ k1) ∧ Aside0 (Below w.heap.size w wc))
   case first =>
    have H := HC2.out
    clear HC2
    replace H := iD H; rcases H with ⟨c3b0, H⟩ | ⟨c3b0, H⟩
    ·(skip)
     replace H := iN H; obtain ⟨c4b0, H⟩ := H
     replace H := iD H; rcases H with ⟨c6b0, H⟩ | ⟨c6b0, H⟩
     ·replace c6b0 : decide (48 ≤ (bt a0 x6_1)) = true := c6b0
      have H' := Aside0.mk H
      clear H
      have p5 : 0 ≤ (x6_1 : Int) := of_decide_eq_true (by (with_reducible assumption))
      have q5 : x6_1 < (a0.size : Int) := of_decide_eq_true (by (with_reducible assumption))
      have hx5 := bt_at a0 x6_1
      replace p5 := eq_true p5
      replace q5 := eq_true q5
      have p7 : 0 ≤ (x6_1 : Int) := of_decide_eq_true (by (with_reducible assumption))
      have q7 : x6_1 < (a0.size : Int) := of_decide_eq_true (by (with_reducible assumption))
      have hx7 := bt_at a0 x6_1
      replace p7 := eq_true p7
      replace q7 := eq_true q7
      go_wp2
      go_meet
      case rel => exact ⟨_, (decide ((bt a0 x6_1) ≤ 57)), (by rfl), H', ⟨by have := HK1.out; omega⟩, ⟨by repeat (with_reducible exact HB.out)⟩⟩
     ·replace c6b0 : decide (48 ≤ (bt a0 x6_1)) = false := c6b0
      have H' := Aside0.mk H
      clear H
      have p5 : 0 ≤ (x6_1 : Int) := of_decide_eq_true (by (with_reducible assumption))
      have q5 : x6_1 < (a0.size : Int) := of_decide_eq_true (by (with_reducible assumption))
      have hx5 := bt_at a0 x6_1
      replace p5 := eq_true p5
      replace q5 := eq_true q5
      go_wp2
      go_meet
      case rel => exact ⟨_, (false), (by rfl), H', ⟨by have := HK1.out; omega⟩, ⟨by repeat (with_reducible exact HB.out)⟩⟩
    ·(skip)
     have H' := Aside0.mk H
     clear H
     go_wp2
     go_meet
     case rel => exact ⟨_, (false), (by rfl), H', ⟨by have := HK1.out; omega⟩, ⟨by repeat (with_reducible exact HB.out)⟩⟩
   case rest =>
    clear HC2
    obtain ⟨kq, x22_1, rfl, HA, HJ1, HB⟩ := hcut
    cases kq with
    | zero => exact absurd HA.out (by simp [bits_size.j1])
    | succ kj1 =>
     have H := HA.out
     clear HA
     simp only [bits_size.j1] at H
     replace H := iB H; rcases H with ⟨rfl, H⟩ | ⟨rfl, H⟩
     ·replace H := iN H; obtain ⟨c9b0, H⟩ := H
      replace H := iN H; obtain ⟨c10b0, H⟩ := H
      obtain ⟨ji12, hji12⟩ : ∃ j_ : Int, (mn (wrap64 ((wrap64 (10 * x5_1)) + (((bt a0 x6_1) - 48) % 256))) 1000) = j_ := ⟨_, rfl⟩
      replace H : (bits_size.l0 kj1 a0 ji12 (wrap64 (x6_1 + 1))) = some (r1, r2, r3) := by (rw [hji12] at H; exact H)
      have hji12_ : (if 1000 < (wrap64 ((wrap64 (10 * x5_1)) + (((bt a0 x6_1) - 48) % 256))) then 1000 else (wrap64 ((wrap64 (10 * x5_1)) + (((bt a0 x6_1) - 48) % 256)))) = ji12 := hji12
      have H' := Aside0.mk H
      clear H
      have p11 : 0 ≤ (x6_1 : Int) := of_decide_eq_true (by (with_reducible assumption))
      have q11 : x6_1 < (a0.size : Int) := of_decide_eq_true (by (with_reducible assumption))
      have hx11 := bt_at a0 x6_1
      replace p11 := eq_true p11
      replace q11 := eq_true q11
      go_wp2
      go_roundg kj1
      case measure => have := HK1.out; have := HJ1.out; omega
      case rel => exact ⟨(ji12), (wrap64 (x6_1 + 1)), (by rfl), (by rfl), H', ⟨by have := HK1.out; have := HJ1.out; omega⟩, ⟨by repeat (with_reducible exact HB.out)⟩⟩
     ·have HC13 := Aside0.mk H
      clear H
      go_upto_region 5 with (fail)
      go_cut [34] (fun v34 wc => ∃ (kq : Nat) (x34_12 : Bool), v34 = .bool x34_12 ∧ Aside0 (bits_size.j2 kq x5_1 x6_1 x34_12 = some (r1, r2, r3)) ∧ Aside0 (kq ≤ kj1) ∧ Aside0 (Below w.heap.size w wc))
      case first =>
       have H := HC13.out
       clear HC13
       replace H := iE H; rcases H with ⟨c14b0, c14b1, H⟩ | ⟨c14, c14b0, c14b1, H⟩
       ·(skip)
        have H' := Aside0.mk H
        clear H
        go_wp2
        go_meet
        case rel => exact ⟨_, (true), (by rfl), H', ⟨by have := HK1.out; have := HJ1.out; omega⟩, ⟨by repeat (with_reducible exact HB.out)⟩⟩
       ·(skip)
        by_cases c15 : 0 < (a0.size : Int)
        ·rw [if_pos c15] at H
         have c15b0 : decide (0 < (a0.size : Int)) = true := decide_eq_true c15
         have c15b1 : decide (0 < a0.size) = true := decide_eq_true (by omega)
         clear c15
         have H' := Aside0.mk H
         clear H
         have p16 : 0 ≤ (0 : Int) := (by omega)
         have q16 : 0 < a0.size := (by have : (0 : Int) < (a0.size : Int) := of_decide_eq_true (by (with_reducible assumption)); omega)
         have hx16 : ∀ h : 0 < a0.size, ((a0[0]'h).toNat : Int) = bt a0 0 := bt_at a0 0
         clear p16
         have qi16 : (0 < (a0.size : Int)) = True := eq_true (of_decide_eq_true (by (with_reducible assumption)))
         replace q16 := eq_true q16
         go_wp2
         go_meet
         case rel => exact ⟨_, ((bt a0 0) == 48), (by rfl), H', ⟨by have := HK1.out; have := HJ1.out; omega⟩, ⟨by repeat (with_reducible exact HB.out)⟩⟩
        ·rw [if_neg c15] at H
         exact absurd H (by simp)
      case rest =>
       clear HC13
       obtain ⟨kq, x34_12, rfl, HA, HJ12, HB⟩ := hcut
       cases kq with
       | zero => exact absurd HA.out (by simp [bits_size.j2])
       | succ kj12 =>
        have H := HA.out
        clear HA
        simp only [bits_size.j2] at H
        replace H := iB H; rcases H with ⟨rfl, H⟩ | ⟨rfl, H⟩
        ·replace H := s3 H; obtain ⟨rfl, rfl, rfl⟩ := H
         go_wp2
         go_ret3
         exact ⟨by rfl, by repeat (with_reducible exact HB.out)⟩
        ·replace H := iD H; rcases H with ⟨c18b0, H⟩ | ⟨c18b0, H⟩
         ·replace c18b0 : decide (64 < x5_1) = true := c18b0
          replace H := s3 H; obtain ⟨rfl, rfl, rfl⟩ := H
          go_wp2
          go_ret3
          exact ⟨by rfl, by repeat (with_reducible exact HB.out)⟩
         ·replace c18b0 : decide (64 < x5_1) = false := c18b0
          replace H := s3 H; obtain ⟨rfl, rfl, rfl⟩ := H
          go_wp2
          go_ret3
          exact ⟨by rfl, by repeat (with_reducible exact HB.out)⟩
end Go.Proofs.YtfigblfjogpojaaDoor.PBits
end
section
namespace Go.Proofs.YtfigblfjogpojaaDoor.PBits
open Go.RowKit Go.Proofs.YtfigblfjogpojaaDoorW.PrintWords Go.Proofs.YtfigblfjogpojaaDoorW.PrintLast Go.Proofs.YtfigblfjogpojaaDoorW.PrintMore
attribute [local go_sem] max2_int min2_int max_two min_two max_three min_three max_four min_four
set_option linter.unusedVariables false
set_option linter.unusedSimpArgs false
mutual
def bits_decimal.j0 : Nat → ByteArray → Int → Int → Bool → Option (Int × Int × Int × Int)
 | 0, _, _, _, _ => none
 | k + 1, x0, x1, x2, x17 => if x17 = true then (if x2 = 0 then (if 0 < (x0.size : Int) then ((bits_All.f k x1 (bt x0 0)).bind fun bt106 => (some (bt106.1, bt106.2.1, bt106.2.2, 0))) else (none)) else (some (0, 0, 0, x2))) else (bits_decimal.l0 k x0 x1 x2 0 false (x0.size : Int) 0)
def bits_decimal.l0 : Nat → ByteArray → Int → Int → Int → Bool → Int → Int → Option (Int × Int × Int × Int)
 | 0, _, _, _, _, _, _, _ => none
 | k + 1, x0, x1, x2, x8, x9, x27, x28 => if x28 < x27 then (if 0 ≤ x28 then (if x28 < (x0.size : Int) then (if (bt x0 x28) < 48 then (bits_decimal.j2 k x0 x1 x2 x8 x9 x28 x27 x28 true) else (bits_decimal.j2 k x0 x1 x2 x8 x9 x28 x27 x28 (decide ((bt x0 x28) > 57)))) else (none)) else (none)) else (if x2 = 0 then (if x9 = true then (some (0, 0, 0, 3)) else ((bits_mask.f x1).bind fun t109 => (if (Go.bits .andNot .u64 x8 t109) = 0 then ((bits_Of.f x1 x8).bind fun bt110 => (some (bt110.1, bt110.2.1, bt110.2.2, 0))) else (some (0, 0, 0, 3))))) else (some (0, 0, 0, x2)))
def bits_decimal.j2 : Nat → ByteArray → Int → Int → Int → Bool → Int → Int → Int → Bool → Option (Int × Int × Int × Int)
 | 0, _, _, _, _, _, _, _, _, _ => none
 | k + 1, x0, x1, x2, x8, x9, x10, x27, x28, x40 => if x40 = true then (some (0, 0, 0, 10)) else (if 0 ≤ x10 then (if x10 < (x0.size : Int) then (if x8 > ((18446744073709551615 - (((bt x0 x10) - 48) % 256)) / 10) then (bits_decimal.l0 k x0 x1 x2 (IntKind.u64.wrap ((IntKind.u64.wrap (10 * x8)) + (((bt x0 x10) - 48) % 256))) true x27 (wrap64 (x28 + 1))) else (bits_decimal.l0 k x0 x1 x2 (IntKind.u64.wrap ((IntKind.u64.wrap (10 * x8)) + (((bt x0 x10) - 48) % 256))) x9 x27 (wrap64 (x28 + 1)))) else (none)) else (none))
end
def bits_decimal.f (k : Nat) (a0 : ByteArray) (a1 : Int) (a2 : Int) : Option (Int × Int × Int × Int) := if a0.toList = ([120] : List UInt8) then (bits_decimal.j0 k a0 a1 a2 true) else (bits_decimal.j0 k a0 a1 a2 (a0.toList == ([122] : List UInt8)))
theorem bits_decimal.mono_l : ∀ k, (∀ y0 y1 y2 y3, LeO (bits_decimal.j0 k y0 y1 y2 y3) (bits_decimal.j0 (k + 1) y0 y1 y2 y3)) ∧ (∀ y0 y1 y2 y3 y4 y5 y6, LeO (bits_decimal.l0 k y0 y1 y2 y3 y4 y5 y6) (bits_decimal.l0 (k + 1) y0 y1 y2 y3 y4 y5 y6)) ∧ (∀ y0 y1 y2 y3 y4 y5 y6 y7 y8, LeO (bits_decimal.j2 k y0 y1 y2 y3 y4 y5 y6 y7 y8) (bits_decimal.j2 (k + 1) y0 y1 y2 y3 y4 y5 y6 y7 y8))
 | 0 => ⟨fun _ _ _ _ r h => by simp [bits_decimal.j0] at h, fun _ _ _ _ _ _ _ r h => by simp [bits_decimal.l0] at h, fun _ _ _ _ _ _ _ _ _ r h => by simp [bits_decimal.j2] at h⟩
 | k + 1 => by
  obtain ⟨ih0, ih1, ih2⟩ := bits_decimal.mono_l k
  refine ⟨?_, ?_, ?_⟩
  ·intro y0 y1 y2 y3
   unfold bits_decimal.j0
   repeat' first | with_reducible exact ih0 _ _ _ _ | with_reducible exact ih1 _ _ _ _ _ _ _ | with_reducible exact ih2 _ _ _ _ _ _ _ _ _ | with_reducible exact bits_All.mono _ _ _ | with_reducible exact LeO.refl _ | with_reducible exact LeO.none _ | with_reducible refine LeO.ite ?_ ?_ | with_reducible refine LeO.bind ?_ (fun _ => ?_)
  ·intro y0 y1 y2 y3 y4 y5 y6
   unfold bits_decimal.l0
   repeat' first | with_reducible exact ih0 _ _ _ _ | with_reducible exact ih1 _ _ _ _ _ _ _ | with_reducible exact ih2 _ _ _ _ _ _ _ _ _ | with_reducible exact bits_All.mono _ _ _ | with_reducible exact LeO.refl _ | with_reducible exact LeO.none _ | with_reducible refine LeO.ite ?_ ?_ | with_reducible refine LeO.bind ?_ (fun _ => ?_)
  ·intro y0 y1 y2 y3 y4 y5 y6 y7 y8
   unfold bits_decimal.j2
   repeat' first | with_reducible exact ih0 _ _ _ _ | with_reducible exact ih1 _ _ _ _ _ _ _ | with_reducible exact ih2 _ _ _ _ _ _ _ _ _ | with_reducible exact bits_All.mono _ _ _ | with_reducible exact LeO.refl _ | with_reducible exact LeO.none _ | with_reducible refine LeO.ite ?_ ?_ | with_reducible refine LeO.bind ?_ (fun _ => ?_)
theorem bits_decimal.mono : ∀ a0 a1 a2 k, LeO (bits_decimal.f k a0 a1 a2) (bits_decimal.f (k + 1) a0 a1 a2) := by
 intro a0 a1 a2 k
 obtain ⟨ih0, ih1, ih2⟩ := bits_decimal.mono_l k
 unfold bits_decimal.f
 repeat' first | with_reducible exact ih0 _ _ _ _ | with_reducible exact ih1 _ _ _ _ _ _ _ | with_reducible exact ih2 _ _ _ _ _ _ _ _ _ | with_reducible exact bits_All.mono _ _ _ | with_reducible exact LeO.refl _ | with_reducible exact LeO.none _ | with_reducible refine LeO.ite ?_ ?_ | with_reducible refine LeO.bind ?_ (fun _ => ?_)
set_option maxHeartbeats 8000000 in
set_option maxRecDepth 100000 in
theorem bits_decimal.calls (k : Nat) (a0 : ByteArray) (a1 : Int) (a2 : Int) (r1 : Int) (r2 : Int) (r3 : Int) (r4 : Int) (w : World) (h : bits_decimal.f k a0 a1 a2 = some (r1, r2, r3, r4)) :
  Calls Tryd.prog 51 #[.string a0, .int .i64 a1, .int .i64 a2] w fun e w' => e = .returned (.tuple #[.agg #[.int .i64 r1, .int .u64 r2, .int .u64 r3], .int .i64 r4]) ∧ Below w.heap.size w w' := by
 have hu24 := Tryd.underlying24
 have HB := Aside0.mk (Below.refl w.heap.size w)
 have H := h
 clear h
 unfold bits_decimal.f at H
 have HC4 := Aside0.mk H
 clear H
 go_enter Tryd.func51, Tryd.ntmps51
 go_upto_region 1 with ((refine boxA HB 6 #[.int .i64 0, .int .u64 0, .int .u64 0] 24 ?_; clear HB; intro gb105 w5 BK105 GE105 hg hb HB; clear hb hg))
 go_cut [17] (fun v17 wc => ∃ (kq : Nat) (x17_3 : Bool), v17 = .bool x17_3 ∧ Aside0 (bits_decimal.j0 kq a0 a1 a2 x17_3 = some (r1, r2, r3, r4)) ∧ Aside0 (kq ≤ k) ∧ Aside0 (wc.heap[gb105]? = some (.cells #[.int .i64 0, .int .u64 0, .int .u64 0] 24 (0, 0))) ∧ Aside0 (Below w.heap.size w wc))
 case first =>
  have H := HC4.out
  clear HC4
  replace H := iE H; rcases H with ⟨c6b0, c6b1, H⟩ | ⟨c6, c6b0, c6b1, H⟩
  ·(skip)
   have H' := Aside0.mk H
   clear H
   go_wp2
   go_meet
   case rel => exact ⟨_, (true), (by rfl), H', ⟨by omega⟩, ⟨by exact BK105.out⟩, ⟨by repeat (with_reducible exact HB.out)⟩⟩
  ·(skip)
   have H' := Aside0.mk H
   clear H
   go_wp2
   go_meet
   case rel => exact ⟨_, (a0.toList == ([122] : List UInt8)), (by rfl), H', ⟨by omega⟩, ⟨by exact BK105.out⟩, ⟨by repeat (with_reducible exact HB.out)⟩⟩
 case rest =>
  clear HC4
  obtain ⟨kq, x17_3, rfl, HA, HJ3, BK105, HB⟩ := hcut
  cases kq with
  | zero => exact absurd HA.out (by simp [bits_decimal.j0])
  | succ kj3 =>
   have H := HA.out
   clear HA
   simp only [bits_decimal.j0] at H
   replace H := iB H; rcases H with ⟨rfl, H⟩ | ⟨rfl, H⟩
   ·replace H := iE H; rcases H with ⟨c8b0, c8b1, H⟩ | ⟨c8, c8b0, c8b1, H⟩
    ·by_cases c9 : 0 < (a0.size : Int)
     ·rw [if_pos c9] at H
      have c9b0 : decide (0 < (a0.size : Int)) = true := decide_eq_true c9
      have c9b1 : decide (0 < a0.size) = true := decide_eq_true (by omega)
      clear c9
      replace H := bN H; obtain ⟨⟨t106, t107, t108⟩, A11, H⟩ := H; dsimp only at H
      replace H := s4 H; obtain ⟨rfl, rfl, rfl, rfl⟩ := H
      have p10 : 0 ≤ (0 : Int) := (by omega)
      have q10 : 0 < a0.size := (by have : (0 : Int) < (a0.size : Int) := of_decide_eq_true (by (with_reducible assumption)); omega)
      have hx10 : ∀ h : 0 < a0.size, ((a0[0]'h).toNat : Int) = bt a0 0 := bt_at a0 0
      clear p10
      have qi10 : (0 < (a0.size : Int)) = True := eq_true (of_decide_eq_true (by (with_reducible assumption)))
      replace q10 := eq_true q10
      go_wp2_with ((refine callA (some 25) Tryd.func25 #[.int .i64 a1, .int .u8 (bt a0 0)] ?_; (with_reducible refine (bits_All.calls kj3 a1 (bt a0 0) t106 t107 t108 _ A11.out).mono ?_); rintro e w12 ⟨rfl, hb⟩; refine ⟨_, rfl, ?_⟩; replace BK105 := bk1 BK105 hb; replace HB := hb1 HB hb; (try clear hb); obtain ⟨hcz13_0, hcz13_1, hcz13_2, hfz13_0, hfz13_1, hfz13_2⟩ := cf3 BK105))
      refine bodyPost_ret (results_ct rfl _ _ gb105 24 #[.int .i64 t106, .int .u64 t107, .int .u64 t108] (0, 0) _ rfl (by refine blk_put (cs := #[.int .i64 t106, .int .u64 t107, .int .u64 0]) ?_ 2 _ rfl; refine blk_put (cs := #[.int .i64 t106, .int .u64 0, .int .u64 0]) ?_ 1 _ rfl; refine blk_put (cs := #[.int .i64 0, .int .u64 0, .int .u64 0]) ?_ 0 _ rfl; exact BK105.out) Tryd.underlying24 rfl (by kernel_rfl)) rfl ?_
      exact ⟨by rfl, by repeat (with_reducible first | exact HB.out | refine below_set ?_ GE105.out)⟩
     ·rw [if_neg c9] at H
      exact absurd H (by simp)
    ·replace H := s4 H; obtain ⟨rfl, rfl, rfl, rfl⟩ := H
     obtain ⟨hcz14_0, hcz14_1, hcz14_2, hfz14_0, hfz14_1, hfz14_2⟩ := cf3 BK105
     go_wp2
     refine bodyPost_ret (results_ct rfl _ _ gb105 24 #[.int .i64 0, .int .u64 0, .int .u64 0] (0, 0) _ rfl (by refine blk_put (cs := #[.int .i64 0, .int .u64 0, .int .u64 0]) ?_ 2 _ rfl; refine blk_put (cs := #[.int .i64 0, .int .u64 0, .int .u64 0]) ?_ 1 _ rfl; refine blk_put (cs := #[.int .i64 0, .int .u64 0, .int .u64 0]) ?_ 0 _ rfl; exact BK105.out) Tryd.underlying24 rfl (by kernel_rfl)) rfl ?_
     exact ⟨by rfl, by repeat (with_reducible first | exact HB.out | refine below_set ?_ GE105.out)⟩
   ·have H' := Aside0.mk H
    clear H
    go_wp2
    go_loopg [8, 9, 28] kj3 (fun kq v8 v9 v28 w' => ∃ (x8_2 : Int) (x9_2 : Bool) (x28_2 : Int) (x106000_2 : Int) (x106001_2 : Int) (x106002_2 : Int), v8 = .int .u64 x8_2 ∧ v9 = .bool x9_2 ∧ v28 = .int .i64 x28_2 ∧ Aside0 (bits_decimal.l0 kq a0 a1 a2 x8_2 x9_2 (a0.size : Int) x28_2 = some (r1, r2, r3, r4)) ∧ Aside0 (kq ≤ kj3) ∧ Aside0 (w'.heap[gb105]? = some (.cells #[.int .i64 x106000_2, .int .u64 x106001_2, .int .u64 x106002_2] 24 (0, 0))) ∧ Aside0 (Below w.heap.size w w'))
    case atStart => exact ⟨(0), (false), (0), (0), (0), (0), (by rfl), (by rfl), (by rfl), H', ⟨Nat.le_refl _⟩, ⟨by exact BK105.out⟩, ⟨by repeat (with_reducible exact HB.out)⟩⟩
    case round =>
     clear H'
     obtain ⟨x8_2, x9_2, x28_2, x106000_2, x106001_2, x106002_2, rfl, rfl, rfl, HA, HK2, BK105, HB⟩ := hrel
     cases gk with
     | zero => exact absurd HA.out (by simp [bits_decimal.l0])
     | succ k2 =>
      have H := HA.out
      clear HA
      simp only [bits_decimal.l0] at H
      replace H := iD H; rcases H with ⟨c15b0, H⟩ | ⟨c15b0, H⟩
      ·have HC16 := Aside0.mk H
       clear H
       go_upto_region 10 with (fail)
       go_cut [40] (fun v40 wc => ∃ (kq : Nat) (x40_15 : Bool), v40 = .bool x40_15 ∧ Aside0 (bits_decimal.j2 kq a0 a1 a2 x8_2 x9_2 x28_2 (a0.size : Int) x28_2 x40_15 = some (r1, r2, r3, r4)) ∧ Aside0 (kq ≤ k2) ∧ Aside0 (wc.heap[gb105]? = some (.cells #[.int .i64 x106000_2, .int .u64 x106001_2, .int .u64 x106002_2] 24 (0, 0))) ∧ Aside0 (Below w.heap.size w wc))
       case first =>
        have H := HC16.out
        clear HC16
        replace H := iN H; obtain ⟨c17b0, H⟩ := H
        (skip)
        replace H := iN H; obtain ⟨c18b0, H⟩ := H
        replace H := iD H; rcases H with ⟨c20b0, H⟩ | ⟨c20b0, H⟩
        ·have H' := Aside0.mk H
         clear H
         have p19 : 0 ≤ (x28_2 : Int) := of_decide_eq_true (by (with_reducible assumption))
         have q19 : x28_2 < (a0.size : Int) := of_decide_eq_true (by (with_reducible assumption))
         have hx19 := bt_at a0 x28_2
         replace p19 := eq_true p19
         replace q19 := eq_true q19
         go_wp2
         go_meet
         case rel => exact ⟨_, (true), (by rfl), H', ⟨by have := HJ3.out; have := HK2.out; omega⟩, ⟨by exact BK105.out⟩, ⟨by repeat (with_reducible exact HB.out)⟩⟩
        ·have H' := Aside0.mk H
         clear H
         have p19 : 0 ≤ (x28_2 : Int) := of_decide_eq_true (by (with_reducible assumption))
         have q19 : x28_2 < (a0.size : Int) := of_decide_eq_true (by (with_reducible assumption))
         have hx19 := bt_at a0 x28_2
         replace p19 := eq_true p19
         replace q19 := eq_true q19
         have p21 : 0 ≤ (x28_2 : Int) := of_decide_eq_true (by (with_reducible assumption))
         have q21 : x28_2 < (a0.size : Int) := of_decide_eq_true (by (with_reducible assumption))
         have hx21 := bt_at a0 x28_2
         replace p21 := eq_true p21
         replace q21 := eq_true q21
         go_wp2
         go_meet
         case rel => exact ⟨_, (decide ((bt a0 x28_2) > 57)), (by rfl), H', ⟨by have := HJ3.out; have := HK2.out; omega⟩, ⟨by exact BK105.out⟩, ⟨by repeat (with_reducible exact HB.out)⟩⟩
       case rest =>
        clear HC16
        (try clear c15b0)
        obtain ⟨kq, x40_15, rfl, HA, HJ15, BK105, HB⟩ := hcut
        cases kq with
        | zero => exact absurd HA.out (by simp [bits_decimal.j2])
        | succ kj15 =>
         have H := HA.out
         clear HA
         simp only [bits_decimal.j2] at H
         replace H := iB H; rcases H with ⟨rfl, H⟩ | ⟨rfl, H⟩
         ·replace H := s4 H; obtain ⟨rfl, rfl, rfl, rfl⟩ := H
          obtain ⟨hcz23_0, hcz23_1, hcz23_2, hfz23_0, hfz23_1, hfz23_2⟩ := cf3 BK105
          go_wp2
          refine bodyPost_ret (results_ct rfl _ _ gb105 24 #[.int .i64 0, .int .u64 0, .int .u64 0] (0, 0) _ rfl (by refine blk_put (cs := #[.int .i64 0, .int .u64 0, .int .u64 x106002_2]) ?_ 2 _ rfl; refine blk_put (cs := #[.int .i64 0, .int .u64 x106001_2, .int .u64 x106002_2]) ?_ 1 _ rfl; refine blk_put (cs := #[.int .i64 x106000_2, .int .u64 x106001_2, .int .u64 x106002_2]) ?_ 0 _ rfl; exact BK105.out) Tryd.underlying24 rfl (by kernel_rfl)) rfl ?_
          exact ⟨by rfl, by repeat (with_reducible first | exact HB.out | refine below_set ?_ GE105.out)⟩
         ·replace H := iN H; obtain ⟨c24b0, H⟩ := H
          replace H := iN H; obtain ⟨c25b0, H⟩ := H
          replace H := iD H; rcases H with ⟨c27b0, H⟩ | ⟨c27b0, H⟩
          ·replace c27b0 : decide (((18446744073709551615 - (((bt a0 x28_2) - 48) % 256)) / 10) < x8_2) = true := c27b0
           have H' := Aside0.mk H
           clear H
           have p26 : 0 ≤ (x28_2 : Int) := of_decide_eq_true (by (with_reducible assumption))
           have q26 : x28_2 < (a0.size : Int) := of_decide_eq_true (by (with_reducible assumption))
           have hx26 := bt_at a0 x28_2
           replace p26 := eq_true p26
           replace q26 := eq_true q26
           go_wp2
           go_roundg kj15
           case measure => have := HJ3.out; have := HK2.out; have := HJ15.out; omega
           case rel => exact ⟨(IntKind.u64.wrap ((IntKind.u64.wrap (10 * x8_2)) + (((bt a0 x28_2) - 48) % 256))), (true), (wrap64 (x28_2 + 1)), (x106000_2), (x106001_2), (x106002_2), (by rfl), (by rfl), (by rfl), H', ⟨by have := HJ3.out; have := HK2.out; have := HJ15.out; omega⟩, ⟨by exact BK105.out⟩, ⟨by repeat (with_reducible exact HB.out)⟩⟩
          ·replace c27b0 : decide (((18446744073709551615 - (((bt a0 x28_2) - 48) % 256)) / 10) < x8_2) = false := c27b0
           have H' := Aside0.mk H
           clear H
           have p26 : 0 ≤ (x28_2 : Int) := of_decide_eq_true (by (with_reducible assumption))
           have q26 : x28_2 < (a0.size : Int) := of_decide_eq_true (by (with_reducible assumption))
           have hx26 := bt_at a0 x28_2
           replace p26 := eq_true p26
           replace q26 := eq_true q26
           go_wp2
           go_roundg kj15
           case measure => have := HJ3.out; have := HK2.out; have := HJ15.out; omega
           case rel => exact ⟨(IntKind.u64.wrap ((IntKind.u64.wrap (10 * x8_2)) + (((bt a0 x28_2) - 48) % 256))), (x9_2), (wrap64 (x28_2 + 1)), (x106000_2), (x106001_2), (x106002_2), (by rfl), (by rfl), (by rfl), H', ⟨by have := HJ3.out; have := HK2.out; have := HJ15.out; omega⟩, ⟨by exact BK105.out⟩, ⟨by repeat (with_reducible exact HB.out)⟩⟩
      ·replace H := iE H; rcases H with ⟨c28b0, c28b1, H⟩ | ⟨c28, c28b0, c28b1, H⟩
       ·replace H := iB H; rcases H with ⟨rfl, H⟩ | ⟨rfl, H⟩
        ·replace H := s4 H; obtain ⟨rfl, rfl, rfl, rfl⟩ := H
         obtain ⟨hcz30_0, hcz30_1, hcz30_2, hfz30_0, hfz30_1, hfz30_2⟩ := cf3 BK105
         go_wp2
         refine bodyPost_ret (results_ct rfl _ _ gb105 24 #[.int .i64 0, .int .u64 0, .int .u64 0] (0, 0) _ rfl (by refine blk_put (cs := #[.int .i64 0, .int .u64 0, .int .u64 x106002_2]) ?_ 2 _ rfl; refine blk_put (cs := #[.int .i64 0, .int .u64 x106001_2, .int .u64 x106002_2]) ?_ 1 _ rfl; refine blk_put (cs := #[.int .i64 x106000_2, .int .u64 x106001_2, .int .u64 x106002_2]) ?_ 0 _ rfl; exact BK105.out) Tryd.underlying24 rfl (by kernel_rfl)) rfl ?_
         exact ⟨by rfl, by repeat (with_reducible first | exact HB.out | refine below_set ?_ GE105.out)⟩
        ·replace H := bN H; obtain ⟨t109, A31, H⟩ := H
         replace H := iE H; rcases H with ⟨c32b0, c32b1, H⟩ | ⟨c32, c32b0, c32b1, H⟩
         ·replace H := bN H; obtain ⟨⟨t110, t111, t112⟩, A33, H⟩ := H; dsimp only at H
          replace H := s4 H; obtain ⟨rfl, rfl, rfl, rfl⟩ := H
          go_wp2_with (first | (go_at_call 58; (with_reducible refine (bits_mask.calls a1 t109 _ A31.out).mono ?_); rintro e w' ⟨rfl, ⟨nd, rfl⟩⟩; (try (rw [drewN_self wr]; generalize hq_ : World.drewN wr _ = wr; have n0_ : Aside0 (wr.heap[gb105]? = some (.cells #[.int .i64 x106000_2, .int .u64 x106001_2, .int .u64 x106002_2] 24 (0, 0))) := ⟨by rw [← hq_]; exact (by (with_reducible repeat (refine blk_drewN ?_ _)); exact BK105.out)⟩; have n1_ : Aside0 (Below w.heap.size w wr) := ⟨by rw [← hq_]; exact (by repeat (with_reducible first | exact HB.out | apply pw_below_drewN))⟩; clear BK105 HB hq_; have BK105 := n0_; have HB := n1_; clear n0_ n1_))) | (refine callA (some 74) Tryd.func24 #[.int .i64 a1, .int .u64 x8_2] ?_; (with_reducible refine (bits_Of.calls a1 x8_2 t110 t111 t112 _ A33.out).mono ?_); rintro e w34 ⟨rfl, hb⟩; refine ⟨_, rfl, ?_⟩; replace BK105 := bk1 BK105 hb; replace HB := hb1 HB hb; (try clear hb); obtain ⟨hcz35_0, hcz35_1, hcz35_2, hfz35_0, hfz35_1, hfz35_2⟩ := cf3 BK105))
          refine bodyPost_ret (results_ct rfl _ _ gb105 24 #[.int .i64 t110, .int .u64 t111, .int .u64 t112] (0, 0) _ rfl (by refine blk_put (cs := #[.int .i64 t110, .int .u64 t111, .int .u64 x106002_2]) ?_ 2 _ rfl; refine blk_put (cs := #[.int .i64 t110, .int .u64 x106001_2, .int .u64 x106002_2]) ?_ 1 _ rfl; refine blk_put (cs := #[.int .i64 x106000_2, .int .u64 x106001_2, .int .u64 x106002_2]) ?_ 0 _ rfl; exact BK105.out) Tryd.underlying24 rfl (by kernel_rfl)) rfl ?_
          exact ⟨by rfl, by repeat (with_reducible first | exact HB.out | refine below_set ?_ GE105.out)⟩
         ·replace H := s4 H; obtain ⟨rfl, rfl, rfl, rfl⟩ := H
          go_wp2_with ((go_at_call 58; (with_reducible refine (bits_mask.calls a1 t109 _ A31.out).mono ?_); rintro e w' ⟨rfl, ⟨nd, rfl⟩⟩; (try (rw [drewN_self wr]; generalize hq_ : World.drewN wr _ = wr; have n0_ : Aside0 (wr.heap[gb105]? = some (.cells #[.int .i64 x106000_2, .int .u64 x106001_2, .int .u64 x106002_2] 24 (0, 0))) := ⟨by rw [← hq_]; exact (by (with_reducible repeat (refine blk_drewN ?_ _)); exact BK105.out)⟩; have n1_ : Aside0 (Below w.heap.size w wr) := ⟨by rw [← hq_]; exact (by repeat (with_reducible first | exact HB.out | apply pw_below_drewN))⟩; clear BK105 HB hq_; have BK105 := n0_; have HB := n1_; clear n0_ n1_)); obtain ⟨hcz36_0, hcz36_1, hcz36_2, hfz36_0, hfz36_1, hfz36_2⟩ := cf3 BK105))
          refine bodyPost_ret (results_ct rfl _ _ gb105 24 #[.int .i64 0, .int .u64 0, .int .u64 0] (0, 0) _ rfl (by refine blk_put (cs := #[.int .i64 0, .int .u64 0, .int .u64 x106002_2]) ?_ 2 _ rfl; refine blk_put (cs := #[.int .i64 0, .int .u64 x106001_2, .int .u64 x106002_2]) ?_ 1 _ rfl; refine blk_put (cs := #[.int .i64 x106000_2, .int .u64 x106001_2, .int .u64 x106002_2]) ?_ 0 _ rfl; exact BK105.out) Tryd.underlying24 rfl (by kernel_rfl)) rfl ?_
          exact ⟨by rfl, by repeat (with_reducible first | exact HB.out | refine below_set ?_ GE105.out)⟩
       ·replace H := s4 H; obtain ⟨rfl, rfl, rfl, rfl⟩ := H
        obtain ⟨hcz37_0, hcz37_1, hcz37_2, hfz37_0, hfz37_1, hfz37_2⟩ := cf3 BK105
        go_wp2
        refine bodyPost_ret (results_ct rfl _ _ gb105 24 #[.int .i64 0, .int .u64 0, .int .u64 0] (0, 0) _ rfl (by refine blk_put (cs := #[.int .i64 0, .int .u64 0, .int .u64 x106002_2]) ?_ 2 _ rfl; refine blk_put (cs := #[.int .i64 0, .int .u64 x106001_2, .int .u64 x106002_2]) ?_ 1 _ rfl; refine blk_put (cs := #[.int .i64 x106000_2, .int .u64 x106001_2, .int .u64 x106002_2]) ?_ 0 _ rfl; exact BK105.out) Tryd.underlying24 rfl (by kernel_rfl)) rfl ?_
        exact ⟨by rfl, by repeat (with_reducible first | exact HB.out | refine below_set ?_ GE105.out)⟩
end Go.Proofs.YtfigblfjogpojaaDoor.PBits
end
section
namespace Go.Proofs.YtfigblfjogpojaaDoor.PBits
open Go.RowKit Go.Proofs.YtfigblfjogpojaaDoorW.PrintWords Go.Proofs.YtfigblfjogpojaaDoorW.PrintLast Go.Proofs.YtfigblfjogpojaaDoorW.PrintMore
attribute [local go_sem] max2_int min2_int max_two min_two max_three min_three max_four min_four
set_option linter.unusedVariables false
set_option linter.unusedSimpArgs false
def bits_digit.j0 : Nat → Int → Bool → Option (Int)
 | 0, _, _ => none
 | k + 1, x0, x3 => if x3 = true then (some ((x0 - 48) % 256)) else (if x0 ≥ 97 then (if x0 ≤ 102 then (some (((x0 - 97) % 256) + 10)) else (some (-1))) else (some (-1)))
def bits_digit.f (k : Nat) (a0 : Int) : Option (Int) := if a0 ≥ 48 then (bits_digit.j0 k a0 (decide (a0 ≤ 57))) else (bits_digit.j0 k a0 false)
theorem bits_digit.mono_l : ∀ k, (∀ y0 y1, LeO (bits_digit.j0 k y0 y1) (bits_digit.j0 (k + 1) y0 y1))
 | 0 => fun _ _ r h => by simp [bits_digit.j0] at h
 | k + 1 => by
  have ih0 := bits_digit.mono_l k
  ·intro y0 y1
   unfold bits_digit.j0
   repeat' first | with_reducible exact ih0 _ _ | with_reducible exact LeO.refl _ | with_reducible exact LeO.none _ | with_reducible refine LeO.ite ?_ ?_ | with_reducible refine LeO.bind ?_ (fun _ => ?_)
theorem bits_digit.mono : ∀ a0 k, LeO (bits_digit.f k a0) (bits_digit.f (k + 1) a0) := by
 intro a0 k
 have ih0 := bits_digit.mono_l k
 unfold bits_digit.f
 repeat' first | with_reducible exact ih0 _ _ | with_reducible exact LeO.refl _ | with_reducible exact LeO.none _ | with_reducible refine LeO.ite ?_ ?_ | with_reducible refine LeO.bind ?_ (fun _ => ?_)
set_option maxHeartbeats 8000000 in
set_option maxRecDepth 100000 in
theorem bits_digit.calls (k : Nat) (a0 : Int) (r : Int) (w : World) (h : bits_digit.f k a0 = some r) :
  Calls Tryd.prog 74 #[.int .u8 a0] w fun e w' => e = .returned (.int .i64 r) ∧ Drawn0 w w' := by
 have H := h
 clear h
 unfold bits_digit.f at H
 have HC2 := Aside0.mk H
 clear H
 go_enter Tryd.func74, Tryd.ntmps74
 go_upto_region 1 with (fail)
 go_cut [3] (fun v3 wc => ∃ (kq : Nat) (x3_1 : Bool), v3 = .bool x3_1 ∧ Aside0 (bits_digit.j0 kq a0 x3_1 = some r) ∧ Aside0 (kq ≤ k) ∧ Drawn0 w wc)
 case first =>
  have H := HC2.out
  clear HC2
  replace H := iD H; rcases H with ⟨c3b0, H⟩ | ⟨c3b0, H⟩
  ·replace c3b0 : decide (48 ≤ a0) = true := c3b0
   (skip)
   have H' := Aside0.mk H
   clear H
   go_wp2
   go_meet
   case rel => exact ⟨_, (decide (a0 ≤ 57)), (by rfl), H', ⟨by omega⟩, by repeat (exact Drawn0.refl _)⟩
  ·replace c3b0 : decide (48 ≤ a0) = false := c3b0
   (skip)
   have H' := Aside0.mk H
   clear H
   go_wp2
   go_meet
   case rel => exact ⟨_, (false), (by rfl), H', ⟨by omega⟩, by repeat (exact Drawn0.refl _)⟩
 case rest =>
  clear HC2
  obtain ⟨kq, x3_1, rfl, HA, HJ1, ⟨mc1, rfl⟩⟩ := hcut
  cases kq with
  | zero => exact absurd HA.out (by simp [bits_digit.j0])
  | succ kj1 =>
   have H := HA.out
   clear HA
   simp only [bits_digit.j0] at H
   replace H := iB H; rcases H with ⟨rfl, H⟩ | ⟨rfl, H⟩
   ·obtain rfl := Option.some.inj H
    go_wp2
    go_ret
    exact ⟨by rfl, by repeat (first | exact Drawn0.refl _ | apply Drawn0.step)⟩
   ·replace H := iD H; rcases H with ⟨c5b0, H⟩ | ⟨c5b0, H⟩
    ·replace c5b0 : decide (97 ≤ a0) = true := c5b0
     replace H := iD H; rcases H with ⟨c6b0, H⟩ | ⟨c6b0, H⟩
     ·obtain rfl := Option.some.inj H
      go_wp2
      go_ret
      exact ⟨by rfl, by repeat (first | exact Drawn0.refl _ | apply Drawn0.step)⟩
     ·obtain rfl := Option.some.inj H
      go_wp2
      go_ret
      exact ⟨by rfl, by repeat (first | exact Drawn0.refl _ | apply Drawn0.step)⟩
    ·replace c5b0 : decide (97 ≤ a0) = false := c5b0
     obtain rfl := Option.some.inj H
     go_wp2
     go_ret
     exact ⟨by rfl, by repeat (first | exact Drawn0.refl _ | apply Drawn0.step)⟩
end Go.Proofs.YtfigblfjogpojaaDoor.PBits
end
section
namespace Go.Proofs.YtfigblfjogpojaaDoor.PBits
open Go.RowKit Go.Proofs.YtfigblfjogpojaaDoorW.PrintWords Go.Proofs.YtfigblfjogpojaaDoorW.PrintLast Go.Proofs.YtfigblfjogpojaaDoorW.PrintMore
attribute [local go_sem] max2_int min2_int max_two min_two max_three min_three max_four min_four
set_option linter.unusedVariables false
set_option linter.unusedSimpArgs false
mutual
def bits_grouped.l0 : Nat → ByteArray → Int → Int → Int → Int → Int → Int → Int → Int → Option (Int × Int × Int × Int)
 | 0, _, _, _, _, _, _, _, _, _ => none
 | k + 1, x0, x1, x2, x3, x23, x24, x139000, x139001, x139002 => if x24 < x23 then (if 0 ≤ x24 then (if x24 < (x0.size : Int) then (if (bt x0 x24) = 120 then (bits_grouped.j1 k x0 x1 x2 x3 x23 x24 false x139000 x139001 x139002) else (if (bt x0 x24) = 122 then (bits_grouped.j1 k x0 x1 x2 x3 x23 x24 false x139000 x139001 x139002) else ((bits_digit.f k (bt x0 x24)).bind fun t139 => (if t139 < 0 then (bits_grouped.j1 k x0 x1 x2 x3 x23 x24 true x139000 x139001 x139002) else ((bits_digit.f k (bt x0 x24)).bind fun t140 => (if 0 ≤ x2 then (bits_grouped.j1 k x0 x1 x2 x3 x23 x24 (decide (t140 ≥ (shl .i64 1 x2))) x139000 x139001 x139002) else (none))))))) else (none)) else (none)) else (if x3 = 0 then (bits_grouped.l1 k x0 x1 x2 0 (wrap64 ((x0.size : Int) - 1)) x139000 x139001 x139002) else (some (0, 0, 0, x3)))
def bits_grouped.j1 : Nat → ByteArray → Int → Int → Int → Int → Int → Bool → Int → Int → Int → Option (Int × Int × Int × Int)
 | 0, _, _, _, _, _, _, _, _, _, _ => none
 | k + 1, x0, x1, x2, x3, x23, x24, x47, x139000, x139001, x139002 => if x47 = true then (some (0, 0, 0, 10)) else (bits_grouped.l0 k x0 x1 x2 x3 x23 (wrap64 (x24 + 1)) x139000 x139001 x139002)
def bits_grouped.l1 : Nat → ByteArray → Int → Int → Int → Int → Int → Int → Int → Option (Int × Int × Int × Int)
 | 0, _, _, _, _, _, _, _, _ => none
 | k + 1, x0, x1, x2, x13, x14, x139000, x139001, x139002 => if x14 ≥ 0 then (if 0 ≤ x14 then (if x14 < (x0.size : Int) then (if (bt x0 x14) = 120 then (bits_grouped.j3 k x0 x1 x2 x13 x14 (bt x0 x14) true x139000 x139001 x139002) else (bits_grouped.j3 k x0 x1 x2 x13 x14 (bt x0 x14) ((bt x0 x14) == 122) x139000 x139001 x139002)) else (none)) else (none)) else (if 0 < (x0.size : Int) then (if (bt x0 0) = 120 then (bits_grouped.j8 k x1 x13 (bt x0 0) (decide (x13 < x1)) x139000 x139001 x139002) else (if (bt x0 0) = 122 then (bits_grouped.j8 k x1 x13 (bt x0 0) (decide (x13 < x1)) x139000 x139001 x139002) else (bits_grouped.j8 k x1 x13 (bt x0 0) false x139000 x139001 x139002))) else (none))
def bits_grouped.j3 : Nat → ByteArray → Int → Int → Int → Int → Int → Bool → Int → Int → Int → Option (Int × Int × Int × Int)
 | 0, _, _, _, _, _, _, _, _, _, _ => none
 | k + 1, x0, x1, x2, x13, x14, x16, x69, x139000, x139001, x139002 => if x69 = true then ((bits_All.f k x2 x16).bind fun bt142 => (bits_grouped.j4 k x0 x1 x2 x13 x14 x139000 x139001 x139002 bt142.1 bt142.2.1 bt142.2.2)) else ((bits_digit.f k x16).bind fun t145 => ((bits_Of.f x2 (IntKind.u64.wrap (t145))).bind fun bt146 => (bits_grouped.j4 k x0 x1 x2 x13 x14 x139000 x139001 x139002 bt146.1 bt146.2.1 bt146.2.2)))
def bits_grouped.j4 : Nat → ByteArray → Int → Int → Int → Int → Int → Int → Int → Int → Int → Int → Option (Int × Int × Int × Int)
 | 0, _, _, _, _, _, _, _, _, _, _, _ => none
 | k + 1, x0, x1, x2, x13, x14, x139000, x139001, x139002, x142000, x142001, x142002 => bits_grouped.l2 k x0 x1 x2 x13 x14 x2 0 x139000 x139001 x139002 x142000 x142001 x142002
def bits_grouped.l2 : Nat → ByteArray → Int → Int → Int → Int → Int → Int → Int → Int → Int → Int → Int → Int → Option (Int × Int × Int × Int)
 | 0, _, _, _, _, _, _, _, _, _, _, _, _, _ => none
 | k + 1, x0, x1, x2, x13, x14, x78, x79, x139000, x139001, x139002, x142000, x142001, x142002 => if x79 < x78 then (if (wrap64 (x13 + x79)) ≥ x1 then ((bits_Bit.f k x142000 x142001 x142002 x79).bind fun t152 => (bits_grouped.j6 k x0 x1 x2 x13 x14 x78 x79 (t152 != 48) x139000 x139001 x139002 x142000 x142001 x142002)) else (bits_grouped.j6 k x0 x1 x2 x13 x14 x78 x79 false x139000 x139001 x139002 x142000 x142001 x142002)) else ((bits_Put.f k x139000 x139001 x139002 x13 x142000 x142001 x142002).bind fun bt149 => (bits_grouped.l1 k x0 x1 x2 (wrap64 (x13 + x2)) (wrap64 (x14 - 1)) bt149.1 bt149.2.1 bt149.2.2))
def bits_grouped.j6 : Nat → ByteArray → Int → Int → Int → Int → Int → Int → Bool → Int → Int → Int → Int → Int → Int → Option (Int × Int × Int × Int)
 | 0, _, _, _, _, _, _, _, _, _, _, _, _, _, _ => none
 | k + 1, x0, x1, x2, x13, x14, x78, x79, x92, x139000, x139001, x139002, x142000, x142001, x142002 => if x92 = true then (if 0 ≤ x14 then (if x14 < (x0.size : Int) then (if (bt x0 x14) = 120 then (bits_grouped.j7 k x0 x1 x2 x13 x14 x78 x79 (decide (x13 < x1)) x139000 x139001 x139002 x142000 x142001 x142002) else (if (bt x0 x14) = 122 then (bits_grouped.j7 k x0 x1 x2 x13 x14 x78 x79 (decide (x13 < x1)) x139000 x139001 x139002 x142000 x142001 x142002) else (bits_grouped.j7 k x0 x1 x2 x13 x14 x78 x79 false x139000 x139001 x139002 x142000 x142001 x142002))) else (none)) else (none)) else (bits_grouped.l2 k x0 x1 x2 x13 x14 x78 (wrap64 (x79 + 1)) x139000 x139001 x139002 x142000 x142001 x142002)
def bits_grouped.j7 : Nat → ByteArray → Int → Int → Int → Int → Int → Int → Bool → Int → Int → Int → Int → Int → Int → Option (Int × Int × Int × Int)
 | 0, _, _, _, _, _, _, _, _, _, _, _, _, _, _ => none
 | k + 1, x0, x1, x2, x13, x14, x78, x79, x106, x139000, x139001, x139002, x142000, x142001, x142002 => if x106 = true then (bits_grouped.l2 k x0 x1 x2 x13 x14 x78 (wrap64 (x79 + 1)) x139000 x139001 x139002 x142000 x142001 x142002) else (some (0, 0, 0, 3))
def bits_grouped.j8 : Nat → Int → Int → Int → Bool → Int → Int → Int → Option (Int × Int × Int × Int)
 | 0, _, _, _, _, _, _, _ => none
 | k + 1, x1, x13, x19, x128, x139000, x139001, x139002 => if x128 = true then ((bits_All.f k (wrap64 (x1 - x13)) x19).bind fun bt153 => ((bits_Put.f k x139000 x139001 x139002 x13 bt153.1 bt153.2.1 bt153.2.2).bind fun bt156 => (some (bt156.1, bt156.2.1, bt156.2.2, 0)))) else (some (x139000, x139001, x139002, 0))
end
def bits_grouped.f (k : Nat) (a0 : ByteArray) (a1 : Int) (a2 : Int) (a3 : Int) : Option (Int × Int × Int × Int) := bits_grouped.l0 k a0 a1 a2 a3 (a0.size : Int) 0 a1 0 0
theorem bits_grouped.mono_l : ∀ k, (∀ y0 y1 y2 y3 y4 y5 y6 y7 y8, LeO (bits_grouped.l0 k y0 y1 y2 y3 y4 y5 y6 y7 y8) (bits_grouped.l0 (k + 1) y0 y1 y2 y3 y4 y5 y6 y7 y8)) ∧ (∀ y0 y1 y2 y3 y4 y5 y6 y7 y8 y9, LeO (bits_grouped.j1 k y0 y1 y2 y3 y4 y5 y6 y7 y8 y9) (bits_grouped.j1 (k + 1) y0 y1 y2 y3 y4 y5 y6 y7 y8 y9)) ∧ (∀ y0 y1 y2 y3 y4 y5 y6 y7, LeO (bits_grouped.l1 k y0 y1 y2 y3 y4 y5 y6 y7) (bits_grouped.l1 (k + 1) y0 y1 y2 y3 y4 y5 y6 y7)) ∧ (∀ y0 y1 y2 y3 y4 y5 y6 y7 y8 y9, LeO (bits_grouped.j3 k y0 y1 y2 y3 y4 y5 y6 y7 y8 y9) (bits_grouped.j3 (k + 1) y0 y1 y2 y3 y4 y5 y6 y7 y8 y9)) ∧ (∀ y0 y1 y2 y3 y4 y5 y6 y7 y8 y9 y10, LeO (bits_grouped.j4 k y0 y1 y2 y3 y4 y5 y6 y7 y8 y9 y10) (bits_grouped.j4 (k + 1) y0 y1 y2 y3 y4 y5 y6 y7 y8 y9 y10)) ∧ (∀ y0 y1 y2 y3 y4 y5 y6 y7 y8 y9 y10 y11 y12, LeO (bits_grouped.l2 k y0 y1 y2 y3 y4 y5 y6 y7 y8 y9 y10 y11 y12) (bits_grouped.l2 (k + 1) y0 y1 y2 y3 y4 y5 y6 y7 y8 y9 y10 y11 y12)) ∧ (∀ y0 y1 y2 y3 y4 y5 y6 y7 y8 y9 y10 y11 y12 y13, LeO (bits_grouped.j6 k y0 y1 y2 y3 y4 y5 y6 y7 y8 y9 y10 y11 y12 y13) (bits_grouped.j6 (k + 1) y0 y1 y2 y3 y4 y5 y6 y7 y8 y9 y10 y11 y12 y13)) ∧ (∀ y0 y1 y2 y3 y4 y5 y6 y7 y8 y9 y10 y11 y12 y13, LeO (bits_grouped.j7 k y0 y1 y2 y3 y4 y5 y6 y7 y8 y9 y10 y11 y12 y13) (bits_grouped.j7 (k + 1) y0 y1 y2 y3 y4 y5 y6 y7 y8 y9 y10 y11 y12 y13)) ∧ (∀ y0 y1 y2 y3 y4 y5 y6, LeO (bits_grouped.j8 k y0 y1 y2 y3 y4 y5 y6) (bits_grouped.j8 (k + 1) y0 y1 y2 y3 y4 y5 y6))
 | 0 => ⟨fun _ _ _ _ _ _ _ _ _ r h => by simp [bits_grouped.l0] at h, fun _ _ _ _ _ _ _ _ _ _ r h => by simp [bits_grouped.j1] at h, fun _ _ _ _ _ _ _ _ r h => by simp [bits_grouped.l1] at h, fun _ _ _ _ _ _ _ _ _ _ r h => by simp [bits_grouped.j3] at h, fun _ _ _ _ _ _ _ _ _ _ _ r h => by simp [bits_grouped.j4] at h, fun _ _ _ _ _ _ _ _ _ _ _ _ _ r h => by simp [bits_grouped.l2] at h, fun _ _ _ _ _ _ _ _ _ _ _ _ _ _ r h => by simp [bits_grouped.j6] at h, fun _ _ _ _ _ _ _ _ _ _ _ _ _ _ r h => by simp [bits_grouped.j7] at h, fun _ _ _ _ _ _ _ r h => by simp [bits_grouped.j8] at h⟩
 | k + 1 => by
  obtain ⟨ih0, ih1, ih2, ih3, ih4, ih5, ih6, ih7, ih8⟩ := bits_grouped.mono_l k
  refine ⟨?_, ?_, ?_, ?_, ?_, ?_, ?_, ?_, ?_⟩
  ·intro y0 y1 y2 y3 y4 y5 y6 y7 y8
   unfold bits_grouped.l0
   repeat' first | with_reducible exact ih0 _ _ _ _ _ _ _ _ _ | with_reducible exact ih1 _ _ _ _ _ _ _ _ _ _ | with_reducible exact ih2 _ _ _ _ _ _ _ _ | with_reducible exact ih3 _ _ _ _ _ _ _ _ _ _ | with_reducible exact ih4 _ _ _ _ _ _ _ _ _ _ _ | with_reducible exact ih5 _ _ _ _ _ _ _ _ _ _ _ _ _ | with_reducible exact ih6 _ _ _ _ _ _ _ _ _ _ _ _ _ _ | with_reducible exact ih7 _ _ _ _ _ _ _ _ _ _ _ _ _ _ | with_reducible exact ih8 _ _ _ _ _ _ _ | with_reducible exact bits_All.mono _ _ _ | with_reducible exact bits_Bit.mono _ _ _ _ _ | with_reducible exact bits_Put.mono _ _ _ _ _ _ _ _ | with_reducible exact bits_digit.mono _ _ | with_reducible exact LeO.refl _ | with_reducible exact LeO.none _ | with_reducible refine LeO.ite ?_ ?_ | with_reducible refine LeO.bind ?_ (fun _ => ?_)
  ·intro y0 y1 y2 y3 y4 y5 y6 y7 y8 y9
   unfold bits_grouped.j1
   repeat' first | with_reducible exact ih0 _ _ _ _ _ _ _ _ _ | with_reducible exact ih1 _ _ _ _ _ _ _ _ _ _ | with_reducible exact ih2 _ _ _ _ _ _ _ _ | with_reducible exact ih3 _ _ _ _ _ _ _ _ _ _ | with_reducible exact ih4 _ _ _ _ _ _ _ _ _ _ _ | with_reducible exact ih5 _ _ _ _ _ _ _ _ _ _ _ _ _ | with_reducible exact ih6 _ _ _ _ _ _ _ _ _ _ _ _ _ _ | with_reducible exact ih7 _ _ _ _ _ _ _ _ _ _ _ _ _ _ | with_reducible exact ih8 _ _ _ _ _ _ _ | with_reducible exact bits_All.mono _ _ _ | with_reducible exact bits_Bit.mono _ _ _ _ _ | with_reducible exact bits_Put.mono _ _ _ _ _ _ _ _ | with_reducible exact bits_digit.mono _ _ | with_reducible exact LeO.refl _ | with_reducible exact LeO.none _ | with_reducible refine LeO.ite ?_ ?_ | with_reducible refine LeO.bind ?_ (fun _ => ?_)
  ·intro y0 y1 y2 y3 y4 y5 y6 y7
   unfold bits_grouped.l1
   repeat' first | with_reducible exact ih0 _ _ _ _ _ _ _ _ _ | with_reducible exact ih1 _ _ _ _ _ _ _ _ _ _ | with_reducible exact ih2 _ _ _ _ _ _ _ _ | with_reducible exact ih3 _ _ _ _ _ _ _ _ _ _ | with_reducible exact ih4 _ _ _ _ _ _ _ _ _ _ _ | with_reducible exact ih5 _ _ _ _ _ _ _ _ _ _ _ _ _ | with_reducible exact ih6 _ _ _ _ _ _ _ _ _ _ _ _ _ _ | with_reducible exact ih7 _ _ _ _ _ _ _ _ _ _ _ _ _ _ | with_reducible exact ih8 _ _ _ _ _ _ _ | with_reducible exact bits_All.mono _ _ _ | with_reducible exact bits_Bit.mono _ _ _ _ _ | with_reducible exact bits_Put.mono _ _ _ _ _ _ _ _ | with_reducible exact bits_digit.mono _ _ | with_reducible exact LeO.refl _ | with_reducible exact LeO.none _ | with_reducible refine LeO.ite ?_ ?_ | with_reducible refine LeO.bind ?_ (fun _ => ?_)
  ·intro y0 y1 y2 y3 y4 y5 y6 y7 y8 y9
   unfold bits_grouped.j3
   repeat' first | with_reducible exact ih0 _ _ _ _ _ _ _ _ _ | with_reducible exact ih1 _ _ _ _ _ _ _ _ _ _ | with_reducible exact ih2 _ _ _ _ _ _ _ _ | with_reducible exact ih3 _ _ _ _ _ _ _ _ _ _ | with_reducible exact ih4 _ _ _ _ _ _ _ _ _ _ _ | with_reducible exact ih5 _ _ _ _ _ _ _ _ _ _ _ _ _ | with_reducible exact ih6 _ _ _ _ _ _ _ _ _ _ _ _ _ _ | with_reducible exact ih7 _ _ _ _ _ _ _ _ _ _ _ _ _ _ | with_reducible exact ih8 _ _ _ _ _ _ _ | with_reducible exact bits_All.mono _ _ _ | with_reducible exact bits_Bit.mono _ _ _ _ _ | with_reducible exact bits_Put.mono _ _ _ _ _ _ _ _ | with_reducible exact bits_digit.mono _ _ | with_reducible exact LeO.refl _ | with_reducible exact LeO.none _ | with_reducible refine LeO.ite ?_ ?_ | with_reducible refine LeO.bind ?_ (fun _ => ?_)
  ·intro y0 y1 y2 y3 y4 y5 y6 y7 y8 y9 y10
   unfold bits_grouped.j4
   repeat' first | with_reducible exact ih0 _ _ _ _ _ _ _ _ _ | with_reducible exact ih1 _ _ _ _ _ _ _ _ _ _ | with_reducible exact ih2 _ _ _ _ _ _ _ _ | with_reducible exact ih3 _ _ _ _ _ _ _ _ _ _ | with_reducible exact ih4 _ _ _ _ _ _ _ _ _ _ _ | with_reducible exact ih5 _ _ _ _ _ _ _ _ _ _ _ _ _ | with_reducible exact ih6 _ _ _ _ _ _ _ _ _ _ _ _ _ _ | with_reducible exact ih7 _ _ _ _ _ _ _ _ _ _ _ _ _ _ | with_reducible exact ih8 _ _ _ _ _ _ _ | with_reducible exact bits_All.mono _ _ _ | with_reducible exact bits_Bit.mono _ _ _ _ _ | with_reducible exact bits_Put.mono _ _ _ _ _ _ _ _ | with_reducible exact bits_digit.mono _ _ | with_reducible exact LeO.refl _ | with_reducible exact LeO.none _ | with_reducible refine LeO.ite ?_ ?_ | with_reducible refine LeO.bind ?_ (fun _ => ?_)
  ·intro y0 y1 y2 y3 y4 y5 y6 y7 y8 y9 y10 y11 y12
   unfold bits_grouped.l2
   repeat' first | with_reducible exact ih0 _ _ _ _ _ _ _ _ _ | with_reducible exact ih1 _ _ _ _ _ _ _ _ _ _ | with_reducible exact ih2 _ _ _ _ _ _ _ _ | with_reducible exact ih3 _ _ _ _ _ _ _ _ _ _ | with_reducible exact ih4 _ _ _ _ _ _ _ _ _ _ _ | with_reducible exact ih5 _ _ _ _ _ _ _ _ _ _ _ _ _ | with_reducible exact ih6 _ _ _ _ _ _ _ _ _ _ _ _ _ _ | with_reducible exact ih7 _ _ _ _ _ _ _ _ _ _ _ _ _ _ | with_reducible exact ih8 _ _ _ _ _ _ _ | with_reducible exact bits_All.mono _ _ _ | with_reducible exact bits_Bit.mono _ _ _ _ _ | with_reducible exact bits_Put.mono _ _ _ _ _ _ _ _ | with_reducible exact bits_digit.mono _ _ | with_reducible exact LeO.refl _ | with_reducible exact LeO.none _ | with_reducible refine LeO.ite ?_ ?_ | with_reducible refine LeO.bind ?_ (fun _ => ?_)
  ·intro y0 y1 y2 y3 y4 y5 y6 y7 y8 y9 y10 y11 y12 y13
   unfold bits_grouped.j6
   repeat' first | with_reducible exact ih0 _ _ _ _ _ _ _ _ _ | with_reducible exact ih1 _ _ _ _ _ _ _ _ _ _ | with_reducible exact ih2 _ _ _ _ _ _ _ _ | with_reducible exact ih3 _ _ _ _ _ _ _ _ _ _ | with_reducible exact ih4 _ _ _ _ _ _ _ _ _ _ _ | with_reducible exact ih5 _ _ _ _ _ _ _ _ _ _ _ _ _ | with_reducible exact ih6 _ _ _ _ _ _ _ _ _ _ _ _ _ _ | with_reducible exact ih7 _ _ _ _ _ _ _ _ _ _ _ _ _ _ | with_reducible exact ih8 _ _ _ _ _ _ _ | with_reducible exact bits_All.mono _ _ _ | with_reducible exact bits_Bit.mono _ _ _ _ _ | with_reducible exact bits_Put.mono _ _ _ _ _ _ _ _ | with_reducible exact bits_digit.mono _ _ | with_reducible exact LeO.refl _ | with_reducible exact LeO.none _ | with_reducible refine LeO.ite ?_ ?_ | with_reducible refine LeO.bind ?_ (fun _ => ?_)
  ·intro y0 y1 y2 y3 y4 y5 y6 y7 y8 y9 y10 y11 y12 y13
   unfold bits_grouped.j7
   repeat' first | with_reducible exact ih0 _ _ _ _ _ _ _ _ _ | with_reducible exact ih1 _ _ _ _ _ _ _ _ _ _ | with_reducible exact ih2 _ _ _ _ _ _ _ _ | with_reducible exact ih3 _ _ _ _ _ _ _ _ _ _ | with_reducible exact ih4 _ _ _ _ _ _ _ _ _ _ _ | with_reducible exact ih5 _ _ _ _ _ _ _ _ _ _ _ _ _ | with_reducible exact ih6 _ _ _ _ _ _ _ _ _ _ _ _ _ _ | with_reducible exact ih7 _ _ _ _ _ _ _ _ _ _ _ _ _ _ | with_reducible exact ih8 _ _ _ _ _ _ _ | with_reducible exact bits_All.mono _ _ _ | with_reducible exact bits_Bit.mono _ _ _ _ _ | with_reducible exact bits_Put.mono _ _ _ _ _ _ _ _ | with_reducible exact bits_digit.mono _ _ | with_reducible exact LeO.refl _ | with_reducible exact LeO.none _ | with_reducible refine LeO.ite ?_ ?_ | with_reducible refine LeO.bind ?_ (fun _ => ?_)
  ·intro y0 y1 y2 y3 y4 y5 y6
   unfold bits_grouped.j8
   repeat' first | with_reducible exact ih0 _ _ _ _ _ _ _ _ _ | with_reducible exact ih1 _ _ _ _ _ _ _ _ _ _ | with_reducible exact ih2 _ _ _ _ _ _ _ _ | with_reducible exact ih3 _ _ _ _ _ _ _ _ _ _ | with_reducible exact ih4 _ _ _ _ _ _ _ _ _ _ _ | with_reducible exact ih5 _ _ _ _ _ _ _ _ _ _ _ _ _ | with_reducible exact ih6 _ _ _ _ _ _ _ _ _ _ _ _ _ _ | with_reducible exact ih7 _ _ _ _ _ _ _ _ _ _ _ _ _ _ | with_reducible exact ih8 _ _ _ _ _ _ _ | with_reducible exact bits_All.mono _ _ _ | with_reducible exact bits_Bit.mono _ _ _ _ _ | with_reducible exact bits_Put.mono _ _ _ _ _ _ _ _ | with_reducible exact bits_digit.mono _ _ | with_reducible exact LeO.refl _ | with_reducible exact LeO.none _ | with_reducible refine LeO.ite ?_ ?_ | with_reducible refine LeO.bind ?_ (fun _ => ?_)
theorem bits_grouped.mono : ∀ a0 a1 a2 a3 k, LeO (bits_grouped.f k a0 a1 a2 a3) (bits_grouped.f (k + 1) a0 a1 a2 a3) := by
 intro a0 a1 a2 a3 k
 obtain ⟨ih0, ih1, ih2, ih3, ih4, ih5, ih6, ih7, ih8⟩ := bits_grouped.mono_l k
 unfold bits_grouped.f
 repeat' first | with_reducible exact ih0 _ _ _ _ _ _ _ _ _ | with_reducible exact ih1 _ _ _ _ _ _ _ _ _ _ | with_reducible exact ih2 _ _ _ _ _ _ _ _ | with_reducible exact ih3 _ _ _ _ _ _ _ _ _ _ | with_reducible exact ih4 _ _ _ _ _ _ _ _ _ _ _ | with_reducible exact ih5 _ _ _ _ _ _ _ _ _ _ _ _ _ | with_reducible exact ih6 _ _ _ _ _ _ _ _ _ _ _ _ _ _ | with_reducible exact ih7 _ _ _ _ _ _ _ _ _ _ _ _ _ _ | with_reducible exact ih8 _ _ _ _ _ _ _ | with_reducible exact bits_All.mono _ _ _ | with_reducible exact bits_Bit.mono _ _ _ _ _ | with_reducible exact bits_Put.mono _ _ _ _ _ _ _ _ | with_reducible exact bits_digit.mono _ _ | with_reducible exact LeO.refl _ | with_reducible exact LeO.none _ | with_reducible refine LeO.ite ?_ ?_ | with_reducible refine LeO.bind ?_ (fun _ => ?_)
def bits_grouped.T6 : Bool × List (List Nat × List Nat) := (true, [([], []), ([0], [0]), ([1], [1]), ([2], [2]), ([3, 2], [2, 3]), ([2, 4], [2, 4]), ([5, 2], [5]), ([6], [6]), ([7, 6, 6], [6, 7]), ([8, 6], [6, 8]), ([9, 8, 6], [6, 9]), ([10], [10]), ([11, 10, 10], [10, 11]), ([10], [10]), ([13, 10], [10, 13]), ([12, 14, 10], [10, 12, 14]), ([10, 15, 6], [6, 10, 15]), ([6, 16], [6, 16])])
def bits_grouped.B6 : List Nat := [0, 1, 3, 7, 15, 31, 63, 127, 255, 511, 1023, 2047, 4095, 2047, 10239, 32767, 65535, 131071]
theorem bits_grouped.tab6 : rtab .any (opsOf Tryd.f52 6) = bits_grouped.T6 := by kernel_rfl
theorem bits_grouped.bits6 : waitsOk bits_grouped.T6.2 bits_grouped.B6 = true := by kernel_rfl
def bits_grouped.T32 : Bool × List (List Nat × List Nat) := (true, [([], []), ([], []), ([], []), ([], []), ([2, 3], [2, 3]), ([], []), ([4, 5], [4, 5]), ([0, 1, 6, 6], [0, 1, 6]), ([7, 7, 0, 1, 2, 3, 4, 5, 6, 7], [7])])
def bits_grouped.B32 : List Nat := [0, 0, 0, 0, 12, 0, 60, 127, 255]
theorem bits_grouped.tab32 : rtab .any (opsOf Tryd.f52 32) = bits_grouped.T32 := by kernel_rfl
theorem bits_grouped.bits32 : waitsOk bits_grouped.T32.2 bits_grouped.B32 = true := by kernel_rfl
set_option maxHeartbeats 8000000 in
set_option maxRecDepth 100000 in
theorem bits_grouped.calls (k : Nat) (a0 : ByteArray) (a1 : Int) (a2 : Int) (a3 : Int) (r1 : Int) (r2 : Int) (r3 : Int) (r4 : Int) (w : World) (h : bits_grouped.f k a0 a1 a2 a3 = some (r1, r2, r3, r4)) :
  Calls Tryd.prog 52 #[.string a0, .int .i64 a1, .int .i64 a2, .int .i64 a3] w fun e w' => e = .returned (.tuple #[.agg #[.int .i64 r1, .int .u64 r2, .int .u64 r3], .int .i64 r4]) ∧ Below w.heap.size w w' := by
 have hu24 := Tryd.underlying24
 have HB := Aside0.mk (Below.refl w.heap.size w)
 have H := h
 clear h
 unfold bits_grouped.f at H
 have H' := Aside0.mk H
 clear H
 go_enter Tryd.func52, Tryd.ntmps52
 go_wp2_with (first | (refine boxA HB 8 #[.int .i64 0, .int .u64 0, .int .u64 0] 24 ?_; clear HB; intro gb137 w5 BK137 GE137 hg hb HB; clear hb hg) | (refine boxA HB 10 #[.int .i64 0, .int .u64 0, .int .u64 0] 24 ?_; clear HB; intro gb138 w6 BK138 GE138 hg hb HB; have NB137_138 := nbA BK137 hg; have NB138_137 := nbB BK137 hg; replace BK137 := bk1 BK137 hb; clear hb hg; have hnb7 := NB138_137.out; have hnc7 := NB137_138.out; obtain ⟨hcz8_0, hcz8_1, hcz8_2, hfz8_0, hfz8_1, hfz8_2⟩ := cf3 BK138))
 go_loopg [24] k (fun kq v24 w' => ∃ (x24_1 : Int) (x138000_1 : Int) (x138001_1 : Int) (x138002_1 : Int), v24 = .int .i64 x24_1 ∧ Aside0 (bits_grouped.l0 kq a0 a1 a2 a3 (a0.size : Int) x24_1 a1 0 0 = some (r1, r2, r3, r4)) ∧ Aside0 (kq ≤ k) ∧ Aside0 (w'.heap[gb137]? = some (.cells #[.int .i64 x138000_1, .int .u64 x138001_1, .int .u64 x138002_1] 24 (0, 0))) ∧ Aside0 (w'.heap[gb138]? = some (.cells #[.int .i64 a1, .int .u64 0, .int .u64 0] 24 (0, 0))) ∧ Aside0 (Below w.heap.size w w'))
 case atStart => exact ⟨(0), (0), (0), (0), (by rfl), H', ⟨Nat.le_refl _⟩, ⟨by refine blk_far ?_ NB137_138.out _; refine blk_far ?_ NB137_138.out _; refine blk_far ?_ NB137_138.out _; exact BK137.out⟩, ⟨by refine blk_put (cs := #[.int .i64 a1, .int .u64 0, .int .u64 0]) ?_ 2 _ rfl; refine blk_put (cs := #[.int .i64 a1, .int .u64 0, .int .u64 0]) ?_ 1 _ rfl; refine blk_put (cs := #[.int .i64 0, .int .u64 0, .int .u64 0]) ?_ 0 _ rfl; exact BK138.out⟩, ⟨by repeat (with_reducible first | exact HB.out | refine below_set ?_ GE138.out)⟩⟩
 case round =>
  clear H'
  (try clear hcz8_0 hcz8_1 hcz8_2 hfz8_0 hfz8_1 hfz8_2)
  obtain ⟨x24_1, x138000_1, x138001_1, x138002_1, rfl, HA, HK1, BK137, BK138, HB⟩ := hrel
  cases gk with
  | zero => exact absurd HA.out (by simp [bits_grouped.l0])
  | succ k1 =>
   have H := HA.out
   clear HA
   simp only [bits_grouped.l0] at H
   replace H := iD H; rcases H with ⟨c9b0, H⟩ | ⟨c9b0, H⟩
   ·replace H := iN H; obtain ⟨c10b0, H⟩ := H
    replace H := iN H; obtain ⟨c11b0, H⟩ := H
    have HC13 := Aside0.mk H
    clear H
    have p12 : 0 ≤ (x24_1 : Int) := of_decide_eq_true (by (with_reducible assumption))
    have q12 : x24_1 < (a0.size : Int) := of_decide_eq_true (by (with_reducible assumption))
    have hx12 := bt_at a0 x24_1
    replace p12 := eq_true p12
    replace q12 := eq_true q12
    go_upto_region 6 with (fail)
    go_cut [47] (fun v47 wc => ∃ (kq : Nat) (x47_12 : Bool), v47 = .bool x47_12 ∧ Aside0 (bits_grouped.j1 kq a0 a1 a2 a3 (a0.size : Int) x24_1 x47_12 a1 0 0 = some (r1, r2, r3, r4)) ∧ Aside0 (kq ≤ k1) ∧ Aside0 (wc.heap[gb137]? = some (.cells #[.int .i64 x138000_1, .int .u64 x138001_1, .int .u64 x138002_1] 24 (0, 0))) ∧ Aside0 (wc.heap[gb138]? = some (.cells #[.int .i64 a1, .int .u64 0, .int .u64 0] 24 (0, 0))) ∧ Aside0 (Below w.heap.size w wc))
    case first =>
     have H := HC13.out
     clear HC13
     replace H := iE H; rcases H with ⟨c14b0, c14b1, H⟩ | ⟨c14, c14b0, c14b1, H⟩
     ·(skip)
      have H' := Aside0.mk H
      clear H
      try go_wp2
      replace BK137 := bkd BK137
      replace BK138 := bkd BK138
      replace HB := hbd HB
      refine start_ (n := 18) (S := fun w' => True) (ds := []) (tb 18 0) (by kernel_rfl) rfl (by kernel_rfl) trivial (fun hHeld => ?_); refine with_tabW bits_grouped.tab6 bits_grouped.bits6 (fun HT_ HW_ => ?_)
      generalize wr.drew = w15 at BK137 BK138 HB hHeld ⊢
      refine pA 0 30 (tb 18 1) HT_ ?_
      refine pA 1 31 (tb 18 3) HT_ ?_
      refine pA 2 32 (tb 18 7) HT_ ?_
      refine pU 3 33 (tb 18 15) HT_ ?_
      refine pU 4 34 (tb 18 31) HT_ ?_
      refine pA 5 35 (tb 18 63) HT_ ?_
      refine pA 6 36 (tb 18 127) HT_ ?_
      refine pU 7 37 (tb 18 255) HT_ ?_
      refine pU 8 38 (tb 18 511) HT_ ?_
      refine pU 9 39 (tb 18 1023) HT_ ?_
      refine pU 10 40 (tb 18 2047) HT_ ?_
      refine pU 11 41 (tb 18 4095) HT_ ?_
      refine pU 12 42 (tb 18 8191) HT_ ?_
      refine pU 13 43 (tb 18 16383) HT_ ?_
      refine pU 14 44 (tb 18 32767) HT_ ?_
      refine pU 15 45 (tb 18 65535) HT_ ?_
      refine pU 16 46 (tb 18 131071) HT_ ?_
      refine pA 17 47 (tb 18 262143) HT_ ?_
      refine done_ (done_of HT_.out (by kernel_rfl)) ?_
      try go_wp2
      go_meet
      case rel => exact ⟨_, (false), (by rfl), H', ⟨by have := HK1.out; omega⟩, ⟨by exact BK137.out⟩, ⟨by exact BK138.out⟩, ⟨by repeat (with_reducible exact HB.out)⟩⟩
     ·(skip)
      replace H := iE H; rcases H with ⟨c16b0, c16b1, H⟩ | ⟨c16, c16b0, c16b1, H⟩
      ·have H' := Aside0.mk H
       clear H
       try go_wp2
       replace BK137 := bkd BK137
       replace BK138 := bkd BK138
       replace HB := hbd HB
       refine start_ (n := 18) (S := fun w' => True) (ds := []) (tb 18 0) (by kernel_rfl) rfl (by kernel_rfl) trivial (fun hHeld => ?_); refine with_tabW bits_grouped.tab6 bits_grouped.bits6 (fun HT_ HW_ => ?_)
       generalize wr.drew = w17 at BK137 BK138 HB hHeld ⊢
       refine pA 0 30 (tb 18 1) HT_ ?_
       refine pA 1 31 (tb 18 3) HT_ ?_
       refine pA 2 32 (tb 18 7) HT_ ?_
       refine pA 3 33 (tb 18 15) HT_ ?_
       refine pA 4 34 (tb 18 31) HT_ ?_
       refine pA 5 35 (tb 18 63) HT_ ?_
       refine pA 6 36 (tb 18 127) HT_ ?_
       refine pU 7 37 (tb 18 255) HT_ ?_
       refine pU 8 38 (tb 18 511) HT_ ?_
       refine pU 9 39 (tb 18 1023) HT_ ?_
       refine pU 10 40 (tb 18 2047) HT_ ?_
       refine pU 11 41 (tb 18 4095) HT_ ?_
       refine pU 12 42 (tb 18 8191) HT_ ?_
       refine pU 13 43 (tb 18 16383) HT_ ?_
       refine pU 14 44 (tb 18 32767) HT_ ?_
       refine pU 15 45 (tb 18 65535) HT_ ?_
       refine pU 16 46 (tb 18 131071) HT_ ?_
       refine pA 17 47 (tb 18 262143) HT_ ?_
       refine done_ (done_of HT_.out (by kernel_rfl)) ?_
       try go_wp2
       go_meet
       case rel => exact ⟨_, (false), (by rfl), H', ⟨by have := HK1.out; omega⟩, ⟨by exact BK137.out⟩, ⟨by exact BK138.out⟩, ⟨by repeat (with_reducible exact HB.out)⟩⟩
      ·replace H := bN H; obtain ⟨t139, A18, H⟩ := H
       replace H := iD H; rcases H with ⟨c19b0, H⟩ | ⟨c19b0, H⟩
       ·have H' := Aside0.mk H
        clear H
        try go_wp2
        replace BK137 := bkd BK137
        replace BK138 := bkd BK138
        replace HB := hbd HB
        refine start_ (n := 18) (S := fun w' => True) (ds := []) (tb 18 0) (by kernel_rfl) rfl (by kernel_rfl) trivial (fun hHeld => ?_); refine with_tabW bits_grouped.tab6 bits_grouped.bits6 (fun HT_ HW_ => ?_)
        generalize wr.drew = w20 at BK137 BK138 HB hHeld ⊢
        refine pA 0 30 (tb 18 1) HT_ ?_
        refine pA 1 31 (tb 18 3) HT_ ?_
        refine pA 2 32 (tb 18 7) HT_ ?_
        refine pA 3 33 (tb 18 15) HT_ ?_
        refine pA 4 34 (tb 18 31) HT_ ?_
        refine pA 5 35 (tb 18 63) HT_ ?_
        refine pA 6 36 (tb 18 127) HT_ ?_
        refine pA 7 37 (tb 18 255) HT_ ?_
        refine oA 8 (some 38) (tb 18 511) HT_ (fun K hK => ?_)
        refine gA Tryd.func74 #[.int .u8 (bt a0 x24_1)] ?_
        with_reducible refine (bits_digit.calls k1 (bt a0 x24_1) t139 _ A18.out).mono ?_
        rintro e w' ⟨rfl, ⟨nd, rfl⟩⟩
        refine ⟨_, rfl, ?_⟩
        refine hK.out _ _ trivial (fun hHeld => ?_)
        clear hK K
        refine nA ?_
        refine pA 9 39 (tb 18 1023) HT_ ?_
        refine pA 10 40 (tb 18 2047) HT_ ?_
        refine pU 11 41 (tb 18 4095) HT_ ?_
        refine pU 12 42 (tb 18 8191) HT_ ?_
        refine pU 13 43 (tb 18 16383) HT_ ?_
        refine pU 14 44 (tb 18 32767) HT_ ?_
        refine pU 15 45 (tb 18 65535) HT_ ?_
        refine pA 16 46 (tb 18 131071) HT_ ?_
        refine pA 17 47 (tb 18 262143) HT_ ?_
        refine done_ (done_of HT_.out (by kernel_rfl)) ?_
        try go_wp2
        go_meet
        case rel => exact ⟨_, (true), (by rfl), H', ⟨by have := HK1.out; omega⟩, ⟨by (with_reducible repeat (refine blk_drewN ?_ _)); exact BK137.out⟩, ⟨by (with_reducible repeat (refine blk_drewN ?_ _)); exact BK138.out⟩, ⟨by repeat (with_reducible first | exact HB.out | apply pw_below_drewN)⟩⟩
       ·replace H := bN H; obtain ⟨t140, A21, H⟩ := H
        by_cases c22 : 0 ≤ a2
        ·rw [if_pos c22] at H
         have c22b0 := eq_true c22
         have c22b1 : decide (0 ≤ a2) = true := decide_eq_true c22
         clear c22
         obtain ⟨ji23, hji23⟩ : ∃ j_ : Int, (shl .i64 1 a2) = j_ := ⟨_, rfl⟩
         replace H : (bits_grouped.j1 k1 a0 a1 a2 a3 (a0.size : Int) x24_1 (decide (t140 ≥ (ji23))) a1 0 0) = some (r1, r2, r3, r4) := by (rw [hji23] at H; exact H)
         have hji23_ : (IntKind.i64.wrap (1 * 2 ^ min a2.toNat 64)) = ji23 := hji23
         have hji23z : a2 ≤ 64 → (IntKind.i64.wrap (1 * 2 ^ a2.toNat)) = ji23 := shl_small hji23
         have hji23u : (IntKind.i64.wrap (2 ^ min a2.toNat 64)) = ji23 := by have h_ := hji23_; rw [Int.one_mul] at h_; exact h_
         have hji23v : a2 ≤ 64 → (IntKind.i64.wrap (2 ^ a2.toNat)) = ji23 := fun hle_ => by have h_ := hji23z hle_; rw [Int.one_mul] at h_; exact h_
         have hji23y : (wrap64 (1 * 2 ^ min a2.toNat 64)) = ji23 := (i64_w _).symm.trans hji23_
         have hji23x : a2 ≤ 64 → (wrap64 (1 * 2 ^ a2.toNat)) = ji23 := fun h_ => (i64_w _).symm.trans (hji23z h_)
         have H' := Aside0.mk H
         clear H
         try go_wp2
         replace BK137 := bkd BK137
         replace BK138 := bkd BK138
         replace HB := hbd HB
         refine start_ (n := 18) (S := fun w' => True) (ds := []) (tb 18 0) (by kernel_rfl) rfl (by kernel_rfl) trivial (fun hHeld => ?_); refine with_tabW bits_grouped.tab6 bits_grouped.bits6 (fun HT_ HW_ => ?_)
         generalize wr.drew = w24 at BK137 BK138 HB hHeld ⊢
         refine pA 0 30 (tb 18 1) HT_ ?_
         refine pA 1 31 (tb 18 3) HT_ ?_
         refine pA 2 32 (tb 18 7) HT_ ?_
         refine pA 3 33 (tb 18 15) HT_ ?_
         refine pA 4 34 (tb 18 31) HT_ ?_
         refine pA 5 35 (tb 18 63) HT_ ?_
         refine pA 6 36 (tb 18 127) HT_ ?_
         refine pA 7 37 (tb 18 255) HT_ ?_
         refine oA 8 (some 38) (tb 18 511) HT_ (fun K hK => ?_)
         refine gA Tryd.func74 #[.int .u8 (bt a0 x24_1)] ?_
         with_reducible refine (bits_digit.calls k1 (bt a0 x24_1) t139 _ A18.out).mono ?_
         rintro e w' ⟨rfl, ⟨nd, rfl⟩⟩
         refine ⟨_, rfl, ?_⟩
         refine hK.out _ _ trivial (fun hHeld => ?_)
         clear hK K
         refine nA ?_
         refine pA 9 39 (tb 18 1023) HT_ ?_
         refine pA 10 40 (tb 18 2047) HT_ ?_
         refine pA 11 41 (tb 18 4095) HT_ ?_
         refine pA 13 43 (tb 18 12287) HT_ ?_
         refine pA 14 44 (tb 18 28671) HT_ ?_
         refine oA 12 (some 42) (tb 18 32767) HT_ (fun K hK => ?_)
         refine gA Tryd.func74 #[.int .u8 (bt a0 x24_1)] ?_
         with_reducible refine (bits_digit.calls k1 (bt a0 x24_1) t140 _ A21.out).mono ?_
         rintro e w' ⟨rfl, ⟨nd, rfl⟩⟩
         refine ⟨_, rfl, ?_⟩
         refine hK.out _ _ trivial (fun hHeld => ?_)
         clear hK K
         refine nA ?_
         refine pA 15 45 (tb 18 65535) HT_ ?_
         refine pA 16 46 (tb 18 131071) HT_ ?_
         refine pA 17 47 (tb 18 262143) HT_ ?_
         refine done_ (done_of HT_.out (by kernel_rfl)) ?_
         try go_wp2
         go_meet
         case rel => exact ⟨_, (decide (t140 ≥ (ji23))), (by rfl), H', ⟨by have := HK1.out; omega⟩, ⟨by (with_reducible repeat (refine blk_drewN ?_ _)); exact BK137.out⟩, ⟨by (with_reducible repeat (refine blk_drewN ?_ _)); exact BK138.out⟩, ⟨by repeat (with_reducible first | exact HB.out | apply pw_below_drewN)⟩⟩
        ·rw [if_neg c22] at H
         exact absurd H (by simp)
    case rest =>
     clear HC13
     obtain ⟨kq, x47_12, rfl, HA, HJ12, BK137, BK138, HB⟩ := hcut
     cases kq with
     | zero => exact absurd HA.out (by simp [bits_grouped.j1])
     | succ kj12 =>
      have H := HA.out
      clear HA
      simp only [bits_grouped.j1] at H
      replace H := iB H; rcases H with ⟨rfl, H⟩ | ⟨rfl, H⟩
      ·replace H := s4 H; obtain ⟨rfl, rfl, rfl, rfl⟩ := H
       have hnb26 := NB137_138.out
       have hnc26 := NB138_137.out
       obtain ⟨hcz27_0, hcz27_1, hcz27_2, hfz27_0, hfz27_1, hfz27_2⟩ := cf3 BK137
       go_wp2
       refine bodyPost_ret (results_ct rfl _ _ gb137 24 #[.int .i64 0, .int .u64 0, .int .u64 0] (0, 0) _ rfl (by refine blk_put (cs := #[.int .i64 0, .int .u64 0, .int .u64 x138002_1]) ?_ 2 _ rfl; refine blk_put (cs := #[.int .i64 0, .int .u64 x138001_1, .int .u64 x138002_1]) ?_ 1 _ rfl; refine blk_put (cs := #[.int .i64 x138000_1, .int .u64 x138001_1, .int .u64 x138002_1]) ?_ 0 _ rfl; exact BK137.out) Tryd.underlying24 rfl (by kernel_rfl)) rfl ?_
       exact ⟨by rfl, by repeat (with_reducible first | exact HB.out | refine below_set ?_ GE137.out)⟩
      ·have H' := Aside0.mk H
       clear H
       go_wp2
       go_roundg kj12
       case measure => have := HK1.out; have := HJ12.out; omega
       case rel => exact ⟨(wrap64 (x24_1 + 1)), (x138000_1), (x138001_1), (x138002_1), (by rfl), H', ⟨by have := HK1.out; have := HJ12.out; omega⟩, ⟨by exact BK137.out⟩, ⟨by exact BK138.out⟩, ⟨by repeat (with_reducible exact HB.out)⟩⟩
   ·replace H := iE H; rcases H with ⟨c28b0, c28b1, H⟩ | ⟨c28, c28b0, c28b1, H⟩
    ·have H' := Aside0.mk H
     clear H
     go_wp2
     go_loopg [13, 14] k1 (fun kq v13 v14 w' => ∃ (x13_2 : Int) (x14_2 : Int) (x138000_2 : Int) (x138001_2 : Int) (x138002_2 : Int) (x139000_2 : Int) (x139001_2 : Int) (x139002_2 : Int), v13 = .int .i64 x13_2 ∧ v14 = .int .i64 x14_2 ∧ Aside0 (bits_grouped.l1 kq a0 a1 a2 x13_2 x14_2 x139000_2 x139001_2 x139002_2 = some (r1, r2, r3, r4)) ∧ Aside0 (kq ≤ k1) ∧ Aside0 (w'.heap[gb137]? = some (.cells #[.int .i64 x138000_2, .int .u64 x138001_2, .int .u64 x138002_2] 24 (0, 0))) ∧ Aside0 (w'.heap[gb138]? = some (.cells #[.int .i64 x139000_2, .int .u64 x139001_2, .int .u64 x139002_2] 24 (0, 0))) ∧ Aside0 (Below w.heap.size w w'))
     case atStart => exact ⟨(0), (wrap64 ((a0.size : Int) - 1)), (x138000_1), (x138001_1), (x138002_1), (a1), (0), (0), (by rfl), (by rfl), H', ⟨Nat.le_refl _⟩, ⟨by exact BK137.out⟩, ⟨by exact BK138.out⟩, ⟨by repeat (with_reducible exact HB.out)⟩⟩
     case round =>
      clear H'
      (try clear c9b0); (try clear c28b0); (try clear c28b1)
      obtain ⟨x13_2, x14_2, x138000_2, x138001_2, x138002_2, x139000_2, x139001_2, x139002_2, rfl, rfl, HA, HK2, BK137, BK138, HB⟩ := hrel
      cases gk with
      | zero => exact absurd HA.out (by simp [bits_grouped.l1])
      | succ k2 =>
       have H := HA.out
       clear HA
       simp only [bits_grouped.l1] at H
       replace H := iD H; rcases H with ⟨c29b0, H⟩ | ⟨c29b0, H⟩
       ·replace c29b0 : decide (0 ≤ x14_2) = true := c29b0
        replace H := iN H; obtain ⟨c30b0, H⟩ := H
        replace H := iN H; obtain ⟨c31b0, H⟩ := H
        have HC33 := Aside0.mk H
        clear H
        go_upto_region 17 with ((refine boxA HB 15 #[.int .i64 0, .int .u64 0, .int .u64 0] 24 ?_; clear HB; intro gb141 w34 BK141 GE141 hg hb HB; have NB137_141 := nbA BK137 hg; have NB141_137 := nbB BK137 hg; replace BK137 := bk1 BK137 hb; have NB138_141 := nbA BK138 hg; have NB141_138 := nbB BK138 hg; replace BK138 := bk1 BK138 hb; clear hb hg; have p32 : 0 ≤ (x14_2 : Int) := of_decide_eq_true (by (with_reducible assumption)); have q32 : x14_2 < (a0.size : Int) := of_decide_eq_true (by (with_reducible assumption)); have hx32 := bt_at a0 x14_2; replace p32 := eq_true p32; replace q32 := eq_true q32))
        go_cut [69] (fun v69 wc => ∃ (kq : Nat) (x69_32 : Bool), v69 = .bool x69_32 ∧ Aside0 (bits_grouped.j3 kq a0 a1 a2 x13_2 x14_2 (bt a0 x14_2) x69_32 x139000_2 x139001_2 x139002_2 = some (r1, r2, r3, r4)) ∧ Aside0 (kq ≤ k2) ∧ Aside0 (wc.heap[gb137]? = some (.cells #[.int .i64 x138000_2, .int .u64 x138001_2, .int .u64 x138002_2] 24 (0, 0))) ∧ Aside0 (wc.heap[gb138]? = some (.cells #[.int .i64 x139000_2, .int .u64 x139001_2, .int .u64 x139002_2] 24 (0, 0))) ∧ Aside0 (wc.heap[gb141]? = some (.cells #[.int .i64 0, .int .u64 0, .int .u64 0] 24 (0, 0))) ∧ Aside0 (Below w.heap.size w wc))
        case first =>
         have H := HC33.out
         clear HC33
         replace H := iE H; rcases H with ⟨c35b0, c35b1, H⟩ | ⟨c35, c35b0, c35b1, H⟩
         ·(skip)
          have H' := Aside0.mk H
          clear H
          go_wp2
          go_meet
          case rel => exact ⟨_, (true), (by rfl), H', ⟨by have := HK1.out; have := HK2.out; omega⟩, ⟨by exact BK137.out⟩, ⟨by exact BK138.out⟩, ⟨by exact BK141.out⟩, ⟨by repeat (with_reducible exact HB.out)⟩⟩
         ·(skip)
          have H' := Aside0.mk H
          clear H
          go_wp2
          go_meet
          case rel => exact ⟨_, ((bt a0 x14_2) == 122), (by rfl), H', ⟨by have := HK1.out; have := HK2.out; omega⟩, ⟨by exact BK137.out⟩, ⟨by exact BK138.out⟩, ⟨by exact BK141.out⟩, ⟨by repeat (with_reducible exact HB.out)⟩⟩
        case rest =>
         clear HC33
         (try clear c29b0); (try clear c30b0); (try clear c31b0); (try clear p32); (try clear q32); (try clear hx32)
         obtain ⟨kq, x69_32, rfl, HA, HJ32, BK137, BK138, BK141, HB⟩ := hcut
         cases kq with
         | zero => exact absurd HA.out (by simp [bits_grouped.j3])
         | succ kj32 =>
          have H := HA.out
          clear HA
          simp only [bits_grouped.j3] at H
          have HC36 := Aside0.mk H
          clear H
          go_upto_if 69 with (fail)
          go_cut [] (fun wc => ∃ (kq : Nat) (x142000_35 : Int) (x142001_35 : Int) (x142002_35 : Int), Aside0 (bits_grouped.j4 kq a0 a1 a2 x13_2 x14_2 x139000_2 x139001_2 x139002_2 x142000_35 x142001_35 x142002_35 = some (r1, r2, r3, r4)) ∧ Aside0 (kq ≤ kj32) ∧ Aside0 (wc.heap[gb137]? = some (.cells #[.int .i64 x138000_2, .int .u64 x138001_2, .int .u64 x138002_2] 24 (0, 0))) ∧ Aside0 (wc.heap[gb138]? = some (.cells #[.int .i64 x139000_2, .int .u64 x139001_2, .int .u64 x139002_2] 24 (0, 0))) ∧ Aside0 (wc.heap[gb141]? = some (.cells #[.int .i64 x142000_35, .int .u64 x142001_35, .int .u64 x142002_35] 24 (0, 0))) ∧ Aside0 (Below w.heap.size w wc))
          case first =>
           have H := HC36.out
           clear HC36
           replace H := iB H; rcases H with ⟨rfl, H⟩ | ⟨rfl, H⟩
           ·replace H := bN H; obtain ⟨⟨t142, t143, t144⟩, A38, H⟩ := H; dsimp only at H
            have H' := Aside0.mk H
            clear H
            go_wp2_with ((refine callA (some 72) Tryd.func25 #[.int .i64 a2, .int .u8 (bt a0 x14_2)] ?_; (with_reducible refine (bits_All.calls kj32 a2 (bt a0 x14_2) t142 t143 t144 _ A38.out).mono ?_); rintro e w39 ⟨rfl, hb⟩; refine ⟨_, rfl, ?_⟩; replace BK137 := bk1 BK137 hb; replace BK138 := bk1 BK138 hb; replace BK141 := bk1 BK141 hb; replace HB := hb1 HB hb; (try clear hb); have hnb40 := NB141_137.out; have hnc40 := NB137_141.out; have hnb41 := NB141_138.out; have hnc41 := NB138_141.out; obtain ⟨hcz42_0, hcz42_1, hcz42_2, hfz42_0, hfz42_1, hfz42_2⟩ := cf3 BK141))
            go_meet
            case rel => exact ⟨_, (t142), (t143), (t144), H', ⟨by have := HK1.out; have := HK2.out; have := HJ32.out; omega⟩, ⟨by refine blk_far ?_ NB137_141.out _; refine blk_far ?_ NB137_141.out _; refine blk_far ?_ NB137_141.out _; exact BK137.out⟩, ⟨by refine blk_far ?_ NB138_141.out _; refine blk_far ?_ NB138_141.out _; refine blk_far ?_ NB138_141.out _; exact BK138.out⟩, ⟨by refine blk_put (cs := #[.int .i64 t142, .int .u64 t143, .int .u64 0]) ?_ 2 _ rfl; refine blk_put (cs := #[.int .i64 t142, .int .u64 0, .int .u64 0]) ?_ 1 _ rfl; refine blk_put (cs := #[.int .i64 0, .int .u64 0, .int .u64 0]) ?_ 0 _ rfl; exact BK141.out⟩, ⟨by repeat (with_reducible first | exact HB.out | refine below_set ?_ GE141.out)⟩⟩
           ·replace H := bN H; obtain ⟨t145, A43, H⟩ := H
            replace H := bN H; obtain ⟨⟨t146, t147, t148⟩, A44, H⟩ := H; dsimp only at H
            have H' := Aside0.mk H
            clear H
            go_wp2_with (first | (refine callA (some 75) Tryd.func74 #[.int .u8 (bt a0 x14_2)] ?_; (with_reducible refine (bits_digit.calls kj32 (bt a0 x14_2) t145 _ A43.out).mono ?_); rintro e w' ⟨rfl, ⟨nd, rfl⟩⟩; refine ⟨_, rfl, ?_⟩; (try (rw [drewN_self wc]; generalize hq_ : World.drewN wc _ = wc; have n0_ : Aside0 (wc.heap[gb137]? = some (.cells #[.int .i64 x138000_2, .int .u64 x138001_2, .int .u64 x138002_2] 24 (0, 0))) := ⟨by rw [← hq_]; exact (by (with_reducible repeat (refine blk_drewN ?_ _)); exact BK137.out)⟩; have n1_ : Aside0 (wc.heap[gb138]? = some (.cells #[.int .i64 x139000_2, .int .u64 x139001_2, .int .u64 x139002_2] 24 (0, 0))) := ⟨by rw [← hq_]; exact (by (with_reducible repeat (refine blk_drewN ?_ _)); exact BK138.out)⟩; have n2_ : Aside0 (wc.heap[gb141]? = some (.cells #[.int .i64 0, .int .u64 0, .int .u64 0] 24 (0, 0))) := ⟨by rw [← hq_]; exact (by (with_reducible repeat (refine blk_drewN ?_ _)); exact BK141.out)⟩; have n3_ : Aside0 (Below w.heap.size w wc) := ⟨by rw [← hq_]; exact (by repeat (with_reducible first | exact HB.out | apply pw_below_drewN))⟩; clear BK137 BK138 BK141 HB hq_; have BK137 := n0_; have BK138 := n1_; have BK141 := n2_; have HB := n3_; clear n0_ n1_ n2_ n3_))) | (refine callA (some 77) Tryd.func24 #[.int .i64 a2, .int .u64 (IntKind.u64.wrap (t145))] ?_; (with_reducible refine (bits_Of.calls a2 (IntKind.u64.wrap (t145)) t146 t147 t148 _ A44.out).mono ?_); rintro e w45 ⟨rfl, hb⟩; refine ⟨_, rfl, ?_⟩; replace BK137 := bk1 BK137 hb; replace BK138 := bk1 BK138 hb; replace BK141 := bk1 BK141 hb; replace HB := hb1 HB hb; (try clear hb); have hnb46 := NB141_137.out; have hnc46 := NB137_141.out; have hnb47 := NB141_138.out; have hnc47 := NB138_141.out; obtain ⟨hcz48_0, hcz48_1, hcz48_2, hfz48_0, hfz48_1, hfz48_2⟩ := cf3 BK141))
            go_meet
            case rel => exact ⟨_, (t146), (t147), (t148), H', ⟨by have := HK1.out; have := HK2.out; have := HJ32.out; omega⟩, ⟨by refine blk_far ?_ NB137_141.out _; refine blk_far ?_ NB137_141.out _; refine blk_far ?_ NB137_141.out _; exact BK137.out⟩, ⟨by refine blk_far ?_ NB138_141.out _; refine blk_far ?_ NB138_141.out _; refine blk_far ?_ NB138_141.out _; exact BK138.out⟩, ⟨by refine blk_put (cs := #[.int .i64 t146, .int .u64 t147, .int .u64 0]) ?_ 2 _ rfl; refine blk_put (cs := #[.int .i64 t146, .int .u64 0, .int .u64 0]) ?_ 1 _ rfl; refine blk_put (cs := #[.int .i64 0, .int .u64 0, .int .u64 0]) ?_ 0 _ rfl; exact BK141.out⟩, ⟨by repeat (with_reducible first | exact HB.out | refine below_set ?_ GE141.out)⟩⟩
          case rest =>
           clear HC36
           obtain ⟨kq, x142000_35, x142001_35, x142002_35, HA, HJ35, BK137, BK138, BK141, HB⟩ := hcut
           cases kq with
           | zero => exact absurd HA.out (by simp [bits_grouped.j4])
           | succ kj35 =>
            have H := HA.out
            clear HA
            simp only [bits_grouped.j4] at H
            have H' := Aside0.mk H
            clear H
            go_wp2
            go_loopg [79] kj35 (fun kq v79 w' => ∃ (x79_5 : Int) (x138000_5 : Int) (x138001_5 : Int) (x138002_5 : Int), v79 = .int .i64 x79_5 ∧ Aside0 (bits_grouped.l2 kq a0 a1 a2 x13_2 x14_2 a2 x79_5 x139000_2 x139001_2 x139002_2 x142000_35 x142001_35 x142002_35 = some (r1, r2, r3, r4)) ∧ Aside0 (kq ≤ kj35) ∧ Aside0 (w'.heap[gb137]? = some (.cells #[.int .i64 x138000_5, .int .u64 x138001_5, .int .u64 x138002_5] 24 (0, 0))) ∧ Aside0 (w'.heap[gb138]? = some (.cells #[.int .i64 x139000_2, .int .u64 x139001_2, .int .u64 x139002_2] 24 (0, 0))) ∧ Aside0 (w'.heap[gb141]? = some (.cells #[.int .i64 x142000_35, .int .u64 x142001_35, .int .u64 x142002_35] 24 (0, 0))) ∧ Aside0 (Below w.heap.size w w'))
            case atStart => exact ⟨(0), (x138000_2), (x138001_2), (x138002_2), (by rfl), H', ⟨Nat.le_refl _⟩, ⟨by exact BK137.out⟩, ⟨by exact BK138.out⟩, ⟨by exact BK141.out⟩, ⟨by repeat (with_reducible exact HB.out)⟩⟩
            case round =>
             clear H'
             obtain ⟨x79_5, x138000_5, x138001_5, x138002_5, rfl, HA, HK5, BK137, BK138, BK141, HB⟩ := hrel
             cases gk with
             | zero => exact absurd HA.out (by simp [bits_grouped.l2])
             | succ k5 =>
              have H := HA.out
              clear HA
              simp only [bits_grouped.l2] at H
              replace H := iD H; rcases H with ⟨c49b0, H⟩ | ⟨c49b0, H⟩
              ·have HC50 := Aside0.mk H
               clear H
               go_upto_region 23 with (fail)
               go_cut [92] (fun v92 wc => ∃ (kq : Nat) (x92_49 : Bool), v92 = .bool x92_49 ∧ Aside0 (bits_grouped.j6 kq a0 a1 a2 x13_2 x14_2 a2 x79_5 x92_49 x139000_2 x139001_2 x139002_2 x142000_35 x142001_35 x142002_35 = some (r1, r2, r3, r4)) ∧ Aside0 (kq ≤ k5) ∧ Aside0 (wc.heap[gb137]? = some (.cells #[.int .i64 x138000_5, .int .u64 x138001_5, .int .u64 x138002_5] 24 (0, 0))) ∧ Aside0 (wc.heap[gb138]? = some (.cells #[.int .i64 x139000_2, .int .u64 x139001_2, .int .u64 x139002_2] 24 (0, 0))) ∧ Aside0 (wc.heap[gb141]? = some (.cells #[.int .i64 x142000_35, .int .u64 x142001_35, .int .u64 x142002_35] 24 (0, 0))) ∧ Aside0 (Below w.heap.size w wc))
               case first =>
                have H := HC50.out
                clear HC50
                replace H := iD H; rcases H with ⟨c51b0, H⟩ | ⟨c51b0, H⟩
                ·replace c51b0 : decide (a1 ≤ (wrap64 (x13_2 + x79_5))) = true := c51b0
                 (skip)
                 replace H := bN H; obtain ⟨t152, A52, H⟩ := H
                 have H' := Aside0.mk H
                 clear H
                 have hnb53 := NB141_137.out
                 have hnc53 := NB137_141.out
                 have hnb54 := NB141_138.out
                 have hnc54 := NB138_141.out
                 obtain ⟨hcz55_0, hcz55_1, hcz55_2, hfz55_0, hfz55_1, hfz55_2⟩ := cf3 BK141
                 go_wp2_with ((go_at_call 20; (with_reducible refine (bits_Bit.calls k5 x142000_35 x142001_35 x142002_35 x79_5 t152 _ A52.out).mono ?_); rintro e w56 ⟨rfl, hb⟩; replace BK137 := bk1 BK137 hb; replace BK138 := bk1 BK138 hb; replace BK141 := bk1 BK141 hb; replace HB := hb1 HB hb; (try clear hb)))
                 go_meet
                 case rel => exact ⟨_, (t152 != 48), (by rfl), H', ⟨by have := HK1.out; have := HK2.out; have := HJ32.out; have := HJ35.out; have := HK5.out; omega⟩, ⟨by exact BK137.out⟩, ⟨by exact BK138.out⟩, ⟨by exact BK141.out⟩, ⟨by repeat (with_reducible exact HB.out)⟩⟩
                ·replace c51b0 : decide (a1 ≤ (wrap64 (x13_2 + x79_5))) = false := c51b0
                 (skip)
                 have H' := Aside0.mk H
                 clear H
                 go_wp2
                 go_meet
                 case rel => exact ⟨_, (false), (by rfl), H', ⟨by have := HK1.out; have := HK2.out; have := HJ32.out; have := HJ35.out; have := HK5.out; omega⟩, ⟨by exact BK137.out⟩, ⟨by exact BK138.out⟩, ⟨by exact BK141.out⟩, ⟨by repeat (with_reducible exact HB.out)⟩⟩
               case rest =>
                clear HC50
                (try clear c49b0)
                obtain ⟨kq, x92_49, rfl, HA, HJ49, BK137, BK138, BK141, HB⟩ := hcut
                cases kq with
                | zero => exact absurd HA.out (by simp [bits_grouped.j6])
                | succ kj49 =>
                 have H := HA.out
                 clear HA
                 simp only [bits_grouped.j6] at H
                 replace H := iB H; rcases H with ⟨rfl, H⟩ | ⟨rfl, H⟩
                 ·replace H := iN H; obtain ⟨c58b0, H⟩ := H
                  replace H := iN H; obtain ⟨c59b0, H⟩ := H
                  have HC61 := Aside0.mk H
                  clear H
                  have p60 : 0 ≤ (x14_2 : Int) := of_decide_eq_true (by (with_reducible assumption))
                  have q60 : x14_2 < (a0.size : Int) := of_decide_eq_true (by (with_reducible assumption))
                  have hx60 := bt_at a0 x14_2
                  replace p60 := eq_true p60
                  replace q60 := eq_true q60
                  go_upto_region 25 with (fail)
                  go_cut [106] (fun v106 wc => ∃ (kq : Nat) (x106_60 : Bool), v106 = .bool x106_60 ∧ Aside0 (bits_grouped.j7 kq a0 a1 a2 x13_2 x14_2 a2 x79_5 x106_60 x139000_2 x139001_2 x139002_2 x142000_35 x142001_35 x142002_35 = some (r1, r2, r3, r4)) ∧ Aside0 (kq ≤ kj49) ∧ Aside0 (wc.heap[gb137]? = some (.cells #[.int .i64 x138000_5, .int .u64 x138001_5, .int .u64 x138002_5] 24 (0, 0))) ∧ Aside0 (wc.heap[gb138]? = some (.cells #[.int .i64 x139000_2, .int .u64 x139001_2, .int .u64 x139002_2] 24 (0, 0))) ∧ Aside0 (wc.heap[gb141]? = some (.cells #[.int .i64 x142000_35, .int .u64 x142001_35, .int .u64 x142002_35] 24 (0, 0))) ∧ Aside0 (Below w.heap.size w wc))
                  case first =>
                   have H := HC61.out
                   clear HC61
                   replace H := iE H; rcases H with ⟨c62b0, c62b1, H⟩ | ⟨c62, c62b0, c62b1, H⟩
                   ·(skip)
                    have H' := Aside0.mk H
                    clear H
                    go_wp2
                    go_meet
                    case rel => exact ⟨_, (decide (x13_2 < a1)), (by rfl), H', ⟨by have := HK1.out; have := HK2.out; have := HJ32.out; have := HJ35.out; have := HK5.out; have := HJ49.out; omega⟩, ⟨by exact BK137.out⟩, ⟨by exact BK138.out⟩, ⟨by exact BK141.out⟩, ⟨by repeat (with_reducible exact HB.out)⟩⟩
                   ·(skip)
                    replace H := iE H; rcases H with ⟨c63b0, c63b1, H⟩ | ⟨c63, c63b0, c63b1, H⟩
                    ·have H' := Aside0.mk H
                     clear H
                     go_wp2
                     go_meet
                     case rel => exact ⟨_, (decide (x13_2 < a1)), (by rfl), H', ⟨by have := HK1.out; have := HK2.out; have := HJ32.out; have := HJ35.out; have := HK5.out; have := HJ49.out; omega⟩, ⟨by exact BK137.out⟩, ⟨by exact BK138.out⟩, ⟨by exact BK141.out⟩, ⟨by repeat (with_reducible exact HB.out)⟩⟩
                    ·have H' := Aside0.mk H
                     clear H
                     go_wp2
                     go_meet
                     case rel => exact ⟨_, (false), (by rfl), H', ⟨by have := HK1.out; have := HK2.out; have := HJ32.out; have := HJ35.out; have := HK5.out; have := HJ49.out; omega⟩, ⟨by exact BK137.out⟩, ⟨by exact BK138.out⟩, ⟨by exact BK141.out⟩, ⟨by repeat (with_reducible exact HB.out)⟩⟩
                  case rest =>
                   clear HC61
                   (try clear c58b0); (try clear c59b0); (try clear p60); (try clear q60); (try clear hx60)
                   obtain ⟨kq, x106_60, rfl, HA, HJ60, BK137, BK138, BK141, HB⟩ := hcut
                   cases kq with
                   | zero => exact absurd HA.out (by simp [bits_grouped.j7])
                   | succ kj60 =>
                    have H := HA.out
                    clear HA
                    simp only [bits_grouped.j7] at H
                    replace H := iB H; rcases H with ⟨rfl, H⟩ | ⟨rfl, H⟩
                    ·have H' := Aside0.mk H
                     clear H
                     go_wp2
                     go_roundg kj60
                     case measure => have := HK1.out; have := HK2.out; have := HJ32.out; have := HJ35.out; have := HK5.out; have := HJ49.out; have := HJ60.out; omega
                     case rel => exact ⟨(wrap64 (x79_5 + 1)), (x138000_5), (x138001_5), (x138002_5), (by rfl), H', ⟨by have := HK1.out; have := HK2.out; have := HJ32.out; have := HJ35.out; have := HK5.out; have := HJ49.out; have := HJ60.out; omega⟩, ⟨by exact BK137.out⟩, ⟨by exact BK138.out⟩, ⟨by exact BK141.out⟩, ⟨by repeat (with_reducible exact HB.out)⟩⟩
                    ·replace H := s4 H; obtain ⟨rfl, rfl, rfl, rfl⟩ := H
                     have hnb65 := NB137_138.out
                     have hnc65 := NB138_137.out
                     have hnb66 := NB137_141.out
                     have hnc66 := NB141_137.out
                     obtain ⟨hcz67_0, hcz67_1, hcz67_2, hfz67_0, hfz67_1, hfz67_2⟩ := cf3 BK137
                     go_wp2
                     refine bodyPost_ret (results_ct rfl _ _ gb137 24 #[.int .i64 0, .int .u64 0, .int .u64 0] (0, 0) _ rfl (by refine blk_put (cs := #[.int .i64 0, .int .u64 0, .int .u64 x138002_5]) ?_ 2 _ rfl; refine blk_put (cs := #[.int .i64 0, .int .u64 x138001_5, .int .u64 x138002_5]) ?_ 1 _ rfl; refine blk_put (cs := #[.int .i64 x138000_5, .int .u64 x138001_5, .int .u64 x138002_5]) ?_ 0 _ rfl; exact BK137.out) Tryd.underlying24 rfl (by kernel_rfl)) rfl ?_
                     exact ⟨by rfl, by repeat (with_reducible first | exact HB.out | refine below_set ?_ GE137.out)⟩
                 ·have H' := Aside0.mk H
                  clear H
                  go_wp2
                  go_roundg kj49
                  case measure => have := HK1.out; have := HK2.out; have := HJ32.out; have := HJ35.out; have := HK5.out; have := HJ49.out; omega
                  case rel => exact ⟨(wrap64 (x79_5 + 1)), (x138000_5), (x138001_5), (x138002_5), (by rfl), H', ⟨by have := HK1.out; have := HK2.out; have := HJ32.out; have := HJ35.out; have := HK5.out; have := HJ49.out; omega⟩, ⟨by exact BK137.out⟩, ⟨by exact BK138.out⟩, ⟨by exact BK141.out⟩, ⟨by repeat (with_reducible exact HB.out)⟩⟩
              ·replace H := bN H; obtain ⟨⟨t149, t150, t151⟩, A68, H⟩ := H; dsimp only at H
               have H' := Aside0.mk H
               clear H
               have hnb69 := NB138_137.out
               have hnc69 := NB137_138.out
               have hnb70 := NB138_141.out
               have hnc70 := NB141_138.out
               obtain ⟨hcz71_0, hcz71_1, hcz71_2, hfz71_0, hfz71_1, hfz71_2⟩ := cf3 BK138
               have hnb72 := NB141_137.out
               have hnc72 := NB137_141.out
               obtain ⟨hcz73_0, hcz73_1, hcz73_2, hfz73_0, hfz73_1, hfz73_2⟩ := cf3 BK141
               go_wp2_with ((refine callA (some 112) Tryd.func38 #[.agg #[.int .i64 x139000_2, .int .u64 x139001_2, .int .u64 x139002_2], .int .i64 x13_2, .agg #[.int .i64 x142000_35, .int .u64 x142001_35, .int .u64 x142002_35]] ?_; (with_reducible refine (bits_Put.calls k5 x139000_2 x139001_2 x139002_2 x13_2 x142000_35 x142001_35 x142002_35 t149 t150 t151 _ A68.out).mono ?_); rintro e w74 ⟨rfl, hb⟩; refine ⟨_, rfl, ?_⟩; replace BK137 := bk1 BK137 hb; replace BK138 := bk1 BK138 hb; replace BK141 := bk1 BK141 hb; replace HB := hb1 HB hb; (try clear hb); obtain ⟨hcz75_0, hcz75_1, hcz75_2, hfz75_0, hfz75_1, hfz75_2⟩ := cf3 BK138))
               go_roundg k5
               case measure => have := HK1.out; have := HK2.out; have := HJ32.out; have := HJ35.out; have := HK5.out; omega
               case rel => exact ⟨(wrap64 (x13_2 + a2)), (wrap64 (x14_2 - 1)), (x138000_5), (x138001_5), (x138002_5), (t149), (t150), (t151), (by rfl), (by rfl), H', ⟨by have := HK1.out; have := HK2.out; have := HJ32.out; have := HJ35.out; have := HK5.out; omega⟩, ⟨by refine blk_far ?_ NB137_138.out _; refine blk_far ?_ NB137_138.out _; refine blk_far ?_ NB137_138.out _; exact BK137.out⟩, ⟨by refine blk_put (cs := #[.int .i64 t149, .int .u64 t150, .int .u64 x139002_2]) ?_ 2 _ rfl; refine blk_put (cs := #[.int .i64 t149, .int .u64 x139001_2, .int .u64 x139002_2]) ?_ 1 _ rfl; refine blk_put (cs := #[.int .i64 x139000_2, .int .u64 x139001_2, .int .u64 x139002_2]) ?_ 0 _ rfl; exact BK138.out⟩, ⟨by repeat (with_reducible first | exact HB.out | refine below_set ?_ GE138.out)⟩⟩
       ·replace c29b0 : decide (0 ≤ x14_2) = false := c29b0
        by_cases c76 : 0 < (a0.size : Int)
        ·rw [if_pos c76] at H
         have c76b0 : decide (0 < (a0.size : Int)) = true := decide_eq_true c76
         have c76b1 : decide (0 < a0.size) = true := decide_eq_true (by omega)
         clear c76
         have HC78 := Aside0.mk H
         clear H
         have p77 : 0 ≤ (0 : Int) := (by omega)
         have q77 : 0 < a0.size := (by have : (0 : Int) < (a0.size : Int) := of_decide_eq_true (by (with_reducible assumption)); omega)
         have hx77 : ∀ h : 0 < a0.size, ((a0[0]'h).toNat : Int) = bt a0 0 := bt_at a0 0
         clear p77
         have qi77 : (0 < (a0.size : Int)) = True := eq_true (of_decide_eq_true (by (with_reducible assumption)))
         replace q77 := eq_true q77
         go_upto_region 31 with (fail)
         go_cut [128] (fun v128 wc => ∃ (kq : Nat) (x128_77 : Bool), v128 = .bool x128_77 ∧ Aside0 (bits_grouped.j8 kq a1 x13_2 (bt a0 0) x128_77 x139000_2 x139001_2 x139002_2 = some (r1, r2, r3, r4)) ∧ Aside0 (kq ≤ k2) ∧ Aside0 (wc.heap[gb137]? = some (.cells #[.int .i64 x138000_2, .int .u64 x138001_2, .int .u64 x138002_2] 24 (0, 0))) ∧ Aside0 (wc.heap[gb138]? = some (.cells #[.int .i64 x139000_2, .int .u64 x139001_2, .int .u64 x139002_2] 24 (0, 0))) ∧ Aside0 (Below w.heap.size w wc))
         case first =>
          have H := HC78.out
          clear HC78
          replace H := iE H; rcases H with ⟨c79b0, c79b1, H⟩ | ⟨c79, c79b0, c79b1, H⟩
          ·(skip)
           have H' := Aside0.mk H
           clear H
           go_wp2
           go_meet
           case rel => exact ⟨_, (decide (x13_2 < a1)), (by rfl), H', ⟨by have := HK1.out; have := HK2.out; omega⟩, ⟨by exact BK137.out⟩, ⟨by exact BK138.out⟩, ⟨by repeat (with_reducible exact HB.out)⟩⟩
          ·(skip)
           replace H := iE H; rcases H with ⟨c80b0, c80b1, H⟩ | ⟨c80, c80b0, c80b1, H⟩
           ·have H' := Aside0.mk H
            clear H
            go_wp2
            go_meet
            case rel => exact ⟨_, (decide (x13_2 < a1)), (by rfl), H', ⟨by have := HK1.out; have := HK2.out; omega⟩, ⟨by exact BK137.out⟩, ⟨by exact BK138.out⟩, ⟨by repeat (with_reducible exact HB.out)⟩⟩
           ·have H' := Aside0.mk H
            clear H
            go_wp2
            go_meet
            case rel => exact ⟨_, (false), (by rfl), H', ⟨by have := HK1.out; have := HK2.out; omega⟩, ⟨by exact BK137.out⟩, ⟨by exact BK138.out⟩, ⟨by repeat (with_reducible exact HB.out)⟩⟩
         case rest =>
          clear HC78
          (try clear c29b0); (try clear c76b0); (try clear c76b1); (try clear q77); (try clear hx77); (try clear qi77)
          obtain ⟨kq, x128_77, rfl, HA, HJ77, BK137, BK138, HB⟩ := hcut
          cases kq with
          | zero => exact absurd HA.out (by simp [bits_grouped.j8])
          | succ kj77 =>
           have H := HA.out
           clear HA
           simp only [bits_grouped.j8] at H
           replace H := iB H; rcases H with ⟨rfl, H⟩ | ⟨rfl, H⟩
           ·replace H := bN H; obtain ⟨⟨t153, t154, t155⟩, A82, H⟩ := H; dsimp only at H
            replace H := bN H; obtain ⟨⟨t156, t157, t158⟩, A83, H⟩ := H; dsimp only at H
            replace H := s4 H; obtain ⟨rfl, rfl, rfl, rfl⟩ := H
            try go_wp2
            replace BK137 := bkd BK137
            replace BK138 := bkd BK138
            replace HB := hbd HB
            refine start_ (n := 9) (S := fun w' => w'.cell? ⟨gb138, 0, none⟩ = some (.int .i64 x139000_2) ∧ w'.cell? ⟨gb138, 1, none⟩ = some (.int .u64 x139001_2) ∧ w'.cell? ⟨gb138, 2, none⟩ = some (.int .u64 x139002_2)) (ds := [8]) (tb 9 0) (by kernel_rfl) rfl (by kernel_rfl) (d3 BK138) (fun hHeld => ?_); refine with_tabW bits_grouped.tab32 bits_grouped.bits32 (fun HT_ HW_ => ?_)
            generalize wc.drew = w84 at BK137 BK138 HB hHeld ⊢
            refine pA 1 130 (tb 9 2) HT_ ?_
            refine pA 2 131 (tb 9 6) HT_ ?_
            refine pA 3 132 (tb 9 14) HT_ ?_
            refine pA 4 133 (tb 9 30) HT_ ?_
            refine pA 5 134 (tb 9 62) HT_ ?_
            refine tA 0 129 (tb 9 63) HT_ HW_ hHeld ?_
            refine oA 6 (some 135) (tb 9 127) HT_ (fun K hK => ?_)
            refine gA Tryd.func25 #[.int .i64 (wrap64 (a1 - x13_2)), .int .u8 (bt a0 0)] ?_
            with_reducible refine (bits_All.calls kj77 (wrap64 (a1 - x13_2)) (bt a0 0) t153 t154 t155 _ A82.out).mono ?_
            rintro e w85 ⟨rfl, hb⟩
            refine ⟨_, rfl, ?_⟩
            replace BK137 := bk1 BK137 hb
            replace BK138 := bk1 BK138 hb
            replace HB := hb1 HB hb
            (try clear hb)
            refine hK.out _ _ (d3 BK138) (fun hHeld => ?_)
            clear hK K
            refine nA ?_
            refine oA 7 (some 136) (tb 9 255) HT_ (fun K hK => ?_)
            refine gA Tryd.func38 #[.agg #[.int .i64 x139000_2, .int .u64 x139001_2, .int .u64 x139002_2], .int .i64 x13_2, .agg #[.int .i64 t153, .int .u64 t154, .int .u64 t155]] ?_
            with_reducible refine (bits_Put.calls kj77 x139000_2 x139001_2 x139002_2 x13_2 t153 t154 t155 t156 t157 t158 _ A83.out).mono ?_
            rintro e w86 ⟨rfl, hb⟩
            refine ⟨_, rfl, ?_⟩
            replace BK137 := bk1 BK137 hb
            replace BK138 := bk1 BK138 hb
            replace HB := hb1 HB hb
            (try clear hb)
            refine hK.out _ _ (d3 BK138) (fun hHeld => ?_)
            clear hK K
            refine nA ?_
            refine last_ (i := 8) (N := none) #[true, true, true, true, true, true, true, true, true] rfl rfl (one_of HT_.out (by kernel_rfl)) (by decide) (fun K hK => ?_)
            have hs87 : w86.cell? ⟨gb138, 0, none⟩ = some (.int .i64 x139000_2) := (blk_cell BK138.out 0).trans rfl
            have hfs87 := blk_frozen BK138.out 0
            have hns87_0 := NB137_138.out
            have hms87_0 := NB138_137.out
            have hs88 : w86.cell? ⟨gb138, 1, none⟩ = some (.int .u64 x139001_2) := (blk_cell BK138.out 1).trans rfl
            have hfs88 := blk_frozen BK138.out 1
            have hns88_0 := NB137_138.out
            have hms88_0 := NB138_137.out
            have hs89 : w86.cell? ⟨gb138, 2, none⟩ = some (.int .u64 x139002_2) := (blk_cell BK138.out 2).trans rfl
            have hfs89 := blk_frozen BK138.out 2
            have hns89_0 := NB137_138.out
            have hms89_0 := NB138_137.out
            refine skip_ (w1 := ?_) (by rfl) rfl ?_ ?_
            rotate_left
            ·go_simp
             rfl
            refine hK.out _ _ ?_
            clear hK K
            refine done_ (done_of HT_.out (by kernel_rfl)) ?_
            have hnb90 := NB138_137.out
            have hnc90 := NB137_138.out
            obtain ⟨hcz91_0, hcz91_1, hcz91_2, hfz91_0, hfz91_1, hfz91_2⟩ := cf3 BK138
            obtain ⟨hcz92_0, hcz92_1, hcz92_2, hfz92_0, hfz92_1, hfz92_2⟩ := cf3 BK137
            try go_wp2
            refine bodyPost_ret (results_ct rfl _ _ gb137 24 #[.int .i64 t156, .int .u64 t157, .int .u64 t158] (0, 0) _ rfl (by refine blk_put (cs := #[.int .i64 t156, .int .u64 t157, .int .u64 x138002_2]) ?_ 2 _ rfl; refine blk_put (cs := #[.int .i64 t156, .int .u64 x138001_2, .int .u64 x138002_2]) ?_ 1 _ rfl; refine blk_put (cs := #[.int .i64 x138000_2, .int .u64 x138001_2, .int .u64 x138002_2]) ?_ 0 _ rfl; refine blk_far ?_ NB137_138.out _; refine blk_far ?_ NB137_138.out _; refine blk_far ?_ NB137_138.out _; exact BK137.out) Tryd.underlying24 rfl (by kernel_rfl)) rfl ?_
            exact ⟨by rfl, by repeat (with_reducible first | exact HB.out | refine below_set ?_ GE137.out | refine below_set ?_ GE138.out)⟩
           ·replace H := s4 H; obtain ⟨rfl, rfl, rfl, rfl⟩ := H
            have hnb93 := NB138_137.out
            have hnc93 := NB137_138.out
            obtain ⟨hcz94_0, hcz94_1, hcz94_2, hfz94_0, hfz94_1, hfz94_2⟩ := cf3 BK138
            obtain ⟨hcz95_0, hcz95_1, hcz95_2, hfz95_0, hfz95_1, hfz95_2⟩ := cf3 BK137
            go_wp2
            refine bodyPost_ret (results_ct rfl _ _ gb137 24 #[.int .i64 x139000_2, .int .u64 x139001_2, .int .u64 x139002_2] (0, 0) _ rfl (by refine blk_put (cs := #[.int .i64 x139000_2, .int .u64 x139001_2, .int .u64 x138002_2]) ?_ 2 _ rfl; refine blk_put (cs := #[.int .i64 x139000_2, .int .u64 x138001_2, .int .u64 x138002_2]) ?_ 1 _ rfl; refine blk_put (cs := #[.int .i64 x138000_2, .int .u64 x138001_2, .int .u64 x138002_2]) ?_ 0 _ rfl; exact BK137.out) Tryd.underlying24 rfl (by kernel_rfl)) rfl ?_
            exact ⟨by rfl, by repeat (with_reducible first | exact HB.out | refine below_set ?_ GE137.out)⟩
        ·rw [if_neg c76] at H
         exact absurd H (by simp)
    ·replace H := s4 H; obtain ⟨rfl, rfl, rfl, rfl⟩ := H
     have hnb96 := NB137_138.out
     have hnc96 := NB138_137.out
     obtain ⟨hcz97_0, hcz97_1, hcz97_2, hfz97_0, hfz97_1, hfz97_2⟩ := cf3 BK137
     go_wp2
     refine bodyPost_ret (results_ct rfl _ _ gb137 24 #[.int .i64 0, .int .u64 0, .int .u64 0] (0, 0) _ rfl (by refine blk_put (cs := #[.int .i64 0, .int .u64 0, .int .u64 x138002_1]) ?_ 2 _ rfl; refine blk_put (cs := #[.int .i64 0, .int .u64 x138001_1, .int .u64 x138002_1]) ?_ 1 _ rfl; refine blk_put (cs := #[.int .i64 x138000_1, .int .u64 x138001_1, .int .u64 x138002_1]) ?_ 0 _ rfl; exact BK137.out) Tryd.underlying24 rfl (by kernel_rfl)) rfl ?_
     exact ⟨by rfl, by repeat (with_reducible first | exact HB.out | refine below_set ?_ GE137.out)⟩
end Go.Proofs.YtfigblfjogpojaaDoor.PBits
end
section
namespace Go.Proofs.YtfigblfjogpojaaDoor.PBits
open Go.RowKit Go.Proofs.YtfigblfjogpojaaDoorW.PrintWords Go.Proofs.YtfigblfjogpojaaDoorW.PrintLast Go.Proofs.YtfigblfjogpojaaDoorW.PrintMore
attribute [local go_sem] max2_int min2_int max_two min_two max_three min_three max_four min_four
set_option linter.unusedVariables false
set_option linter.unusedSimpArgs false
mutual
def bits_Read.j0 : Nat → ByteArray → Int → Int → Int → Bool → Option (Int × Int × Int × Int)
 | 0, _, _, _, _, _ => none
 | k + 1, x0, x4, x5, x6, x27 => if x27 = true then (some (0, 0, 0, 10)) else (if 0 ≤ (wrap64 (x5 + 1)) then (if (wrap64 (x5 + 1)) ≤ (x0.size : Int) then (if ((x0.extract ((wrap64 (x5 + 1)) : Int).toNat x0.size).size : Int) > 0 then (if 0 < ((x0.extract ((wrap64 (x5 + 1)) : Int).toNat x0.size).size : Int) then (bits_Read.j1 k (x0.extract ((wrap64 (x5 + 1)) : Int).toNat x0.size) x4 x6 ((bt (x0.extract ((wrap64 (x5 + 1)) : Int).toNat x0.size) 0) == 115)) else (none)) else (bits_Read.j1 k (x0.extract ((wrap64 (x5 + 1)) : Int).toNat x0.size) x4 x6 false)) else (none)) else (none))
def bits_Read.j1 : Nat → ByteArray → Int → Int → Bool → Option (Int × Int × Int × Int)
 | 0, _, _, _, _ => none
 | k + 1, x0, x4, x6, x40 => if x40 = true then (if 1 ≤ (x0.size : Int) then (bits_Read.j2 k (x0.extract 1 x0.size) x4 x6) else (none)) else (bits_Read.j2 k x0 x4 x6)
def bits_Read.j2 : Nat → ByteArray → Int → Int → Option (Int × Int × Int × Int)
 | 0, _, _, _ => none
 | k + 1, x0, x4, x6 => if (x0.size : Int) < 2 then (some (0, 0, 0, 10)) else (if 0 < (x0.size : Int) then (if (bt x0 0) = 98 then (bits_Read.j3 k x0 x4 x6 1) else (if (bt x0 0) = 111 then (bits_Read.j3 k x0 x4 x6 3) else (if (bt x0 0) = 104 then (bits_Read.j3 k x0 x4 x6 4) else (if (bt x0 0) = 100 then (if 1 ≤ (x0.size : Int) then ((bits_decimal.f k (x0.extract 1 x0.size) x4 x6).bind fun bt163 => (some (bt163.1, bt163.2.1, bt163.2.2.1, bt163.2.2.2))) else (none)) else (bits_Read.j3 k x0 x4 x6 0))))) else (none))
def bits_Read.j3 : Nat → ByteArray → Int → Int → Int → Option (Int × Int × Int × Int)
 | 0, _, _, _, _ => none
 | k + 1, x0, x4, x6, x7 => if x7 = 0 then (some (0, 0, 0, 10)) else (if 1 ≤ (x0.size : Int) then ((bits_grouped.f k (x0.extract 1 x0.size) x4 x7 x6).bind fun bt167 => (some (bt167.1, bt167.2.1, bt167.2.2.1, bt167.2.2.2))) else (none))
end
def bits_Read.f (k : Nat) (a0 : ByteArray) : Option (Int × Int × Int × Int) := (bits_size.f k a0).bind fun bt160 => (if bt160.2.2 = 10 then (bits_Read.j0 k a0 bt160.1 bt160.2.1 bt160.2.2 true) else (if bt160.2.1 ≥ (a0.size : Int) then (bits_Read.j0 k a0 bt160.1 bt160.2.1 bt160.2.2 true) else (if 0 ≤ bt160.2.1 then (if bt160.2.1 < (a0.size : Int) then (bits_Read.j0 k a0 bt160.1 bt160.2.1 bt160.2.2 ((bt a0 bt160.2.1) != 39)) else (none)) else (none))))
theorem bits_Read.mono_l : ∀ k, (∀ y0 y1 y2 y3 y4, LeO (bits_Read.j0 k y0 y1 y2 y3 y4) (bits_Read.j0 (k + 1) y0 y1 y2 y3 y4)) ∧ (∀ y0 y1 y2 y3, LeO (bits_Read.j1 k y0 y1 y2 y3) (bits_Read.j1 (k + 1) y0 y1 y2 y3)) ∧ (∀ y0 y1 y2, LeO (bits_Read.j2 k y0 y1 y2) (bits_Read.j2 (k + 1) y0 y1 y2)) ∧ (∀ y0 y1 y2 y3, LeO (bits_Read.j3 k y0 y1 y2 y3) (bits_Read.j3 (k + 1) y0 y1 y2 y3))
 | 0 => ⟨fun _ _ _ _ _ r h => by simp [bits_Read.j0] at h, fun _ _ _ _ r h => by simp [bits_Read.j1] at h, fun _ _ _ r h => by simp [bits_Read.j2] at h, fun _ _ _ _ r h => by simp [bits_Read.j3] at h⟩
 | k + 1 => by
  obtain ⟨ih0, ih1, ih2, ih3⟩ := bits_Read.mono_l k
  refine ⟨?_, ?_, ?_, ?_⟩
  ·intro y0 y1 y2 y3 y4
   unfold bits_Read.j0
   repeat' first | with_reducible exact ih0 _ _ _ _ _ | with_reducible exact ih1 _ _ _ _ | with_reducible exact ih2 _ _ _ | with_reducible exact ih3 _ _ _ _ | with_reducible exact bits_decimal.mono _ _ _ _ | with_reducible exact bits_grouped.mono _ _ _ _ _ | with_reducible exact bits_size.mono _ _ | with_reducible exact LeO.refl _ | with_reducible exact LeO.none _ | with_reducible refine LeO.ite ?_ ?_ | with_reducible refine LeO.bind ?_ (fun _ => ?_)
  ·intro y0 y1 y2 y3
   unfold bits_Read.j1
   repeat' first | with_reducible exact ih0 _ _ _ _ _ | with_reducible exact ih1 _ _ _ _ | with_reducible exact ih2 _ _ _ | with_reducible exact ih3 _ _ _ _ | with_reducible exact bits_decimal.mono _ _ _ _ | with_reducible exact bits_grouped.mono _ _ _ _ _ | with_reducible exact bits_size.mono _ _ | with_reducible exact LeO.refl _ | with_reducible exact LeO.none _ | with_reducible refine LeO.ite ?_ ?_ | with_reducible refine LeO.bind ?_ (fun _ => ?_)
  ·intro y0 y1 y2
   unfold bits_Read.j2
   repeat' first | with_reducible exact ih0 _ _ _ _ _ | with_reducible exact ih1 _ _ _ _ | with_reducible exact ih2 _ _ _ | with_reducible exact ih3 _ _ _ _ | with_reducible exact bits_decimal.mono _ _ _ _ | with_reducible exact bits_grouped.mono _ _ _ _ _ | with_reducible exact bits_size.mono _ _ | with_reducible exact LeO.refl _ | with_reducible exact LeO.none _ | with_reducible refine LeO.ite ?_ ?_ | with_reducible refine LeO.bind ?_ (fun _ => ?_)
  ·intro y0 y1 y2 y3
   unfold bits_Read.j3
   repeat' first | with_reducible exact ih0 _ _ _ _ _ | with_reducible exact ih1 _ _ _ _ | with_reducible exact ih2 _ _ _ | with_reducible exact ih3 _ _ _ _ | with_reducible exact bits_decimal.mono _ _ _ _ | with_reducible exact bits_grouped.mono _ _ _ _ _ | with_reducible exact bits_size.mono _ _ | with_reducible exact LeO.refl _ | with_reducible exact LeO.none _ | with_reducible refine LeO.ite ?_ ?_ | with_reducible refine LeO.bind ?_ (fun _ => ?_)
theorem bits_Read.mono : ∀ a0 k, LeO (bits_Read.f k a0) (bits_Read.f (k + 1) a0) := by
 intro a0 k
 obtain ⟨ih0, ih1, ih2, ih3⟩ := bits_Read.mono_l k
 unfold bits_Read.f
 repeat' first | with_reducible exact ih0 _ _ _ _ _ | with_reducible exact ih1 _ _ _ _ | with_reducible exact ih2 _ _ _ | with_reducible exact ih3 _ _ _ _ | with_reducible exact bits_decimal.mono _ _ _ _ | with_reducible exact bits_grouped.mono _ _ _ _ _ | with_reducible exact bits_size.mono _ _ | with_reducible exact LeO.refl _ | with_reducible exact LeO.none _ | with_reducible refine LeO.ite ?_ ?_ | with_reducible refine LeO.bind ?_ (fun _ => ?_)
set_option maxHeartbeats 8000000 in
set_option maxRecDepth 100000 in
theorem bits_Read.calls (k : Nat) (a0 : ByteArray) (r1 : Int) (r2 : Int) (r3 : Int) (r4 : Int) (w : World) (h : bits_Read.f k a0 = some (r1, r2, r3, r4)) :
  Calls Tryd.prog 12 #[.string a0] w fun e w' => e = .returned (.tuple #[.agg #[.int .i64 r1, .int .u64 r2, .int .u64 r3], .int .i64 r4]) ∧ Below w.heap.size w w' := by
 have hu24 := Tryd.underlying24
 have HB := Aside0.mk (Below.refl w.heap.size w)
 have H := h
 clear h
 unfold bits_Read.f at H
 replace H := bN H; obtain ⟨⟨t160, t161, t162⟩, A2, H⟩ := H; dsimp only at H
 have HC3 := Aside0.mk H
 clear H
 go_enter Tryd.func12, Tryd.ntmps12
 go_upto_region 2 with (first | ((with_reducible refine gate_dst (N := 2) rfl ?_); (try (refine gate_guard (by rfl) ?_; dsimp only)); refine boxA HB 2 #[.int .i64 0, .int .u64 0, .int .u64 0] 24 ?_; clear HB; intro gb159 w4 BK159 GE159 hg hb HB; clear hb hg) | (refine callA (some 10) Tryd.func50 #[.string a0] ?_; (with_reducible refine (bits_size.calls k a0 t160 t161 t162 _ A2.out).mono ?_); rintro e w5 ⟨rfl, hb⟩; refine ⟨_, rfl, ?_⟩; replace BK159 := bk1 BK159 hb; replace HB := hb1 HB hb; (try clear hb)))
 go_cut [27] (fun v27 wc => ∃ (kq : Nat) (x27_2 : Bool), v27 = .bool x27_2 ∧ Aside0 (bits_Read.j0 kq a0 t160 t161 t162 x27_2 = some (r1, r2, r3, r4)) ∧ Aside0 (kq ≤ k) ∧ Aside0 (wc.heap[gb159]? = some (.cells #[.int .i64 0, .int .u64 0, .int .u64 0] 24 (0, 0))) ∧ Aside0 (Below w.heap.size w wc))
 case first =>
  have H := HC3.out
  clear HC3
  replace H := iE H; rcases H with ⟨c6b0, c6b1, H⟩ | ⟨c6, c6b0, c6b1, H⟩
  ·(skip)
   have H' := Aside0.mk H
   clear H
   go_wp2
   go_meet
   case rel => exact ⟨_, (true), (by rfl), H', ⟨by omega⟩, ⟨by exact BK159.out⟩, ⟨by repeat (with_reducible exact HB.out)⟩⟩
  ·(skip)
   replace H := iD H; rcases H with ⟨c7b0, H⟩ | ⟨c7b0, H⟩
   ·replace c7b0 : decide ((a0.size : Int) ≤ t161) = true := c7b0
    have H' := Aside0.mk H
    clear H
    go_wp2
    go_meet
    case rel => exact ⟨_, (true), (by rfl), H', ⟨by omega⟩, ⟨by exact BK159.out⟩, ⟨by repeat (with_reducible exact HB.out)⟩⟩
   ·replace c7b0 : decide ((a0.size : Int) ≤ t161) = false := c7b0
    replace H := iN H; obtain ⟨c8b0, H⟩ := H
    replace H := iN H; obtain ⟨c9b0, H⟩ := H
    have H' := Aside0.mk H
    clear H
    have p10 : 0 ≤ (t161 : Int) := of_decide_eq_true (by (with_reducible assumption))
    have q10 : t161 < (a0.size : Int) := of_decide_eq_true (by (with_reducible assumption))
    have hx10 := bt_at a0 t161
    replace p10 := eq_true p10
    replace q10 := eq_true q10
    go_wp2
    go_meet
    case rel => exact ⟨_, ((bt a0 t161) != 39), (by rfl), H', ⟨by omega⟩, ⟨by exact BK159.out⟩, ⟨by repeat (with_reducible exact HB.out)⟩⟩
 case rest =>
  clear HC3
  obtain ⟨kq, x27_2, rfl, HA, HJ2, BK159, HB⟩ := hcut
  cases kq with
  | zero => exact absurd HA.out (by simp [bits_Read.j0])
  | succ kj2 =>
   have H := HA.out
   clear HA
   simp only [bits_Read.j0] at H
   replace H := iB H; rcases H with ⟨rfl, H⟩ | ⟨rfl, H⟩
   ·replace H := s4 H; obtain ⟨rfl, rfl, rfl, rfl⟩ := H
    obtain ⟨hcz12_0, hcz12_1, hcz12_2, hfz12_0, hfz12_1, hfz12_2⟩ := cf3 BK159
    go_wp2
    refine bodyPost_ret (results_ct rfl _ _ gb159 24 #[.int .i64 0, .int .u64 0, .int .u64 0] (0, 0) _ rfl (by refine blk_put (cs := #[.int .i64 0, .int .u64 0, .int .u64 0]) ?_ 2 _ rfl; refine blk_put (cs := #[.int .i64 0, .int .u64 0, .int .u64 0]) ?_ 1 _ rfl; refine blk_put (cs := #[.int .i64 0, .int .u64 0, .int .u64 0]) ?_ 0 _ rfl; exact BK159.out) Tryd.underlying24 rfl (by kernel_rfl)) rfl ?_
    exact ⟨by rfl, by repeat (with_reducible first | exact HB.out | refine below_set ?_ GE159.out)⟩
   ·obtain ⟨ji13, hji13⟩ : ∃ j_ : Int, (wrap64 (t161 + 1)) = j_ := ⟨_, rfl⟩
    replace H : (if 0 ≤ (ji13) then (if (ji13) ≤ (a0.size : Int) then (if ((a0.extract ((ji13) : Int).toNat a0.size).size : Int) > 0 then (if 0 < ((a0.extract ((ji13) : Int).toNat a0.size).size : Int) then (bits_Read.j1 kj2 (a0.extract ((ji13) : Int).toNat a0.size) t160 t162 ((bt (a0.extract ((ji13) : Int).toNat a0.size) 0) == 115)) else (none)) else (bits_Read.j1 kj2 (a0.extract ((ji13) : Int).toNat a0.size) t160 t162 false)) else (none)) else (none)) = some (r1, r2, r3, r4) := by (rw [hji13] at H; exact H)
    have hji13w : (IntKind.i64.wrap (t161 + 1)) = ji13 := (i64_w _).trans hji13
    by_cases c14 : 0 ≤ (ji13)
    ·rw [if_pos c14] at H
     have c14b0 := eq_true c14
     have c14b1 : decide (0 ≤ (ji13)) = true := decide_eq_true c14
     clear c14
     by_cases c15 : (ji13) ≤ (a0.size : Int)
     ·rw [if_pos c15] at H
      have c15b0 := eq_true c15
      have c15b1 : decide ((ji13) ≤ (a0.size : Int)) = true := decide_eq_true c15
      clear c15
      have HC16 := Aside0.mk H
      clear H
      go_upto_region 5 with (fail)
      go_cut [40] (fun v40 wc => ∃ (kq : Nat) (x40_15 : Bool), v40 = .bool x40_15 ∧ Aside0 (bits_Read.j1 kq (a0.extract ((ji13) : Int).toNat a0.size) t160 t162 x40_15 = some (r1, r2, r3, r4)) ∧ Aside0 (kq ≤ kj2) ∧ Aside0 (wc.heap[gb159]? = some (.cells #[.int .i64 0, .int .u64 0, .int .u64 0] 24 (0, 0))) ∧ Aside0 (Below w.heap.size w wc))
      case first =>
       have H := HC16.out
       clear HC16
       by_cases c17 : ((a0.extract ((ji13) : Int).toNat a0.size).size : Int) > 0
       ·rw [if_pos c17] at H
        have c17b0 : decide (0 < ((a0.extract ((ji13) : Int).toNat a0.size).size : Int)) = true := decide_eq_true c17
        try have c17b0e : decide (0 < ((a0.size - ((ji13) : Int).toNat : Nat) : Int)) = true := by have h_ := c17b0; simp only [ByteArray.size_extract, Nat.min_self] at h_; exact h_
        have c17b1 : decide (0 < (a0.extract ((ji13) : Int).toNat a0.size).size) = true := decide_eq_true (by omega)
        try have c17b1e : decide (0 < (a0.size - ((ji13) : Int).toNat)) = true := by have h_ := c17b1; simp only [ByteArray.size_extract, Nat.min_self] at h_; exact h_
        clear c17
        (skip)
        by_cases c18 : 0 < ((a0.extract ((ji13) : Int).toNat a0.size).size : Int)
        ·rw [if_pos c18] at H
         have c18b0 : decide (0 < ((a0.extract ((ji13) : Int).toNat a0.size).size : Int)) = true := decide_eq_true c18
         try have c18b0e : decide (0 < ((a0.size - ((ji13) : Int).toNat : Nat) : Int)) = true := by have h_ := c18b0; simp only [ByteArray.size_extract, Nat.min_self] at h_; exact h_
         have c18b1 : decide (0 < (a0.extract ((ji13) : Int).toNat a0.size).size) = true := decide_eq_true (by omega)
         try have c18b1e : decide (0 < (a0.size - ((ji13) : Int).toNat)) = true := by have h_ := c18b1; simp only [ByteArray.size_extract, Nat.min_self] at h_; exact h_
         clear c18
         have H' := Aside0.mk H
         clear H
         have p19 : 0 ≤ (0 : Int) := (by omega)
         have q19 : 0 < (a0.extract ((ji13) : Int).toNat a0.size).size := (by have : (0 : Int) < ((a0.extract ((ji13) : Int).toNat a0.size).size : Int) := of_decide_eq_true (by (with_reducible assumption)); omega)
         try have q19e : 0 < (a0.size - ((ji13) : Int).toNat) := by have h_ := q19; simp only [ByteArray.size_extract, Nat.min_self] at h_; exact h_
         have hx19 : ∀ h : 0 < (a0.extract ((ji13) : Int).toNat a0.size).size, (((a0.extract ((ji13) : Int).toNat a0.size)[0]'h).toNat : Int) = bt (a0.extract ((ji13) : Int).toNat a0.size) 0 := bt_at (a0.extract ((ji13) : Int).toNat a0.size) 0
         clear p19
         have qi19 : (0 < ((a0.extract ((ji13) : Int).toNat a0.size).size : Int)) = True := eq_true (of_decide_eq_true (by (with_reducible assumption)))
         try have qi19e : (0 < ((a0.size - ((ji13) : Int).toNat : Nat) : Int)) = True := by have h_ := qi19; simp only [ByteArray.size_extract, Nat.min_self] at h_; exact h_
         replace q19 := eq_true q19
         go_wp2
         go_meet
         case rel => exact ⟨_, (((bt (a0.extract ((ji13) : Int).toNat a0.size) 0) == 115)), (by (with_reducible rfl)), H', ⟨by have := HJ2.out; omega⟩, ⟨by exact BK159.out⟩, ⟨by repeat (with_reducible exact HB.out)⟩⟩
        ·rw [if_neg c18] at H
         exact absurd H (by simp)
       ·rw [if_neg c17] at H
        have c17b0 : decide (0 < ((a0.extract ((ji13) : Int).toNat a0.size).size : Int)) = false := decide_eq_false c17
        try have c17b0e : decide (0 < ((a0.size - ((ji13) : Int).toNat : Nat) : Int)) = false := by have h_ := c17b0; simp only [ByteArray.size_extract, Nat.min_self] at h_; exact h_
        have c17b1 : decide (0 < (a0.extract ((ji13) : Int).toNat a0.size).size) = false := decide_eq_false (by omega)
        try have c17b1e : decide (0 < (a0.size - ((ji13) : Int).toNat)) = false := by have h_ := c17b1; simp only [ByteArray.size_extract, Nat.min_self] at h_; exact h_
        clear c17
        (skip)
        have H' := Aside0.mk H
        clear H
        go_wp2
        go_meet
        case rel => exact ⟨_, (false), (by rfl), H', ⟨by have := HJ2.out; omega⟩, ⟨by exact BK159.out⟩, ⟨by repeat (with_reducible exact HB.out)⟩⟩
      case rest =>
       clear HC16
       (try clear c14b0); (try clear c14b1); (try clear c15b0); (try clear c15b1)
       obtain ⟨kq, x40_15, rfl, HA, HJ15, BK159, HB⟩ := hcut
       cases kq with
       | zero => exact absurd HA.out (by simp [bits_Read.j1])
       | succ kj15 =>
        have H := HA.out
        clear HA
        simp only [bits_Read.j1] at H
        have HC20 := Aside0.mk H
        clear H
        go_upto_if 40 with (fail)
        go_cut [0] (fun v0 wc => ∃ (kq : Nat) (x0_19 : ByteArray), v0 = .string x0_19 ∧ Aside0 (bits_Read.j2 kq x0_19 t160 t162 = some (r1, r2, r3, r4)) ∧ Aside0 (kq ≤ kj15) ∧ Aside0 (wc.heap[gb159]? = some (.cells #[.int .i64 0, .int .u64 0, .int .u64 0] 24 (0, 0))) ∧ Aside0 (Below w.heap.size w wc))
        case first =>
         have H := HC20.out
         clear HC20
         replace H := iB H; rcases H with ⟨rfl, H⟩ | ⟨rfl, H⟩
         ·by_cases c22 : 1 ≤ ((a0.extract ((ji13) : Int).toNat a0.size).size : Int)
          ·rw [if_pos c22] at H
           have c22b0 := eq_true c22
           have c22b1 : decide (1 ≤ ((a0.extract ((ji13) : Int).toNat a0.size).size : Int)) = true := decide_eq_true c22
           try have c22b1e : decide (1 ≤ ((a0.size - ((ji13) : Int).toNat : Nat) : Int)) = true := by have h_ := c22b1; simp only [ByteArray.size_extract, Nat.min_self] at h_; exact h_
           try have c22b1f : (1 ≤ ((a0.size - ((ji13) : Int).toNat : Nat) : Int)) = True := eq_true (of_decide_eq_true c22b1e)
           clear c22
           have H' := Aside0.mk H
           clear H
           go_wp2
           go_meet
           case rel => exact ⟨_, ((a0.extract ((ji13) : Int).toNat a0.size).extract 1 (a0.extract ((ji13) : Int).toNat a0.size).size), (by (simp only [ByteArray.size_extract, Nat.min_self]; done)), H', ⟨by have := HJ2.out; have := HJ15.out; omega⟩, ⟨by exact BK159.out⟩, ⟨by repeat (with_reducible exact HB.out)⟩⟩
          ·rw [if_neg c22] at H
           exact absurd H (by simp)
         ·have H' := Aside0.mk H
          clear H
          go_wp2
          go_meet
          case rel => exact ⟨_, ((a0.extract ((ji13) : Int).toNat a0.size)), (by (with_reducible rfl)), H', ⟨by have := HJ2.out; have := HJ15.out; omega⟩, ⟨by exact BK159.out⟩, ⟨by repeat (with_reducible exact HB.out)⟩⟩
        case rest =>
         clear HC20
         obtain ⟨kq, x0_19, rfl, HA, HJ19, BK159, HB⟩ := hcut
         cases kq with
         | zero => exact absurd HA.out (by simp [bits_Read.j2])
         | succ kj19 =>
          have H := HA.out
          clear HA
          simp only [bits_Read.j2] at H
          by_cases c23 : (x0_19.size : Int) < 2
          ·rw [if_pos c23] at H
           have c23b0 : decide ((x0_19.size : Int) < 2) = true := decide_eq_true c23
           have c23b1 : decide (x0_19.size < 2) = true := decide_eq_true (by omega)
           clear c23
           replace H := s4 H; obtain ⟨rfl, rfl, rfl, rfl⟩ := H
           obtain ⟨hcz24_0, hcz24_1, hcz24_2, hfz24_0, hfz24_1, hfz24_2⟩ := cf3 BK159
           go_wp2
           refine bodyPost_ret (results_ct rfl _ _ gb159 24 #[.int .i64 0, .int .u64 0, .int .u64 0] (0, 0) _ rfl (by refine blk_put (cs := #[.int .i64 0, .int .u64 0, .int .u64 0]) ?_ 2 _ rfl; refine blk_put (cs := #[.int .i64 0, .int .u64 0, .int .u64 0]) ?_ 1 _ rfl; refine blk_put (cs := #[.int .i64 0, .int .u64 0, .int .u64 0]) ?_ 0 _ rfl; exact BK159.out) Tryd.underlying24 rfl (by kernel_rfl)) rfl ?_
           exact ⟨by rfl, by repeat (with_reducible first | exact HB.out | refine below_set ?_ GE159.out)⟩
          ·rw [if_neg c23] at H
           have c23b0 : decide ((x0_19.size : Int) < 2) = false := decide_eq_false c23
           have c23b1 : decide (x0_19.size < 2) = false := decide_eq_false (by omega)
           clear c23
           by_cases c25 : 0 < (x0_19.size : Int)
           ·rw [if_pos c25] at H
            have c25b0 : decide (0 < (x0_19.size : Int)) = true := decide_eq_true c25
            have c25b1 : decide (0 < x0_19.size) = true := decide_eq_true (by omega)
            clear c25
            have HC27 := Aside0.mk H
            clear H
            have p26 : 0 ≤ (0 : Int) := (by omega)
            have q26 : 0 < x0_19.size := (by have : (0 : Int) < (x0_19.size : Int) := of_decide_eq_true (by (with_reducible assumption)); omega)
            have hx26 : ∀ h : 0 < x0_19.size, ((x0_19[0]'h).toNat : Int) = bt x0_19 0 := bt_at x0_19 0
            clear p26
            have qi26 : (0 < (x0_19.size : Int)) = True := eq_true (of_decide_eq_true (by (with_reducible assumption)))
            replace q26 := eq_true q26
            go_upto_block 0 with (fail)
            go_cut [7] (fun v7 wc => ∃ (kq : Nat) (x7_26 : Int) (x160000_26 : Int) (x160001_26 : Int) (x160002_26 : Int), v7 = .int .i64 x7_26 ∧ Aside0 (bits_Read.j3 kq x0_19 t160 t162 x7_26 = some (r1, r2, r3, r4)) ∧ Aside0 (kq ≤ kj19) ∧ Aside0 (wc.heap[gb159]? = some (.cells #[.int .i64 x160000_26, .int .u64 x160001_26, .int .u64 x160002_26] 24 (0, 0))) ∧ Aside0 (Below w.heap.size w wc))
            case first =>
             have H := HC27.out
             clear HC27
             replace H := iE H; rcases H with ⟨c28b0, c28b1, H⟩ | ⟨c28, c28b0, c28b1, H⟩
             ·(skip)
              have H' := Aside0.mk H
              clear H
              go_wp2
              go_meet
              case rel => exact ⟨_, (1), (0), (0), (0), (by rfl), H', ⟨by have := HJ2.out; have := HJ15.out; have := HJ19.out; omega⟩, ⟨by exact BK159.out⟩, ⟨by repeat (with_reducible exact HB.out)⟩⟩
             ·(skip)
              replace H := iE H; rcases H with ⟨c29b0, c29b1, H⟩ | ⟨c29, c29b0, c29b1, H⟩
              ·have H' := Aside0.mk H
               clear H
               go_wp2
               go_meet
               case rel => exact ⟨_, (3), (0), (0), (0), (by rfl), H', ⟨by have := HJ2.out; have := HJ15.out; have := HJ19.out; omega⟩, ⟨by exact BK159.out⟩, ⟨by repeat (with_reducible exact HB.out)⟩⟩
              ·replace H := iE H; rcases H with ⟨c30b0, c30b1, H⟩ | ⟨c30, c30b0, c30b1, H⟩
               ·have H' := Aside0.mk H
                clear H
                go_wp2
                go_meet
                case rel => exact ⟨_, (4), (0), (0), (0), (by rfl), H', ⟨by have := HJ2.out; have := HJ15.out; have := HJ19.out; omega⟩, ⟨by exact BK159.out⟩, ⟨by repeat (with_reducible exact HB.out)⟩⟩
               ·replace H := iE H; rcases H with ⟨c31b0, c31b1, H⟩ | ⟨c31, c31b0, c31b1, H⟩
                ·by_cases c32 : 1 ≤ (x0_19.size : Int)
                 ·rw [if_pos c32] at H
                  have c32b0 := eq_true c32
                  have c32b1 : decide (1 ≤ (x0_19.size : Int)) = true := decide_eq_true c32
                  clear c32
                  replace H := bN H; obtain ⟨⟨t163, t164, t165, t166⟩, A33, H⟩ := H; dsimp only at H
                  replace H := s4 H; obtain ⟨rfl, rfl, rfl, rfl⟩ := H
                  go_wp2_with ((refine callA (some 61) Tryd.func51 #[.string (x0_19.extract 1 x0_19.size), .int .i64 t160, .int .i64 t162] ?_; (with_reducible refine (bits_decimal.calls kj19 (x0_19.extract 1 x0_19.size) t160 t162 t163 t164 t165 t166 _ A33.out).mono ?_); rintro e w34 ⟨rfl, hb⟩; refine ⟨_, rfl, ?_⟩; replace BK159 := bk1 BK159 hb; replace HB := hb1 HB hb; (try clear hb); obtain ⟨hcz35_0, hcz35_1, hcz35_2, hfz35_0, hfz35_1, hfz35_2⟩ := cf3 BK159))
                  refine bodyPost_ret (results_ct rfl _ _ gb159 24 #[.int .i64 t163, .int .u64 t164, .int .u64 t165] (0, 0) _ rfl (by refine blk_put (cs := #[.int .i64 t163, .int .u64 t164, .int .u64 0]) ?_ 2 _ rfl; refine blk_put (cs := #[.int .i64 t163, .int .u64 0, .int .u64 0]) ?_ 1 _ rfl; refine blk_put (cs := #[.int .i64 0, .int .u64 0, .int .u64 0]) ?_ 0 _ rfl; exact BK159.out) Tryd.underlying24 rfl (by kernel_rfl)) rfl ?_
                  exact ⟨by rfl, by repeat (with_reducible first | exact HB.out | refine below_set ?_ GE159.out)⟩
                 ·rw [if_neg c32] at H
                  exact absurd H (by simp)
                ·have H' := Aside0.mk H
                 clear H
                 go_wp2
                 go_meet
                 case rel => exact ⟨_, (0), (0), (0), (0), (by rfl), H', ⟨by have := HJ2.out; have := HJ15.out; have := HJ19.out; omega⟩, ⟨by exact BK159.out⟩, ⟨by repeat (with_reducible exact HB.out)⟩⟩
            case rest =>
             clear HC27
             (try clear c23b0); (try clear c23b1); (try clear c25b0); (try clear c25b1); (try clear q26); (try clear hx26); (try clear qi26)
             obtain ⟨kq, x7_26, x160000_26, x160001_26, x160002_26, rfl, HA, HJ26, BK159, HB⟩ := hcut
             cases kq with
             | zero => exact absurd HA.out (by simp [bits_Read.j3])
             | succ kj26 =>
              have H := HA.out
              clear HA
              simp only [bits_Read.j3] at H
              replace H := iE H; rcases H with ⟨c36b0, c36b1, H⟩ | ⟨c36, c36b0, c36b1, H⟩
              ·replace H := s4 H; obtain ⟨rfl, rfl, rfl, rfl⟩ := H
               obtain ⟨hcz37_0, hcz37_1, hcz37_2, hfz37_0, hfz37_1, hfz37_2⟩ := cf3 BK159
               go_wp2
               refine bodyPost_ret (results_ct rfl _ _ gb159 24 #[.int .i64 0, .int .u64 0, .int .u64 0] (0, 0) _ rfl (by refine blk_put (cs := #[.int .i64 0, .int .u64 0, .int .u64 x160002_26]) ?_ 2 _ rfl; refine blk_put (cs := #[.int .i64 0, .int .u64 x160001_26, .int .u64 x160002_26]) ?_ 1 _ rfl; refine blk_put (cs := #[.int .i64 x160000_26, .int .u64 x160001_26, .int .u64 x160002_26]) ?_ 0 _ rfl; exact BK159.out) Tryd.underlying24 rfl (by kernel_rfl)) rfl ?_
               exact ⟨by rfl, by repeat (with_reducible first | exact HB.out | refine below_set ?_ GE159.out)⟩
              ·by_cases c38 : 1 ≤ (x0_19.size : Int)
               ·rw [if_pos c38] at H
                have c38b0 := eq_true c38
                have c38b1 : decide (1 ≤ (x0_19.size : Int)) = true := decide_eq_true c38
                clear c38
                replace H := bN H; obtain ⟨⟨t167, t168, t169, t170⟩, A39, H⟩ := H; dsimp only at H
                replace H := s4 H; obtain ⟨rfl, rfl, rfl, rfl⟩ := H
                go_wp2_with ((refine callA (some 72) Tryd.func52 #[.string (x0_19.extract 1 x0_19.size), .int .i64 t160, .int .i64 x7_26, .int .i64 t162] ?_; (with_reducible refine (bits_grouped.calls kj26 (x0_19.extract 1 x0_19.size) t160 x7_26 t162 t167 t168 t169 t170 _ A39.out).mono ?_); rintro e w40 ⟨rfl, hb⟩; refine ⟨_, rfl, ?_⟩; replace BK159 := bk1 BK159 hb; replace HB := hb1 HB hb; (try clear hb); obtain ⟨hcz41_0, hcz41_1, hcz41_2, hfz41_0, hfz41_1, hfz41_2⟩ := cf3 BK159))
                refine bodyPost_ret (results_ct rfl _ _ gb159 24 #[.int .i64 t167, .int .u64 t168, .int .u64 t169] (0, 0) _ rfl (by refine blk_put (cs := #[.int .i64 t167, .int .u64 t168, .int .u64 x160002_26]) ?_ 2 _ rfl; refine blk_put (cs := #[.int .i64 t167, .int .u64 x160001_26, .int .u64 x160002_26]) ?_ 1 _ rfl; refine blk_put (cs := #[.int .i64 x160000_26, .int .u64 x160001_26, .int .u64 x160002_26]) ?_ 0 _ rfl; exact BK159.out) Tryd.underlying24 rfl (by kernel_rfl)) rfl ?_
                exact ⟨by rfl, by repeat (with_reducible first | exact HB.out | refine below_set ?_ GE159.out)⟩
               ·rw [if_neg c38] at H
                exact absurd H (by simp)
           ·rw [if_neg c25] at H
            exact absurd H (by simp)
     ·rw [if_neg c15] at H
      exact absurd H (by simp)
    ·rw [if_neg c14] at H
     exact absurd H (by simp)
end Go.Proofs.YtfigblfjogpojaaDoor.PBits
end
