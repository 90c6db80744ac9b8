/- Part 17 of the proof of BitsJoinedCardSaid: The law BitsJoined: for all arguments it returns true; each argument reads behind the call as it read before. Out of the plain theorem of YtfigblfjogpojaaGreatDoorPureBitsJoined and the printed contract. -/
import Derived.Test.YtfigblfjogpojaaGreatDoorQBitsJoined13
import Derived.Test.YtfigblfjogpojaaGreatDoorQBitsJoined15
section
namespace Go.Proofs.YtfigblfjogpojaaGreatDoor.PBits
open Go.RowKit Go.Proofs.YtfigblfjogpojaaGreatDoorW.PrintWords Go.Proofs.YtfigblfjogpojaaGreatDoorW.PrintLast Go.Proofs.YtfigblfjogpojaaGreatDoorW.PrintMore
attribute [local go_sem] max2_int min2_int max_two min_two max_three min_three max_four min_four
set_option linter.unusedVariables false
set_option linter.unusedSimpArgs false
def bits_mask.f (a0 : Int) : Option (Int) := if a0 ≥ 64 then (some 18446744073709551615) else (if 0 ≤ a0 then (some (IntKind.u64.wrap ((shl .u64 1 a0) - 1))) else (none))
set_option maxHeartbeats 8000000 in
set_option maxRecDepth 100000 in
theorem bits_mask.calls (a0 : Int) (r : Int) (w : World) (h : bits_mask.f a0 = some r) :
  Calls Tryz.prog 17 #[.int .i64 a0] w fun e w' => e = .returned (.int .u64 r) ∧ Drawn0 w w' := by
 have H := h
 clear h
 unfold bits_mask.f at H
 replace H := iD H; rcases H with ⟨c2b0, H⟩ | ⟨c2b0, H⟩
 ·replace c2b0 : decide (64 ≤ a0) = true := c2b0
  obtain rfl := Option.some.inj H
  go_enter Tryz.func17, Tryz.ntmps17
  go_wp2
  go_ret
  exact ⟨by rfl, by repeat (exact Drawn0.refl _)⟩
 ·replace c2b0 : decide (64 ≤ a0) = false := c2b0
  by_cases c3 : 0 ≤ a0
  ·rw [if_pos c3] at H
   have c3b0 := eq_true c3
   have c3b1 : decide (0 ≤ a0) = true := decide_eq_true c3
   clear c3
   obtain ⟨ji4, hji4⟩ : ∃ j_ : Int, (shl .u64 1 a0) = j_ := ⟨_, rfl⟩
   replace H : (some (IntKind.u64.wrap ((ji4) - 1))) = some r := by (rw [hji4] at H; exact H)
   have hji4_ : (IntKind.u64.wrap (1 * 2 ^ min a0.toNat 64)) = ji4 := hji4
   have hji4z : a0 ≤ 64 → (IntKind.u64.wrap (1 * 2 ^ a0.toNat)) = ji4 := shl_small hji4
   have hji4u : (IntKind.u64.wrap (2 ^ min a0.toNat 64)) = ji4 := by have h_ := hji4_; rw [Int.one_mul] at h_; exact h_
   have hji4v : a0 ≤ 64 → (IntKind.u64.wrap (2 ^ a0.toNat)) = ji4 := fun hle_ => by have h_ := hji4z hle_; rw [Int.one_mul] at h_; exact h_
   obtain rfl := Option.some.inj H
   go_enter Tryz.func17, Tryz.ntmps17
   go_wp2
   go_ret
   exact ⟨by rfl, by repeat (exact Drawn0.refl _)⟩
  ·rw [if_neg c3] at H
   exact absurd H (by simp)
end Go.Proofs.YtfigblfjogpojaaGreatDoor.PBits
end
section
namespace Go.Proofs.YtfigblfjogpojaaGreatDoor.PBits
open Go.RowKit Go.Proofs.YtfigblfjogpojaaGreatDoorW.PrintWords Go.Proofs.YtfigblfjogpojaaGreatDoorW.PrintLast Go.Proofs.YtfigblfjogpojaaGreatDoorW.PrintMore
attribute [local go_sem] max2_int min2_int max_two min_two max_three min_three max_four min_four
set_option linter.unusedVariables false
set_option linter.unusedSimpArgs false
def bits_Check.j0 : Nat → Bool → Int → Int → Int → Option (Int)
 | 0, _, _, _, _ => none
 | k + 1, x10, x102000, x102001, x102002 => if x10 = true then (some 2) else ((bits_mask.f x102000).bind fun t102 => (if (Go.bits .andNot .u64 (Go.bits .or .u64 x102001 x102002) t102) = 0 then (some 0) else (some 4)))
def bits_Check.f (k : Nat) (a0_0 : Int) (a0_1 : Int) (a0_2 : Int) : Option (Int) := if a0_0 < 1 then (bits_Check.j0 k true a0_0 a0_1 a0_2) else (bits_Check.j0 k (decide (a0_0 > 64)) a0_0 a0_1 a0_2)
theorem bits_Check.mono_l : ∀ k, (∀ y0 y1 y2 y3, LeO (bits_Check.j0 k y0 y1 y2 y3) (bits_Check.j0 (k + 1) y0 y1 y2 y3))
 | 0 => fun _ _ _ _ r h => by simp [bits_Check.j0] at h
 | k + 1 => by
  have ih0 := bits_Check.mono_l k
  ·intro y0 y1 y2 y3
   unfold bits_Check.j0
   repeat' first | with_reducible exact ih0 _ _ _ _ | with_reducible exact LeO.refl _ | with_reducible exact LeO.none _ | with_reducible refine LeO.ite ?_ ?_ | with_reducible refine LeO.bind ?_ (fun _ => ?_)
theorem bits_Check.mono : ∀ a0 a1 a2 k, LeO (bits_Check.f k a0 a1 a2) (bits_Check.f (k + 1) a0 a1 a2) := by
 intro a0 a1 a2 k
 have ih0 := bits_Check.mono_l k
 unfold bits_Check.f
 repeat' first | with_reducible exact ih0 _ _ _ _ | with_reducible exact LeO.refl _ | with_reducible exact LeO.none _ | with_reducible refine LeO.ite ?_ ?_ | with_reducible refine LeO.bind ?_ (fun _ => ?_)
set_option maxHeartbeats 8000000 in
set_option maxRecDepth 100000 in
theorem bits_Check.calls (k : Nat) (a0_0 : Int) (a0_1 : Int) (a0_2 : Int) (r : Int) (w : World) (h : bits_Check.f k a0_0 a0_1 a0_2 = some r) :
  Calls Tryz.prog 28 #[.agg #[.int .i64 a0_0, .int .u64 a0_1, .int .u64 a0_2]] w fun e w' => e = .returned (.int .i64 r) ∧ Below w.heap.size w w' := by
 have hu24 := Tryz.underlying24
 have HB := Aside0.mk (Below.refl w.heap.size w)
 have H := h
 clear h
 unfold bits_Check.f at H
 have HC2 := Aside0.mk H
 clear H
 go_enter Tryz.func28, Tryz.ntmps28
 go_upto_region 1 with ((refine boxA HB 1 #[.int .i64 a0_0, .int .u64 a0_1, .int .u64 a0_2] 24 ?_; clear HB; intro gb101 w3 BK101 GE101 hg hb HB; clear hb hg))
 go_cut [10] (fun v10 wc => ∃ (kq : Nat) (x10_1 : Bool), v10 = .bool x10_1 ∧ Aside0 (bits_Check.j0 kq x10_1 a0_0 a0_1 a0_2 = some r) ∧ Aside0 (kq ≤ k) ∧ Aside0 (wc.heap[gb101]? = some (.cells #[.int .i64 a0_0, .int .u64 a0_1, .int .u64 a0_2] 24 (0, 0))) ∧ Aside0 (Below w.heap.size w wc))
 case first =>
  have H := HC2.out
  clear HC2
  replace H := iD H; rcases H with ⟨c4b0, H⟩ | ⟨c4b0, H⟩
  ·(skip)
   have H' := Aside0.mk H
   clear H
   obtain ⟨hcz5_0, hcz5_1, hcz5_2, hfz5_0, hfz5_1, hfz5_2⟩ := cf3 BK101
   go_wp2
   go_meet
   case rel => exact ⟨_, (true), (by rfl), H', ⟨by omega⟩, ⟨by exact BK101.out⟩, ⟨by repeat (with_reducible exact HB.out)⟩⟩
  ·(skip)
   have H' := Aside0.mk H
   clear H
   obtain ⟨hcz6_0, hcz6_1, hcz6_2, hfz6_0, hfz6_1, hfz6_2⟩ := cf3 BK101
   go_wp2
   go_meet
   case rel => exact ⟨_, (decide (a0_0 > 64)), (by rfl), H', ⟨by omega⟩, ⟨by exact BK101.out⟩, ⟨by repeat (with_reducible exact HB.out)⟩⟩
 case rest =>
  clear HC2
  obtain ⟨kq, x10_1, rfl, HA, HJ1, BK101, HB⟩ := hcut
  cases kq with
  | zero => exact absurd HA.out (by simp [bits_Check.j0])
  | succ kj1 =>
   have H := HA.out
   clear HA
   simp only [bits_Check.j0] at H
   replace H := iB H; rcases H with ⟨rfl, H⟩ | ⟨rfl, H⟩
   ·obtain rfl := Option.some.inj H
    go_wp2
    go_ret
    exact ⟨by rfl, by repeat (with_reducible exact HB.out)⟩
   ·replace H := bN H; obtain ⟨t102, A8, H⟩ := H
    replace H := iE H; rcases H with ⟨c9b0, c9b1, H⟩ | ⟨c9, c9b0, c9b1, H⟩
    ·obtain rfl := Option.some.inj H
     obtain ⟨hcz10_0, hcz10_1, hcz10_2, hfz10_0, hfz10_1, hfz10_2⟩ := cf3 BK101
     go_wp2
     repeat (go_quiet ((go_at_call 17; (with_reducible refine (bits_mask.calls a0_0 t102 _ A8.out).mono ?_); rintro e w' ⟨rfl, ⟨nd, rfl⟩⟩; (try exact ⟨rfl, _, World.drewN_drewN _ _ _⟩))); try go_wp2)
     go_ret
     exact ⟨by rfl, by repeat (with_reducible first | exact HB.out | apply pw_below_drewN)⟩
    ·obtain rfl := Option.some.inj H
     obtain ⟨hcz11_0, hcz11_1, hcz11_2, hfz11_0, hfz11_1, hfz11_2⟩ := cf3 BK101
     go_wp2
     repeat (go_quiet ((go_at_call 17; (with_reducible refine (bits_mask.calls a0_0 t102 _ A8.out).mono ?_); rintro e w' ⟨rfl, ⟨nd, rfl⟩⟩; (try exact ⟨rfl, _, World.drewN_drewN _ _ _⟩))); try go_wp2)
     go_ret
     exact ⟨by rfl, by repeat (with_reducible first | exact HB.out | apply pw_below_drewN)⟩
end Go.Proofs.YtfigblfjogpojaaGreatDoor.PBits
end
section
namespace Go.Proofs.YtfigblfjogpojaaGreatDoor.PBits
open Go.RowKit Go.Proofs.YtfigblfjogpojaaGreatDoorW.PrintWords Go.Proofs.YtfigblfjogpojaaGreatDoorW.PrintLast Go.Proofs.YtfigblfjogpojaaGreatDoorW.PrintMore
attribute [local go_sem] max2_int min2_int max_two min_two max_three min_three max_four min_four
set_option linter.unusedVariables false
set_option linter.unusedSimpArgs false
def bits_valid.l0 : Nat → List (S24) → Int → Int → Option (Bool)
 | 0, _, _, _ => none
 | k + 1, x5, x6, x7 => if x7 < x6 then (if 0 ≤ x7 then (if x7 < (x5.length : Int) then ((bits_Check.f k ((rd_T24 x5 x7).f0) ((rd_T24 x5 x7).f1) ((rd_T24 x5 x7).f2)).bind fun t105 => (if t105 = 0 then (bits_valid.l0 k x5 x6 (wrap64 (x7 + 1))) else (some false))) else (none)) else (none)) else (some true)
def bits_valid.f (k : Nat) (l0 : List (S24)) : Option (Bool) := bits_valid.l0 k l0 (l0.length : Int) 0
theorem bits_valid.mono_l : ∀ k, (∀ y0 y1 y2, LeO (bits_valid.l0 k y0 y1 y2) (bits_valid.l0 (k + 1) y0 y1 y2))
 | 0 => fun _ _ _ r h => by simp [bits_valid.l0] at h
 | k + 1 => by
  have ih0 := bits_valid.mono_l k
  ·intro y0 y1 y2
   unfold bits_valid.l0
   repeat' first | with_reducible exact ih0 _ _ _ | with_reducible exact bits_Check.mono _ _ _ _ | with_reducible exact LeO.refl _ | with_reducible exact LeO.none _ | with_reducible refine LeO.ite ?_ ?_ | with_reducible refine LeO.bind ?_ (fun _ => ?_)
theorem bits_valid.mono : ∀ a0 k, LeO (bits_valid.f k a0) (bits_valid.f (k + 1) a0) := by
 intro a0 k
 have ih0 := bits_valid.mono_l k
 unfold bits_valid.f
 repeat' first | with_reducible exact ih0 _ _ _ | with_reducible exact bits_Check.mono _ _ _ _ | with_reducible exact LeO.refl _ | with_reducible exact LeO.none _ | with_reducible refine LeO.ite ?_ ?_ | with_reducible refine LeO.bind ?_ (fun _ => ?_)
set_option maxHeartbeats 8000000 in
set_option maxRecDepth 100000 in
theorem bits_valid.calls (k : Nat) (A0 : Option Addr) (c0 : Nat) (l0 : List (S24)) (r : Bool) (w : World) (hr0 : Kd.C k24 w A0 l0.length l0) (hc0 : l0.length ≤ c0) (h : bits_valid.f k l0 = some r) :
  Calls Tryz.prog 15 #[.slice A0 l0.length c0] w fun e w' => e = .returned (.bool r) ∧ Below w.heap.size w w' := by
 have hu24 := Tryz.underlying24
 have HR0 := Aside0.mk hr0
 have HC0 := Aside0.mk hc0
 clear hr0 hc0
 have HB := Aside0.mk (Below.refl w.heap.size w)
 have H := h
 clear h
 unfold bits_valid.f at H
 have H' := Aside0.mk H
 clear H
 go_enter Tryz.func15, Tryz.ntmps15
 go_wp2
 go_loopg [7] k (fun kq v7 w' => ∃ (x7_1 : Int), v7 = .int .i64 x7_1 ∧ Aside0 (bits_valid.l0 kq l0 (l0.length : Int) x7_1 = some r) ∧ Aside0 (kq ≤ k) ∧ Aside0 (Below w.heap.size w w'))
 case atStart => exact ⟨(0), (by rfl), H', ⟨Nat.le_refl _⟩, ⟨by repeat (with_reducible exact HB.out)⟩⟩
 case round =>
  clear H'
  try clear c1
  obtain ⟨x7_1, rfl, HA, HK1, HB⟩ := hrel
  cases gk with
  | zero => exact absurd HA.out (by simp [bits_valid.l0])
  | succ k1 =>
   have H := HA.out
   clear HA
   simp only [bits_valid.l0] at H
   replace H := iD H; rcases H with ⟨c2b0, H⟩ | ⟨c2b0, H⟩
   ·replace H := iN H; obtain ⟨c3b0, H⟩ := H
    replace H := iN H; obtain ⟨c4b0, H⟩ := H
    replace H := bN H; obtain ⟨t105, A5, H⟩ := H
    replace H := iE H; rcases H with ⟨c6b0, c6b1, H⟩ | ⟨c6, c6b0, c6b1, H⟩
    ·have H' := Aside0.mk H
     clear H
     have p103 : 0 ≤ (x7_1 : Int) := of_decide_eq_true (by (with_reducible assumption))
     have q103 : x7_1 < (l0.length : Int) := of_decide_eq_true (by (with_reducible assumption))
     obtain ⟨ad103, e103, hx103_0, hx103_1, hx103_2⟩ := at_T24 HR0.out x7_1 p103 q103
     cases e103
     replace hx103_0 := (HB.out.cell (World.block_lt_of_cell? w _ hx103_0)).trans hx103_0
     replace hx103_1 := (HB.out.cell (World.block_lt_of_cell? w _ hx103_1)).trans hx103_1
     replace hx103_2 := (HB.out.cell (World.block_lt_of_cell? w _ hx103_2)).trans hx103_2
     replace p103 := eq_true p103
     replace q103 := eq_true q103
     go_wp2_with (first | (refine boxA HB 4 #[.int .i64 0, .int .u64 0, .int .u64 0] 24 ?_; clear HB; intro gb104 w7 BK104 GE104 hg hb HB; clear hb hg; obtain ⟨hcz8_0, hcz8_1, hcz8_2, hfz8_0, hfz8_1, hfz8_2⟩ := cf3 BK104) | (refine callA (some 12) Tryz.func28 #[.agg #[.int .i64 ((rd_T24 l0 x7_1).f0), .int .u64 ((rd_T24 l0 x7_1).f1), .int .u64 ((rd_T24 l0 x7_1).f2)]] ?_; (with_reducible refine (bits_Check.calls k1 ((rd_T24 l0 x7_1).f0) ((rd_T24 l0 x7_1).f1) ((rd_T24 l0 x7_1).f2) t105 _ A5.out).mono ?_); rintro e w9 ⟨rfl, hb⟩; refine ⟨_, rfl, ?_⟩; replace BK104 := Aside0.mk (blk_below (g := gb104) (o := .cells #[.int .i64 ((rd_T24 l0 x7_1).f0), .int .u64 ((rd_T24 l0 x7_1).f1), .int .u64 ((rd_T24 l0 x7_1).f2)] 24 (0, 0)) (by refine blk_put (cs := #[.int .i64 ((rd_T24 l0 x7_1).f0), .int .u64 ((rd_T24 l0 x7_1).f1), .int .u64 0]) ?_ 2 _ rfl; refine blk_put (cs := #[.int .i64 ((rd_T24 l0 x7_1).f0), .int .u64 0, .int .u64 0]) ?_ 1 _ rfl; refine blk_put (cs := #[.int .i64 0, .int .u64 0, .int .u64 0]) ?_ 0 _ rfl; exact BK104.out) hb); replace HB := hb1 HB hb; (try clear hb)))
     go_roundg k1
     case measure => have := HK1.out; omega
     case rel => exact ⟨(wrap64 (x7_1 + 1)), (by rfl), H', ⟨by have := HK1.out; omega⟩, ⟨by repeat (with_reducible exact HB.out)⟩⟩
    ·obtain rfl := Option.some.inj H
     have p103 : 0 ≤ (x7_1 : Int) := of_decide_eq_true (by (with_reducible assumption))
     have q103 : x7_1 < (l0.length : Int) := of_decide_eq_true (by (with_reducible assumption))
     obtain ⟨ad103, e103, hx103_0, hx103_1, hx103_2⟩ := at_T24 HR0.out x7_1 p103 q103
     cases e103
     replace hx103_0 := (HB.out.cell (World.block_lt_of_cell? w _ hx103_0)).trans hx103_0
     replace hx103_1 := (HB.out.cell (World.block_lt_of_cell? w _ hx103_1)).trans hx103_1
     replace hx103_2 := (HB.out.cell (World.block_lt_of_cell? w _ hx103_2)).trans hx103_2
     replace p103 := eq_true p103
     replace q103 := eq_true q103
     go_wp2_with (first | (refine boxA HB 4 #[.int .i64 0, .int .u64 0, .int .u64 0] 24 ?_; clear HB; intro gb104 w10 BK104 GE104 hg hb HB; clear hb hg; obtain ⟨hcz11_0, hcz11_1, hcz11_2, hfz11_0, hfz11_1, hfz11_2⟩ := cf3 BK104) | (refine callA (some 12) Tryz.func28 #[.agg #[.int .i64 ((rd_T24 l0 x7_1).f0), .int .u64 ((rd_T24 l0 x7_1).f1), .int .u64 ((rd_T24 l0 x7_1).f2)]] ?_; (with_reducible refine (bits_Check.calls k1 ((rd_T24 l0 x7_1).f0) ((rd_T24 l0 x7_1).f1) ((rd_T24 l0 x7_1).f2) t105 _ A5.out).mono ?_); rintro e w12 ⟨rfl, hb⟩; refine ⟨_, rfl, ?_⟩; replace BK104 := Aside0.mk (blk_below (g := gb104) (o := .cells #[.int .i64 ((rd_T24 l0 x7_1).f0), .int .u64 ((rd_T24 l0 x7_1).f1), .int .u64 ((rd_T24 l0 x7_1).f2)] 24 (0, 0)) (by refine blk_put (cs := #[.int .i64 ((rd_T24 l0 x7_1).f0), .int .u64 ((rd_T24 l0 x7_1).f1), .int .u64 0]) ?_ 2 _ rfl; refine blk_put (cs := #[.int .i64 ((rd_T24 l0 x7_1).f0), .int .u64 0, .int .u64 0]) ?_ 1 _ rfl; refine blk_put (cs := #[.int .i64 0, .int .u64 0, .int .u64 0]) ?_ 0 _ rfl; exact BK104.out) hb); replace HB := hb1 HB hb; (try clear hb)))
     go_ret
     exact ⟨by rfl, by repeat (with_reducible exact HB.out)⟩
   ·obtain rfl := Option.some.inj H
    go_wp2
    go_ret
    exact ⟨by rfl, by repeat (with_reducible exact HB.out)⟩
end Go.Proofs.YtfigblfjogpojaaGreatDoor.PBits
end
section
namespace Go.Proofs.YtfigblfjogpojaaGreatDoor.PBits
open Go.RowKit Go.Proofs.YtfigblfjogpojaaGreatDoorW.PrintWords Go.Proofs.YtfigblfjogpojaaGreatDoorW.PrintLast Go.Proofs.YtfigblfjogpojaaGreatDoorW.PrintMore
attribute [local go_sem] max2_int min2_int max_two min_two max_three min_three max_four min_four
set_option linter.unusedVariables false
set_option linter.unusedSimpArgs false
def bits_alike.f (k : Nat) (a0_0 : Int) (a0_1 : Int) (a0_2 : Int) (a1_0 : Int) (a1_1 : Int) (a1_2 : Int) : Option (Bool) := (bits_valid.f k (([(⟨a0_0, a0_1, a0_2⟩ : S24), (⟨a1_0, a1_1, a1_2⟩ : S24)] : List (S24)))).bind fun t482 => (if t482 = true then (some (a0_0 == a1_0)) else (some false))
theorem bits_alike.mono : ∀ a0 a1 a2 a3 a4 a5 k, LeO (bits_alike.f k a0 a1 a2 a3 a4 a5) (bits_alike.f (k + 1) a0 a1 a2 a3 a4 a5) := by
 intro a0 a1 a2 a3 a4 a5 k
 unfold bits_alike.f
 repeat' first | with_reducible exact bits_valid.mono _ _ | with_reducible exact LeO.refl _ | with_reducible exact LeO.none _ | with_reducible refine LeO.ite ?_ ?_ | with_reducible refine LeO.bind ?_ (fun _ => ?_)
set_option maxHeartbeats 8000000 in
set_option maxRecDepth 100000 in
theorem bits_alike.calls (k : Nat) (a0_0 : Int) (a0_1 : Int) (a0_2 : Int) (a1_0 : Int) (a1_1 : Int) (a1_2 : Int) (r : Bool) (w : World) (h : bits_alike.f k a0_0 a0_1 a0_2 a1_0 a1_1 a1_2 = some r) :
  Calls Tryz.prog 82 #[.agg #[.int .i64 a0_0, .int .u64 a0_1, .int .u64 a0_2], .agg #[.int .i64 a1_0, .int .u64 a1_1, .int .u64 a1_2]] w fun e w' => e = .returned (.bool r) ∧ Below w.heap.size w w' := by
 have hu24 := Tryz.underlying24
 have HB := Aside0.mk (Below.refl w.heap.size w)
 have H := h
 clear h
 unfold bits_alike.f at H
 obtain ⟨y479, hy479⟩ : ∃ y_ : List (S24), y_ = ([(⟨a0_0, a0_1, a0_2⟩ : S24), (⟨a1_0, a1_1, a1_2⟩ : S24)] : List (S24)) := ⟨_, rfl⟩
 replace H : ((bits_valid.f k y479).bind fun t482 => (if t482 = true then (some (a0_0 == a1_0)) else (some false))) = some r := by (rw [hy479]; with_reducible exact H)
 have Ny479 := Aside0.mk hy479
 clear hy479
 replace H := bN H; obtain ⟨t482, A3, H⟩ := H
 replace H := iB H; rcases H with ⟨rfl, H⟩ | ⟨rfl, H⟩
 ·obtain rfl := Option.some.inj H
  go_enter Tryz.func82, Tryz.ntmps82
  go_wp2_with (first | (refine boxA HB 2 #[.int .i64 a0_0, .int .u64 a0_1, .int .u64 a0_2] 24 ?_; clear HB; intro gb477 w5 BK477 GE477 hg hb HB; clear hb hg) | (refine boxA HB 3 #[.int .i64 a1_0, .int .u64 a1_1, .int .u64 a1_2] 24 ?_; clear HB; intro gb478 w6 BK478 GE478 hg hb HB; have NB477_478 := nbA BK477 hg; have NB478_477 := nbB BK477 hg; replace BK477 := bk1 BK477 hb; clear hb hg; have hnb7 := NB477_478.out; have hnc7 := NB478_477.out; obtain ⟨hcz8_0, hcz8_1, hcz8_2, hfz8_0, hfz8_1, hfz8_2⟩ := cf3 BK477; obtain ⟨hcz9_0, hcz9_1, hcz9_2, hfz9_0, hfz9_1, hfz9_2⟩ := cf3 BK478) | ((with_reducible refine gate_dst (N := 7) rfl ?_); refine Kd.R_lit k24 _ 24 ?hg (N := 7) ?hd (xs := ([(⟨a0_0, a0_1, a0_2⟩ : S24), (⟨a1_0, a1_1, a1_2⟩ : S24)] : List (S24))) (inner := [.int .i64 a0_0, .int .u64 a0_1, .int .u64 a0_2, .int .i64 a1_0, .int .u64 a1_1, .int .u64 a1_2]) (ok := fun _ => True) (okp := fun _ => True) ?hr ?hp (fun _ hk => hk) trivial (Below.refl _ _) (Nat.le_refl _) (by simp) ?_; (case hd => rfl); (case hg => rfl); (case hr => (go_simp; done)); (case hp => exact (Reps.c3 (show Kd.M k24 _ _ _ (⟨a0_0, a0_1, a0_2⟩ : S24) [.int .i64 a0_0, .int .u64 a0_1, .int .u64 a0_2] from (k24_mkM _ _ _ (⟨a0_0, a0_1, a0_2⟩ : S24) )) (Reps.c3 (show Kd.M k24 _ _ _ (⟨a1_0, a1_1, a1_2⟩ : S24) [.int .i64 a1_0, .int .u64 a1_1, .int .u64 a1_2] from (k24_mkM _ _ _ (⟨a1_0, a1_1, a1_2⟩ : S24) )) (Reps.none _ _)))); intro v480 w10 ho11 hb hg_ hnew_; clear hg_ hnew_; (rw [← Ny479.out] at ho11); have HO481 := Aside0.mk (Kd.R_lower (Kd.R_newB (Kd.R_newB ho11 BK477.out) BK478.out) (below_size HB.out)); replace BK477 := bk1 BK477 hb; replace BK478 := bk1 BK478 hb; replace HB := hb1 HB hb; clear hb ho11; obtain ⟨Ao12, co12, eo12⟩ := Kd.R_slice HO481.out; subst eo12) | (refine callA (some 8) Tryz.func15 #[.slice Ao12 y479.length co12] ?_; (with_reducible refine (bits_valid.calls k _ _ y479 true _ ?side1 ?side2 A3.out).mono ?_); (case side1 => exact (Kd.R_reads' HO481.out).2.2); (case side2 => exact (Kd.R_reads' HO481.out).2.1); rintro e w13 ⟨rfl, hb⟩; refine ⟨_, rfl, ?_⟩; replace HO481 := Kd.rb1 HO481 hb; replace BK477 := bk1 BK477 hb; replace BK478 := bk1 BK478 hb; replace HB := hb1 HB hb; (try clear hb); obtain ⟨hcz14_0, hcz14_1, hcz14_2, hfz14_0, hfz14_1, hfz14_2⟩ := cf3 BK477; obtain ⟨hcz15_0, hcz15_1, hcz15_2, hfz15_0, hfz15_1, hfz15_2⟩ := cf3 BK478))
  go_ret
  exact ⟨by rfl, by repeat (with_reducible exact HB.out)⟩
 ·obtain rfl := Option.some.inj H
  go_enter Tryz.func82, Tryz.ntmps82
  go_wp2_with (first | (refine boxA HB 2 #[.int .i64 a0_0, .int .u64 a0_1, .int .u64 a0_2] 24 ?_; clear HB; intro gb477 w16 BK477 GE477 hg hb HB; clear hb hg) | (refine boxA HB 3 #[.int .i64 a1_0, .int .u64 a1_1, .int .u64 a1_2] 24 ?_; clear HB; intro gb478 w17 BK478 GE478 hg hb HB; have NB477_478 := nbA BK477 hg; have NB478_477 := nbB BK477 hg; replace BK477 := bk1 BK477 hb; clear hb hg; have hnb18 := NB477_478.out; have hnc18 := NB478_477.out; obtain ⟨hcz19_0, hcz19_1, hcz19_2, hfz19_0, hfz19_1, hfz19_2⟩ := cf3 BK477; obtain ⟨hcz20_0, hcz20_1, hcz20_2, hfz20_0, hfz20_1, hfz20_2⟩ := cf3 BK478) | ((with_reducible refine gate_dst (N := 7) rfl ?_); refine Kd.R_lit k24 _ 24 ?hg (N := 7) ?hd (xs := ([(⟨a0_0, a0_1, a0_2⟩ : S24), (⟨a1_0, a1_1, a1_2⟩ : S24)] : List (S24))) (inner := [.int .i64 a0_0, .int .u64 a0_1, .int .u64 a0_2, .int .i64 a1_0, .int .u64 a1_1, .int .u64 a1_2]) (ok := fun _ => True) (okp := fun _ => True) ?hr ?hp (fun _ hk => hk) trivial (Below.refl _ _) (Nat.le_refl _) (by simp) ?_; (case hd => rfl); (case hg => rfl); (case hr => (go_simp; done)); (case hp => exact (Reps.c3 (show Kd.M k24 _ _ _ (⟨a0_0, a0_1, a0_2⟩ : S24) [.int .i64 a0_0, .int .u64 a0_1, .int .u64 a0_2] from (k24_mkM _ _ _ (⟨a0_0, a0_1, a0_2⟩ : S24) )) (Reps.c3 (show Kd.M k24 _ _ _ (⟨a1_0, a1_1, a1_2⟩ : S24) [.int .i64 a1_0, .int .u64 a1_1, .int .u64 a1_2] from (k24_mkM _ _ _ (⟨a1_0, a1_1, a1_2⟩ : S24) )) (Reps.none _ _)))); intro v480 w21 ho22 hb hg_ hnew_; clear hg_ hnew_; (rw [← Ny479.out] at ho22); have HO481 := Aside0.mk (Kd.R_lower (Kd.R_newB (Kd.R_newB ho22 BK477.out) BK478.out) (below_size HB.out)); replace BK477 := bk1 BK477 hb; replace BK478 := bk1 BK478 hb; replace HB := hb1 HB hb; clear hb ho22; obtain ⟨Ao23, co23, eo23⟩ := Kd.R_slice HO481.out; subst eo23) | (refine callA (some 8) Tryz.func15 #[.slice Ao23 y479.length co23] ?_; (with_reducible refine (bits_valid.calls k _ _ y479 false _ ?side1 ?side2 A3.out).mono ?_); (case side1 => exact (Kd.R_reads' HO481.out).2.2); (case side2 => exact (Kd.R_reads' HO481.out).2.1); rintro e w24 ⟨rfl, hb⟩; refine ⟨_, rfl, ?_⟩; replace HO481 := Kd.rb1 HO481 hb; replace BK477 := bk1 BK477 hb; replace BK478 := bk1 BK478 hb; replace HB := hb1 HB hb; (try clear hb)))
  go_ret
  exact ⟨by rfl, by repeat (with_reducible exact HB.out)⟩
end Go.Proofs.YtfigblfjogpojaaGreatDoor.PBits
end
section
namespace Go.Proofs.YtfigblfjogpojaaGreatDoor.PBits
open Go.RowKit Go.Proofs.YtfigblfjogpojaaGreatDoorW.PrintWords Go.Proofs.YtfigblfjogpojaaGreatDoorW.PrintLast Go.Proofs.YtfigblfjogpojaaGreatDoorW.PrintMore
attribute [local go_sem] max2_int min2_int max_two min_two max_three min_three max_four min_four
set_option linter.unusedVariables false
set_option linter.unusedSimpArgs false
mutual
def maskref1_B.j0 : Nat → List Int → Bool → Option (Int × Int × Int)
 | 0, _, _ => none
 | k + 1, x0, x13 => if x13 = true then (some (0, 0, 0)) else (maskref1_B.l0 k x0 (x0.length : Int) 0 (x0.length : Int) 0 0)
def maskref1_B.l0 : Nat → List Int → Int → Int → Int → Int → Int → Option (Int × Int × Int)
 | 0, _, _, _, _, _, _ => none
 | k + 1, x18, x19, x20, x179000, x179001, x179002 => if x20 < x19 then (if 0 ≤ x20 then (if x20 < (x18.length : Int) then (if (rd x18 x20) = 49 then (maskref1_B.j2 k x20 (rd x18 x20) x18 x19 x20 true x179000 x179001 x179002) else (maskref1_B.j2 k x20 (rd x18 x20) x18 x19 x20 ((rd x18 x20) == 120) x179000 x179001 x179002)) else (none)) else (none)) else (some (x179000, x179001, x179002))
def maskref1_B.j2 : Nat → Int → Int → List Int → Int → Int → Bool → Int → Int → Int → Option (Int × Int × Int)
 | 0, _, _, _, _, _, _, _, _, _ => none
 | k + 1, x4, x5, x18, x19, x20, x30, x179000, x179001, x179002 => if x30 = true then (if 0 ≤ x4 then (maskref1_B.j3 k x4 x5 x18 x19 x20 x179000 (Go.bits .or .u64 x179001 (shl .u64 1 x4)) x179002) else (none)) else (maskref1_B.j3 k x4 x5 x18 x19 x20 x179000 x179001 x179002)
def maskref1_B.j3 : Nat → Int → Int → List Int → Int → Int → Int → Int → Int → Option (Int × Int × Int)
 | 0, _, _, _, _, _, _, _, _ => none
 | k + 1, x4, x5, x18, x19, x20, x179000, x179001, x179002 => if x5 = 120 then (if 0 ≤ x4 then (maskref1_B.l0 k x18 x19 (wrap64 (x20 + 1)) x179000 x179001 (Go.bits .or .u64 x179002 (shl .u64 1 x4))) else (none)) else (if x5 = 122 then (if 0 ≤ x4 then (maskref1_B.l0 k x18 x19 (wrap64 (x20 + 1)) x179000 x179001 (Go.bits .or .u64 x179002 (shl .u64 1 x4))) else (none)) else (maskref1_B.l0 k x18 x19 (wrap64 (x20 + 1)) x179000 x179001 x179002))
end
def maskref1_B.f (k : Nat) (l0 : List Int) : Option (Int × Int × Int) := if (l0.length : Int) < 1 then (maskref1_B.j0 k l0 true) else (maskref1_B.j0 k l0 (decide ((l0.length : Int) > 64)))
set_option maxHeartbeats 8000000 in
set_option maxRecDepth 100000 in
theorem maskref1_B.calls (k : Nat) (A0 : Option Addr) (c0 : Nat) (l0 : List Int) (r1 : Int) (r2 : Int) (r3 : Int) (w : World) (hr0 : Kd.C (Kd.int .u8) w A0 l0.length l0) (hc0 : l0.length ≤ c0) (h : maskref1_B.f k l0 = some (r1, r2, r3)) :
  Calls Tryz.prog 10 #[.slice A0 l0.length c0] w fun e w' => e = .returned (.agg #[.int .i64 r1, .int .u64 r2, .int .u64 r3]) ∧ Below w.heap.size w w' := by
 have hu24 := Tryz.underlying24
 have HR0 := Aside0.mk hr0
 have HC0 := Aside0.mk hc0
 clear hr0 hc0
 have HB := Aside0.mk (Below.refl w.heap.size w)
 have H := h
 clear h
 unfold maskref1_B.f at H
 have HC2 := Aside0.mk H
 clear H
 go_enter Tryz.func10, Tryz.ntmps10
 go_upto_region 1 with (((with_reducible refine gate_dst (N := 2) rfl ?_); (try (refine gate_guard (by rfl) ?_; dsimp only)); refine boxA HB 2 #[.int .i64 0, .int .u64 0, .int .u64 0] 24 ?_; clear HB; intro gb177 w3 BK177 GE177 hg hb HB; clear hb hg))
 (try simp only [Act.put, List.setIfInBounds_toArray, List.set_cons_zero, List.set_cons_succ])
 go_cut [13] (fun v13 wc => ∃ (kq : Nat) (x13_1 : Bool), v13 = .bool x13_1 ∧ Aside0 (maskref1_B.j0 kq l0 x13_1 = some (r1, r2, r3)) ∧ Aside0 (kq ≤ k) ∧ Aside0 (wc.heap[gb177]? = some (.cells #[.int .i64 0, .int .u64 0, .int .u64 0] 24 (0, 0))) ∧ Aside0 (Below w.heap.size w wc))
 case first =>
  have H := HC2.out
  clear HC2
  by_cases c4 : (l0.length : Int) < 1
  ·rw [if_pos c4] at H
   have c4b0 : decide ((l0.length : Int) < 1) = true := decide_eq_true c4
   have c4b1 : decide (l0.length < 1) = true := decide_eq_true (by omega)
   clear c4
   (skip)
   have H' := Aside0.mk H
   clear H
   go_wp2
   go_meet
   case rel => exact ⟨_, (true), (by rfl), H', ⟨by omega⟩, ⟨by exact BK177.out⟩, ⟨by repeat (with_reducible exact HB.out)⟩⟩
  ·rw [if_neg c4] at H
   have c4b0 : decide ((l0.length : Int) < 1) = false := decide_eq_false c4
   have c4b1 : decide (l0.length < 1) = false := decide_eq_false (by omega)
   clear c4
   (skip)
   have H' := Aside0.mk H
   clear H
   go_wp2
   go_meet
   case rel => exact ⟨_, (decide ((l0.length : Int) > 64)), (by rfl), H', ⟨by omega⟩, ⟨by exact BK177.out⟩, ⟨by repeat (with_reducible exact HB.out)⟩⟩
 case rest =>
  clear HC2
  obtain ⟨kq, x13_1, rfl, HA, HJ1, BK177, HB⟩ := hcut
  cases kq with
  | zero => exact absurd HA.out (by simp [maskref1_B.j0])
  | succ kj1 =>
   have H := HA.out
   clear HA
   simp only [maskref1_B.j0] at H
   replace H := iB H; rcases H with ⟨rfl, H⟩ | ⟨rfl, H⟩
   ·replace H := s3 H; obtain ⟨rfl, rfl, rfl⟩ := H
    obtain ⟨hcz6_0, hcz6_1, hcz6_2, hfz6_0, hfz6_1, hfz6_2⟩ := cf3 BK177
    go_wp2
    refine retA gb177 24 #[.int .i64 0, .int .u64 0, .int .u64 0] (put3 BK177) Tryz.underlying24 ?_
    exact ⟨by rfl, by repeat (with_reducible first | exact HB.out | refine below_set ?_ GE177.out)⟩
   ·have H' := Aside0.mk H
    clear H
    go_wp2_with (((with_reducible refine gate_dst (N := 3) rfl ?_); (try (refine gate_guard (by rfl) ?_; dsimp only)); refine boxA HB 3 #[.int .i64 0, .int .u64 0, .int .u64 0] 24 ?_; clear HB; intro gb178 w7 BK178 GE178 hg hb HB; have NB177_178 := nbA BK177 hg; have NB178_177 := nbB BK177 hg; replace BK177 := bk1 BK177 hb; clear hb hg; have hnb8 := NB178_177.out; have hnc8 := NB177_178.out; obtain ⟨hcz9_0, hcz9_1, hcz9_2, hfz9_0, hfz9_1, hfz9_2⟩ := cf3 BK178))
    go_loopg [20] kj1 (fun kq v20 w' => ∃ (x20_2 : Int) (x179001_2 : Int) (x179002_2 : Int), v20 = .int .i64 x20_2 ∧ Aside0 (maskref1_B.l0 kq l0 (l0.length : Int) x20_2 (l0.length : Int) x179001_2 x179002_2 = some (r1, r2, r3)) ∧ Aside0 (kq ≤ kj1) ∧ Aside0 (w'.heap[gb177]? = some (.cells #[.int .i64 0, .int .u64 0, .int .u64 0] 24 (0, 0))) ∧ Aside0 (w'.heap[gb178]? = some (.cells #[.int .i64 (l0.length : Int), .int .u64 x179001_2, .int .u64 x179002_2] 24 (0, 0))) ∧ Aside0 (Below w.heap.size w w'))
    case atStart => exact ⟨(0), (0), (0), (by rfl), H', ⟨Nat.le_refl _⟩, ⟨by refine blk_far ?_ NB177_178.out _; refine blk_far ?_ NB177_178.out _; refine blk_far ?_ NB177_178.out _; exact BK177.out⟩, ⟨by refine blk_put (cs := #[.int .i64 (l0.length : Int), .int .u64 0, .int .u64 0]) ?_ 2 _ rfl; refine blk_put (cs := #[.int .i64 (l0.length : Int), .int .u64 0, .int .u64 0]) ?_ 1 _ rfl; refine blk_put (cs := #[.int .i64 0, .int .u64 0, .int .u64 0]) ?_ 0 _ rfl; exact BK178.out⟩, ⟨by repeat (with_reducible first | exact HB.out | refine below_set ?_ GE178.out)⟩⟩
    case round =>
     clear H'
     (try clear hcz9_0 hcz9_1 hcz9_2); (try clear hfz9_0 hfz9_1 hfz9_2)
     obtain ⟨x20_2, x179001_2, x179002_2, rfl, HA, HK2, BK177, BK178, HB⟩ := hrel
     cases gk with
     | zero => exact absurd HA.out (by simp [maskref1_B.l0])
     | succ k2 =>
      have H := HA.out
      clear HA
      simp only [maskref1_B.l0] at H
      replace H := iD H; rcases H with ⟨c10b0, H⟩ | ⟨c10b0, H⟩
      ·replace H := iN H; obtain ⟨c11b0, H⟩ := H
       replace H := iN H; obtain ⟨c12b0, H⟩ := H
       have HC13 := Aside0.mk H
       clear H
       have p179 : 0 ≤ (x20_2 : Int) := of_decide_eq_true (by (with_reducible assumption))
       have q179 : x20_2 < (l0.length : Int) := of_decide_eq_true (by (with_reducible assumption))
       obtain ⟨ad179, e179, hx179_0⟩ := Kd.at_int HR0.out x20_2 p179 q179
       cases e179
       replace hx179_0 := (HB.out.cell (World.block_lt_of_cell? w _ hx179_0)).trans hx179_0
       replace p179 := eq_true p179
       replace q179 := eq_true q179
       go_upto_region 7 with (fail)
       go_cut [30] (fun v30 wc => ∃ (kq : Nat) (x30_12 : Bool), v30 = .bool x30_12 ∧ Aside0 (maskref1_B.j2 kq x20_2 (rd l0 x20_2) l0 (l0.length : Int) x20_2 x30_12 (l0.length : Int) x179001_2 x179002_2 = some (r1, r2, r3)) ∧ Aside0 (kq ≤ k2) ∧ Aside0 (wc.heap[gb177]? = some (.cells #[.int .i64 0, .int .u64 0, .int .u64 0] 24 (0, 0))) ∧ Aside0 (wc.heap[gb178]? = some (.cells #[.int .i64 (l0.length : Int), .int .u64 x179001_2, .int .u64 x179002_2] 24 (0, 0))) ∧ Aside0 (Below w.heap.size w wc))
       case first =>
        have H := HC13.out
        clear HC13
        replace H := iE H; rcases H with ⟨c14b0, c14b1, H⟩ | ⟨c14, c14b0, c14b1, H⟩
        ·(skip)
         have H' := Aside0.mk H
         clear H
         go_wp2
         go_meet
         case rel => exact ⟨_, (true), (by rfl), H', ⟨by have := HJ1.out; have := HK2.out; omega⟩, ⟨by exact BK177.out⟩, ⟨by exact BK178.out⟩, ⟨by repeat (with_reducible exact HB.out)⟩⟩
        ·(skip)
         have H' := Aside0.mk H
         clear H
         go_wp2
         go_meet
         case rel => exact ⟨_, ((rd l0 x20_2) == 120), (by rfl), H', ⟨by have := HJ1.out; have := HK2.out; omega⟩, ⟨by exact BK177.out⟩, ⟨by exact BK178.out⟩, ⟨by repeat (with_reducible exact HB.out)⟩⟩
       case rest =>
        clear HC13
        (try clear c10b0); (try clear c11b0); (try clear c12b0); (try clear hx179_0); (try clear p179); (try clear q179)
        obtain ⟨kq, x30_12, rfl, HA, HJ12, BK177, BK178, HB⟩ := hcut
        cases kq with
        | zero => exact absurd HA.out (by simp [maskref1_B.j2])
        | succ kj12 =>
         have H := HA.out
         clear HA
         simp only [maskref1_B.j2] at H
         have HC15 := Aside0.mk H
         clear H
         go_upto_if 30 with (fail)
         go_cut [] (fun wc => ∃ (kq : Nat) (x179001_14 : Int), Aside0 (maskref1_B.j3 kq x20_2 (rd l0 x20_2) l0 (l0.length : Int) x20_2 (l0.length : Int) x179001_14 x179002_2 = some (r1, r2, r3)) ∧ Aside0 (kq ≤ kj12) ∧ Aside0 (wc.heap[gb177]? = some (.cells #[.int .i64 0, .int .u64 0, .int .u64 0] 24 (0, 0))) ∧ Aside0 (wc.heap[gb178]? = some (.cells #[.int .i64 (l0.length : Int), .int .u64 x179001_14, .int .u64 x179002_2] 24 (0, 0))) ∧ Aside0 (Below w.heap.size w wc))
         case first =>
          have H := HC15.out
          clear HC15
          replace H := iB H; rcases H with ⟨rfl, H⟩ | ⟨rfl, H⟩
          ·by_cases c17 : 0 ≤ x20_2
           ·rw [if_pos c17] at H
            have c17b0 := eq_true c17
            have c17b1 : decide (0 ≤ x20_2) = true := decide_eq_true c17
            clear c17
            obtain ⟨ji18, hji18⟩ : ∃ j_ : Int, (shl .u64 1 x20_2) = j_ := ⟨_, rfl⟩
            replace H : (maskref1_B.j3 kj12 x20_2 (rd l0 x20_2) l0 (l0.length : Int) x20_2 (l0.length : Int) (Go.bits .or .u64 x179001_2 (ji18)) x179002_2) = some (r1, r2, r3) := by (rw [hji18] at H; exact H)
            have hji18_ : (IntKind.u64.wrap (1 * 2 ^ min x20_2.toNat 64)) = ji18 := hji18
            have hji18z : x20_2 ≤ 64 → (IntKind.u64.wrap (1 * 2 ^ x20_2.toNat)) = ji18 := shl_small hji18
            have hji18u : (IntKind.u64.wrap (2 ^ min x20_2.toNat 64)) = ji18 := by have h_ := hji18_; rw [Int.one_mul] at h_; exact h_
            have hji18v : x20_2 ≤ 64 → (IntKind.u64.wrap (2 ^ x20_2.toNat)) = ji18 := fun hle_ => by have h_ := hji18z hle_; rw [Int.one_mul] at h_; exact h_
            have H' := Aside0.mk H
            clear H
            try go_wp2
            replace BK177 := bkd BK177
            replace BK178 := bkd BK178
            replace HB := hbd HB
            refine start_ (n := 7) (S := fun w' => w'.cell? ⟨gb178, 0, none⟩ = some (.int .i64 (l0.length : Int)) ∧ w'.cell? ⟨gb178, 1, none⟩ = some (.int .u64 x179001_2) ∧ w'.cell? ⟨gb178, 2, none⟩ = some (.int .u64 x179002_2)) (ds := [6]) (tb 7 0) (by kernel_rfl) rfl (by kernel_rfl) (d3 BK178) (fun hHeld => ?_)
            generalize wc.drew = w19 at BK177 BK178 HB hHeld ⊢
            refine pure_ (i := 0) (N := some 31) (v := ?_) (a' := ?_) #[true, false, false, false, false, false, false] rfl rfl (by kernel_rfl) (fun _ _ _ h => h) (Or.inl ⟨by rfl, ?_⟩) ?_ ?_
            rotate_left
            ·intro w'
             go_simp
             with_reducible rfl
            rotate_left
            ·simp only [Act.put, List.setIfInBounds_toArray, List.set_cons_zero, List.set_cons_succ, i64_w, i32_w]
             rfl
            refine pure_ (i := 2) (N := some 33) (v := ?_) (a' := ?_) #[true, false, true, false, false, false, false] rfl rfl (by kernel_rfl) (fun _ _ _ h => h) (Or.inl ⟨by rfl, ?_⟩) ?_ ?_
            rotate_left
            ·intro w'
             go_simp
             with_reducible rfl
            rotate_left
            ·simp only [Act.put, List.setIfInBounds_toArray, List.set_cons_zero, List.set_cons_succ, i64_w, i32_w]
             rfl
            refine pure_ (i := 3) (N := some 34) (v := ?_) (a' := ?_) #[true, false, true, true, false, false, false] rfl rfl (by kernel_rfl) (fun _ _ _ h => h) (Or.inl ⟨by rfl, ?_⟩) ?_ ?_
            rotate_left
            ·intro w'
             go_simp
             with_reducible rfl
            rotate_left
            ·simp only [Act.put, List.setIfInBounds_toArray, List.set_cons_zero, List.set_cons_succ, i64_w, i32_w]
             rfl
            refine take_ (i := 1) (N := some 32) (v := ?_) (a' := ?_) #[true, true, true, true, false, false, false] rfl rfl (by kernel_rfl) (fun _ _ _ h => h) (Or.inl ⟨by rfl, ?_⟩) hHeld ?_ ?_
            rotate_left
            ·rintro w' ⟨s0, s1, s2⟩
             go_simp
             with_reducible rfl
            rotate_left
            ·simp only [Act.put, List.setIfInBounds_toArray, List.set_cons_zero, List.set_cons_succ, i64_w, i32_w]
             rfl
            refine pure_ (i := 4) (N := some 35) (v := ?_) (a' := ?_) #[true, true, true, true, true, false, false] rfl rfl (by kernel_rfl) (fun _ _ _ h => h) (Or.inl ⟨by rfl, ?_⟩) ?_ ?_
            rotate_left
            ·intro w'
             go_simp
             with_reducible rfl
            rotate_left
            ·simp only [Act.put, List.setIfInBounds_toArray, List.set_cons_zero, List.set_cons_succ, i64_w, i32_w]
             rfl
            refine pure_ (i := 5) (N := some 36) (v := ?_) (a' := ?_) #[true, true, true, true, true, true, false] rfl rfl (by kernel_rfl) (fun _ _ _ h => h) (Or.inl ⟨by rfl, ?_⟩) ?_ ?_
            rotate_left
            ·intro w'
             go_simp
             with_reducible rfl
            rotate_left
            ·simp only [Act.put, List.setIfInBounds_toArray, List.set_cons_zero, List.set_cons_succ, i64_w, i32_w]
             rfl
            refine last_ (i := 6) (N := none) #[true, true, true, true, true, true, true] rfl rfl (by kernel_rfl) (by decide) (fun K hK => ?_)
            have hs20 : w19.cell? ⟨gb178, 1, none⟩ = some (.int .u64 x179001_2) := (blk_cell BK178.out 1).trans rfl
            have hfs20 := blk_frozen BK178.out 1
            have hns20_0 := NB177_178.out
            have hms20_0 := NB178_177.out
            refine skip_ (w1 := ?_) (by rfl) rfl ?_ ?_
            rotate_left
            ·go_simp
             rfl
            refine hK.out _ _ ?_
            clear hK K
            refine done_ (by kernel_rfl) ?_
            try go_wp2
            go_meet
            case rel => exact ⟨_, (Go.bits .or .u64 x179001_2 (ji18)), H', ⟨by have := HJ1.out; have := HK2.out; have := HJ12.out; omega⟩, ⟨by refine blk_far ?_ NB177_178.out _; exact BK177.out⟩, ⟨by refine blk_put (cs := #[.int .i64 (l0.length : Int), .int .u64 x179001_2, .int .u64 x179002_2]) ?_ 1 _ rfl; exact BK178.out⟩, ⟨by repeat (with_reducible first | exact HB.out | refine below_set ?_ GE178.out)⟩⟩
           ·rw [if_neg c17] at H
            exact absurd H (by simp)
          ·have H' := Aside0.mk H
           clear H
           go_wp2
           go_meet
           case rel => exact ⟨_, (x179001_2), H', ⟨by have := HJ1.out; have := HK2.out; have := HJ12.out; omega⟩, ⟨by exact BK177.out⟩, ⟨by exact BK178.out⟩, ⟨by repeat (with_reducible exact HB.out)⟩⟩
         case rest =>
          clear HC15
          obtain ⟨kq, x179001_14, HA, HJ14, BK177, BK178, HB⟩ := hcut
          cases kq with
          | zero => exact absurd HA.out (by simp [maskref1_B.j3])
          | succ kj14 =>
           have H := HA.out
           clear HA
           simp only [maskref1_B.j3] at H
           replace H := iE H; rcases H with ⟨c21b0, c21b1, H⟩ | ⟨c21, c21b0, c21b1, H⟩
           ·by_cases c22 : 0 ≤ x20_2
            ·rw [if_pos c22] at H
             have c22b0 := eq_true c22
             have c22b1 : decide (0 ≤ x20_2) = true := decide_eq_true c22
             clear c22
             obtain ⟨ji23, hji23⟩ : ∃ j_ : Int, (shl .u64 1 x20_2) = j_ := ⟨_, rfl⟩
             replace H : (maskref1_B.l0 kj14 l0 (l0.length : Int) (wrap64 (x20_2 + 1)) (l0.length : Int) x179001_14 (Go.bits .or .u64 x179002_2 (ji23))) = some (r1, r2, r3) := by (rw [hji23] at H; exact H)
             have hji23_ : (IntKind.u64.wrap (1 * 2 ^ min x20_2.toNat 64)) = ji23 := hji23
             have hji23z : x20_2 ≤ 64 → (IntKind.u64.wrap (1 * 2 ^ x20_2.toNat)) = ji23 := shl_small hji23
             have hji23u : (IntKind.u64.wrap (2 ^ min x20_2.toNat 64)) = ji23 := by have h_ := hji23_; rw [Int.one_mul] at h_; exact h_
             have hji23v : x20_2 ≤ 64 → (IntKind.u64.wrap (2 ^ x20_2.toNat)) = ji23 := fun hle_ => by have h_ := hji23z hle_; rw [Int.one_mul] at h_; exact h_
             have H' := Aside0.mk H
             clear H
             try go_wp2
             replace BK177 := bkd BK177
             replace BK178 := bkd BK178
             replace HB := hbd HB
             refine start_ (n := 7) (S := fun w' => w'.cell? ⟨gb178, 0, none⟩ = some (.int .i64 (l0.length : Int)) ∧ w'.cell? ⟨gb178, 1, none⟩ = some (.int .u64 x179001_14) ∧ w'.cell? ⟨gb178, 2, none⟩ = some (.int .u64 x179002_2)) (ds := [6]) (tb 7 0) (by kernel_rfl) rfl (by kernel_rfl) (d3 BK178) (fun hHeld => ?_)
             generalize wc.drew = w24 at BK177 BK178 HB hHeld ⊢
             refine pure_ (i := 0) (N := some 43) (v := ?_) (a' := ?_) #[true, false, false, false, false, false, false] rfl rfl (by kernel_rfl) (fun _ _ _ h => h) (Or.inl ⟨by rfl, ?_⟩) ?_ ?_
             rotate_left
             ·intro w'
              go_simp
              with_reducible rfl
             rotate_left
             ·simp only [Act.put, List.setIfInBounds_toArray, List.set_cons_zero, List.set_cons_succ, i64_w, i32_w]
              rfl
             refine pure_ (i := 2) (N := some 45) (v := ?_) (a' := ?_) #[true, false, true, false, false, false, false] rfl rfl (by kernel_rfl) (fun _ _ _ h => h) (Or.inl ⟨by rfl, ?_⟩) ?_ ?_
             rotate_left
             ·intro w'
              go_simp
              with_reducible rfl
             rotate_left
             ·simp only [Act.put, List.setIfInBounds_toArray, List.set_cons_zero, List.set_cons_succ, i64_w, i32_w]
              rfl
             refine pure_ (i := 3) (N := some 46) (v := ?_) (a' := ?_) #[true, false, true, true, false, false, false] rfl rfl (by kernel_rfl) (fun _ _ _ h => h) (Or.inl ⟨by rfl, ?_⟩) ?_ ?_
             rotate_left
             ·intro w'
              go_simp
              with_reducible rfl
             rotate_left
             ·simp only [Act.put, List.setIfInBounds_toArray, List.set_cons_zero, List.set_cons_succ, i64_w, i32_w]
              rfl
             refine take_ (i := 1) (N := some 44) (v := ?_) (a' := ?_) #[true, true, true, true, false, false, false] rfl rfl (by kernel_rfl) (fun _ _ _ h => h) (Or.inl ⟨by rfl, ?_⟩) hHeld ?_ ?_
             rotate_left
             ·rintro w' ⟨s0, s1, s2⟩
              go_simp
              with_reducible rfl
             rotate_left
             ·simp only [Act.put, List.setIfInBounds_toArray, List.set_cons_zero, List.set_cons_succ, i64_w, i32_w]
              rfl
             refine pure_ (i := 4) (N := some 47) (v := ?_) (a' := ?_) #[true, true, true, true, true, false, false] rfl rfl (by kernel_rfl) (fun _ _ _ h => h) (Or.inl ⟨by rfl, ?_⟩) ?_ ?_
             rotate_left
             ·intro w'
              go_simp
              with_reducible rfl
             rotate_left
             ·simp only [Act.put, List.setIfInBounds_toArray, List.set_cons_zero, List.set_cons_succ, i64_w, i32_w]
              rfl
             refine pure_ (i := 5) (N := some 48) (v := ?_) (a' := ?_) #[true, true, true, true, true, true, false] rfl rfl (by kernel_rfl) (fun _ _ _ h => h) (Or.inl ⟨by rfl, ?_⟩) ?_ ?_
             rotate_left
             ·intro w'
              go_simp
              with_reducible rfl
             rotate_left
             ·simp only [Act.put, List.setIfInBounds_toArray, List.set_cons_zero, List.set_cons_succ, i64_w, i32_w]
              rfl
             refine last_ (i := 6) (N := none) #[true, true, true, true, true, true, true] rfl rfl (by kernel_rfl) (by decide) (fun K hK => ?_)
             have hs25 : w24.cell? ⟨gb178, 2, none⟩ = some (.int .u64 x179002_2) := (blk_cell BK178.out 2).trans rfl
             have hfs25 := blk_frozen BK178.out 2
             have hns25_0 := NB177_178.out
             have hms25_0 := NB178_177.out
             refine skip_ (w1 := ?_) (by rfl) rfl ?_ ?_
             rotate_left
             ·go_simp
              rfl
             refine hK.out _ _ ?_
             clear hK K
             refine done_ (by kernel_rfl) ?_
             try go_wp2
             go_roundg kj14
             case measure => have := HJ1.out; have := HK2.out; have := HJ12.out; have := HJ14.out; omega
             case rel => exact ⟨(wrap64 (x20_2 + 1)), (x179001_14), (Go.bits .or .u64 x179002_2 (ji23)), (by rfl), H', ⟨by have := HJ1.out; have := HK2.out; have := HJ12.out; have := HJ14.out; omega⟩, ⟨by refine blk_far ?_ NB177_178.out _; exact BK177.out⟩, ⟨by refine blk_put (cs := #[.int .i64 (l0.length : Int), .int .u64 x179001_14, .int .u64 x179002_2]) ?_ 2 _ rfl; exact BK178.out⟩, ⟨by repeat (with_reducible first | exact HB.out | refine below_set ?_ GE178.out)⟩⟩
            ·rw [if_neg c22] at H
             exact absurd H (by simp)
           ·replace H := iE H; rcases H with ⟨c26b0, c26b1, H⟩ | ⟨c26, c26b0, c26b1, H⟩
            ·by_cases c27 : 0 ≤ x20_2
             ·rw [if_pos c27] at H
              have c27b0 := eq_true c27
              have c27b1 : decide (0 ≤ x20_2) = true := decide_eq_true c27
              clear c27
              obtain ⟨ji28, hji28⟩ : ∃ j_ : Int, (shl .u64 1 x20_2) = j_ := ⟨_, rfl⟩
              replace H : (maskref1_B.l0 kj14 l0 (l0.length : Int) (wrap64 (x20_2 + 1)) (l0.length : Int) x179001_14 (Go.bits .or .u64 x179002_2 (ji28))) = some (r1, r2, r3) := by (rw [hji28] at H; exact H)
              have hji28_ : (IntKind.u64.wrap (1 * 2 ^ min x20_2.toNat 64)) = ji28 := hji28
              have hji28z : x20_2 ≤ 64 → (IntKind.u64.wrap (1 * 2 ^ x20_2.toNat)) = ji28 := shl_small hji28
              have hji28u : (IntKind.u64.wrap (2 ^ min x20_2.toNat 64)) = ji28 := by have h_ := hji28_; rw [Int.one_mul] at h_; exact h_
              have hji28v : x20_2 ≤ 64 → (IntKind.u64.wrap (2 ^ x20_2.toNat)) = ji28 := fun hle_ => by have h_ := hji28z hle_; rw [Int.one_mul] at h_; exact h_
              have H' := Aside0.mk H
              clear H
              try go_wp2
              replace BK177 := bkd BK177
              replace BK178 := bkd BK178
              replace HB := hbd HB
              refine start_ (n := 7) (S := fun w' => w'.cell? ⟨gb178, 0, none⟩ = some (.int .i64 (l0.length : Int)) ∧ w'.cell? ⟨gb178, 1, none⟩ = some (.int .u64 x179001_14) ∧ w'.cell? ⟨gb178, 2, none⟩ = some (.int .u64 x179002_2)) (ds := [6]) (tb 7 0) (by kernel_rfl) rfl (by kernel_rfl) (d3 BK178) (fun hHeld => ?_)
              generalize wc.drew = w29 at BK177 BK178 HB hHeld ⊢
              refine pure_ (i := 0) (N := some 43) (v := ?_) (a' := ?_) #[true, false, false, false, false, false, false] rfl rfl (by kernel_rfl) (fun _ _ _ h => h) (Or.inl ⟨by rfl, ?_⟩) ?_ ?_
              rotate_left
              ·intro w'
               go_simp
               with_reducible rfl
              rotate_left
              ·simp only [Act.put, List.setIfInBounds_toArray, List.set_cons_zero, List.set_cons_succ, i64_w, i32_w]
               rfl
              refine pure_ (i := 2) (N := some 45) (v := ?_) (a' := ?_) #[true, false, true, false, false, false, false] rfl rfl (by kernel_rfl) (fun _ _ _ h => h) (Or.inl ⟨by rfl, ?_⟩) ?_ ?_
              rotate_left
              ·intro w'
               go_simp
               with_reducible rfl
              rotate_left
              ·simp only [Act.put, List.setIfInBounds_toArray, List.set_cons_zero, List.set_cons_succ, i64_w, i32_w]
               rfl
              refine pure_ (i := 3) (N := some 46) (v := ?_) (a' := ?_) #[true, false, true, true, false, false, false] rfl rfl (by kernel_rfl) (fun _ _ _ h => h) (Or.inl ⟨by rfl, ?_⟩) ?_ ?_
              rotate_left
              ·intro w'
               go_simp
               with_reducible rfl
              rotate_left
              ·simp only [Act.put, List.setIfInBounds_toArray, List.set_cons_zero, List.set_cons_succ, i64_w, i32_w]
               rfl
              refine take_ (i := 1) (N := some 44) (v := ?_) (a' := ?_) #[true, true, true, true, false, false, false] rfl rfl (by kernel_rfl) (fun _ _ _ h => h) (Or.inl ⟨by rfl, ?_⟩) hHeld ?_ ?_
              rotate_left
              ·rintro w' ⟨s0, s1, s2⟩
               go_simp
               with_reducible rfl
              rotate_left
              ·simp only [Act.put, List.setIfInBounds_toArray, List.set_cons_zero, List.set_cons_succ, i64_w, i32_w]
               rfl
              refine pure_ (i := 4) (N := some 47) (v := ?_) (a' := ?_) #[true, true, true, true, true, false, false] rfl rfl (by kernel_rfl) (fun _ _ _ h => h) (Or.inl ⟨by rfl, ?_⟩) ?_ ?_
              rotate_left
              ·intro w'
               go_simp
               with_reducible rfl
              rotate_left
              ·simp only [Act.put, List.setIfInBounds_toArray, List.set_cons_zero, List.set_cons_succ, i64_w, i32_w]
               rfl
              refine pure_ (i := 5) (N := some 48) (v := ?_) (a' := ?_) #[true, true, true, true, true, true, false] rfl rfl (by kernel_rfl) (fun _ _ _ h => h) (Or.inl ⟨by rfl, ?_⟩) ?_ ?_
              rotate_left
              ·intro w'
               go_simp
               with_reducible rfl
              rotate_left
              ·simp only [Act.put, List.setIfInBounds_toArray, List.set_cons_zero, List.set_cons_succ, i64_w, i32_w]
               rfl
              refine last_ (i := 6) (N := none) #[true, true, true, true, true, true, true] rfl rfl (by kernel_rfl) (by decide) (fun K hK => ?_)
              have hs30 : w29.cell? ⟨gb178, 2, none⟩ = some (.int .u64 x179002_2) := (blk_cell BK178.out 2).trans rfl
              have hfs30 := blk_frozen BK178.out 2
              have hns30_0 := NB177_178.out
              have hms30_0 := NB178_177.out
              refine skip_ (w1 := ?_) (by rfl) rfl ?_ ?_
              rotate_left
              ·go_simp
               rfl
              refine hK.out _ _ ?_
              clear hK K
              refine done_ (by kernel_rfl) ?_
              try go_wp2
              go_roundg kj14
              case measure => have := HJ1.out; have := HK2.out; have := HJ12.out; have := HJ14.out; omega
              case rel => exact ⟨(wrap64 (x20_2 + 1)), (x179001_14), (Go.bits .or .u64 x179002_2 (ji28)), (by rfl), H', ⟨by have := HJ1.out; have := HK2.out; have := HJ12.out; have := HJ14.out; omega⟩, ⟨by refine blk_far ?_ NB177_178.out _; exact BK177.out⟩, ⟨by refine blk_put (cs := #[.int .i64 (l0.length : Int), .int .u64 x179001_14, .int .u64 x179002_2]) ?_ 2 _ rfl; exact BK178.out⟩, ⟨by repeat (with_reducible first | exact HB.out | refine below_set ?_ GE178.out)⟩⟩
             ·rw [if_neg c27] at H
              exact absurd H (by simp)
            ·have H' := Aside0.mk H
             clear H
             go_wp2
             go_roundg kj14
             case measure => have := HJ1.out; have := HK2.out; have := HJ12.out; have := HJ14.out; omega
             case rel => exact ⟨(wrap64 (x20_2 + 1)), (x179001_14), (x179002_2), (by rfl), H', ⟨by have := HJ1.out; have := HK2.out; have := HJ12.out; have := HJ14.out; omega⟩, ⟨by exact BK177.out⟩, ⟨by exact BK178.out⟩, ⟨by repeat (with_reducible exact HB.out)⟩⟩
      ·replace H := s3 H; obtain ⟨rfl, rfl, rfl⟩ := H
       have hnb31 := NB178_177.out
       have hnc31 := NB177_178.out
       obtain ⟨hcz32_0, hcz32_1, hcz32_2, hfz32_0, hfz32_1, hfz32_2⟩ := cf3 BK178
       obtain ⟨hcz33_0, hcz33_1, hcz33_2, hfz33_0, hfz33_1, hfz33_2⟩ := cf3 BK177
       go_wp2
       refine retA gb177 24 #[.int .i64 (l0.length : Int), .int .u64 x179001_2, .int .u64 x179002_2] (put3 BK177) Tryz.underlying24 ?_
       exact ⟨by rfl, by repeat (with_reducible first | exact HB.out | refine below_set ?_ GE177.out)⟩
end Go.Proofs.YtfigblfjogpojaaGreatDoor.PBits
end
section
namespace Go.Proofs.YtfigblfjogpojaaGreatDoor.PBits
open Go.RowKit Go.Proofs.YtfigblfjogpojaaGreatDoorW.PrintWords Go.Proofs.YtfigblfjogpojaaGreatDoorW.PrintLast Go.Proofs.YtfigblfjogpojaaGreatDoorW.PrintMore
attribute [local go_sem] max2_int min2_int max_two min_two max_three min_three max_four min_four
set_option linter.unusedVariables false
set_option linter.unusedSimpArgs false
mutual
def maskref1_Valid.j0 : Nat → Bool → Int → Int → Int → Option (Bool)
 | 0, _, _, _, _ => none
 | k + 1, x11, x177000, x177001, x177002 => if x11 = true then (some false) else (maskref1_Valid.l0 k x177000 x177000 x177001 x177002)
def maskref1_Valid.l0 : Nat → Int → Int → Int → Int → Option (Bool)
 | 0, _, _, _, _ => none
 | k + 1, x3, x177000, x177001, x177002 => if x3 < 64 then (if 0 ≤ x3 then (if (Go.bits .and .u64 (shr .u64 x177001 x3) 1) = 0 then (if (Go.bits .and .u64 (shr .u64 x177002 x3) 1) = 0 then (maskref1_Valid.l0 k (wrap64 (x3 + 1)) x177000 x177001 x177002) else (some false)) else (some false)) else (none)) else (some true)
end
def maskref1_Valid.f (k : Nat) (a0_0 : Int) (a0_1 : Int) (a0_2 : Int) : Option (Bool) := if a0_0 < 1 then (maskref1_Valid.j0 k true a0_0 a0_1 a0_2) else (maskref1_Valid.j0 k (decide (a0_0 > 64)) a0_0 a0_1 a0_2)
set_option maxHeartbeats 8000000 in
set_option maxRecDepth 100000 in
theorem maskref1_Valid.calls (k : Nat) (a0_0 : Int) (a0_1 : Int) (a0_2 : Int) (r : Bool) (w : World) (h : maskref1_Valid.f k a0_0 a0_1 a0_2 = some r) :
  Calls Tryz.prog 9 #[.agg #[.int .i64 a0_0, .int .u64 a0_1, .int .u64 a0_2]] w fun e w' => e = .returned (.bool r) ∧ Below w.heap.size w w' := by
 have hu24 := Tryz.underlying24
 have HB := Aside0.mk (Below.refl w.heap.size w)
 have H := h
 clear h
 unfold maskref1_Valid.f at H
 have HC2 := Aside0.mk H
 clear H
 go_enter Tryz.func9, Tryz.ntmps9
 go_upto_region 1 with ((refine boxA HB 1 #[.int .i64 a0_0, .int .u64 a0_1, .int .u64 a0_2] 24 ?_; clear HB; intro gb176 w3 BK176 GE176 hg hb HB; clear hb hg))
 go_cut [11] (fun v11 wc => ∃ (kq : Nat) (x11_1 : Bool), v11 = .bool x11_1 ∧ Aside0 (maskref1_Valid.j0 kq x11_1 a0_0 a0_1 a0_2 = some r) ∧ Aside0 (kq ≤ k) ∧ Aside0 (wc.heap[gb176]? = some (.cells #[.int .i64 a0_0, .int .u64 a0_1, .int .u64 a0_2] 24 (0, 0))) ∧ Aside0 (Below w.heap.size w wc))
 case first =>
  have H := HC2.out
  clear HC2
  replace H := iD H; rcases H with ⟨c4b0, H⟩ | ⟨c4b0, H⟩
  ·(skip)
   have H' := Aside0.mk H
   clear H
   obtain ⟨hcz5_0, hcz5_1, hcz5_2, hfz5_0, hfz5_1, hfz5_2⟩ := cf3 BK176
   go_wp2
   go_meet
   case rel => exact ⟨_, (true), (by rfl), H', ⟨by omega⟩, ⟨by exact BK176.out⟩, ⟨by repeat (with_reducible exact HB.out)⟩⟩
  ·(skip)
   have H' := Aside0.mk H
   clear H
   obtain ⟨hcz6_0, hcz6_1, hcz6_2, hfz6_0, hfz6_1, hfz6_2⟩ := cf3 BK176
   go_wp2
   go_meet
   case rel => exact ⟨_, (decide (a0_0 > 64)), (by rfl), H', ⟨by omega⟩, ⟨by exact BK176.out⟩, ⟨by repeat (with_reducible exact HB.out)⟩⟩
 case rest =>
  clear HC2
  obtain ⟨kq, x11_1, rfl, HA, HJ1, BK176, HB⟩ := hcut
  cases kq with
  | zero => exact absurd HA.out (by simp [maskref1_Valid.j0])
  | succ kj1 =>
   have H := HA.out
   clear HA
   simp only [maskref1_Valid.j0] at H
   replace H := iB H; rcases H with ⟨rfl, H⟩ | ⟨rfl, H⟩
   ·obtain rfl := Option.some.inj H
    go_wp2
    go_ret
    exact ⟨by rfl, by repeat (with_reducible exact HB.out)⟩
   ·have H' := Aside0.mk H
    clear H
    obtain ⟨hcz8_0, hcz8_1, hcz8_2, hfz8_0, hfz8_1, hfz8_2⟩ := cf3 BK176
    go_wp2
    go_loopg [3] kj1 (fun kq v3 w' => ∃ (x3_2 : Int), v3 = .int .i64 x3_2 ∧ Aside0 (maskref1_Valid.l0 kq x3_2 a0_0 a0_1 a0_2 = some r) ∧ Aside0 (kq ≤ kj1) ∧ Aside0 (w'.heap[gb176]? = some (.cells #[.int .i64 a0_0, .int .u64 a0_1, .int .u64 a0_2] 24 (0, 0))) ∧ Aside0 (Below w.heap.size w w'))
    case atStart => exact ⟨(a0_0), (by rfl), H', ⟨Nat.le_refl _⟩, ⟨by exact BK176.out⟩, ⟨by repeat (with_reducible exact HB.out)⟩⟩
    case round =>
     clear H'
     (try clear hcz8_0 hcz8_1 hcz8_2); (try clear hfz8_0 hfz8_1 hfz8_2)
     obtain ⟨x3_2, rfl, HA, HK2, BK176, HB⟩ := hrel
     cases gk with
     | zero => exact absurd HA.out (by simp [maskref1_Valid.l0])
     | succ k2 =>
      have H := HA.out
      clear HA
      simp only [maskref1_Valid.l0] at H
      replace H := iD H; rcases H with ⟨c9b0, H⟩ | ⟨c9b0, H⟩
      ·by_cases c10 : 0 ≤ x3_2
       ·rw [if_pos c10] at H
        have c10b0 := eq_true c10
        have c10b1 : decide (0 ≤ x3_2) = true := decide_eq_true c10
        clear c10
        obtain ⟨ji11, hji11⟩ : ∃ j_ : Int, (shr .u64 a0_1 x3_2) = j_ := ⟨_, rfl⟩
        replace H : (if (Go.bits .and .u64 (ji11) 1) = 0 then (if (Go.bits .and .u64 (shr .u64 a0_2 x3_2) 1) = 0 then (maskref1_Valid.l0 k2 (wrap64 (x3_2 + 1)) a0_0 a0_1 a0_2) else (some false)) else (some false)) = some r := by (rw [hji11] at H; exact H)
        have hji11_ : (a0_1 / 2 ^ min x3_2.toNat 64) = ji11 := hji11
        have hji11z : x3_2 ≤ 64 → (a0_1 / 2 ^ x3_2.toNat) = ji11 := shr_small hji11
        replace H := iE H; rcases H with ⟨c12b0, c12b1, H⟩ | ⟨c12, c12b0, c12b1, H⟩
        ·have c13b0 := eq_true (of_decide_eq_true (by (with_reducible assumption)) : 0 ≤ x3_2)
         obtain ⟨ji14, hji14⟩ : ∃ j_ : Int, (shr .u64 a0_2 x3_2) = j_ := ⟨_, rfl⟩
         replace H : (if (Go.bits .and .u64 (ji14) 1) = 0 then (maskref1_Valid.l0 k2 (wrap64 (x3_2 + 1)) a0_0 a0_1 a0_2) else (some false)) = some r := by (rw [hji14] at H; exact H)
         have hji14_ : (a0_2 / 2 ^ min x3_2.toNat 64) = ji14 := hji14
         have hji14z : x3_2 ≤ 64 → (a0_2 / 2 ^ x3_2.toNat) = ji14 := shr_small hji14
         replace H := iE H; rcases H with ⟨c15b0, c15b1, H⟩ | ⟨c15, c15b0, c15b1, H⟩
         ·have H' := Aside0.mk H
          clear H
          obtain ⟨hcz16_0, hcz16_1, hcz16_2, hfz16_0, hfz16_1, hfz16_2⟩ := cf3 BK176
          go_wp2
          go_roundg k2
          case measure => have := HJ1.out; have := HK2.out; omega
          case rel => exact ⟨(wrap64 (x3_2 + 1)), (by rfl), H', ⟨by have := HJ1.out; have := HK2.out; omega⟩, ⟨by exact BK176.out⟩, ⟨by repeat (with_reducible exact HB.out)⟩⟩
         ·obtain rfl := Option.some.inj H
          obtain ⟨hcz17_0, hcz17_1, hcz17_2, hfz17_0, hfz17_1, hfz17_2⟩ := cf3 BK176
          go_wp2
          go_ret
          exact ⟨by rfl, by repeat (with_reducible exact HB.out)⟩
        ·obtain rfl := Option.some.inj H
         obtain ⟨hcz18_0, hcz18_1, hcz18_2, hfz18_0, hfz18_1, hfz18_2⟩ := cf3 BK176
         go_wp2
         go_ret
         exact ⟨by rfl, by repeat (with_reducible exact HB.out)⟩
       ·rw [if_neg c10] at H
        exact absurd H (by simp)
      ·obtain rfl := Option.some.inj H
       go_wp2
       go_ret
       exact ⟨by rfl, by repeat (with_reducible exact HB.out)⟩
end Go.Proofs.YtfigblfjogpojaaGreatDoor.PBits
end
section
namespace Go.Proofs.YtfigblfjogpojaaGreatDoor.PBits
open Go.RowKit Go.Proofs.YtfigblfjogpojaaGreatDoorW.PrintWords Go.Proofs.YtfigblfjogpojaaGreatDoorW.PrintLast Go.Proofs.YtfigblfjogpojaaGreatDoorW.PrintMore
attribute [local go_sem] max2_int min2_int max_two min_two max_three min_three max_four min_four
set_option linter.unusedVariables false
set_option linter.unusedSimpArgs false
mutual
def maskref1_V.l0 : Nat → List Int → Int → Int → Int → Int → Int → Option (List Int)
 | 0, _, _, _, _, _, _ => none
 | k + 1, x3, x7, x8, x383000, x383001, x383002 => if x8 < x7 then (if 0 ≤ x8 then (if (Go.bits .and .u64 (shr .u64 x383002 x8) 1) = 1 then (maskref1_V.j1 k x3 x8 48 x7 x8 ((Go.bits .and .u64 (shr .u64 x383001 x8) 1) == 1) x383000 x383001 x383002) else (maskref1_V.j1 k x3 x8 48 x7 x8 false x383000 x383001 x383002)) else (none)) else (some x3)
def maskref1_V.j1 : Nat → List Int → Int → Int → Int → Int → Bool → Int → Int → Int → Option (List Int)
 | 0, _, _, _, _, _, _, _, _, _ => none
 | k + 1, x3, x4, x5, x7, x8, x11, x383000, x383001, x383002 => if x11 = true then (if x3.length < 140737488355328 then (maskref1_V.l0 k (x3 ++ [120]) x7 (wrap64 (x8 + 1)) x383000 x383001 x383002) else (none)) else (if 0 ≤ x4 then (if (Go.bits .and .u64 (shr .u64 x383002 x4) 1) = 1 then (if x3.length < 140737488355328 then (maskref1_V.l0 k (x3 ++ [122]) x7 (wrap64 (x8 + 1)) x383000 x383001 x383002) else (none)) else (if (Go.bits .and .u64 (shr .u64 x383001 x4) 1) = 1 then (if x3.length < 140737488355328 then (maskref1_V.l0 k (x3 ++ [49]) x7 (wrap64 (x8 + 1)) x383000 x383001 x383002) else (none)) else (if x3.length < 140737488355328 then (maskref1_V.l0 k (x3 ++ [x5]) x7 (wrap64 (x8 + 1)) x383000 x383001 x383002) else (none)))) else (none))
end
def maskref1_V.f (k : Nat) (a0_0 : Int) (a0_1 : Int) (a0_2 : Int) : Option (List Int) := maskref1_V.l0 k ([] : List Int) a0_0 0 a0_0 a0_1 a0_2
set_option maxHeartbeats 8000000 in
set_option maxRecDepth 100000 in
theorem maskref1_V.calls (k : Nat) (a0_0 : Int) (a0_1 : Int) (a0_2 : Int) (r : List Int) (w : World) (h : maskref1_V.f k a0_0 a0_1 a0_2 = some r) :
  Calls Tryz.prog 12 #[.agg #[.int .i64 a0_0, .int .u64 a0_1, .int .u64 a0_2]] w fun e w' => ∃ v0_ : Value, e = .returned (v0_) ∧ Kd.R (Kd.int .u8) 5 w' w.heap.size (fun _ => True) v0_ r ∧ Below w.heap.size w w' := by
 have hu24 := Tryz.underlying24
 have HB := Aside0.mk (Below.refl w.heap.size w)
 have H := h
 clear h
 unfold maskref1_V.f at H
 have H' := Aside0.mk H
 clear H
 go_enter Tryz.func12, Tryz.ntmps12
 go_wp2_with ((refine boxA HB 1 #[.int .i64 a0_0, .int .u64 a0_1, .int .u64 a0_2] 24 ?_; clear HB; intro gb382 w2 BK382 GE382 hg hb HB; clear hb hg; obtain ⟨hcz3_0, hcz3_1, hcz3_2, hfz3_0, hfz3_1, hfz3_2⟩ := cf3 BK382))
 go_loopg [3, 8] k (fun kq v3 v8 w' => ∃ (x3_1 : List Int) (x8_1 : Int), v8 = .int .i64 x8_1 ∧ Aside0 (maskref1_V.l0 kq x3_1 a0_0 x8_1 a0_0 a0_1 a0_2 = some r) ∧ Aside0 (kq ≤ k) ∧ Aside0 (Kd.R (Kd.int .u8) 5 w' w.heap.size (fun _ => True) v3 x3_1) ∧ Aside0 (w'.heap[gb382]? = some (.cells #[.int .i64 a0_0, .int .u64 a0_1, .int .u64 a0_2] 24 (0, 0))) ∧ Aside0 (Below w.heap.size w w'))
 case atStart => exact ⟨([] : List Int), (0), (by rfl), H', ⟨Nat.le_refl _⟩, ⟨by exact Kd.R_nil _ _ _ _ _⟩, ⟨by exact BK382.out⟩, ⟨by repeat (with_reducible exact HB.out)⟩⟩
 case round =>
  clear H'
  (try clear hcz3_0 hcz3_1 hcz3_2 hfz3_0 hfz3_1 hfz3_2)
  obtain ⟨x3_1, x8_1, rfl, HA, HK1, HO_3, BK382, HB⟩ := hrel
  cases gk with
  | zero => exact absurd HA.out (by simp [maskref1_V.l0])
  | succ k1 =>
   have H := HA.out
   clear HA
   simp only [maskref1_V.l0] at H
   replace H := iD H; rcases H with ⟨c4b0, H⟩ | ⟨c4b0, H⟩
   ·have HC5 := Aside0.mk H
    clear H
    go_upto_region 6 with (fail)
    go_cut [11] (fun v11 wc => ∃ (kq : Nat) (x11_4 : Bool), v11 = .bool x11_4 ∧ Aside0 (maskref1_V.j1 kq x3_1 x8_1 48 a0_0 x8_1 x11_4 a0_0 a0_1 a0_2 = some r) ∧ Aside0 (kq ≤ k1) ∧ Aside0 (Kd.R (Kd.int .u8) 5 wc w.heap.size (fun _ => True) u3 x3_1) ∧ Aside0 (wc.heap[gb382]? = some (.cells #[.int .i64 a0_0, .int .u64 a0_1, .int .u64 a0_2] 24 (0, 0))) ∧ Aside0 (Below w.heap.size w wc))
    case first =>
     have H := HC5.out
     clear HC5
     by_cases c6 : 0 ≤ x8_1
     ·rw [if_pos c6] at H
      have c6b0 := eq_true c6
      have c6b1 : decide (0 ≤ x8_1) = true := decide_eq_true c6
      clear c6
      obtain ⟨ji7, hji7⟩ : ∃ j_ : Int, (shr .u64 a0_2 x8_1) = j_ := ⟨_, rfl⟩
      replace H : (if (Go.bits .and .u64 (ji7) 1) = 1 then (maskref1_V.j1 k1 x3_1 x8_1 48 a0_0 x8_1 ((Go.bits .and .u64 (shr .u64 a0_1 x8_1) 1) == 1) a0_0 a0_1 a0_2) else (maskref1_V.j1 k1 x3_1 x8_1 48 a0_0 x8_1 false a0_0 a0_1 a0_2)) = some r := by (rw [hji7] at H; exact H)
      have hji7_ : (a0_2 / 2 ^ min x8_1.toNat 64) = ji7 := hji7
      have hji7z : x8_1 ≤ 64 → (a0_2 / 2 ^ x8_1.toNat) = ji7 := shr_small hji7
      replace H := iE H; rcases H with ⟨c8b0, c8b1, H⟩ | ⟨c8, c8b0, c8b1, H⟩
      ·(skip)
       have c9b0 := eq_true (of_decide_eq_true (by (with_reducible assumption)) : 0 ≤ x8_1)
       obtain ⟨ji10, hji10⟩ : ∃ j_ : Int, (shr .u64 a0_1 x8_1) = j_ := ⟨_, rfl⟩
       replace H : (maskref1_V.j1 k1 x3_1 x8_1 48 a0_0 x8_1 ((Go.bits .and .u64 (ji10) 1) == 1) a0_0 a0_1 a0_2) = some r := by (rw [hji10] at H; exact H)
       have hji10_ : (a0_1 / 2 ^ min x8_1.toNat 64) = ji10 := hji10
       have hji10z : x8_1 ≤ 64 → (a0_1 / 2 ^ x8_1.toNat) = ji10 := shr_small hji10
       have H' := Aside0.mk H
       clear H
       obtain ⟨hcz11_0, hcz11_1, hcz11_2, hfz11_0, hfz11_1, hfz11_2⟩ := cf3 BK382
       go_wp2
       go_meet
       case rel => exact ⟨_, (((Go.bits .and .u64 (ji10) 1) == 1)), (by rfl), H', ⟨by have := HK1.out; omega⟩, ⟨by exact HO_3.out⟩, ⟨by exact BK382.out⟩, ⟨by repeat (with_reducible exact HB.out)⟩⟩
      ·(skip)
       have H' := Aside0.mk H
       clear H
       obtain ⟨hcz12_0, hcz12_1, hcz12_2, hfz12_0, hfz12_1, hfz12_2⟩ := cf3 BK382
       go_wp2
       go_meet
       case rel => exact ⟨_, (false), (by rfl), H', ⟨by have := HK1.out; omega⟩, ⟨by exact HO_3.out⟩, ⟨by exact BK382.out⟩, ⟨by repeat (with_reducible exact HB.out)⟩⟩
     ·rw [if_neg c6] at H
      exact absurd H (by simp)
    case rest =>
     clear HC5
     (try clear c4b0)
     obtain ⟨kq, x11_4, rfl, HA, HJ4, HO_3, BK382, HB⟩ := hcut
     cases kq with
     | zero => exact absurd HA.out (by simp [maskref1_V.j1])
     | succ kj4 =>
      have H := HA.out
      clear HA
      simp only [maskref1_V.j1] at H
      replace H := iB H; rcases H with ⟨rfl, H⟩ | ⟨rfl, H⟩
      ·by_cases c14 : x3_1.length < 140737488355328
       ·rw [if_pos c14] at H
        have LMc14 := Aside0.mk c14
        clear c14
        obtain ⟨y383, hy383⟩ : ∃ y_ : List Int, y_ = (x3_1 ++ [120]) := ⟨_, rfl⟩
        replace H : (maskref1_V.l0 kj4 y383 a0_0 (wrap64 (x8_1 + 1)) a0_0 a0_1 a0_2) = some r := by (rw [hy383]; with_reducible exact H)
        have Ny383 := Aside0.mk hy383
        clear hy383
        have H' := Aside0.mk H
        clear H
        go_wp2_with (((with_reducible refine gate_builtin (b := .append) (xs := #[.tmp 40, .tmp 42]) rfl ?_); at_builtin; refine Kd.R_append (Kd.int .u8) (w0 := w) w.heap.size rfl (.tmp 40) (.tmp 42) 30 5 (.int .u8 0) 1 rfl Tryz.underlying30 info5 rfl (by decide) (by omega) u3 x3_1 120 [.int .u8 120] (fun _ => True) (fun _ => False) rfl rfl ?aP (fun _ hk => hk.elim) ?aF ?aO ?aB ?aS ?aL ?_; (case aP => exact rfl); (case aB => exact HB.out); (case aF => exact (fun _ _ => trivial)); (case aO => exact HO_3.out); (case aS => exact (below_size HB.out)); (case aL => have := LMc14.out; omega); intro v384 w15 ho hb hg hat; rw [← Ny383.out] at ho; replace BK382 := Aside0.mk (blk_grown BK382.out hg (Kd.R_ne HO_3.out BK382.out (by decide))); replace HB := Aside0.mk (hb); have HO385 := Aside0.mk (ho); clear HO_3; clear ho hb hg hat))
        go_roundg kj4
        case measure => have := HK1.out; have := HJ4.out; omega
        case rel => exact ⟨(y383), (wrap64 (x8_1 + 1)), (by rfl), H', ⟨by have := HK1.out; have := HJ4.out; omega⟩, ⟨by exact HO385.out⟩, ⟨by exact BK382.out⟩, ⟨by repeat (with_reducible exact HB.out)⟩⟩
       ·rw [if_neg c14] at H
        exact absurd H (by simp)
      ·by_cases c16 : 0 ≤ x8_1
       ·rw [if_pos c16] at H
        have c16b0 := eq_true c16
        have c16b1 : decide (0 ≤ x8_1) = true := decide_eq_true c16
        clear c16
        obtain ⟨ji17, hji17⟩ : ∃ j_ : Int, (shr .u64 a0_2 x8_1) = j_ := ⟨_, rfl⟩
        replace H : (if (Go.bits .and .u64 (ji17) 1) = 1 then (if x3_1.length < 140737488355328 then (maskref1_V.l0 kj4 (x3_1 ++ [122]) a0_0 (wrap64 (x8_1 + 1)) a0_0 a0_1 a0_2) else (none)) else (if (Go.bits .and .u64 (shr .u64 a0_1 x8_1) 1) = 1 then (if x3_1.length < 140737488355328 then (maskref1_V.l0 kj4 (x3_1 ++ [49]) a0_0 (wrap64 (x8_1 + 1)) a0_0 a0_1 a0_2) else (none)) else (if x3_1.length < 140737488355328 then (maskref1_V.l0 kj4 (x3_1 ++ [48]) a0_0 (wrap64 (x8_1 + 1)) a0_0 a0_1 a0_2) else (none)))) = some r := by (rw [hji17] at H; exact H)
        have hji17_ : (a0_2 / 2 ^ min x8_1.toNat 64) = ji17 := hji17
        have hji17z : x8_1 ≤ 64 → (a0_2 / 2 ^ x8_1.toNat) = ji17 := shr_small hji17
        replace H := iE H; rcases H with ⟨c18b0, c18b1, H⟩ | ⟨c18, c18b0, c18b1, H⟩
        ·by_cases c19 : x3_1.length < 140737488355328
         ·rw [if_pos c19] at H
          have LMc19 := Aside0.mk c19
          clear c19
          obtain ⟨y386, hy386⟩ : ∃ y_ : List Int, y_ = (x3_1 ++ [122]) := ⟨_, rfl⟩
          replace H : (maskref1_V.l0 kj4 y386 a0_0 (wrap64 (x8_1 + 1)) a0_0 a0_1 a0_2) = some r := by (rw [hy386]; with_reducible exact H)
          have Ny386 := Aside0.mk hy386
          clear hy386
          have H' := Aside0.mk H
          clear H
          obtain ⟨hcz20_0, hcz20_1, hcz20_2, hfz20_0, hfz20_1, hfz20_2⟩ := cf3 BK382
          go_wp2_with (((with_reducible refine gate_builtin (b := .append) (xs := #[.tmp 40, .tmp 42]) rfl ?_); at_builtin; refine Kd.R_append (Kd.int .u8) (w0 := w) w.heap.size rfl (.tmp 40) (.tmp 42) 30 5 (.int .u8 0) 1 rfl Tryz.underlying30 info5 rfl (by decide) (by omega) u3 x3_1 122 [.int .u8 122] (fun _ => True) (fun _ => False) rfl rfl ?aP (fun _ hk => hk.elim) ?aF ?aO ?aB ?aS ?aL ?_; (case aP => exact rfl); (case aB => exact HB.out); (case aF => exact (fun _ _ => trivial)); (case aO => exact HO_3.out); (case aS => exact (below_size HB.out)); (case aL => have := LMc19.out; omega); intro v387 w21 ho hb hg hat; rw [← Ny386.out] at ho; replace BK382 := Aside0.mk (blk_grown BK382.out hg (Kd.R_ne HO_3.out BK382.out (by decide))); replace HB := Aside0.mk (hb); have HO388 := Aside0.mk (ho); clear HO_3; clear ho hb hg hat))
          go_roundg kj4
          case measure => have := HK1.out; have := HJ4.out; omega
          case rel => exact ⟨(y386), (wrap64 (x8_1 + 1)), (by rfl), H', ⟨by have := HK1.out; have := HJ4.out; omega⟩, ⟨by exact HO388.out⟩, ⟨by exact BK382.out⟩, ⟨by repeat (with_reducible exact HB.out)⟩⟩
         ·rw [if_neg c19] at H
          exact absurd H (by simp)
        ·have c22b0 := eq_true (of_decide_eq_true (by (with_reducible assumption)) : 0 ≤ x8_1)
         obtain ⟨ji23, hji23⟩ : ∃ j_ : Int, (shr .u64 a0_1 x8_1) = j_ := ⟨_, rfl⟩
         replace H : (if (Go.bits .and .u64 (ji23) 1) = 1 then (if x3_1.length < 140737488355328 then (maskref1_V.l0 kj4 (x3_1 ++ [49]) a0_0 (wrap64 (x8_1 + 1)) a0_0 a0_1 a0_2) else (none)) else (if x3_1.length < 140737488355328 then (maskref1_V.l0 kj4 (x3_1 ++ [48]) a0_0 (wrap64 (x8_1 + 1)) a0_0 a0_1 a0_2) else (none))) = some r := by (rw [hji23] at H; exact H)
         have hji23_ : (a0_1 / 2 ^ min x8_1.toNat 64) = ji23 := hji23
         have hji23z : x8_1 ≤ 64 → (a0_1 / 2 ^ x8_1.toNat) = ji23 := shr_small hji23
         replace H := iE H; rcases H with ⟨c24b0, c24b1, H⟩ | ⟨c24, c24b0, c24b1, H⟩
         ·by_cases c25 : x3_1.length < 140737488355328
          ·rw [if_pos c25] at H
           have LMc25 := Aside0.mk c25
           clear c25
           obtain ⟨y389, hy389⟩ : ∃ y_ : List Int, y_ = (x3_1 ++ [49]) := ⟨_, rfl⟩
           replace H : (maskref1_V.l0 kj4 y389 a0_0 (wrap64 (x8_1 + 1)) a0_0 a0_1 a0_2) = some r := by (rw [hy389]; with_reducible exact H)
           have Ny389 := Aside0.mk hy389
           clear hy389
           have H' := Aside0.mk H
           clear H
           obtain ⟨hcz26_0, hcz26_1, hcz26_2, hfz26_0, hfz26_1, hfz26_2⟩ := cf3 BK382
           go_wp2_with (((with_reducible refine gate_builtin (b := .append) (xs := #[.tmp 40, .tmp 42]) rfl ?_); at_builtin; refine Kd.R_append (Kd.int .u8) (w0 := w) w.heap.size rfl (.tmp 40) (.tmp 42) 30 5 (.int .u8 0) 1 rfl Tryz.underlying30 info5 rfl (by decide) (by omega) u3 x3_1 49 [.int .u8 49] (fun _ => True) (fun _ => False) rfl rfl ?aP (fun _ hk => hk.elim) ?aF ?aO ?aB ?aS ?aL ?_; (case aP => exact rfl); (case aB => exact HB.out); (case aF => exact (fun _ _ => trivial)); (case aO => exact HO_3.out); (case aS => exact (below_size HB.out)); (case aL => have := LMc25.out; omega); intro v390 w27 ho hb hg hat; rw [← Ny389.out] at ho; replace BK382 := Aside0.mk (blk_grown BK382.out hg (Kd.R_ne HO_3.out BK382.out (by decide))); replace HB := Aside0.mk (hb); have HO391 := Aside0.mk (ho); clear HO_3; clear ho hb hg hat))
           go_roundg kj4
           case measure => have := HK1.out; have := HJ4.out; omega
           case rel => exact ⟨(y389), (wrap64 (x8_1 + 1)), (by rfl), H', ⟨by have := HK1.out; have := HJ4.out; omega⟩, ⟨by exact HO391.out⟩, ⟨by exact BK382.out⟩, ⟨by repeat (with_reducible exact HB.out)⟩⟩
          ·rw [if_neg c25] at H
           exact absurd H (by simp)
         ·by_cases c28 : x3_1.length < 140737488355328
          ·rw [if_pos c28] at H
           have LMc28 := Aside0.mk c28
           clear c28
           obtain ⟨y392, hy392⟩ : ∃ y_ : List Int, y_ = (x3_1 ++ [48]) := ⟨_, rfl⟩
           replace H : (maskref1_V.l0 kj4 y392 a0_0 (wrap64 (x8_1 + 1)) a0_0 a0_1 a0_2) = some r := by (rw [hy392]; with_reducible exact H)
           have Ny392 := Aside0.mk hy392
           clear hy392
           have H' := Aside0.mk H
           clear H
           obtain ⟨hcz29_0, hcz29_1, hcz29_2, hfz29_0, hfz29_1, hfz29_2⟩ := cf3 BK382
           go_wp2_with (((with_reducible refine gate_builtin (b := .append) (xs := #[.tmp 40, .tmp 42]) rfl ?_); at_builtin; refine Kd.R_append (Kd.int .u8) (w0 := w) w.heap.size rfl (.tmp 40) (.tmp 42) 30 5 (.int .u8 0) 1 rfl Tryz.underlying30 info5 rfl (by decide) (by omega) u3 x3_1 48 [.int .u8 48] (fun _ => True) (fun _ => False) rfl rfl ?aP (fun _ hk => hk.elim) ?aF ?aO ?aB ?aS ?aL ?_; (case aP => exact rfl); (case aB => exact HB.out); (case aF => exact (fun _ _ => trivial)); (case aO => exact HO_3.out); (case aS => exact (below_size HB.out)); (case aL => have := LMc28.out; omega); intro v393 w30 ho hb hg hat; rw [← Ny392.out] at ho; replace BK382 := Aside0.mk (blk_grown BK382.out hg (Kd.R_ne HO_3.out BK382.out (by decide))); replace HB := Aside0.mk (hb); have HO394 := Aside0.mk (ho); clear HO_3; clear ho hb hg hat))
           go_roundg kj4
           case measure => have := HK1.out; have := HJ4.out; omega
           case rel => exact ⟨(y392), (wrap64 (x8_1 + 1)), (by rfl), H', ⟨by have := HK1.out; have := HJ4.out; omega⟩, ⟨by exact HO394.out⟩, ⟨by exact BK382.out⟩, ⟨by repeat (with_reducible exact HB.out)⟩⟩
          ·rw [if_neg c28] at H
           exact absurd H (by simp)
       ·rw [if_neg c16] at H
        exact absurd H (by simp)
   ·obtain rfl := Option.some.inj H
    go_wp2
    go_ret
    exact ⟨_, by rfl, by exact HO_3.out, by repeat (with_reducible exact HB.out)⟩
end Go.Proofs.YtfigblfjogpojaaGreatDoor.PBits
end
