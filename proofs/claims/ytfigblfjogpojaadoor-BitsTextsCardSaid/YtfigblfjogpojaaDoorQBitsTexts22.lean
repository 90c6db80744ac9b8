/- Part 23 of the proof of BitsTextsCardSaid: The law BitsTexts: for all arguments it returns true; each argument reads behind the call as it read before. Out of the plain theorem of YtfigblfjogpojaaDoorPureBitsTexts and the printed contract. -/
import Derived.Test.YtfigblfjogpojaaDoorQBitsTexts15
import Derived.Test.YtfigblfjogpojaaDoorQBitsTexts14
section
namespace Go.Proofs.YtfigblfjogpojaaDoor.PBits
open Go.RowKit Go.Proofs.YtfigblfjogpojaaDoorW.PrintWords Go.Proofs.YtfigblfjogpojaaDoorW.PrintLast Go.Proofs.YtfigblfjogpojaaDoorW.PrintMore
attribute [local go_sem] max2_int min2_int max_two min_two max_three min_three max_four min_four
set_option linter.unusedVariables false
set_option linter.unusedSimpArgs false
def bits_Bit.j0 : Nat → Int → Bool → Int → Int → Int → Option (Int)
 | 0, _, _, _, _, _ => none
 | k + 1, x1, x18, x119000, x119001, x119002 => if x18 = true then (some 0) else (if 0 ≤ x1 then (if 0 ≤ (Go.bits .or .u64 (Go.bits .and .u64 (shr .u64 x119001 x1) 1) (IntKind.u64.wrap ((Go.bits .and .u64 (shr .u64 x119002 x1) 1) * 2))) then (if (Go.bits .or .u64 (Go.bits .and .u64 (shr .u64 x119001 x1) 1) (IntKind.u64.wrap ((Go.bits .and .u64 (shr .u64 x119002 x1) 1) * 2))) < 4 then (some (bt (⟨#[48, 49, 122, 120]⟩ : ByteArray) (Go.bits .or .u64 (Go.bits .and .u64 (shr .u64 x119001 x1) 1) (IntKind.u64.wrap ((Go.bits .and .u64 (shr .u64 x119002 x1) 1) * 2))))) else (none)) else (none)) else (none))
def bits_Bit.f (k : Nat) (a0_0 : Int) (a0_1 : Int) (a0_2 : Int) (a1 : Int) : Option (Int) := (bits_valid.f k (([(⟨a0_0, a0_1, a0_2⟩ : S24)] : List (S24)))).bind fun t122 => (if t122 = true then (if a1 < 0 then (bits_Bit.j0 k a1 true a0_0 a0_1 a0_2) else (bits_Bit.j0 k a1 (decide (a1 ≥ a0_0)) a0_0 a0_1 a0_2)) else (bits_Bit.j0 k a1 true a0_0 a0_1 a0_2))
theorem bits_Bit.mono_l : ∀ k, (∀ y0 y1 y2 y3 y4, LeO (bits_Bit.j0 k y0 y1 y2 y3 y4) (bits_Bit.j0 (k + 1) y0 y1 y2 y3 y4))
 | 0 => fun _ _ _ _ _ r h => by simp [bits_Bit.j0] at h
 | k + 1 => by
  have ih0 := bits_Bit.mono_l k
  ·intro y0 y1 y2 y3 y4
   unfold bits_Bit.j0
   repeat' first | with_reducible exact ih0 _ _ _ _ _ | with_reducible exact bits_valid.mono _ _ | with_reducible exact LeO.refl _ | with_reducible exact LeO.none _ | with_reducible refine LeO.ite ?_ ?_ | with_reducible refine LeO.bind ?_ (fun _ => ?_)
theorem bits_Bit.mono : ∀ a0 a1 a2 a3 k, LeO (bits_Bit.f k a0 a1 a2 a3) (bits_Bit.f (k + 1) a0 a1 a2 a3) := by
 intro a0 a1 a2 a3 k
 have ih0 := bits_Bit.mono_l k
 unfold bits_Bit.f
 repeat' first | with_reducible exact ih0 _ _ _ _ _ | with_reducible exact bits_valid.mono _ _ | with_reducible exact LeO.refl _ | with_reducible exact LeO.none _ | with_reducible refine LeO.ite ?_ ?_ | with_reducible refine LeO.bind ?_ (fun _ => ?_)
set_option maxHeartbeats 8000000 in
set_option maxRecDepth 100000 in
theorem bits_Bit.calls (k : Nat) (a0_0 : Int) (a0_1 : Int) (a0_2 : Int) (a1 : Int) (r : Int) (w : World) (h : bits_Bit.f k a0_0 a0_1 a0_2 a1 = some r) :
  Calls Tryd.prog 20 #[.agg #[.int .i64 a0_0, .int .u64 a0_1, .int .u64 a0_2], .int .i64 a1] w fun e w' => e = .returned (.int .u8 r) ∧ Below w.heap.size w w' := by
 have hu24 := Tryd.underlying24
 have HB := Aside0.mk (Below.refl w.heap.size w)
 have H := h
 clear h
 unfold bits_Bit.f at H
 have HC3 := Aside0.mk H
 clear H
 go_enter Tryd.func20, Tryd.ntmps20
 go_upto_region 1 with ((refine boxA HB 2 #[.int .i64 a0_0, .int .u64 a0_1, .int .u64 a0_2] 24 ?_; clear HB; intro gb118 w4 BK118 GE118 hg hb HB; clear hb hg))
 go_cut [18] (fun v18 wc => ∃ (kq : Nat) (x18_2 : Bool), v18 = .bool x18_2 ∧ Aside0 (bits_Bit.j0 kq a1 x18_2 a0_0 a0_1 a0_2 = some r) ∧ Aside0 (kq ≤ k) ∧ Aside0 (wc.heap[gb118]? = some (.cells #[.int .i64 a0_0, .int .u64 a0_1, .int .u64 a0_2] 24 (0, 0))) ∧ Aside0 (Below w.heap.size w wc))
 case first =>
  have H := HC3.out
  clear HC3
  obtain ⟨y119, hy119⟩ : ∃ y_ : List (S24), y_ = ([(⟨a0_0, a0_1, a0_2⟩ : S24)] : List (S24)) := ⟨_, rfl⟩
  replace H : ((bits_valid.f k y119).bind fun t122 => (if t122 = true then (if a1 < 0 then (bits_Bit.j0 k a1 true a0_0 a0_1 a0_2) else (bits_Bit.j0 k a1 (decide (a1 ≥ a0_0)) a0_0 a0_1 a0_2)) else (bits_Bit.j0 k a1 true a0_0 a0_1 a0_2))) = some r := by (rw [hy119]; with_reducible exact H)
  have Ny119 := Aside0.mk hy119
  clear hy119
  replace H := bN H; obtain ⟨t122, A5, H⟩ := H
  replace H := iB H; rcases H with ⟨rfl, H⟩ | ⟨rfl, H⟩
  ·replace H := iD H; rcases H with ⟨c7b0, H⟩ | ⟨c7b0, H⟩
   ·(skip)
    have H' := Aside0.mk H
    clear H
    obtain ⟨hcz8_0, hcz8_1, hcz8_2, hfz8_0, hfz8_1, hfz8_2⟩ := cf3 BK118
    go_wp2_with (first | ((with_reducible refine gate_dst (N := 6) rfl ?_); refine Kd.R_lit k24 _ 24 ?hg (N := 6) ?hd (xs := ([(⟨a0_0, a0_1, a0_2⟩ : S24)] : List (S24))) (inner := [.int .i64 a0_0, .int .u64 a0_1, .int .u64 a0_2]) (ok := fun _ => True) (okp := fun _ => True) ?hr ?hp (fun _ hk => hk) trivial (Below.refl _ _) (Nat.le_refl _) (by simp) ?_; (case hd => rfl); (case hg => rfl); (case hr => (go_simp; done)); (case hp => exact (Reps.c3 (show Kd.M k24 _ _ _ (⟨a0_0, a0_1, a0_2⟩ : S24) [.int .i64 a0_0, .int .u64 a0_1, .int .u64 a0_2] from (k24_mkM _ _ _ (⟨a0_0, a0_1, a0_2⟩ : S24) )) (Reps.none _ _))); intro v120 w9 ho10 hb hg_ hnew_; clear hg_ hnew_; (rw [← Ny119.out] at ho10); have HO121 := Aside0.mk (Kd.R_lower (Kd.R_newB ho10 BK118.out) (below_size HB.out)); replace BK118 := bk1 BK118 hb; replace HB := hb1 HB hb; clear hb ho10; obtain ⟨Ao11, co11, eo11⟩ := Kd.R_slice HO121.out; subst eo11) | (go_at_call 56; (with_reducible refine (bits_valid.calls k _ _ y119 true _ ?side1 ?side2 A5.out).mono ?_); (case side1 => exact (Kd.R_reads' HO121.out).2.2); (case side2 => exact (Kd.R_reads' HO121.out).2.1); rintro e w12 ⟨rfl, hb⟩; replace HO121 := Kd.rb1 HO121 hb; replace BK118 := bk1 BK118 hb; replace HB := hb1 HB hb; (try clear hb)))
    go_meet
    case rel => exact ⟨_, (true), (by rfl), H', ⟨by omega⟩, ⟨by exact BK118.out⟩, ⟨by repeat (with_reducible exact HB.out)⟩⟩
   ·(skip)
    have H' := Aside0.mk H
    clear H
    obtain ⟨hcz13_0, hcz13_1, hcz13_2, hfz13_0, hfz13_1, hfz13_2⟩ := cf3 BK118
    go_wp2_with (first | ((with_reducible refine gate_dst (N := 6) rfl ?_); refine Kd.R_lit k24 _ 24 ?hg (N := 6) ?hd (xs := ([(⟨a0_0, a0_1, a0_2⟩ : S24)] : List (S24))) (inner := [.int .i64 a0_0, .int .u64 a0_1, .int .u64 a0_2]) (ok := fun _ => True) (okp := fun _ => True) ?hr ?hp (fun _ hk => hk) trivial (Below.refl _ _) (Nat.le_refl _) (by simp) ?_; (case hd => rfl); (case hg => rfl); (case hr => (go_simp; done)); (case hp => exact (Reps.c3 (show Kd.M k24 _ _ _ (⟨a0_0, a0_1, a0_2⟩ : S24) [.int .i64 a0_0, .int .u64 a0_1, .int .u64 a0_2] from (k24_mkM _ _ _ (⟨a0_0, a0_1, a0_2⟩ : S24) )) (Reps.none _ _))); intro v120 w14 ho15 hb hg_ hnew_; clear hg_ hnew_; (rw [← Ny119.out] at ho15); have HO121 := Aside0.mk (Kd.R_lower (Kd.R_newB ho15 BK118.out) (below_size HB.out)); replace BK118 := bk1 BK118 hb; replace HB := hb1 HB hb; clear hb ho15; obtain ⟨Ao16, co16, eo16⟩ := Kd.R_slice HO121.out; subst eo16) | (go_at_call 56; (with_reducible refine (bits_valid.calls k _ _ y119 true _ ?side1 ?side2 A5.out).mono ?_); (case side1 => exact (Kd.R_reads' HO121.out).2.2); (case side2 => exact (Kd.R_reads' HO121.out).2.1); rintro e w17 ⟨rfl, hb⟩; replace HO121 := Kd.rb1 HO121 hb; replace BK118 := bk1 BK118 hb; replace HB := hb1 HB hb; (try clear hb); obtain ⟨hcz18_0, hcz18_1, hcz18_2, hfz18_0, hfz18_1, hfz18_2⟩ := cf3 BK118))
    go_meet
    case rel => exact ⟨_, (decide (a1 ≥ a0_0)), (by rfl), H', ⟨by omega⟩, ⟨by exact BK118.out⟩, ⟨by repeat (with_reducible exact HB.out)⟩⟩
  ·have H' := Aside0.mk H
   clear H
   obtain ⟨hcz19_0, hcz19_1, hcz19_2, hfz19_0, hfz19_1, hfz19_2⟩ := cf3 BK118
   go_wp2_with (first | ((with_reducible refine gate_dst (N := 6) rfl ?_); refine Kd.R_lit k24 _ 24 ?hg (N := 6) ?hd (xs := ([(⟨a0_0, a0_1, a0_2⟩ : S24)] : List (S24))) (inner := [.int .i64 a0_0, .int .u64 a0_1, .int .u64 a0_2]) (ok := fun _ => True) (okp := fun _ => True) ?hr ?hp (fun _ hk => hk) trivial (Below.refl _ _) (Nat.le_refl _) (by simp) ?_; (case hd => rfl); (case hg => rfl); (case hr => (go_simp; done)); (case hp => exact (Reps.c3 (show Kd.M k24 _ _ _ (⟨a0_0, a0_1, a0_2⟩ : S24) [.int .i64 a0_0, .int .u64 a0_1, .int .u64 a0_2] from (k24_mkM _ _ _ (⟨a0_0, a0_1, a0_2⟩ : S24) )) (Reps.none _ _))); intro v120 w20 ho21 hb hg_ hnew_; clear hg_ hnew_; (rw [← Ny119.out] at ho21); have HO121 := Aside0.mk (Kd.R_lower (Kd.R_newB ho21 BK118.out) (below_size HB.out)); replace BK118 := bk1 BK118 hb; replace HB := hb1 HB hb; clear hb ho21; obtain ⟨Ao22, co22, eo22⟩ := Kd.R_slice HO121.out; subst eo22) | (go_at_call 56; (with_reducible refine (bits_valid.calls k _ _ y119 false _ ?side1 ?side2 A5.out).mono ?_); (case side1 => exact (Kd.R_reads' HO121.out).2.2); (case side2 => exact (Kd.R_reads' HO121.out).2.1); rintro e w23 ⟨rfl, hb⟩; replace HO121 := Kd.rb1 HO121 hb; replace BK118 := bk1 BK118 hb; replace HB := hb1 HB hb; (try clear hb)))
   go_meet
   case rel => exact ⟨_, (true), (by rfl), H', ⟨by omega⟩, ⟨by exact BK118.out⟩, ⟨by repeat (with_reducible exact HB.out)⟩⟩
 case rest =>
  clear HC3
  obtain ⟨kq, x18_2, rfl, HA, HJ2, BK118, HB⟩ := hcut
  cases kq with
  | zero => exact absurd HA.out (by simp [bits_Bit.j0])
  | succ kj2 =>
   have H := HA.out
   clear HA
   simp only [bits_Bit.j0] at H
   replace H := iB H; rcases H with ⟨rfl, H⟩ | ⟨rfl, H⟩
   ·obtain rfl := Option.some.inj H
    go_wp2
    go_ret
    exact ⟨by rfl, by repeat (with_reducible exact HB.out)⟩
   ·by_cases c25 : 0 ≤ a1
    ·rw [if_pos c25] at H
     have c25b0 := eq_true c25
     have c25b1 : decide (0 ≤ a1) = true := decide_eq_true c25
     clear c25
     obtain ⟨ji26, hji26⟩ : ∃ j_ : Int, (shr .u64 a0_1 a1) = j_ := ⟨_, rfl⟩
     replace H : (if 0 ≤ (Go.bits .or .u64 (Go.bits .and .u64 (ji26) 1) (IntKind.u64.wrap ((Go.bits .and .u64 (shr .u64 a0_2 a1) 1) * 2))) then (if (Go.bits .or .u64 (Go.bits .and .u64 (ji26) 1) (IntKind.u64.wrap ((Go.bits .and .u64 (shr .u64 a0_2 a1) 1) * 2))) < 4 then (some (bt (⟨#[48, 49, 122, 120]⟩ : ByteArray) (Go.bits .or .u64 (Go.bits .and .u64 (ji26) 1) (IntKind.u64.wrap ((Go.bits .and .u64 (shr .u64 a0_2 a1) 1) * 2))))) else (none)) else (none)) = some r := by (rw [hji26] at H; exact H)
     have hji26_ : (a0_1 / 2 ^ min a1.toNat 64) = ji26 := hji26
     have hji26z : a1 ≤ 64 → (a0_1 / 2 ^ a1.toNat) = ji26 := shr_small hji26
     have c27b0 := eq_true (of_decide_eq_true (by (with_reducible assumption)) : 0 ≤ a1)
     obtain ⟨ji28, hji28⟩ : ∃ j_ : Int, (shr .u64 a0_2 a1) = j_ := ⟨_, rfl⟩
     replace H : (if 0 ≤ (Go.bits .or .u64 (Go.bits .and .u64 (ji26) 1) (IntKind.u64.wrap ((Go.bits .and .u64 (ji28) 1) * 2))) then (if (Go.bits .or .u64 (Go.bits .and .u64 (ji26) 1) (IntKind.u64.wrap ((Go.bits .and .u64 (ji28) 1) * 2))) < 4 then (some (bt (⟨#[48, 49, 122, 120]⟩ : ByteArray) (Go.bits .or .u64 (Go.bits .and .u64 (ji26) 1) (IntKind.u64.wrap ((Go.bits .and .u64 (ji28) 1) * 2))))) else (none)) else (none)) = some r := by (rw [hji28] at H; exact H)
     have hji28_ : (a0_2 / 2 ^ min a1.toNat 64) = ji28 := hji28
     have hji28z : a1 ≤ 64 → (a0_2 / 2 ^ a1.toNat) = ji28 := shr_small hji28
     obtain ⟨ji29, hji29⟩ : ∃ j_ : Int, (Go.bits .or .u64 (Go.bits .and .u64 (ji26) 1) (IntKind.u64.wrap ((Go.bits .and .u64 (ji28) 1) * 2))) = j_ := ⟨_, rfl⟩
     replace H : (if 0 ≤ (ji29) then (if (ji29) < 4 then (some (bt (⟨#[48, 49, 122, 120]⟩ : ByteArray) (ji29))) else (none)) else (none)) = some r := by (rw [hji29] at H; exact H)
     replace H := iN H; obtain ⟨c30b0, H⟩ := H
     replace H := iN H; obtain ⟨c31b0, H⟩ := H
     obtain rfl := Option.some.inj H
     obtain ⟨hcz33_0, hcz33_1, hcz33_2, hfz33_0, hfz33_1, hfz33_2⟩ := cf3 BK118
     have p32 : 0 ≤ ((ji29) : Int) := of_decide_eq_true (by (with_reducible assumption))
     have q32 : (ji29) < (4 : Int) := of_decide_eq_true (by (with_reducible assumption))
     have hx32 := bt_at (⟨#[48, 49, 122, 120]⟩ : ByteArray) (ji29)
     replace p32 := eq_true p32
     replace q32 := eq_true q32
     go_wp2
     repeat (go_quiet (fail); try go_wp2)
     go_ret
     exact ⟨by rfl, by repeat (with_reducible first | exact HB.out | apply pw_below_drewN)⟩
    ·rw [if_neg c25] at H
     exact absurd H (by simp)
end Go.Proofs.YtfigblfjogpojaaDoor.PBits
end
section
namespace Go.Proofs.YtfigblfjogpojaaDoor.PBits
open Go.RowKit Go.Proofs.YtfigblfjogpojaaDoorW.PrintWords Go.Proofs.YtfigblfjogpojaaDoorW.PrintLast Go.Proofs.YtfigblfjogpojaaDoorW.PrintMore
attribute [local go_sem] max2_int min2_int max_two min_two max_three min_three max_four min_four
set_option linter.unusedVariables false
set_option linter.unusedSimpArgs false
def bits_All.j0 : Nat → Int → Int → Bool → Option (Int × Int × Int)
 | 0, _, _, _ => none
 | k + 1, x0, x1, x11 => if x11 = true then (some (0, 0, 0)) else ((bits_mask.f x0).bind fun t104 => (if x1 = 48 then (some (x0, 0, 0)) else (if x1 = 49 then (some (x0, t104, 0)) else (if x1 = 120 then (some (x0, t104, t104)) else (if x1 = 122 then (some (x0, 0, t104)) else (some (0, 0, 0)))))))
def bits_All.f (k : Nat) (a0 : Int) (a1 : Int) : Option (Int × Int × Int) := if a0 < 1 then (bits_All.j0 k a0 a1 true) else (bits_All.j0 k a0 a1 (decide (a0 > 64)))
theorem bits_All.mono_l : ∀ k, (∀ y0 y1 y2, LeO (bits_All.j0 k y0 y1 y2) (bits_All.j0 (k + 1) y0 y1 y2))
 | 0 => fun _ _ _ r h => by simp [bits_All.j0] at h
 | k + 1 => by
  have ih0 := bits_All.mono_l k
  ·intro y0 y1 y2
   unfold bits_All.j0
   repeat' first | with_reducible exact ih0 _ _ _ | with_reducible exact LeO.refl _ | with_reducible exact LeO.none _ | with_reducible refine LeO.ite ?_ ?_ | with_reducible refine LeO.bind ?_ (fun _ => ?_)
theorem bits_All.mono : ∀ a0 a1 k, LeO (bits_All.f k a0 a1) (bits_All.f (k + 1) a0 a1) := by
 intro a0 a1 k
 have ih0 := bits_All.mono_l k
 unfold bits_All.f
 repeat' first | with_reducible exact ih0 _ _ _ | with_reducible exact LeO.refl _ | with_reducible exact LeO.none _ | with_reducible refine LeO.ite ?_ ?_ | with_reducible refine LeO.bind ?_ (fun _ => ?_)
set_option maxHeartbeats 8000000 in
set_option maxRecDepth 100000 in
theorem bits_All.calls (k : Nat) (a0 : Int) (a1 : Int) (r1 : Int) (r2 : Int) (r3 : Int) (w : World) (h : bits_All.f k a0 a1 = some (r1, r2, r3)) :
  Calls Tryd.prog 25 #[.int .i64 a0, .int .u8 a1] w fun e w' => e = .returned (.agg #[.int .i64 r1, .int .u64 r2, .int .u64 r3]) ∧ Below w.heap.size w w' := by
 have hu24 := Tryd.underlying24
 have HB := Aside0.mk (Below.refl w.heap.size w)
 have H := h
 clear h
 unfold bits_All.f at H
 have HC3 := Aside0.mk H
 clear H
 go_enter Tryd.func25, Tryd.ntmps25
 go_upto_region 1 with ((refine boxA HB 4 #[.int .i64 0, .int .u64 0, .int .u64 0] 24 ?_; clear HB; intro gb103 w4 BK103 GE103 hg hb HB; clear hb hg))
 (try simp only [Act.put, List.setIfInBounds_toArray, List.set_cons_zero, List.set_cons_succ])
 go_cut [11] (fun v11 wc => ∃ (kq : Nat) (x11_2 : Bool), v11 = .bool x11_2 ∧ Aside0 (bits_All.j0 kq a0 a1 x11_2 = some (r1, r2, r3)) ∧ Aside0 (kq ≤ k) ∧ Aside0 (wc.heap[gb103]? = some (.cells #[.int .i64 0, .int .u64 0, .int .u64 0] 24 (0, 0))) ∧ Aside0 (Below w.heap.size w wc))
 case first =>
  have H := HC3.out
  clear HC3
  replace H := iD H; rcases H with ⟨c5b0, H⟩ | ⟨c5b0, H⟩
  ·(skip)
   have H' := Aside0.mk H
   clear H
   go_wp2
   go_meet
   case rel => exact ⟨_, (true), (by rfl), H', ⟨by omega⟩, ⟨by exact BK103.out⟩, ⟨by repeat (with_reducible exact HB.out)⟩⟩
  ·(skip)
   have H' := Aside0.mk H
   clear H
   go_wp2
   go_meet
   case rel => exact ⟨_, (decide (a0 > 64)), (by rfl), H', ⟨by omega⟩, ⟨by exact BK103.out⟩, ⟨by repeat (with_reducible exact HB.out)⟩⟩
 case rest =>
  clear HC3
  obtain ⟨kq, x11_2, rfl, HA, HJ2, BK103, HB⟩ := hcut
  cases kq with
  | zero => exact absurd HA.out (by simp [bits_All.j0])
  | succ kj2 =>
   have H := HA.out
   clear HA
   simp only [bits_All.j0] at H
   replace H := iB H; rcases H with ⟨rfl, H⟩ | ⟨rfl, H⟩
   ·replace H := s3 H; obtain ⟨rfl, rfl, rfl⟩ := H
    obtain ⟨hcz7_0, hcz7_1, hcz7_2, hfz7_0, hfz7_1, hfz7_2⟩ := cf3 BK103
    go_wp2
    refine retA gb103 24 #[.int .i64 0, .int .u64 0, .int .u64 0] (put3 BK103) Tryd.underlying24 ?_
    exact ⟨by rfl, by repeat (with_reducible first | exact HB.out | refine below_set ?_ GE103.out)⟩
   ·replace H := bN H; obtain ⟨t104, A8, H⟩ := H
    replace H := iE H; rcases H with ⟨c9b0, c9b1, H⟩ | ⟨c9, c9b0, c9b1, H⟩
    ·replace H := s3 H; obtain ⟨rfl, rfl, rfl⟩ := H
     go_wp2_with ((refine callA (some 14) Tryd.func58 #[.int .i64 a0] ?_; (with_reducible refine (bits_mask.calls a0 t104 _ A8.out).mono ?_); rintro e w' ⟨rfl, ⟨nd, rfl⟩⟩; refine ⟨_, rfl, ?_⟩; (try (rw [drewN_self wc]; generalize hq_ : World.drewN wc _ = wc; have n0_ : Aside0 (wc.heap[gb103]? = some (.cells #[.int .i64 0, .int .u64 0, .int .u64 0] 24 (0, 0))) := ⟨by rw [← hq_]; exact (by (with_reducible repeat (refine blk_drewN ?_ _)); exact BK103.out)⟩; have n1_ : Aside0 (Below w.heap.size w wc) := ⟨by rw [← hq_]; exact (by repeat (with_reducible first | exact HB.out | apply pw_below_drewN))⟩; clear BK103 HB hq_; have BK103 := n0_; have HB := n1_; clear n0_ n1_)); obtain ⟨hcz10_0, hcz10_1, hcz10_2, hfz10_0, hfz10_1, hfz10_2⟩ := cf3 BK103))
     refine retA gb103 24 #[.int .i64 a0, .int .u64 0, .int .u64 0] (put3 BK103) Tryd.underlying24 ?_
     exact ⟨by rfl, by repeat (with_reducible first | exact HB.out | refine below_set ?_ GE103.out)⟩
    ·replace H := iE H; rcases H with ⟨c11b0, c11b1, H⟩ | ⟨c11, c11b0, c11b1, H⟩
     ·replace H := s3 H; obtain ⟨rfl, rfl, rfl⟩ := H
      go_wp2_with ((refine callA (some 14) Tryd.func58 #[.int .i64 a0] ?_; (with_reducible refine (bits_mask.calls a0 t104 _ A8.out).mono ?_); rintro e w' ⟨rfl, ⟨nd, rfl⟩⟩; refine ⟨_, rfl, ?_⟩; (try (rw [drewN_self wc]; generalize hq_ : World.drewN wc _ = wc; have n0_ : Aside0 (wc.heap[gb103]? = some (.cells #[.int .i64 0, .int .u64 0, .int .u64 0] 24 (0, 0))) := ⟨by rw [← hq_]; exact (by (with_reducible repeat (refine blk_drewN ?_ _)); exact BK103.out)⟩; have n1_ : Aside0 (Below w.heap.size w wc) := ⟨by rw [← hq_]; exact (by repeat (with_reducible first | exact HB.out | apply pw_below_drewN))⟩; clear BK103 HB hq_; have BK103 := n0_; have HB := n1_; clear n0_ n1_)); obtain ⟨hcz12_0, hcz12_1, hcz12_2, hfz12_0, hfz12_1, hfz12_2⟩ := cf3 BK103))
      refine retA gb103 24 #[.int .i64 a0, .int .u64 t104, .int .u64 0] (put3 BK103) Tryd.underlying24 ?_
      exact ⟨by rfl, by repeat (with_reducible first | exact HB.out | refine below_set ?_ GE103.out)⟩
     ·replace H := iE H; rcases H with ⟨c13b0, c13b1, H⟩ | ⟨c13, c13b0, c13b1, H⟩
      ·replace H := s3 H; obtain ⟨rfl, rfl, rfl⟩ := H
       go_wp2_with ((refine callA (some 14) Tryd.func58 #[.int .i64 a0] ?_; (with_reducible refine (bits_mask.calls a0 t104 _ A8.out).mono ?_); rintro e w' ⟨rfl, ⟨nd, rfl⟩⟩; refine ⟨_, rfl, ?_⟩; (try (rw [drewN_self wc]; generalize hq_ : World.drewN wc _ = wc; have n0_ : Aside0 (wc.heap[gb103]? = some (.cells #[.int .i64 0, .int .u64 0, .int .u64 0] 24 (0, 0))) := ⟨by rw [← hq_]; exact (by (with_reducible repeat (refine blk_drewN ?_ _)); exact BK103.out)⟩; have n1_ : Aside0 (Below w.heap.size w wc) := ⟨by rw [← hq_]; exact (by repeat (with_reducible first | exact HB.out | apply pw_below_drewN))⟩; clear BK103 HB hq_; have BK103 := n0_; have HB := n1_; clear n0_ n1_)); obtain ⟨hcz14_0, hcz14_1, hcz14_2, hfz14_0, hfz14_1, hfz14_2⟩ := cf3 BK103))
       refine retA gb103 24 #[.int .i64 a0, .int .u64 t104, .int .u64 t104] (put3 BK103) Tryd.underlying24 ?_
       exact ⟨by rfl, by repeat (with_reducible first | exact HB.out | refine below_set ?_ GE103.out)⟩
      ·replace H := iE H; rcases H with ⟨c15b0, c15b1, H⟩ | ⟨c15, c15b0, c15b1, H⟩
       ·replace H := s3 H; obtain ⟨rfl, rfl, rfl⟩ := H
        go_wp2_with ((refine callA (some 14) Tryd.func58 #[.int .i64 a0] ?_; (with_reducible refine (bits_mask.calls a0 t104 _ A8.out).mono ?_); rintro e w' ⟨rfl, ⟨nd, rfl⟩⟩; refine ⟨_, rfl, ?_⟩; (try (rw [drewN_self wc]; generalize hq_ : World.drewN wc _ = wc; have n0_ : Aside0 (wc.heap[gb103]? = some (.cells #[.int .i64 0, .int .u64 0, .int .u64 0] 24 (0, 0))) := ⟨by rw [← hq_]; exact (by (with_reducible repeat (refine blk_drewN ?_ _)); exact BK103.out)⟩; have n1_ : Aside0 (Below w.heap.size w wc) := ⟨by rw [← hq_]; exact (by repeat (with_reducible first | exact HB.out | apply pw_below_drewN))⟩; clear BK103 HB hq_; have BK103 := n0_; have HB := n1_; clear n0_ n1_)); obtain ⟨hcz16_0, hcz16_1, hcz16_2, hfz16_0, hfz16_1, hfz16_2⟩ := cf3 BK103))
        refine retA gb103 24 #[.int .i64 a0, .int .u64 0, .int .u64 t104] (put3 BK103) Tryd.underlying24 ?_
        exact ⟨by rfl, by repeat (with_reducible first | exact HB.out | refine below_set ?_ GE103.out)⟩
       ·replace H := s3 H; obtain ⟨rfl, rfl, rfl⟩ := H
        go_wp2_with ((refine callA (some 14) Tryd.func58 #[.int .i64 a0] ?_; (with_reducible refine (bits_mask.calls a0 t104 _ A8.out).mono ?_); rintro e w' ⟨rfl, ⟨nd, rfl⟩⟩; refine ⟨_, rfl, ?_⟩; (try (rw [drewN_self wc]; generalize hq_ : World.drewN wc _ = wc; have n0_ : Aside0 (wc.heap[gb103]? = some (.cells #[.int .i64 0, .int .u64 0, .int .u64 0] 24 (0, 0))) := ⟨by rw [← hq_]; exact (by (with_reducible repeat (refine blk_drewN ?_ _)); exact BK103.out)⟩; have n1_ : Aside0 (Below w.heap.size w wc) := ⟨by rw [← hq_]; exact (by repeat (with_reducible first | exact HB.out | apply pw_below_drewN))⟩; clear BK103 HB hq_; have BK103 := n0_; have HB := n1_; clear n0_ n1_)); obtain ⟨hcz17_0, hcz17_1, hcz17_2, hfz17_0, hfz17_1, hfz17_2⟩ := cf3 BK103))
        refine retA gb103 24 #[.int .i64 0, .int .u64 0, .int .u64 0] (put3 BK103) Tryd.underlying24 ?_
        exact ⟨by rfl, by repeat (with_reducible first | exact HB.out | refine below_set ?_ GE103.out)⟩
end Go.Proofs.YtfigblfjogpojaaDoor.PBits
end
