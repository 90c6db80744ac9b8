/- Part 32 of the proof of BitsNumbersCardSaid: The law BitsNumbers: for all arguments it returns true; each argument reads behind the call as it read before. Out of the plain theorem of YtfigblfjogpojaaDoorPureBitsNumbers and the printed contract. -/
import Derived.Test.YtfigblfjogpojaaDoorQBitsNumbers15
import Derived.Test.YtfigblfjogpojaaDoorQBitsNumbers14
import Derived.Test.YtfigblfjogpojaaDoorQBitsNumbers21
import Derived.Test.YtfigblfjogpojaaDoorQBitsNumbers28
import Derived.Test.YtfigblfjogpojaaDoorQBitsNumbers18
section
namespace Go.Proofs.YtfigblfjogpojaaDoor.PBits
open Go.RowKit Go.Proofs.YtfigblfjogpojaaDoorW.PrintWords Go.Proofs.YtfigblfjogpojaaDoorW.PrintLast Go.Proofs.YtfigblfjogpojaaDoorW.PrintMore
attribute [local go_sem] max2_int min2_int max_two min_two max_three min_three max_four min_four
set_option linter.unusedVariables false
set_option linter.unusedSimpArgs false
def bits_Of.f (a0 : Int) (a1 : Int) : Option (Int × Int × Int) := if a0 < 1 then (some (0, 0, 0)) else (if a0 > 64 then (some (0, 0, 0)) else ((bits_mask.f a0).bind fun t102 => (some (a0, Go.bits .and .u64 a1 t102, 0))))
set_option maxHeartbeats 8000000 in
set_option maxRecDepth 100000 in
theorem bits_Of.calls (a0 : Int) (a1 : Int) (r1 : Int) (r2 : Int) (r3 : Int) (w : World) (h : bits_Of.f a0 a1 = some (r1, r2, r3)) :
  Calls Tryd.prog 24 #[.int .i64 a0, .int .u64 a1] w fun e w' => e = .returned (.agg #[.int .i64 r1, .int .u64 r2, .int .u64 r3]) ∧ Below w.heap.size w w' := by
 have hu24 := Tryd.underlying24
 have HB := Aside0.mk (Below.refl w.heap.size w)
 have H := h
 clear h
 unfold bits_Of.f at H
 replace H := iD H; rcases H with ⟨c3b0, H⟩ | ⟨c3b0, H⟩
 ·replace H := s3 H; obtain ⟨rfl, rfl, rfl⟩ := H
  go_enter Tryd.func24, Tryd.ntmps24
  go_wp2_with ((refine boxA HB 4 #[.int .i64 0, .int .u64 0, .int .u64 0] 24 ?_; clear HB; intro gb101 w4 BK101 GE101 hg hb HB; clear hb hg; obtain ⟨hcz5_0, hcz5_1, hcz5_2, hfz5_0, hfz5_1, hfz5_2⟩ := cf3 BK101))
  refine retA gb101 24 #[.int .i64 0, .int .u64 0, .int .u64 0] (put3 BK101) Tryd.underlying24 ?_
  exact ⟨by rfl, by repeat (with_reducible first | exact HB.out | refine below_set ?_ GE101.out)⟩
 ·replace H := iD H; rcases H with ⟨c6b0, H⟩ | ⟨c6b0, H⟩
  ·replace c6b0 : decide (64 < a0) = true := c6b0
   replace H := s3 H; obtain ⟨rfl, rfl, rfl⟩ := H
   go_enter Tryd.func24, Tryd.ntmps24
   go_wp2_with ((refine boxA HB 4 #[.int .i64 0, .int .u64 0, .int .u64 0] 24 ?_; clear HB; intro gb101 w7 BK101 GE101 hg hb HB; clear hb hg; obtain ⟨hcz8_0, hcz8_1, hcz8_2, hfz8_0, hfz8_1, hfz8_2⟩ := cf3 BK101))
   refine retA gb101 24 #[.int .i64 0, .int .u64 0, .int .u64 0] (put3 BK101) Tryd.underlying24 ?_
   exact ⟨by rfl, by repeat (with_reducible first | exact HB.out | refine below_set ?_ GE101.out)⟩
  ·replace c6b0 : decide (64 < a0) = false := c6b0
   replace H := bN H; obtain ⟨t102, A9, H⟩ := H
   replace H := s3 H; obtain ⟨rfl, rfl, rfl⟩ := H
   go_enter Tryd.func24, Tryd.ntmps24
   go_wp2_with (first | (refine boxA HB 4 #[.int .i64 0, .int .u64 0, .int .u64 0] 24 ?_; clear HB; intro gb101 w10 BK101 GE101 hg hb HB; clear hb hg) | (refine callA (some 15) Tryd.func58 #[.int .i64 a0] ?_; (with_reducible refine (bits_mask.calls a0 t102 _ A9.out).mono ?_); rintro e w' ⟨rfl, ⟨nd, rfl⟩⟩; refine ⟨_, rfl, ?_⟩; (try (rw [drewN_self w10]; generalize hq_ : World.drewN w10 _ = w10; have n0_ : Aside0 (w10.heap[gb101]? = some (.cells #[.int .i64 0, .int .u64 0, .int .u64 0] 24 (0, 0))) := ⟨by rw [← hq_]; exact (by (with_reducible repeat (refine blk_drewN ?_ _)); exact BK101.out)⟩; have n1_ : Aside0 (Below w.heap.size w w10) := ⟨by rw [← hq_]; exact (by repeat (with_reducible first | exact HB.out | apply pw_below_drewN))⟩; clear BK101 HB hq_; have BK101 := n0_; have HB := n1_; clear n0_ n1_)); obtain ⟨hcz11_0, hcz11_1, hcz11_2, hfz11_0, hfz11_1, hfz11_2⟩ := cf3 BK101))
   refine retA gb101 24 #[.int .i64 a0, .int .u64 (Go.bits .and .u64 a1 t102), .int .u64 0] (put3 BK101) Tryd.underlying24 ?_
   exact ⟨by rfl, by repeat (with_reducible first | exact HB.out | refine below_set ?_ GE101.out)⟩
end Go.Proofs.YtfigblfjogpojaaDoor.PBits
end
section
namespace Go.Proofs.YtfigblfjogpojaaDoor.PBits
open Go.RowKit Go.Proofs.YtfigblfjogpojaaDoorW.PrintWords Go.Proofs.YtfigblfjogpojaaDoorW.PrintLast Go.Proofs.YtfigblfjogpojaaDoorW.PrintMore
attribute [local go_sem] max2_int min2_int max_two min_two max_three min_three max_four min_four
set_option linter.unusedVariables false
set_option linter.unusedSimpArgs false
def maskref1_times.l0 : Nat → List Int → List Int → List Int → Int → Int → Option (List Int)
 | 0, _, _, _, _, _ => none
 | k + 1, x0, x5, x11, x12, x13 => if x13 < x12 then (if 0 ≤ x13 then (if x13 < (x11.length : Int) then (if (rd x11 x13) = 49 then ((maskref1_Fill.f k x13 48).bind fun t791 => (if 0 ≤ (wrap64 ((x0.length : Int) - x13)) then (if (wrap64 ((x0.length : Int) - x13)) ≤ (x0.length : Int) then (if t791.length + (x0.take ((wrap64 ((x0.length : Int) - x13)) : Int).toNat).length < 140737488355328 then ((maskref1_plus.f k x5 (t791 ++ (x0.take ((wrap64 ((x0.length : Int) - x13)) : Int).toNat)) 48).bind fun t798 => (maskref1_times.l0 k x0 t798 x11 x12 (wrap64 (x13 + 1)))) else (none)) else (none)) else (none))) else (maskref1_times.l0 k x0 x5 x11 x12 (wrap64 (x13 + 1)))) else (none)) else (none)) else (some x5)
def maskref1_times.f (k : Nat) (l0 : List Int) (l1 : List Int) : Option (List Int) := (maskref1_Fill.f k (l0.length : Int) 48).bind fun t787 => (maskref1_times.l0 k l0 t787 l1 (l1.length : Int) 0)
def maskref1_times.T6 : Bool × List (List Nat × List Nat) := (true, [([], []), ([], []), ([1], [1]), ([], []), ([], []), ([4], [4]), ([], []), ([5, 6], [5, 6]), ([3, 7], [3, 7]), ([2, 8, 2], [2, 8]), ([0, 9, 9], [0, 9]), ([10, 10, 0, 1, 2, 3, 4, 5, 6, 7, 8, 9, 10], [0, 10])])
def maskref1_times.B6 : List Nat := [0, 0, 2, 0, 0, 16, 0, 112, 248, 510, 1023, 2047]
theorem maskref1_times.tab6 : rtab .any (opsOf Tryd.f110 6) = maskref1_times.T6 := by kernel_rfl
theorem maskref1_times.bits6 : waitsOk maskref1_times.T6.2 maskref1_times.B6 = true := by kernel_rfl
set_option maxHeartbeats 8000000 in
set_option maxRecDepth 100000 in
theorem maskref1_times.calls (k : Nat) (A0 : Option Addr) (c0 : Nat) (l0 : List Int) (A1 : Option Addr) (c1 : Nat) (l1 : List Int) (r : List Int) (w : World) (hr0 : Kd.C (Kd.int .u8) w A0 l0.length l0) (hc0 : l0.length ≤ c0) (hr1 : Kd.C (Kd.int .u8) w A1 l1.length l1) (hc1 : l1.length ≤ c1) (h : maskref1_times.f k l0 l1 = some r) :
  Calls Tryd.prog 110 #[.slice A0 l0.length c0, .slice A1 l1.length c1] w fun e w' => ∃ v0_ : Value, e = .returned (v0_) ∧ Kd.R (Kd.int .u8) 5 w' w.heap.size (fun _ => True) v0_ r ∧ Below w.heap.size w w' := by
 have HR0 := Aside0.mk hr0
 have HC0 := Aside0.mk hc0
 clear hr0 hc0
 have HR1 := Aside0.mk hr1
 have HC1 := Aside0.mk hc1
 clear hr1 hc1
 have HB := Aside0.mk (Below.refl w.heap.size w)
 have H := h
 clear h
 unfold maskref1_times.f at H
 replace H := bN H; obtain ⟨t787, A3, H⟩ := H
 have H' := Aside0.mk H
 clear H
 go_enter Tryd.func110, Tryd.ntmps110
 go_wp2_with ((refine callA (some 10) Tryd.func27 #[.int .i64 (l0.length : Int), .int .u8 48] ?_; (with_reducible refine (maskref1_Fill.calls k (l0.length : Int) 48 t787 _ A3.out).mono ?_); rintro e w4 ⟨v788, rfl, ho0, hb⟩; refine ⟨_, rfl, ?_⟩; have HO789 := Aside0.mk (Kd.R_lower ho0 (below_size HB.out)); replace HB := hb1 HB hb; (try clear hb); (try clear ho0)))
 go_loopg [5, 13] k (fun kq v5 v13 w' => ∃ (x5_1 : List Int) (x13_1 : Int), v13 = .int .i64 x13_1 ∧ Aside0 (maskref1_times.l0 kq l0 x5_1 l1 (l1.length : Int) x13_1 = some r) ∧ Aside0 (kq ≤ k) ∧ Aside0 (Kd.R (Kd.int .u8) 5 w' w.heap.size (fun _ => True) v5 x5_1) ∧ Aside0 (Below w.heap.size w w'))
 case atStart => exact ⟨(t787), (0), (by rfl), H', ⟨Nat.le_refl _⟩, ⟨by exact HO789.out⟩, ⟨by repeat (with_reducible exact HB.out)⟩⟩
 case round =>
  clear H'
  obtain ⟨x5_1, x13_1, rfl, HA, HK1, HO_5, HB⟩ := hrel
  cases gk with
  | zero => exact absurd HA.out (by simp [maskref1_times.l0])
  | succ k1 =>
   have H := HA.out
   clear HA
   simp only [maskref1_times.l0] at H
   replace H := iD H; rcases H with ⟨c5b0, H⟩ | ⟨c5b0, H⟩
   ·replace H := iN H; obtain ⟨c6b0, H⟩ := H
    replace H := iN H; obtain ⟨c7b0, H⟩ := H
    replace H := iE H; rcases H with ⟨c8b0, c8b1, H⟩ | ⟨c8, c8b0, c8b1, H⟩
    ·replace H := bN H; obtain ⟨t791, A9, H⟩ := H
     obtain ⟨ji10, hji10⟩ : ∃ j_ : Int, (wrap64 ((l0.length : Int) - x13_1)) = j_ := ⟨_, rfl⟩
     replace H : (if 0 ≤ (ji10) then (if (ji10) ≤ (l0.length : Int) then (if t791.length + (l0.take ((ji10) : Int).toNat).length < 140737488355328 then ((maskref1_plus.f k1 x5_1 (t791 ++ (l0.take ((ji10) : Int).toNat)) 48).bind fun t798 => (maskref1_times.l0 k1 l0 t798 l1 (l1.length : Int) (wrap64 (x13_1 + 1)))) else (none)) else (none)) else (none)) = some r := by (rw [hji10] at H; exact H)
     have hji10w : (IntKind.i64.wrap ((l0.length : Int) - x13_1)) = ji10 := (i64_w _).trans hji10
     by_cases c11 : 0 ≤ (ji10)
     ·rw [if_pos c11] at H
      have c11b0 := eq_true c11
      have c11b1 : decide (0 ≤ (ji10)) = true := decide_eq_true c11
      clear c11
      by_cases c12 : (ji10) ≤ (l0.length : Int)
      ·rw [if_pos c12] at H
       have c12b0 := eq_true c12
       have c12b1 : decide ((ji10) ≤ (l0.length : Int)) = true := decide_eq_true c12
       clear c12
       by_cases c13 : t791.length + (l0.take ((ji10) : Int).toNat).length < 140737488355328
       ·rw [if_pos c13] at H
        have LMc13 := Aside0.mk c13
        clear c13
        obtain ⟨y795, hy795⟩ : ∃ y_ : List Int, y_ = (t791 ++ (l0.take ((ji10) : Int).toNat)) := ⟨_, rfl⟩
        replace H : ((maskref1_plus.f k1 x5_1 y795 48).bind fun t798 => (maskref1_times.l0 k1 l0 t798 l1 (l1.length : Int) (wrap64 (x13_1 + 1)))) = some r := by (rw [hy795]; with_reducible exact H)
        have Ny795 := Aside0.mk hy795
        clear hy795
        replace H := bN H; obtain ⟨t798, A14, H⟩ := H
        have H' := Aside0.mk H
        clear H
        have p790 : 0 ≤ (x13_1 : Int) := of_decide_eq_true (by (with_reducible assumption))
        have q790 : x13_1 < (l1.length : Int) := of_decide_eq_true (by (with_reducible assumption))
        obtain ⟨ad790, e790, hx790_0⟩ := Kd.at_int HR1.out x13_1 p790 q790
        cases e790
        replace hx790_0 := (HB.out.cell (World.block_lt_of_cell? w _ hx790_0)).trans hx790_0
        replace p790 := eq_true p790
        replace q790 := eq_true q790
        try go_wp2
        replace HO_5 := Aside0.mk (Kd.R_drew HO_5.out)
        replace HB := hbd HB
        obtain ⟨i016, hi016, _, hsz16, _⟩ := info_parts info5
        obtain ⟨hcut16, hA16, hC16⟩ := print_take_of (P := Tryd.prog) (Value.int .u8) 0 43 5 .i64 Tryd.underlying43 hi016 hsz16 A0 c0 l0 (ji10) (of_decide_eq_true (by (with_reducible assumption))) (of_decide_eq_true (by (with_reducible assumption))) HC0.out
        have HR794 := Aside0.mk (Kd.C_of_reads (h1 := fun _ => rfl) (hA16 _ (Kd.reads_of_C HR0.out)))
        have HC794 := Aside0.mk hC16
        clear hA16 hC16 hi016 hsz16
        refine start_ (n := 12) (S := fun w' => True) (ds := []) (tb 12 0) (by kernel_rfl) rfl (by kernel_rfl) trivial (fun hHeld => ?_); refine with_tabW maskref1_times.tab6 maskref1_times.bits6 (fun HT_ HW_ => ?_)
        generalize wr.drew = w15 at HO_5 HB HR794 hHeld ⊢
        refine pA 0 20 (tb 12 1) HT_ ?_
        refine pA 1 21 (tb 12 3) HT_ ?_
        refine pA 3 23 (tb 12 11) HT_ ?_
        refine pA 4 24 (tb 12 27) HT_ ?_
        refine pA 5 25 (tb 12 59) HT_ ?_
        refine pA 6 26 (tb 12 123) HT_ ?_
        refine pA 7 27 (tb 12 251) HT_ ?_
        refine pA 8 28 (tb 12 507) HT_ ?_
        refine oA 2 (some 22) (tb 12 511) HT_ (fun K hK => ?_)
        refine gA Tryd.func27 #[.int .i64 x13_1, .int .u8 48] ?_
        with_reducible refine (maskref1_Fill.calls k1 x13_1 48 t791 _ A9.out).mono ?_
        rintro e w17 ⟨v792, rfl, ho0, hb⟩
        refine ⟨_, rfl, ?_⟩
        have HO793 := Aside0.mk (Kd.R_lower (Kd.R_new' ho0 (Kd.R_lt HO_5.out)) (below_size HB.out))
        replace HO_5 := Aside0.mk (Kd.R_elder' HO_5.out (Kd.R_base ho0) hb)
        replace HB := hb1 HB hb
        (try clear hb)
        (try clear ho0)
        refine hK.out _ _ trivial (fun hHeld => ?_)
        clear hK K
        refine nA ?_
        refine oA 9 (some 29) (tb 12 1023) HT_ (fun K hK => ?_)
        refine Kd.R_append_rows_step (Kd.int .u8) (w0 := w) w.heap.size (by rfl) (.tmp 22) (.tmp 28) 43 5 (.int .u8 0) 1 rfl Tryd.underlying43 info5 rfl (by decide) (by omega) v792 t791 (l0.take ((ji10) : Int).toNat) _ _ _ (fun k_ => some k_ ≠ (u5 : Value).ownBlock) (fun _ => False) rfl rfl ?aO ?aR (fun _ _ h => h) (fun _ h => h.elim) ?aF ?aB ?aS ?aL ?_
        (case aR => ((repeat (exact (by have h_ := (Kd.C_below HR794.out HB.out); rw [show (l0.take ((ji10) : Int).toNat).length = (ji10).toNat from (by rw [List.length_take]; have h_ : ((ji10) : Int) ≤ (l0.length : Int) := of_decide_eq_true (by (with_reducible assumption)); omega)] at h_; exact h_))); done))
        (case aB => exact HB.out)
        (case aF => exact (fun k_ hk => Kd.fresh' (Kd.R_lt HO_5.out) k_ hk))
        (case aO => exact (by exact Kd.R_mono HO793.out (fun _ hk => hk.2)))
        (case aS => exact (below_size HB.out))
        (case aL => have := LMc13.out; have hlx_ := (show (l0.take ((ji10) : Int).toNat).length = (ji10).toNat from (by rw [List.length_take]; have h_ : ((ji10) : Int) ≤ (l0.length : Int) := of_decide_eq_true (by (with_reducible assumption)); omega)); omega)
        intro v796 w18 ho hb hg hat
        rw [← Ny795.out] at ho
        replace HO_5 := Aside0.mk (Kd.R_after (ok := (fun _ => True)) HO_5.out hg hat)
        replace HB := Aside0.mk (hb)
        have HO797 := Aside0.mk (ho)
        clear HO793
        clear ho hb hg hat
        obtain ⟨Ao19, co19, eo19⟩ := Kd.R_slice HO_5.out
        (subst eo19)
        obtain ⟨Ao20, co20, eo20⟩ := Kd.R_slice HO797.out
        (subst eo20)
        refine hK.out _ _ trivial (fun hHeld => ?_)
        clear hK K
        refine nA ?_
        refine oA 10 (some 30) (tb 12 2047) HT_ (fun K hK => ?_)
        refine gA Tryd.func75 #[.slice Ao19 x5_1.length co19, .slice Ao20 y795.length co20, .int .u8 48] ?_
        with_reducible refine (maskref1_plus.calls k1 _ _ x5_1 _ _ y795 48 t798 _ ?side1 ?side2 ?side3 ?side4 A14.out).mono ?_
        (case side1 => exact (Kd.R_reads' HO_5.out).2.2)
        (case side2 => exact (Kd.R_reads' HO_5.out).2.1)
        (case side3 => exact (Kd.R_reads' HO797.out).2.2)
        (case side4 => exact (Kd.R_reads' HO797.out).2.1)
        rintro e w21 ⟨v799, rfl, ho0, hb⟩
        refine ⟨_, rfl, ?_⟩
        have HO800 := Aside0.mk (Kd.R_lower (Kd.R_new' (Kd.R_new' ho0 (Kd.R_lt HO_5.out)) (Kd.R_lt HO797.out)) (below_size HB.out))
        replace HO_5 := Aside0.mk (Kd.R_elder' HO_5.out (Kd.R_base ho0) hb)
        replace HO797 := Aside0.mk (Kd.R_elder' HO797.out (Kd.R_base ho0) hb)
        replace HB := hb1 HB hb
        (try clear hb)
        (try clear ho0)
        refine hK.out _ _ trivial (fun hHeld => ?_)
        clear hK K
        refine nA ?_
        refine pA 11 5 (tb 12 4095) HT_ ?_
        refine done_ (done_of HT_.out (by kernel_rfl)) ?_
        try go_wp2
        go_roundg k1
        case measure => have := HK1.out; omega
        case rel => exact ⟨(t798), (wrap64 (x13_1 + 1)), (by rfl), H', ⟨by have := HK1.out; omega⟩, ⟨by exact Kd.R_mono HO800.out (fun _ hk => trivial)⟩, ⟨by repeat (with_reducible exact HB.out)⟩⟩
       ·rw [if_neg c13] at H
        exact absurd H (by simp)
      ·rw [if_neg c12] at H
       exact absurd H (by simp)
     ·rw [if_neg c11] at H
      exact absurd H (by simp)
    ·have H' := Aside0.mk H
     clear H
     have p790 : 0 ≤ (x13_1 : Int) := of_decide_eq_true (by (with_reducible assumption))
     have q790 : x13_1 < (l1.length : Int) := of_decide_eq_true (by (with_reducible assumption))
     obtain ⟨ad790, e790, hx790_0⟩ := Kd.at_int HR1.out x13_1 p790 q790
     cases e790
     replace hx790_0 := (HB.out.cell (World.block_lt_of_cell? w _ hx790_0)).trans hx790_0
     replace p790 := eq_true p790
     replace q790 := eq_true q790
     go_wp2
     go_roundg k1
     case measure => have := HK1.out; omega
     case rel => exact ⟨(x5_1), (wrap64 (x13_1 + 1)), (by rfl), H', ⟨by have := HK1.out; omega⟩, ⟨by exact HO_5.out⟩, ⟨by repeat (with_reducible exact HB.out)⟩⟩
   ·obtain rfl := Option.some.inj H
    go_wp2
    go_ret
    exact ⟨_, by rfl, by exact HO_5.out, by repeat (with_reducible exact HB.out)⟩
end Go.Proofs.YtfigblfjogpojaaDoor.PBits
end
section
namespace Go.Proofs.YtfigblfjogpojaaDoor.PBits
open Go.RowKit Go.Proofs.YtfigblfjogpojaaDoorW.PrintWords Go.Proofs.YtfigblfjogpojaaDoorW.PrintLast Go.Proofs.YtfigblfjogpojaaDoorW.PrintMore
attribute [local go_sem] max2_int min2_int max_two min_two max_three min_three max_four min_four
set_option linter.unusedVariables false
set_option linter.unusedSimpArgs false
def maskref1_over.l0 : Nat → List Int → List Int → List Int → List Int → Int → Option (List Int × List Int)
 | 0, _, _, _, _, _ => none
 | k + 1, x0, x6, x7, x8, x9 => if x9 ≥ 0 then (if 0 ≤ x9 then (if x9 < (x0.length : Int) then ((some (([rd x0 x9] : List Int) : List Int)).bind fun y820 => (if 0 ≤ (x0.length : Int) then (if (x0.length : Int) ≤ (x7.length : Int) then ((some (x7.take ((x0.length : Int) : Int).toNat : List Int)).bind fun y823 => (if y820.length + y823.length < 140737488355328 then ((some (y820 ++ y823 : List Int)).bind fun y827 => ((maskref1_below.f k y827 x8 false).bind fun t830 => (if t830 = true then (maskref1_over.l0 k x0 x6 y827 x8 (wrap64 (x9 - 1))) else ((maskref1_minus.f k y827 x8).bind fun t831 => (if x9 < (x6.length : Int) then (maskref1_over.l0 k x0 (x6.set (x9 : Int).toNat 49) t831 x8 (wrap64 (x9 - 1))) else (none)))))) else (none))) else (none)) else (none))) else (none)) else (none)) else (if 0 ≤ (x0.length : Int) then (if (x0.length : Int) ≤ (x7.length : Int) then (some (x6, (x7.take ((x0.length : Int) : Int).toNat))) else (none)) else (none))
def maskref1_over.f (k : Nat) (l0 : List Int) (l1 : List Int) : Option (List Int × List Int) := (maskref1_Fill.f k (l0.length : Int) 48).bind fun t801 => ((maskref1_Fill.f k (wrap64 ((l0.length : Int) + 1)) 48).bind fun t804 => ((some (([] : List Int) : List Int)).bind fun y807 => (if y807.length + l1.length < 140737488355328 then ((some (y807 ++ l1 : List Int)).bind fun y810 => (if y810.length < 140737488355328 then (maskref1_over.l0 k l0 t801 t804 (y810 ++ [48]) (wrap64 ((l0.length : Int) - 1))) else (none))) else (none))))
def maskref1_over.T6 : Bool × List (List Nat × List Nat) := (true, [([], []), ([], []), ([0, 1], [0, 1]), ([2], [2]), ([3], [3]), ([], []), ([], []), ([6], [6]), ([5, 7], [5, 7]), ([4, 8], [4, 8]), ([9, 9, 0, 1, 2, 3, 4, 5, 6, 7, 8, 9], [5, 9])])
def maskref1_over.B6 : List Nat := [0, 0, 3, 7, 15, 0, 0, 64, 224, 511, 1023]
theorem maskref1_over.tab6 : rtab .any (opsOf Tryd.f124 6) = maskref1_over.T6 := by kernel_rfl
theorem maskref1_over.bits6 : waitsOk maskref1_over.T6.2 maskref1_over.B6 = true := by kernel_rfl
set_option maxHeartbeats 8000000 in
set_option maxRecDepth 100000 in
theorem maskref1_over.calls (k : Nat) (A0 : Option Addr) (c0 : Nat) (l0 : List Int) (A1 : Option Addr) (c1 : Nat) (l1 : List Int) (r1 : List Int) (r2 : List Int) (w : World) (hr0 : Kd.C (Kd.int .u8) w A0 l0.length l0) (hc0 : l0.length ≤ c0) (hr1 : Kd.C (Kd.int .u8) w A1 l1.length l1) (hc1 : l1.length ≤ c1) (h : maskref1_over.f k l0 l1 = some (r1, r2)) :
  Calls Tryd.prog 124 #[.slice A0 l0.length c0, .slice A1 l1.length c1] w fun e w' => ∃ v0_ v1_ : Value, e = .returned (.tuple #[v0_, v1_]) ∧ Kd.R (Kd.int .u8) 5 w' w.heap.size (fun k_ => some k_ ≠ (v1_ : Value).ownBlock) v0_ r1 ∧ Kd.R (Kd.int .u8) 5 w' w.heap.size (fun k_ => some k_ ≠ (v0_ : Value).ownBlock) v1_ r2 ∧ Below w.heap.size w w' := by
 have HR0 := Aside0.mk hr0
 have HC0 := Aside0.mk hc0
 clear hr0 hc0
 have HR1 := Aside0.mk hr1
 have HC1 := Aside0.mk hc1
 clear hr1 hc1
 have HB := Aside0.mk (Below.refl w.heap.size w)
 have H := h
 clear h
 unfold maskref1_over.f at H
 replace H := bN H; obtain ⟨t801, A3, H⟩ := H
 replace H := bN H; obtain ⟨t804, A4, H⟩ := H
 obtain ⟨y807, hy807⟩ : ∃ y_ : List Int, y_ = ([] : List Int) := ⟨_, rfl⟩
 replace H : (if y807.length + l1.length < 140737488355328 then ((some (y807 ++ l1 : List Int)).bind fun y810 => (if y810.length < 140737488355328 then (maskref1_over.l0 k l0 t801 t804 (y810 ++ [48]) (wrap64 ((l0.length : Int) - 1))) else (none))) else (none)) = some (r1, r2) := by (have H2_ := (Option.bind_some _ _).symm.trans H; rw [hy807]; with_reducible exact H2_)
 have Ny807 := Aside0.mk hy807
 clear hy807
 by_cases c5 : y807.length + l1.length < 140737488355328
 ·rw [if_pos c5] at H
  have LMc5 := Aside0.mk c5
  clear c5
  obtain ⟨y810, hy810⟩ : ∃ y_ : List Int, y_ = (y807 ++ l1) := ⟨_, rfl⟩
  replace H : (if y810.length < 140737488355328 then (maskref1_over.l0 k l0 t801 t804 (y810 ++ [48]) (wrap64 ((l0.length : Int) - 1))) else (none)) = some (r1, r2) := by (have H2_ := (Option.bind_some _ _).symm.trans H; rw [hy810]; with_reducible exact H2_)
  have Ny810 := Aside0.mk hy810
  clear hy810
  by_cases c6 : y810.length < 140737488355328
  ·rw [if_pos c6] at H
   have LMc6 := Aside0.mk c6
   clear c6
   obtain ⟨y813, hy813⟩ : ∃ y_ : List Int, y_ = (y810 ++ [48]) := ⟨_, rfl⟩
   replace H : (maskref1_over.l0 k l0 t801 t804 y813 (wrap64 ((l0.length : Int) - 1))) = some (r1, r2) := by (rw [hy813]; with_reducible exact H)
   have Ny813 := Aside0.mk hy813
   clear hy813
   have H' := Aside0.mk H
   clear H
   go_enter Tryd.func124, Tryd.ntmps124
   go_wp2_with (first | (refine callA (some 12) Tryd.func27 #[.int .i64 (l0.length : Int), .int .u8 48] ?_; (with_reducible refine (maskref1_Fill.calls k (l0.length : Int) 48 t801 _ A3.out).mono ?_); rintro e w7 ⟨v802, rfl, ho0, hb⟩; refine ⟨_, rfl, ?_⟩; have HO803 := Aside0.mk (Kd.R_lower ho0 (below_size HB.out)); replace HB := hb1 HB hb; (try clear hb); (try clear ho0)) | (refine callA (some 16) Tryd.func27 #[.int .i64 (wrap64 ((l0.length : Int) + 1)), .int .u8 48] ?_; (with_reducible refine (maskref1_Fill.calls k (wrap64 ((l0.length : Int) + 1)) 48 t804 _ A4.out).mono ?_); rintro e w8 ⟨v805, rfl, ho0, hb⟩; refine ⟨_, rfl, ?_⟩; have HO806 := Aside0.mk (Kd.R_lower (Kd.R_new' ho0 (Kd.R_lt HO803.out)) (below_size HB.out)); replace HO803 := Aside0.mk (Kd.R_elder' HO803.out (Kd.R_base ho0) hb); replace HB := hb1 HB hb; (try clear hb); (try clear ho0)) | ((with_reducible refine gate_dst (N := 17) rfl ?_); refine Kd.R_lit (Kd.int .u8) _ 5 ?hg (N := 17) ?hd (xs := ([] : List Int)) (inner := []) (ok := fun _ => True) (okp := fun _ => True) ?hr ?hp (fun _ hk => hk) trivial (Below.refl _ _) (Nat.le_refl _) (by simp) ?_; (case hd => rfl); (case hg => rfl); (case hr => (go_simp; done)); (case hp => exact (Reps.none _ _)); intro v808 w9 ho10 hb hg_ hnew_; clear hg_ hnew_; (rw [← Ny807.out] at ho10); have HO809 := Aside0.mk (Kd.R_lower (Kd.R_new' (Kd.R_new' ho10 (Kd.R_lt HO803.out)) (Kd.R_lt HO806.out)) (below_size HB.out)); replace HO803 := Aside0.mk (Kd.R_elder' HO803.out (Kd.R_base ho10) hb); replace HO806 := Aside0.mk (Kd.R_elder' HO806.out (Kd.R_base ho10) hb); replace HB := hb1 HB hb; clear hb ho10) | ((with_reducible refine gate_builtin (b := .append) (xs := #[.tmp 17, .tmp 18]) rfl ?_); at_builtin; refine Kd.R_append_rows (Kd.int .u8) (w0 := w) w.heap.size rfl (.tmp 17) (.tmp 18) 43 5 (.int .u8 0) 1 rfl Tryd.underlying43 info5 rfl (by decide) (by omega) v808 y807 l1 _ _ _ (fun k_ => some k_ ≠ (v802 : Value).ownBlock ∧ some k_ ≠ (v805 : Value).ownBlock) (fun _ => False) rfl rfl ?aO ?aR (fun _ _ h => h) (fun _ h => h.elim) ?aF ?aB ?aS ?aL ?_; (case aR => repeat (exact (Kd.C_below HR1.out HB.out))); (case aB => exact HB.out); (case aF => exact (fun k_ hk => (by exact ⟨Kd.fresh' (Kd.R_lt HO803.out) k_ hk, Kd.fresh' (Kd.R_lt HO806.out) k_ hk⟩))); (case aO => exact (by exact Kd.R_mono HO809.out (fun _ hk => (by exact ⟨hk.1.2, hk.2⟩)))); (case aS => exact (below_size HB.out)); (case aL => have := LMc5.out; omega); intro v811 w11 ho hb hg hat; rw [← Ny810.out] at ho; replace HO803 := Aside0.mk (Kd.R_after (ok := (fun k_ => some k_ ≠ (v805 : Value).ownBlock)) (by exact Kd.R_mono HO803.out (fun _ hk => (by exact ⟨hk.1.2, hk.2⟩))) hg hat); replace HO806 := Aside0.mk (Kd.R_after (ok := (fun k_ => some k_ ≠ (v802 : Value).ownBlock)) (by exact Kd.R_mono HO806.out (fun _ hk => (by exact ⟨hk.1.2, hk.2⟩))) hg hat); replace HB := Aside0.mk (hb); have HO812 := Aside0.mk (ho); clear HO809; clear ho hb hg hat) | ((with_reducible refine gate_builtin (b := .append) (xs := #[.tmp 19, .tmp 20]) rfl ?_); at_builtin; refine Kd.R_append (Kd.int .u8) (w0 := w) w.heap.size rfl (.tmp 19) (.tmp 20) 43 5 (.int .u8 0) 1 rfl Tryd.underlying43 info5 rfl (by decide) (by omega) v811 y810 48 [.int .u8 48] (fun k_ => some k_ ≠ (v802 : Value).ownBlock ∧ some k_ ≠ (v805 : Value).ownBlock) (fun _ => False) rfl rfl ?aP (fun _ hk => hk.elim) ?aF ?aO ?aB ?aS ?aL ?_; (case aP => exact rfl); (case aB => exact HB.out); (case aF => exact (fun k_ hk => (by exact ⟨Kd.fresh' (Kd.R_lt HO803.out) k_ hk, Kd.fresh' (Kd.R_lt HO806.out) k_ hk⟩))); (case aO => exact HO812.out); (case aS => exact (below_size HB.out)); (case aL => have := LMc6.out; omega); intro v814 w12 ho hb hg hat; rw [← Ny813.out] at ho; replace HO803 := Aside0.mk (Kd.R_after (ok := (fun k_ => some k_ ≠ (v805 : Value).ownBlock)) HO803.out hg hat); replace HO806 := Aside0.mk (Kd.R_after (ok := (fun k_ => some k_ ≠ (v802 : Value).ownBlock)) HO806.out hg hat); replace HB := Aside0.mk (hb); have HO815 := Aside0.mk (ho); clear HO812; clear ho hb hg hat))
   go_loopg [7, 9] k (fun kq v7 v9 w' => ∃ (x6_1 : List Int) (x7_1 : List Int) (x9_1 : Int), v9 = .int .i64 x9_1 ∧ Aside0 (maskref1_over.l0 kq l0 x6_1 x7_1 y813 x9_1 = some (r1, r2)) ∧ Aside0 (kq ≤ k) ∧ Aside0 (Kd.R (Kd.int .u8) 5 w' w.heap.size (fun k_ => some k_ ≠ (v7 : Value).ownBlock ∧ some k_ ≠ (v814 : Value).ownBlock) v802 x6_1) ∧ Aside0 (Kd.R (Kd.int .u8) 5 w' w.heap.size (fun k_ => some k_ ≠ (v802 : Value).ownBlock ∧ some k_ ≠ (v814 : Value).ownBlock) v7 x7_1) ∧ Aside0 (Kd.R (Kd.int .u8) 5 w' w.heap.size (fun k_ => some k_ ≠ (v802 : Value).ownBlock ∧ some k_ ≠ (v7 : Value).ownBlock) v814 y813) ∧ Aside0 (Below w.heap.size w w'))
   case atStart => exact ⟨(t801), (t804), (wrap64 ((l0.length : Int) - 1)), (by rfl), H', ⟨Nat.le_refl _⟩, ⟨by exact HO803.out⟩, ⟨by exact HO806.out⟩, ⟨by exact HO815.out⟩, ⟨by repeat (with_reducible exact HB.out)⟩⟩
   case round =>
    clear H'
    obtain ⟨x6_1, x7_1, x9_1, rfl, HA, HK1, HO_6, HO_7, HO_8, HB⟩ := hrel
    cases gk with
    | zero => exact absurd HA.out (by simp [maskref1_over.l0])
    | succ k1 =>
     have H := HA.out
     clear HA
     simp only [maskref1_over.l0] at H
     replace H := iD H; rcases H with ⟨c13b0, H⟩ | ⟨c13b0, H⟩
     ·replace c13b0 : decide (0 ≤ x9_1) = true := c13b0
      replace H := iN H; obtain ⟨c14b0, H⟩ := H
      replace H := iN H; obtain ⟨c15b0, H⟩ := H
      obtain ⟨y820, hy820⟩ : ∃ y_ : List Int, y_ = ([rd l0 x9_1] : List Int) := ⟨_, rfl⟩
      replace H : (if 0 ≤ (l0.length : Int) then (if (l0.length : Int) ≤ (x7_1.length : Int) then ((some (x7_1.take ((l0.length : Int) : Int).toNat : List Int)).bind fun y823 => (if y820.length + y823.length < 140737488355328 then ((some (y820 ++ y823 : List Int)).bind fun y827 => ((maskref1_below.f k1 y827 y813 false).bind fun t830 => (if t830 = true then (maskref1_over.l0 k1 l0 x6_1 y827 y813 (wrap64 (x9_1 - 1))) else ((maskref1_minus.f k1 y827 y813).bind fun t831 => (if x9_1 < (x6_1.length : Int) then (maskref1_over.l0 k1 l0 (x6_1.set (x9_1 : Int).toNat 49) t831 y813 (wrap64 (x9_1 - 1))) else (none)))))) else (none))) else (none)) else (none)) = some (r1, r2) := by (have H2_ := (Option.bind_some _ _).symm.trans H; rw [hy820]; with_reducible exact H2_)
      have Ny820 := Aside0.mk hy820
      clear hy820
      by_cases c16 : 0 ≤ (l0.length : Int)
      ·rw [if_pos c16] at H
       have c16b0 := eq_true c16
       have c16b1 : decide (0 ≤ (l0.length : Int)) = true := decide_eq_true c16
       clear c16
       by_cases c17 : (l0.length : Int) ≤ (x7_1.length : Int)
       ·rw [if_pos c17] at H
        have c17b0 := eq_true c17
        have c17b1 : decide ((l0.length : Int) ≤ (x7_1.length : Int)) = true := decide_eq_true c17
        clear c17
        obtain ⟨y823, hy823⟩ : ∃ y_ : List Int, y_ = (x7_1.take ((l0.length : Int) : Int).toNat) := ⟨_, rfl⟩
        replace H : (if y820.length + y823.length < 140737488355328 then ((some (y820 ++ y823 : List Int)).bind fun y827 => ((maskref1_below.f k1 y827 y813 false).bind fun t830 => (if t830 = true then (maskref1_over.l0 k1 l0 x6_1 y827 y813 (wrap64 (x9_1 - 1))) else ((maskref1_minus.f k1 y827 y813).bind fun t831 => (if x9_1 < (x6_1.length : Int) then (maskref1_over.l0 k1 l0 (x6_1.set (x9_1 : Int).toNat 49) t831 y813 (wrap64 (x9_1 - 1))) else (none)))))) else (none)) = some (r1, r2) := by (have H2_ := (Option.bind_some _ _).symm.trans H; rw [hy823]; with_reducible exact H2_)
        have Ny823 := Aside0.mk hy823
        clear hy823
        by_cases c18 : y820.length + y823.length < 140737488355328
        ·rw [if_pos c18] at H
         have LMc18 := Aside0.mk c18
         clear c18
         obtain ⟨y827, hy827⟩ : ∃ y_ : List Int, y_ = (y820 ++ y823) := ⟨_, rfl⟩
         replace H : ((maskref1_below.f k1 y827 y813 false).bind fun t830 => (if t830 = true then (maskref1_over.l0 k1 l0 x6_1 y827 y813 (wrap64 (x9_1 - 1))) else ((maskref1_minus.f k1 y827 y813).bind fun t831 => (if x9_1 < (x6_1.length : Int) then (maskref1_over.l0 k1 l0 (x6_1.set (x9_1 : Int).toNat 49) t831 y813 (wrap64 (x9_1 - 1))) else (none))))) = some (r1, r2) := by (have H2_ := (Option.bind_some _ _).symm.trans H; rw [hy827]; with_reducible exact H2_)
         have Ny827 := Aside0.mk hy827
         clear hy827
         replace H := bN H; obtain ⟨t830, A19, H⟩ := H
         replace H := iB H; rcases H with ⟨rfl, H⟩ | ⟨rfl, H⟩
         ·have H' := Aside0.mk H
          clear H
          try go_wp2
          replace HO_6 := Aside0.mk (Kd.R_drew HO_6.out)
          replace HO_7 := Aside0.mk (Kd.R_drew HO_7.out)
          replace HO_8 := Aside0.mk (Kd.R_drew HO_8.out)
          replace HB := hbd HB
          have p819 : 0 ≤ (x9_1 : Int) := of_decide_eq_true (by (with_reducible assumption))
          have q819 : x9_1 < (l0.length : Int) := of_decide_eq_true (by (with_reducible assumption))
          obtain ⟨ad819, e819, hx819_0⟩ := Kd.at_int HR0.out x9_1 p819 q819
          have hw819_0 := hx819_0
          cases e819
          replace hx819_0 := (HB.out.cell (World.block_lt_of_cell? w _ hx819_0)).trans hx819_0
          replace p819 := eq_true p819
          replace q819 := eq_true q819
          obtain ⟨Ao23, co23, eo23⟩ := Kd.R_slice HO_7.out
          (subst eo23)
          have q22 : ((l0.length : Int) : Int) ≤ ((x7_1.length : Int) : Int) := of_decide_eq_true (by (with_reducible assumption))
          obtain ⟨i022, hi022, _, hsz22, _⟩ := info_parts info5
          have hroom22 : x7_1.length ≤ co23 := (Kd.R_reads' HO_7.out).2.1
          have hC22 : Kd.C (Kd.int .u8) _ Ao23 x7_1.length x7_1 := (Kd.R_reads' HO_7.out).2.2
          have hcut22 := cut_to (P := Tryd.prog) 43 5 .i64 Tryd.underlying43 hi022 Ao23 x7_1.length co23 (l0.length : Int) (of_decide_eq_true (by (with_reducible assumption))) q22 hroom22
          have hr22 := Kd.C_take (m := ((l0.length : Int) : Int).toNat) hC22 (by omega)
          have hy22 : y823.length = ((l0.length : Int) : Int).toNat := (by rw [Ny823.out, List.length_take]; omega)
          rw [← Ny823.out] at hr22
          rw [← hy22] at hcut22
          have HR826 := Aside0.mk hr22
          have HC826 := Aside0.mk (show y823.length ≤ co23 from by omega)
          clear hr22 hC22 hroom22 hi022 hsz22
          have KY22 := Aside0.mk hy22
          clear hy22
          have KL22 := Aside0.mk (show ((l0.length : Int) : Int).toNat ≤ x7_1.length from by omega)
          replace q22 := eq_true q22
          refine start_ (n := 11) (S := fun w' => w'.cell? (ad819.add (x9_1).toNat) = some (.int .u8 (rd l0 x9_1))) (ds := []) (tb 11 0) (by kernel_rfl) rfl (by kernel_rfl) (((HB.out.cell (World.block_lt_of_cell? w _ hw819_0)).trans hw819_0)) (fun hHeld => ?_); refine with_tabW maskref1_over.tab6 maskref1_over.bits6 (fun HT_ HW_ => ?_)
          generalize wr.drew = w21 at HO_6 HO_7 HO_8 HB HR826 hx819_0 hHeld ⊢
          refine pA 0 29 (tb 11 1) HT_ ?_
          refine pA 1 30 (tb 11 3) HT_ ?_
          refine pA 2 31 (tb 11 7) HT_ ?_
          refine pA 5 34 (tb 11 39) HT_ ?_
          refine pA 6 35 (tb 11 103) HT_ ?_
          refine pA 7 36 (tb 11 231) HT_ ?_
          refine pA 8 37 (tb 11 487) HT_ ?_
          refine take_ (i := 3) (N := some 32) (v := ?_) (a' := ?_) #[true, true, true, true, false, true, true, true, true, false, false] rfl rfl (take_ofW HT_.out HW_.out (by kernel_rfl)) (fun _ _ _ h => h) (Or.inl ⟨by rfl, ?_⟩) hHeld ?_ ?_
          rotate_left
          ·intro w' s0
           go_simp
           with_reducible rfl
          rotate_left
          ·simp only [Act.put, List.setIfInBounds_toArray, List.set_cons_zero, List.set_cons_succ, i64_w, i32_w]
           rfl
          refine oA 4 (some 33) (tb 11 511) HT_ (fun K hK => ?_)
          refine Kd.R_lit_step (Kd.int .u8) _ 5 ?hg (N := 33) ?hd (xs := ([rd l0 x9_1] : List Int)) (inner := [.int .u8 (rd l0 x9_1)]) (ok := fun _ => True) (okp := fun _ => True) ?hr ?hp (fun _ hk => hk) trivial (Below.refl _ _) (Nat.le_refl _) (by simp) ?_; (case hd => rfl); (case hg => rfl); (case hr => (go_simp; done)); (case hp => exact (Reps.one (show Kd.M (Kd.int .u8) _ _ _ (rd l0 x9_1) [.int .u8 (rd l0 x9_1)] from rfl) (Reps.none _ _)))
          intro v821 w24 ho25 hb hg_ hnew_
          clear hg_ hnew_
          (rw [← Ny820.out] at ho25)
          have HO822 := Aside0.mk (Kd.R_lower (Kd.R_new' (Kd.R_new' (Kd.R_new' ho25 (Kd.R_lt HO_6.out)) (Kd.R_lt HO_7.out)) (Kd.R_lt HO_8.out)) (below_size HB.out))
          replace HO_6 := Aside0.mk (Kd.R_elder' HO_6.out (Kd.R_base ho25) hb)
          replace HO_7 := Aside0.mk (Kd.R_elder' HO_7.out (Kd.R_base ho25) hb)
          replace HO_8 := Aside0.mk (Kd.R_elder' HO_8.out (Kd.R_base ho25) hb)
          replace HR826 := Aside0.mk (Kd.C_below HR826.out hb)
          replace HB := hb1 HB hb
          clear hb ho25
          refine hK.out _ _ (((HB.out.cell (World.block_lt_of_cell? w _ hw819_0)).trans hw819_0)) (fun hHeld => ?_)
          clear hK K
          refine nA ?_
          refine oA 9 (some 38) (tb 11 1023) HT_ (fun K hK => ?_)
          refine Kd.R_append_rows_step (Kd.int .u8) (w0 := w) w.heap.size (by rfl) (.tmp 33) (.tmp 37) 43 5 (.int .u8 0) 1 rfl Tryd.underlying43 info5 rfl (by decide) (by omega) v821 y820 y823 _ _ _ (fun k_ => some k_ ≠ (v802 : Value).ownBlock ∧ some k_ ≠ (.slice Ao23 x7_1.length co23 : Value).ownBlock ∧ some k_ ≠ (v814 : Value).ownBlock) (fun _ => False) rfl rfl ?aO ?aR (fun _ _ h => h) (fun _ h => h.elim) ?aF ?aB ?aS ?aL ?_
          (case aR => repeat (exact (by repeat (exact HR826.out))))
          (case aB => exact HB.out)
          (case aF => exact (fun k_ hk => (by exact ⟨Kd.fresh' (Kd.R_lt HO_6.out) k_ hk, Kd.fresh' (Kd.R_lt HO_7.out) k_ hk, Kd.fresh' (Kd.R_lt HO_8.out) k_ hk⟩)))
          (case aO => exact (by exact Kd.R_mono HO822.out (fun _ hk => (by exact ⟨hk.1.1.2, ⟨hk.1.2, hk.2⟩⟩))))
          (case aS => exact (below_size HB.out))
          (case aL => have := LMc18.out; omega)
          intro v828 w26 ho hb hg hat
          rw [← Ny827.out] at ho
          replace HO_6 := Aside0.mk (Kd.R_after (ok := (fun k_ => some k_ ≠ (.slice Ao23 x7_1.length co23 : Value).ownBlock ∧ some k_ ≠ (v814 : Value).ownBlock)) HO_6.out hg hat)
          replace HO_8 := Aside0.mk (Kd.R_after (ok := (fun k_ => some k_ ≠ (v802 : Value).ownBlock ∧ some k_ ≠ (.slice Ao23 x7_1.length co23 : Value).ownBlock)) HO_8.out hg hat)
          replace HB := Aside0.mk (hb)
          replace HR826 := Aside0.mk ((show Kd.C (Kd.int .u8) w26 Ao23 y823.length y823 from by rw [Ny823.out]; exact Kd.C_take (m := ((l0.length : Int) : Int).toNat) ((Kd.R_reads' (Kd.R_after (ok := (fun k_ => some k_ ≠ (v802 : Value).ownBlock ∧ some k_ ≠ (v814 : Value).ownBlock)) HO_7.out hg hat)).2.2) KL22.out))
          replace HO_7 := Aside0.mk (Kd.R_after (ok := (fun k_ => some k_ ≠ (v802 : Value).ownBlock ∧ some k_ ≠ (v814 : Value).ownBlock)) HO_7.out hg hat)
          have HO829 := Aside0.mk (ho)
          clear HO822
          clear ho hb hg hat
          refine hK.out _ _ (((HB.out.cell (World.block_lt_of_cell? w _ hw819_0)).trans hw819_0)) (fun hHeld => ?_)
          clear hK K
          refine nA ?_
          refine pA 10 7 (tb 11 2047) HT_ ?_
          refine done_ (done_of HT_.out (by kernel_rfl)) ?_
          obtain ⟨Ao27, co27, eo27⟩ := Kd.R_slice HO829.out
          subst eo27
          obtain ⟨Ao28, co28, eo28⟩ := Kd.R_slice HO_8.out
          subst eo28
          try go_wp2_with ((refine callA (some 41) Tryd.func88 #[.slice Ao27 y827.length co27, .slice Ao28 y813.length co28, .bool false] ?_; (with_reducible refine (maskref1_below.calls k1 _ _ y827 _ _ y813 false true _ ?side1 ?side2 ?side3 ?side4 A19.out).mono ?_); (case side1 => exact (Kd.R_reads' HO829.out).2.2); (case side2 => exact (Kd.R_reads' HO829.out).2.1); (case side3 => exact (Kd.R_reads' HO_8.out).2.2); (case side4 => exact (Kd.R_reads' HO_8.out).2.1); rintro e w' ⟨rfl, ⟨nd, rfl⟩⟩; refine ⟨_, rfl, ?_⟩))
          go_roundg k1
          case measure => have := HK1.out; omega
          case rel => exact ⟨(x6_1), (y827), (wrap64 (x9_1 - 1)), (by rfl), H', ⟨by have := HK1.out; omega⟩, ⟨by (with_reducible repeat (apply Kd.R_drewN)); exact Kd.R_mono HO_6.out (fun _ hk => (by exact ⟨hk.2, hk.1.2⟩))⟩, ⟨by (with_reducible repeat (apply Kd.R_drewN)); exact Kd.R_mono HO829.out (fun _ hk => (by exact ⟨hk.1, hk.2.2⟩))⟩, ⟨by (with_reducible repeat (apply Kd.R_drewN)); exact Kd.R_mono HO_8.out (fun _ hk => (by exact ⟨hk.1.1, hk.2⟩))⟩, ⟨by repeat (with_reducible first | exact HB.out | apply pw_below_drewN)⟩⟩
         ·replace H := bN H; obtain ⟨t831, A29, H⟩ := H
          replace H := iN H; obtain ⟨c30b0, H⟩ := H
          obtain ⟨y834, hy834⟩ : ∃ y_ : List Int, y_ = (x6_1.set (x9_1 : Int).toNat 49) := ⟨_, rfl⟩
          replace H : (maskref1_over.l0 k1 l0 y834 t831 y813 (wrap64 (x9_1 - 1))) = some (r1, r2) := by (rw [hy834]; with_reducible exact H)
          have Ny834 := Aside0.mk hy834
          clear hy834
          have H' := Aside0.mk H
          clear H
          try go_wp2
          replace HO_6 := Aside0.mk (Kd.R_drew HO_6.out)
          replace HO_7 := Aside0.mk (Kd.R_drew HO_7.out)
          replace HO_8 := Aside0.mk (Kd.R_drew HO_8.out)
          replace HB := hbd HB
          have p819 : 0 ≤ (x9_1 : Int) := of_decide_eq_true (by (with_reducible assumption))
          have q819 : x9_1 < (l0.length : Int) := of_decide_eq_true (by (with_reducible assumption))
          obtain ⟨ad819, e819, hx819_0⟩ := Kd.at_int HR0.out x9_1 p819 q819
          have hw819_0 := hx819_0
          cases e819
          replace hx819_0 := (HB.out.cell (World.block_lt_of_cell? w _ hx819_0)).trans hx819_0
          replace p819 := eq_true p819
          replace q819 := eq_true q819
          obtain ⟨Ao34, co34, eo34⟩ := Kd.R_slice HO_7.out
          (subst eo34)
          have q33 : ((l0.length : Int) : Int) ≤ ((x7_1.length : Int) : Int) := of_decide_eq_true (by (with_reducible assumption))
          obtain ⟨i033, hi033, _, hsz33, _⟩ := info_parts info5
          have hroom33 : x7_1.length ≤ co34 := (Kd.R_reads' HO_7.out).2.1
          have hC33 : Kd.C (Kd.int .u8) _ Ao34 x7_1.length x7_1 := (Kd.R_reads' HO_7.out).2.2
          have hcut33 := cut_to (P := Tryd.prog) 43 5 .i64 Tryd.underlying43 hi033 Ao34 x7_1.length co34 (l0.length : Int) (of_decide_eq_true (by (with_reducible assumption))) q33 hroom33
          have hr33 := Kd.C_take (m := ((l0.length : Int) : Int).toNat) hC33 (by omega)
          have hy33 : y823.length = ((l0.length : Int) : Int).toNat := (by rw [Ny823.out, List.length_take]; omega)
          rw [← Ny823.out] at hr33
          rw [← hy33] at hcut33
          have HR826 := Aside0.mk hr33
          have HC826 := Aside0.mk (show y823.length ≤ co34 from by omega)
          clear hr33 hC33 hroom33 hi033 hsz33
          have KY33 := Aside0.mk hy33
          clear hy33
          have KL33 := Aside0.mk (show ((l0.length : Int) : Int).toNat ≤ x7_1.length from by omega)
          replace q33 := eq_true q33
          refine start_ (n := 11) (S := fun w' => w'.cell? (ad819.add (x9_1).toNat) = some (.int .u8 (rd l0 x9_1))) (ds := []) (tb 11 0) (by kernel_rfl) rfl (by kernel_rfl) (((HB.out.cell (World.block_lt_of_cell? w _ hw819_0)).trans hw819_0)) (fun hHeld => ?_); refine with_tabW maskref1_over.tab6 maskref1_over.bits6 (fun HT_ HW_ => ?_)
          generalize wr.drew = w32 at HO_6 HO_7 HO_8 HB HR826 hx819_0 hHeld ⊢
          refine pA 0 29 (tb 11 1) HT_ ?_
          refine pA 1 30 (tb 11 3) HT_ ?_
          refine pA 2 31 (tb 11 7) HT_ ?_
          refine pA 5 34 (tb 11 39) HT_ ?_
          refine pA 6 35 (tb 11 103) HT_ ?_
          refine pA 7 36 (tb 11 231) HT_ ?_
          refine pA 8 37 (tb 11 487) HT_ ?_
          refine take_ (i := 3) (N := some 32) (v := ?_) (a' := ?_) #[true, true, true, true, false, true, true, true, true, false, false] rfl rfl (take_ofW HT_.out HW_.out (by kernel_rfl)) (fun _ _ _ h => h) (Or.inl ⟨by rfl, ?_⟩) hHeld ?_ ?_
          rotate_left
          ·intro w' s0
           go_simp
           with_reducible rfl
          rotate_left
          ·simp only [Act.put, List.setIfInBounds_toArray, List.set_cons_zero, List.set_cons_succ, i64_w, i32_w]
           rfl
          refine oA 4 (some 33) (tb 11 511) HT_ (fun K hK => ?_)
          refine Kd.R_lit_step (Kd.int .u8) _ 5 ?hg (N := 33) ?hd (xs := ([rd l0 x9_1] : List Int)) (inner := [.int .u8 (rd l0 x9_1)]) (ok := fun _ => True) (okp := fun _ => True) ?hr ?hp (fun _ hk => hk) trivial (Below.refl _ _) (Nat.le_refl _) (by simp) ?_; (case hd => rfl); (case hg => rfl); (case hr => (go_simp; done)); (case hp => exact (Reps.one (show Kd.M (Kd.int .u8) _ _ _ (rd l0 x9_1) [.int .u8 (rd l0 x9_1)] from rfl) (Reps.none _ _)))
          intro v821 w35 ho36 hb hg_ hnew_
          clear hg_ hnew_
          (rw [← Ny820.out] at ho36)
          have HO822 := Aside0.mk (Kd.R_lower (Kd.R_new' (Kd.R_new' (Kd.R_new' ho36 (Kd.R_lt HO_6.out)) (Kd.R_lt HO_7.out)) (Kd.R_lt HO_8.out)) (below_size HB.out))
          replace HO_6 := Aside0.mk (Kd.R_elder' HO_6.out (Kd.R_base ho36) hb)
          replace HO_7 := Aside0.mk (Kd.R_elder' HO_7.out (Kd.R_base ho36) hb)
          replace HO_8 := Aside0.mk (Kd.R_elder' HO_8.out (Kd.R_base ho36) hb)
          replace HR826 := Aside0.mk (Kd.C_below HR826.out hb)
          replace HB := hb1 HB hb
          clear hb ho36
          refine hK.out _ _ (((HB.out.cell (World.block_lt_of_cell? w _ hw819_0)).trans hw819_0)) (fun hHeld => ?_)
          clear hK K
          refine nA ?_
          refine oA 9 (some 38) (tb 11 1023) HT_ (fun K hK => ?_)
          refine Kd.R_append_rows_step (Kd.int .u8) (w0 := w) w.heap.size (by rfl) (.tmp 33) (.tmp 37) 43 5 (.int .u8 0) 1 rfl Tryd.underlying43 info5 rfl (by decide) (by omega) v821 y820 y823 _ _ _ (fun k_ => some k_ ≠ (v802 : Value).ownBlock ∧ some k_ ≠ (.slice Ao34 x7_1.length co34 : Value).ownBlock ∧ some k_ ≠ (v814 : Value).ownBlock) (fun _ => False) rfl rfl ?aO ?aR (fun _ _ h => h) (fun _ h => h.elim) ?aF ?aB ?aS ?aL ?_
          (case aR => repeat (exact (by repeat (exact HR826.out))))
          (case aB => exact HB.out)
          (case aF => exact (fun k_ hk => (by exact ⟨Kd.fresh' (Kd.R_lt HO_6.out) k_ hk, Kd.fresh' (Kd.R_lt HO_7.out) k_ hk, Kd.fresh' (Kd.R_lt HO_8.out) k_ hk⟩)))
          (case aO => exact (by exact Kd.R_mono HO822.out (fun _ hk => (by exact ⟨hk.1.1.2, ⟨hk.1.2, hk.2⟩⟩))))
          (case aS => exact (below_size HB.out))
          (case aL => have := LMc18.out; omega)
          intro v828 w37 ho hb hg hat
          rw [← Ny827.out] at ho
          replace HO_6 := Aside0.mk (Kd.R_after (ok := (fun k_ => some k_ ≠ (.slice Ao34 x7_1.length co34 : Value).ownBlock ∧ some k_ ≠ (v814 : Value).ownBlock)) HO_6.out hg hat)
          replace HO_8 := Aside0.mk (Kd.R_after (ok := (fun k_ => some k_ ≠ (v802 : Value).ownBlock ∧ some k_ ≠ (.slice Ao34 x7_1.length co34 : Value).ownBlock)) HO_8.out hg hat)
          replace HB := Aside0.mk (hb)
          replace HR826 := Aside0.mk ((show Kd.C (Kd.int .u8) w37 Ao34 y823.length y823 from by rw [Ny823.out]; exact Kd.C_take (m := ((l0.length : Int) : Int).toNat) ((Kd.R_reads' (Kd.R_after (ok := (fun k_ => some k_ ≠ (v802 : Value).ownBlock ∧ some k_ ≠ (v814 : Value).ownBlock)) HO_7.out hg hat)).2.2) KL33.out))
          replace HO_7 := Aside0.mk (Kd.R_after (ok := (fun k_ => some k_ ≠ (v802 : Value).ownBlock ∧ some k_ ≠ (v814 : Value).ownBlock)) HO_7.out hg hat)
          have HO829 := Aside0.mk (ho)
          clear HO822
          clear ho hb hg hat
          refine hK.out _ _ (((HB.out.cell (World.block_lt_of_cell? w _ hw819_0)).trans hw819_0)) (fun hHeld => ?_)
          clear hK K
          refine nA ?_
          refine pA 10 7 (tb 11 2047) HT_ ?_
          refine done_ (done_of HT_.out (by kernel_rfl)) ?_
          obtain ⟨Ao38, co38, eo38⟩ := Kd.R_slice HO829.out
          subst eo38
          obtain ⟨Ao39, co39, eo39⟩ := Kd.R_slice HO_8.out
          subst eo39
          try go_wp2_with (first | (refine callA (some 41) Tryd.func88 #[.slice Ao38 y827.length co38, .slice Ao39 y813.length co39, .bool false] ?_; (with_reducible refine (maskref1_below.calls k1 _ _ y827 _ _ y813 false false _ ?side1 ?side2 ?side3 ?side4 A19.out).mono ?_); (case side1 => exact (Kd.R_reads' HO829.out).2.2); (case side2 => exact (Kd.R_reads' HO829.out).2.1); (case side3 => exact (Kd.R_reads' HO_8.out).2.2); (case side4 => exact (Kd.R_reads' HO_8.out).2.1); rintro e w' ⟨rfl, ⟨nd, rfl⟩⟩; refine ⟨_, rfl, ?_⟩; (try (rw [drewN_self w37]; generalize hq_ : World.drewN w37 _ = w37; have n0_ : Aside0 (Kd.R (Kd.int .u8) 5 w37 w.heap.size (fun k_ => some k_ ≠ (v802 : Value).ownBlock ∧ some k_ ≠ (.slice Ao34 x7_1.length co34 : Value).ownBlock ∧ some k_ ≠ (.slice Ao39 y813.length co39 : Value).ownBlock) (.slice Ao38 y827.length co38) y827) := ⟨by rw [← hq_]; exact (by (with_reducible repeat (apply Kd.R_drewN)); exact HO829.out)⟩; have n1_ : Aside0 (Kd.R (Kd.int .u8) 5 w37 w.heap.size (fun k_ => some k_ ≠ (.slice Ao38 y827.length co38 : Value).ownBlock ∧ some k_ ≠ (.slice Ao34 x7_1.length co34 : Value).ownBlock ∧ some k_ ≠ (.slice Ao39 y813.length co39 : Value).ownBlock) v802 x6_1) := ⟨by rw [← hq_]; exact (by (with_reducible repeat (apply Kd.R_drewN)); exact Kd.R_mono HO_6.out (fun _ hk => (by exact ⟨hk.2, ⟨hk.1.1, hk.1.2⟩⟩)))⟩; have n2_ : Aside0 (Kd.R (Kd.int .u8) 5 w37 w.heap.size (fun k_ => some k_ ≠ (.slice Ao38 y827.length co38 : Value).ownBlock ∧ some k_ ≠ (v802 : Value).ownBlock ∧ some k_ ≠ (.slice Ao39 y813.length co39 : Value).ownBlock) (.slice Ao34 x7_1.length co34) x7_1) := ⟨by rw [← hq_]; exact (by (with_reducible repeat (apply Kd.R_drewN)); exact Kd.R_mono HO_7.out (fun _ hk => (by exact ⟨hk.2, ⟨hk.1.1, hk.1.2⟩⟩)))⟩; have n3_ : Aside0 (Kd.R (Kd.int .u8) 5 w37 w.heap.size (fun k_ => some k_ ≠ (.slice Ao38 y827.length co38 : Value).ownBlock ∧ some k_ ≠ (v802 : Value).ownBlock ∧ some k_ ≠ (.slice Ao34 x7_1.length co34 : Value).ownBlock) (.slice Ao39 y813.length co39) y813) := ⟨by rw [← hq_]; exact (by (with_reducible repeat (apply Kd.R_drewN)); exact Kd.R_mono HO_8.out (fun _ hk => (by exact ⟨hk.2, ⟨hk.1.1, hk.1.2⟩⟩)))⟩; have n4_ : Aside0 (Below w.heap.size w w37) := ⟨by rw [← hq_]; exact (by repeat (with_reducible first | exact HB.out | apply pw_below_drewN))⟩; have n5_ : Aside0 (Kd.C (Kd.int .u8) w37 Ao34 y823.length y823) := ⟨by rw [← hq_]; exact (by repeat (first | (with_reducible exact HR826.out) | (with_reducible refine Kd.C_drewN ?_ _)))⟩; clear HO829 HO_6 HO_7 HO_8 HB HR826 hq_; have HO829 := n0_; have HO_6 := n1_; have HO_7 := n2_; have HO_8 := n3_; have HB := n4_; have HR826 := n5_; clear n0_ n1_ n2_ n3_ n4_ n5_))) | (refine callA (some 45) Tryd.func61 #[.slice Ao38 y827.length co38, .slice Ao39 y813.length co39] ?_; (with_reducible refine (maskref1_minus.calls k1 _ _ y827 _ _ y813 t831 _ ?side1 ?side2 ?side3 ?side4 A29.out).mono ?_); (case side1 => exact (Kd.R_reads' HO829.out).2.2); (case side2 => exact (Kd.R_reads' HO829.out).2.1); (case side3 => exact (Kd.R_reads' HO_8.out).2.2); (case side4 => exact (Kd.R_reads' HO_8.out).2.1); rintro e w40 ⟨v832, rfl, ho0, hb⟩; refine ⟨_, rfl, ?_⟩; have HO833 := Aside0.mk (Kd.R_lower (Kd.R_new' (Kd.R_new' (Kd.R_new' (Kd.R_new' ho0 (Kd.R_lt HO_6.out)) (Kd.R_lt HO_7.out)) (Kd.R_lt HO_8.out)) (Kd.R_lt HO829.out)) (below_size HB.out)); replace HO_6 := Aside0.mk (Kd.R_elder' HO_6.out (Kd.R_base ho0) hb); replace HO_7 := Aside0.mk (Kd.R_elder' HO_7.out (Kd.R_base ho0) hb); replace HO_8 := Aside0.mk (Kd.R_elder' HO_8.out (Kd.R_base ho0) hb); replace HO829 := Aside0.mk (Kd.R_elder' HO829.out (Kd.R_base ho0) hb); replace HR826 := Aside0.mk (Kd.C_below HR826.out hb); replace HB := hb1 HB hb; (try clear hb); (try clear ho0); have p31 : 0 ≤ (x9_1 : Int) := of_decide_eq_true (by (with_reducible assumption)); have q31 : (x9_1 : Int) < ((x6_1.length : Int) : Int) := of_decide_eq_true (by (with_reducible assumption)); obtain ⟨go31, co31, eo31, gb31, gl31, cl31, HG31⟩ := Kd.R_form HO_6.out (by omega); (cases eo31); have GB31 := Aside0.mk gb31; have GG31 := Aside0.mk HG31; clear gb31 gl31 HG31; obtain ⟨hx31_0, hf31_0⟩ := Kd.R_celln 0 HO_6.out (x9_1 : Int) p31 q31; replace p31 := eq_true p31; replace q31 := eq_true q31; have n_ := Aside0.mk (Kd.R_mono (ok' := (fun k_ => some k_ ≠ (.slice Ao34 x7_1.length co34 : Value).ownBlock ∧ some k_ ≠ (.slice Ao39 y813.length co39 : Value).ownBlock ∧ some k_ ≠ (.slice Ao38 y827.length co38 : Value).ownBlock ∧ some k_ ≠ (v832 : Value).ownBlock)) HO_6.out (fun k_ hk => (by (and_intros <;> (first | exact hk.2 | exact hk.1.1 | exact hk.1.2.1 | exact hk.1.2.2))))); clear HO_6; have HO_6 := n_; clear n_; obtain ⟨hy41_, hz41_⟩ := Kd.R_celln 0 HO_6.out (x9_1 : Int) (of_decide_eq_true (by (with_reducible assumption))) (of_decide_eq_true (by (with_reducible assumption))); have HP41 := Kd.R_putg HO_6.out (x9_1 : Int) 49) | ((with_reducible refine gate_store (t := 5) (p := 48) rfl ?_); refine store_event (t := 5) (p := 48) (v := ?vo_w42) (w1 := (w40.setCell ⟨go31, (x9_1 : Int).toNat, none⟩ (.int .u8 49))) ?hg ?ho ?hn ?hr ?_; (case ho => rfl); (case hg => rfl); (case hn => rfl); (case hr => (go_simp; done)); intro w42 hw; have hg : w40.grownBy w42 (some go31) := (by rw [hw]; exact HP41.2); have hp_ : Kd.R (Kd.int .u8) 5 w42 w.heap.size (fun k_ => some k_ ≠ (.slice Ao34 x7_1.length co34 : Value).ownBlock ∧ some k_ ≠ (.slice Ao39 y813.length co39 : Value).ownBlock ∧ some k_ ≠ (.slice Ao38 y827.length co38 : Value).ownBlock ∧ some k_ ≠ (v832 : Value).ownBlock) (.slice (some ⟨go31, 0, none⟩) x6_1.length co31) y834 := (by rw [hw, Ny834.out]; exact HP41.1); clear HP41; replace HO_6 := Aside0.mk (hp_); replace HO_8 := Aside0.mk (Kd.R_after (v := (.slice (some ⟨go31, 0, none⟩) x6_1.length co31)) (v1 := (.slice (some ⟨go31, 0, none⟩) x6_1.length co31)) (ok := (fun k_ => some k_ ≠ (.slice Ao34 x7_1.length co34 : Value).ownBlock ∧ some k_ ≠ (.slice Ao38 y827.length co38 : Value).ownBlock ∧ some k_ ≠ (v832 : Value).ownBlock)) (by exact Kd.R_mono HO_8.out (fun _ hk => (by (and_intros <;> (first | exact hk.2 | exact hk.1.1 | exact hk.1.2.1 | exact hk.1.2.2))))) hg (.inl rfl)); replace HO829 := Aside0.mk (Kd.R_after (v := (.slice (some ⟨go31, 0, none⟩) x6_1.length co31)) (v1 := (.slice (some ⟨go31, 0, none⟩) x6_1.length co31)) (ok := (fun k_ => some k_ ≠ (.slice Ao34 x7_1.length co34 : Value).ownBlock ∧ some k_ ≠ (.slice Ao39 y813.length co39 : Value).ownBlock ∧ some k_ ≠ (v832 : Value).ownBlock)) (by exact Kd.R_mono HO829.out (fun _ hk => (by exact ⟨⟨hk.1.2.1, ⟨hk.1.2.2, hk.2⟩⟩, hk.1.1⟩))) hg (.inl rfl)); replace HO833 := Aside0.mk (Kd.R_after (v := (.slice (some ⟨go31, 0, none⟩) x6_1.length co31)) (v1 := (.slice (some ⟨go31, 0, none⟩) x6_1.length co31)) (ok := (fun k_ => some k_ ≠ (.slice Ao34 x7_1.length co34 : Value).ownBlock ∧ some k_ ≠ (.slice Ao39 y813.length co39 : Value).ownBlock ∧ some k_ ≠ (.slice Ao38 y827.length co38 : Value).ownBlock)) (by exact Kd.R_mono HO833.out (fun _ hk => (by exact ⟨⟨hk.1.1.2, ⟨hk.1.2, hk.2⟩⟩, hk.1.1.1.2⟩))) hg (.inl rfl)); replace HB := Aside0.mk (by rw [hw]; exact below_set (HB.out) GB31.out : Below w.heap.size w w42); replace HR826 := Aside0.mk ((show Kd.C (Kd.int .u8) w42 Ao34 y823.length y823 from by rw [Ny823.out]; exact Kd.C_take (m := ((l0.length : Int) : Int).toNat) ((Kd.R_reads' (Kd.R_after (v := (.slice (some ⟨go31, 0, none⟩) x6_1.length co31)) (v1 := (.slice (some ⟨go31, 0, none⟩) x6_1.length co31)) (ok := (fun k_ => some k_ ≠ (.slice Ao39 y813.length co39 : Value).ownBlock ∧ some k_ ≠ (.slice Ao38 y827.length co38 : Value).ownBlock ∧ some k_ ≠ (v832 : Value).ownBlock)) (by exact Kd.R_mono HO_7.out (fun _ hk => (by (and_intros <;> (first | exact hk.2 | exact hk.1.1 | exact hk.1.2.1 | exact hk.1.2.2))))) hg (.inl rfl))).2.2) KL33.out)); replace HO_7 := Aside0.mk (Kd.R_after (v := (.slice (some ⟨go31, 0, none⟩) x6_1.length co31)) (v1 := (.slice (some ⟨go31, 0, none⟩) x6_1.length co31)) (ok := (fun k_ => some k_ ≠ (.slice Ao39 y813.length co39 : Value).ownBlock ∧ some k_ ≠ (.slice Ao38 y827.length co38 : Value).ownBlock ∧ some k_ ≠ (v832 : Value).ownBlock)) (by exact Kd.R_mono HO_7.out (fun _ hk => (by (and_intros <;> (first | exact hk.2 | exact hk.1.1 | exact hk.1.2.1 | exact hk.1.2.2))))) hg (.inl rfl)); clear hg hw hp_))
          go_roundg k1
          case measure => have := HK1.out; omega
          case rel => exact ⟨(y834), (t831), (wrap64 (x9_1 - 1)), (by rfl), H', ⟨by have := HK1.out; omega⟩, ⟨by exact Kd.R_mono HO_6.out (fun _ hk => (by exact ⟨hk.2.2.2, hk.2.1⟩))⟩, ⟨by exact Kd.R_mono HO833.out (fun _ hk => (by exact ⟨hk.2, hk.1.2.1⟩))⟩, ⟨by exact Kd.R_mono HO_8.out (fun _ hk => (by exact ⟨hk.2, hk.1.2.2⟩))⟩, ⟨by repeat (with_reducible exact HB.out)⟩⟩
        ·rw [if_neg c18] at H
         exact absurd H (by simp)
       ·rw [if_neg c17] at H
        exact absurd H (by simp)
      ·rw [if_neg c16] at H
       exact absurd H (by simp)
     ·replace c13b0 : decide (0 ≤ x9_1) = false := c13b0
      by_cases c43 : 0 ≤ (l0.length : Int)
      ·rw [if_pos c43] at H
       have c43b0 := eq_true c43
       have c43b1 : decide (0 ≤ (l0.length : Int)) = true := decide_eq_true c43
       clear c43
       by_cases c44 : (l0.length : Int) ≤ (x7_1.length : Int)
       ·rw [if_pos c44] at H
        have c44b0 := eq_true c44
        have c44b1 : decide ((l0.length : Int) ≤ (x7_1.length : Int)) = true := decide_eq_true c44
        clear c44
        obtain ⟨y816, hy816⟩ : ∃ y_ : List Int, y_ = (x7_1.take ((l0.length : Int) : Int).toNat) := ⟨_, rfl⟩
        replace H : (some (x6_1, y816)) = some (r1, r2) := by (rw [hy816]; with_reducible exact H)
        have Ny816 := Aside0.mk hy816
        clear hy816
        replace H := s2 H; obtain ⟨rfl, rfl⟩ := H
        try go_wp2
        replace HO_6 := Aside0.mk (Kd.R_drew HO_6.out)
        replace HO_7 := Aside0.mk (Kd.R_drew HO_7.out)
        replace HO_8 := Aside0.mk (Kd.R_drew HO_8.out)
        replace HB := hbd HB
        obtain ⟨Ao46, co46, eo46⟩ := Kd.R_slice HO_7.out
        (subst eo46)
        have q47 : ((l0.length : Int) : Int) ≤ ((x7_1.length : Int) : Int) := of_decide_eq_true (by (with_reducible assumption))
        obtain ⟨i047, hi047, _, hsz47, _⟩ := info_parts info5
        have hcut47 := cut_to (P := Tryd.prog) 43 5 .i64 Tryd.underlying43 hi047 Ao46 x7_1.length co46 (l0.length : Int) (of_decide_eq_true (by (with_reducible assumption))) q47 (Kd.R_reads' HO_7.out).2.1
        have hr47 := Kd.R_take (m := ((l0.length : Int) : Int).toNat) HO_7.out (by omega)
        have hy47 : y816.length = ((l0.length : Int) : Int).toNat := (by rw [Ny816.out, List.length_take]; omega)
        rw [← Ny816.out] at hr47
        rw [← hy47] at hr47 hcut47
        clear hy47 hi047 hsz47 HO_7
        have HO818 := Aside0.mk hr47
        clear hr47
        replace q47 := eq_true q47
        refine start_ (n := 7) (S := fun w' => True) (ds := []) (tb 7 0) (by kernel_rfl) rfl (by kernel_rfl) trivial (fun hHeld => ?_)
        generalize wr.drew = w45 at HO_6 HO_8 HB HO818 hHeld ⊢
        refine pure_ (i := 0) (N := some 49) (v := ?_) (a' := ?_) #[true, false, false, false, false, false, false] rfl rfl (by kernel_rfl) (fun _ _ _ h => h) (Or.inl ⟨by rfl, ?_⟩) ?_ ?_
        rotate_left
        ·intro w'
         go_simp
         with_reducible rfl
        rotate_left
        ·simp only [Act.put, List.setIfInBounds_toArray, List.set_cons_zero, List.set_cons_succ, i64_w, i32_w]
         rfl
        refine pure_ (i := 1) (N := some 50) (v := ?_) (a' := ?_) #[true, true, false, false, false, false, false] rfl rfl (by kernel_rfl) (fun _ _ _ h => h) (Or.inl ⟨by rfl, ?_⟩) ?_ ?_
        rotate_left
        ·intro w'
         go_simp
         with_reducible rfl
        rotate_left
        ·simp only [Act.put, List.setIfInBounds_toArray, List.set_cons_zero, List.set_cons_succ, i64_w, i32_w]
         rfl
        refine pure_ (i := 2) (N := some 51) (v := ?_) (a' := ?_) #[true, true, true, false, false, false, false] rfl rfl (by kernel_rfl) (fun _ _ _ h => h) (Or.inl ⟨by rfl, ?_⟩) ?_ ?_
        rotate_left
        ·intro w'
         go_simp
         with_reducible rfl
        rotate_left
        ·simp only [Act.put, List.setIfInBounds_toArray, List.set_cons_zero, List.set_cons_succ, i64_w, i32_w]
         rfl
        refine pure_ (i := 3) (N := some 52) (v := ?_) (a' := ?_) #[true, true, true, true, false, false, false] rfl rfl (by kernel_rfl) (fun _ _ _ h => h) (Or.inl ⟨by rfl, ?_⟩) ?_ ?_
        rotate_left
        ·intro w'
         go_simp
         with_reducible rfl
        rotate_left
        ·simp only [Act.put, List.setIfInBounds_toArray, List.set_cons_zero, List.set_cons_succ, i64_w, i32_w]
         rfl
        refine pure_ (i := 4) (N := some 53) (v := ?_) (a' := ?_) #[true, true, true, true, true, false, false] rfl rfl (by kernel_rfl) (fun _ _ _ h => h) (Or.inl ⟨by rfl, ?_⟩) ?_ ?_
        rotate_left
        ·intro w'
         go_simp
         with_reducible rfl
        rotate_left
        ·simp only [Act.put, List.setIfInBounds_toArray, List.set_cons_zero, List.set_cons_succ, i64_w, i32_w]
         rfl
        refine pure_ (i := 5) (N := some 4) (v := ?_) (a' := ?_) #[true, true, true, true, true, true, false] rfl rfl (by kernel_rfl) (fun _ _ _ h => h) (Or.inl ⟨by rfl, ?_⟩) ?_ ?_
        rotate_left
        ·intro w'
         go_simp
         with_reducible rfl
        rotate_left
        ·simp only [Act.put, List.setIfInBounds_toArray, List.set_cons_zero, List.set_cons_succ, i64_w, i32_w]
         rfl
        refine pure_ (i := 6) (N := some 5) (v := ?_) (a' := ?_) #[true, true, true, true, true, true, true] rfl rfl (by kernel_rfl) (fun _ _ _ h => h) (Or.inl ⟨by rfl, ?_⟩) ?_ ?_
        rotate_left
        ·intro w'
         go_simp
         with_reducible rfl
        rotate_left
        ·simp only [Act.put, List.setIfInBounds_toArray, List.set_cons_zero, List.set_cons_succ, i64_w, i32_w]
         rfl
        refine done_ (by kernel_rfl) ?_
        try go_wp2
        go_ret2
        exact ⟨_, _, by rfl, by exact Kd.R_mono HO_6.out (fun _ hk => by (have h_ := hk.1; revert h_; cases Ao46 <;> exact id)), by exact Kd.R_mono HO818.out (fun _ hk => by exact hk.1), by repeat (with_reducible exact HB.out)⟩
       ·rw [if_neg c44] at H
        exact absurd H (by simp)
      ·rw [if_neg c43] at H
       exact absurd H (by simp)
  ·rw [if_neg c6] at H
   exact absurd H (by simp)
 ·rw [if_neg c5] at H
  exact absurd H (by simp)
end Go.Proofs.YtfigblfjogpojaaDoor.PBits
end
section
namespace Go.Proofs.YtfigblfjogpojaaDoor.PBits
open Go.RowKit Go.Proofs.YtfigblfjogpojaaDoorW.PrintWords Go.Proofs.YtfigblfjogpojaaDoorW.PrintLast Go.Proofs.YtfigblfjogpojaaDoorW.PrintMore
attribute [local go_sem] max2_int min2_int max_two min_two max_three min_three max_four min_four
set_option linter.unusedVariables false
set_option linter.unusedSimpArgs false
mutual
def maskref1_shared.j0 : Nat → List Int → List Int → List Int → Bool → Bool → Option (List Int × List Int)
 | 0, _, _, _, _, _ => none
 | k + 1, x0, x1, x8, x9, x10 => if x9 = true then ((maskref1_minus.f k x8 x0).bind fun t840 => (maskref1_shared.j1 k t840 x1 x8 x9 x10)) else (maskref1_shared.j1 k x0 x1 x8 x9 x10)
def maskref1_shared.j1 : Nat → List Int → List Int → List Int → Bool → Bool → Option (List Int × List Int)
 | 0, _, _, _, _, _ => none
 | k + 1, x0, x1, x8, x9, x10 => if x10 = true then ((maskref1_minus.f k x8 x1).bind fun t843 => (maskref1_shared.j2 k x0 t843 x8 x9 x10)) else (maskref1_shared.j2 k x0 x1 x8 x9 x10)
def maskref1_shared.j2 : Nat → List Int → List Int → List Int → Bool → Bool → Option (List Int × List Int)
 | 0, _, _, _, _, _ => none
 | k + 1, x0, x1, x8, x9, x10 => (maskref1_over.f k x0 x1).bind fun bt846 => (if (x9 != x10) = true then ((maskref1_minus.f k x8 bt846.1).bind fun t852 => (maskref1_shared.j3 k x8 x9 t852 bt846.2)) else (maskref1_shared.j3 k x8 x9 bt846.1 bt846.2))
def maskref1_shared.j3 : Nat → List Int → Bool → List Int → List Int → Option (List Int × List Int)
 | 0, _, _, _, _ => none
 | k + 1, x8, x9, x11, x12 => if x9 = true then ((maskref1_minus.f k x8 x12).bind fun t855 => (some (x11, t855))) else (some (x11, x12))
end
def maskref1_shared.f (k : Nat) (l0 : List Int) (l1 : List Int) (a2 : Bool) : Option (List Int × List Int) := (maskref1_Fill.f k (l0.length : Int) 48).bind fun t835 => (if a2 = true then (if 0 ≤ (wrap64 ((l0.length : Int) - 1)) then (if (wrap64 ((l0.length : Int) - 1)) < (l0.length : Int) then (if 0 ≤ (wrap64 ((l1.length : Int) - 1)) then (if (wrap64 ((l1.length : Int) - 1)) < (l1.length : Int) then (maskref1_shared.j0 k l0 l1 t835 ((rd l0 (wrap64 ((l0.length : Int) - 1))) == 49) ((rd l1 (wrap64 ((l1.length : Int) - 1))) == 49)) else (none)) else (none)) else (none)) else (none)) else (maskref1_shared.j0 k l0 l1 t835 false false))
set_option maxHeartbeats 8000000 in
set_option maxRecDepth 100000 in
theorem maskref1_shared.calls (k : Nat) (P0_ : Nat → Prop) (u9000_ : Value) (l0 : List Int) (P1_ : Nat → Prop) (u9001_ : Value) (l1 : List Int) (a2 : Bool) (r1 : List Int) (r2 : List Int) (w0 w : World) (hB : Below w0.heap.size w0 w) (ho0 : Kd.R (Kd.int .u8) 5 w w0.heap.size P0_ u9000_ l0) (hp0_1 : ∀ k_, P0_ k_ → ¬ P1_ k_) (ho1 : Kd.R (Kd.int .u8) 5 w w0.heap.size P1_ u9001_ l1) (hp1_0 : ∀ k_, P1_ k_ → ¬ P0_ k_) (h : maskref1_shared.f k l0 l1 a2 = some (r1, r2)) :
  Calls Tryd.prog 111 #[u9000_, u9001_, .bool a2] w fun e w' => ∃ v0_ v1_ : Value, e = .returned (.tuple #[v0_, v1_]) ∧ Kd.R (Kd.int .u8) 5 w' w0.heap.size (fun k_ => ((P0_ k_ ∨ P1_ k_) ∨ w.heap.size ≤ k_) ∧ some k_ ≠ (v1_ : Value).ownBlock) v0_ r1 ∧ Kd.R (Kd.int .u8) 5 w' w0.heap.size (fun k_ => ((P0_ k_ ∨ P1_ k_) ∨ w.heap.size ≤ k_) ∧ some k_ ≠ (v0_ : Value).ownBlock) v1_ r2 ∧ Below w0.heap.size w0 w' ∧ Kept w w' (fun k_ => P0_ k_ ∨ P1_ k_) := by
 have HO0 := Aside0.mk (show Kd.R (Kd.int .u8) 5 w w0.heap.size (fun k_ => ((P0_ k_ ∨ P1_ k_) ∨ w.heap.size ≤ k_) ∧ some k_ ≠ (u9001_ : Value).ownBlock) u9000_ l0 from Kd.R_mono ho0 (fun k_ hk => ⟨(.inl (.inl hk)), fun e_ => hp0_1 k_ hk (ho1.1 k_ e_.symm)⟩))
 have HO1 := Aside0.mk (show Kd.R (Kd.int .u8) 5 w w0.heap.size (fun k_ => ((P0_ k_ ∨ P1_ k_) ∨ w.heap.size ≤ k_) ∧ some k_ ≠ (u9000_ : Value).ownBlock) u9001_ l1 from Kd.R_mono ho1 (fun k_ hk => ⟨(.inl (.inr hk)), fun e_ => hp1_0 k_ hk (ho0.1 k_ e_.symm)⟩))
 have HK := Aside0.mk (Kept.refl w (fun k_ => P0_ k_ ∨ P1_ k_))
 have HW0 := Aside0.mk hB.size
 have HB := Aside0.mk hB
 clear hB
 have H := h
 clear h
 unfold maskref1_shared.f at H
 replace H := bN H; obtain ⟨t835, A4, H⟩ := H
 have HC5 := Aside0.mk H
 clear H
 obtain ⟨Ao6, co6, eo6⟩ := Kd.R_slice HO0.out
 subst eo6
 go_enter Tryd.func111, Tryd.ntmps111
 go_upto_region 2 with ((go_at_call 27; (with_reducible refine (maskref1_Fill.calls k (l0.length : Int) 48 t835 _ A4.out).mono ?_); rintro e w7 ⟨v836, rfl, ho0, hb⟩; have HO837 := Aside0.mk (Kd.R_lower (Kd.R_new' (Kd.R_new' (Kd.R_newM (M := fun k_ => ((P0_ k_ ∨ P1_ k_) ∨ w.heap.size ≤ k_)) ho0 (by exact HK.out.1) (fun k_ h_ => .inr h_)) (Kd.R_lt HO0.out)) (Kd.R_lt HO1.out)) (below_size HB.out)); replace HO0 := Aside0.mk (Kd.R_elder' HO0.out (Kd.R_base ho0) hb); replace HO1 := Aside0.mk (Kd.R_elder' HO1.out (Kd.R_base ho0) hb); replace HK := Aside0.mk (Kept.below (S := (fun k_ => P0_ k_ ∨ P1_ k_)) HK.out hb); replace HB := hb1 HB hb; (try clear hb); (try clear ho0)))
 go_cut [9, 10] (fun v9 v10 wc => ∃ (kq : Nat) (x9_4 : Bool) (x10_4 : Bool), v9 = .bool x9_4 ∧ v10 = .bool x10_4 ∧ Aside0 (maskref1_shared.j0 kq l0 l1 t835 x9_4 x10_4 = some (r1, r2)) ∧ Aside0 (kq ≤ k) ∧ Aside0 (Kd.R (Kd.int .u8) 5 wc w0.heap.size (fun k_ => ((P0_ k_ ∨ P1_ k_) ∨ w.heap.size ≤ k_) ∧ some k_ ≠ (u9001_ : Value).ownBlock ∧ some k_ ≠ (v836 : Value).ownBlock) (.slice Ao6 l0.length co6) l0) ∧ Aside0 (Kd.R (Kd.int .u8) 5 wc w0.heap.size (fun k_ => ((P0_ k_ ∨ P1_ k_) ∨ w.heap.size ≤ k_) ∧ some k_ ≠ ((.slice Ao6 l0.length co6) : Value).ownBlock ∧ some k_ ≠ (v836 : Value).ownBlock) u9001_ l1) ∧ Aside0 (Kd.R (Kd.int .u8) 5 wc w0.heap.size (fun k_ => ((P0_ k_ ∨ P1_ k_) ∨ w.heap.size ≤ k_) ∧ some k_ ≠ ((.slice Ao6 l0.length co6) : Value).ownBlock ∧ some k_ ≠ (u9001_ : Value).ownBlock) v836 t835) ∧ Aside0 (Kept w wc (fun k_ => P0_ k_ ∨ P1_ k_)) ∧ Aside0 (Below w0.heap.size w0 wc))
 case first =>
  have H := HC5.out
  clear HC5
  replace H := iB H; rcases H with ⟨rfl, H⟩ | ⟨rfl, H⟩
  ·obtain ⟨ji9, hji9⟩ : ∃ j_ : Int, (wrap64 ((l0.length : Int) - 1)) = j_ := ⟨_, rfl⟩
   replace H : (if 0 ≤ (ji9) then (if (ji9) < (l0.length : Int) then (if 0 ≤ (wrap64 ((l1.length : Int) - 1)) then (if (wrap64 ((l1.length : Int) - 1)) < (l1.length : Int) then (maskref1_shared.j0 k l0 l1 t835 ((rd l0 (ji9)) == 49) ((rd l1 (wrap64 ((l1.length : Int) - 1))) == 49)) else (none)) else (none)) else (none)) else (none)) = some (r1, r2) := by (rw [hji9] at H; exact H)
   have hji9w : (IntKind.i64.wrap ((l0.length : Int) - 1)) = ji9 := (i64_w _).trans hji9
   replace H := iN H; obtain ⟨c10b0, H⟩ := H
   (skip)
   replace H := iN H; obtain ⟨c11b0, H⟩ := H
   obtain ⟨ji12, hji12⟩ : ∃ j_ : Int, (wrap64 ((l1.length : Int) - 1)) = j_ := ⟨_, rfl⟩
   replace H : (if 0 ≤ (ji12) then (if (ji12) < (l1.length : Int) then (maskref1_shared.j0 k l0 l1 t835 ((rd l0 (ji9)) == 49) ((rd l1 (ji12)) == 49)) else (none)) else (none)) = some (r1, r2) := by (rw [hji12] at H; exact H)
   have hji12w : (IntKind.i64.wrap ((l1.length : Int) - 1)) = ji12 := (i64_w _).trans hji12
   replace H := iN H; obtain ⟨c13b0, H⟩ := H
   replace H := iN H; obtain ⟨c14b0, H⟩ := H
   have H' := Aside0.mk H
   clear H
   have p838 : 0 ≤ ((ji9) : Int) := of_decide_eq_true (by (with_reducible assumption))
   have q838 : (ji9) < (l0.length : Int) := of_decide_eq_true (by (with_reducible assumption))
   obtain ⟨ad838, e838, hx838_0⟩ := Kd.at_int (Kd.R_reads' HO0.out).2.2 (ji9) p838 q838
   cases e838
   replace p838 := eq_true p838
   replace q838 := eq_true q838
   obtain ⟨Ao15, co15, eo15⟩ := Kd.R_slice HO1.out
   subst eo15
   have p839 : 0 ≤ ((ji12) : Int) := of_decide_eq_true (by (with_reducible assumption))
   have q839 : (ji12) < (l1.length : Int) := of_decide_eq_true (by (with_reducible assumption))
   obtain ⟨ad839, e839, hx839_0⟩ := Kd.at_int (Kd.R_reads' HO1.out).2.2 (ji12) p839 q839
   cases e839
   replace p839 := eq_true p839
   replace q839 := eq_true q839
   go_wp2
   repeat (go_quiet (fail); try go_wp2)
   go_meet
   case rel => exact ⟨_, (((rd l0 (ji9)) == 49)), (((rd l1 (ji12)) == 49)), (by rfl), (by rfl), H', ⟨by omega⟩, ⟨by (with_reducible repeat (apply Kd.R_drewN)); exact Kd.R_mono HO0.out (fun _ hk => ⟨hk.1.1, ⟨hk.1.2, hk.2⟩⟩)⟩, ⟨by (with_reducible repeat (apply Kd.R_drewN)); exact Kd.R_mono HO1.out (fun _ hk => ⟨hk.1.1, ⟨hk.1.2, hk.2⟩⟩)⟩, ⟨by (with_reducible repeat (apply Kd.R_drewN)); exact Kd.R_mono HO837.out (fun _ hk => ⟨hk.1.1.1, ⟨hk.1.2, hk.2⟩⟩)⟩, ⟨by repeat (with_reducible first | exact HK.out | apply Kept.drewN)⟩, ⟨by repeat (with_reducible first | exact HB.out | apply pw_below_drewN)⟩⟩
  ·have H' := Aside0.mk H
   clear H
   go_wp2
   repeat (go_quiet (fail); try go_wp2)
   go_meet
   case rel => exact ⟨_, (false), (false), (by rfl), (by rfl), H', ⟨by omega⟩, ⟨by (with_reducible repeat (apply Kd.R_drewN)); exact Kd.R_mono HO0.out (fun _ hk => ⟨hk.1.1, ⟨hk.1.2, hk.2⟩⟩)⟩, ⟨by (with_reducible repeat (apply Kd.R_drewN)); exact Kd.R_mono HO1.out (fun _ hk => ⟨hk.1.1, ⟨hk.1.2, hk.2⟩⟩)⟩, ⟨by (with_reducible repeat (apply Kd.R_drewN)); exact Kd.R_mono HO837.out (fun _ hk => ⟨hk.1.1.1, ⟨hk.1.2, hk.2⟩⟩)⟩, ⟨by repeat (with_reducible first | exact HK.out | apply Kept.drewN)⟩, ⟨by repeat (with_reducible first | exact HB.out | apply pw_below_drewN)⟩⟩
 case rest =>
  clear HC5
  obtain ⟨kq, x9_4, x10_4, rfl, rfl, HA, HJ4, HO_0, HO_1, HO_8, HK, HB⟩ := hcut
  cases kq with
  | zero => exact absurd HA.out (by simp [maskref1_shared.j0])
  | succ kj4 =>
   have H := HA.out
   clear HA
   simp only [maskref1_shared.j0] at H
   have HC16 := Aside0.mk H
   clear H
   go_upto_if 36 with (fail)
   go_cut [0] (fun v0 wc => ∃ (kq : Nat) (x0_15 : List Int), Aside0 (maskref1_shared.j1 kq x0_15 l1 t835 x9_4 x10_4 = some (r1, r2)) ∧ Aside0 (kq ≤ kj4) ∧ Aside0 (Kd.R (Kd.int .u8) 5 wc w0.heap.size (fun k_ => ((P0_ k_ ∨ P1_ k_) ∨ w.heap.size ≤ k_) ∧ some k_ ≠ (u9001_ : Value).ownBlock ∧ some k_ ≠ (v836 : Value).ownBlock) v0 x0_15) ∧ Aside0 (Kd.R (Kd.int .u8) 5 wc w0.heap.size (fun k_ => ((P0_ k_ ∨ P1_ k_) ∨ w.heap.size ≤ k_) ∧ some k_ ≠ (v0 : Value).ownBlock ∧ some k_ ≠ (v836 : Value).ownBlock) u9001_ l1) ∧ Aside0 (Kd.R (Kd.int .u8) 5 wc w0.heap.size (fun k_ => ((P0_ k_ ∨ P1_ k_) ∨ w.heap.size ≤ k_) ∧ some k_ ≠ (v0 : Value).ownBlock ∧ some k_ ≠ (u9001_ : Value).ownBlock) v836 t835) ∧ Aside0 (Kept w wc (fun k_ => P0_ k_ ∨ P1_ k_)) ∧ Aside0 (Below w0.heap.size w0 wc))
   case first =>
    have H := HC16.out
    clear HC16
    replace H := iB H; rcases H with ⟨rfl, H⟩ | ⟨rfl, H⟩
    ·replace H := bN H; obtain ⟨t840, A18, H⟩ := H
     have H' := Aside0.mk H
     clear H
     obtain ⟨Ao19, co19, eo19⟩ := Kd.R_slice HO_8.out
     subst eo19
     go_wp2_with ((go_at_call 61; (with_reducible refine (maskref1_minus.calls kj4 _ _ t835 _ _ l0 t840 _ ?side1 ?side2 ?side3 ?side4 A18.out).mono ?_); (case side1 => exact (Kd.R_reads' HO_8.out).2.2); (case side2 => exact (Kd.R_reads' HO_8.out).2.1); (case side3 => exact (Kd.R_reads' HO_0.out).2.2); (case side4 => exact (Kd.R_reads' HO_0.out).2.1); rintro e w20 ⟨v841, rfl, ho0, hb⟩; have HO842 := Aside0.mk (Kd.R_lower (Kd.R_new' (Kd.R_new' (Kd.R_new' (Kd.R_newM (M := fun k_ => ((P0_ k_ ∨ P1_ k_) ∨ w.heap.size ≤ k_)) ho0 (by exact HK.out.1) (fun k_ h_ => .inr h_)) (Kd.R_lt HO_0.out)) (Kd.R_lt HO_1.out)) (Kd.R_lt HO_8.out)) (below_size HB.out)); replace HO_0 := Aside0.mk (Kd.R_elder' HO_0.out (Kd.R_base ho0) hb); replace HO_1 := Aside0.mk (Kd.R_elder' HO_1.out (Kd.R_base ho0) hb); replace HO_8 := Aside0.mk (Kd.R_elder' HO_8.out (Kd.R_base ho0) hb); replace HK := Aside0.mk (Kept.below (S := (fun k_ => P0_ k_ ∨ P1_ k_)) HK.out hb); replace HB := hb1 HB hb; (try clear hb); (try clear ho0)))
     go_meet
     case rel => exact ⟨_, (t840), H', ⟨by have := HJ4.out; omega⟩, ⟨by exact Kd.R_mono HO842.out (fun _ hk => ⟨hk.1.1.1.1, ⟨hk.1.2, hk.2⟩⟩)⟩, ⟨by exact Kd.R_mono HO_1.out (fun _ hk => ⟨hk.1.1, ⟨hk.2, hk.1.2.2⟩⟩)⟩, ⟨by exact Kd.R_mono HO_8.out (fun _ hk => ⟨hk.1.1, ⟨hk.2, hk.1.2.2⟩⟩)⟩, ⟨by repeat (with_reducible exact HK.out)⟩, ⟨by repeat (with_reducible exact HB.out)⟩⟩
    ·have H' := Aside0.mk H
     clear H
     go_wp2
     go_meet
     case rel => exact ⟨_, (l0), H', ⟨by have := HJ4.out; omega⟩, ⟨by exact HO_0.out⟩, ⟨by exact HO_1.out⟩, ⟨by exact HO_8.out⟩, ⟨by repeat (with_reducible exact HK.out)⟩, ⟨by repeat (with_reducible exact HB.out)⟩⟩
   case rest =>
    clear HC16
    obtain ⟨kq, x0_15, HA, HJ15, HO_0, HO_1, HO_8, HK, HB⟩ := hcut
    cases kq with
    | zero => exact absurd HA.out (by simp [maskref1_shared.j1])
    | succ kj15 =>
     have H := HA.out
     clear HA
     simp only [maskref1_shared.j1] at H
     have HC21 := Aside0.mk H
     clear H
     go_upto_if 40 with (fail)
     go_cut [1] (fun v1 wc => ∃ (kq : Nat) (x1_20 : List Int), Aside0 (maskref1_shared.j2 kq x0_15 x1_20 t835 x9_4 x10_4 = some (r1, r2)) ∧ Aside0 (kq ≤ kj15) ∧ Aside0 (Kd.R (Kd.int .u8) 5 wc w0.heap.size (fun k_ => ((P0_ k_ ∨ P1_ k_) ∨ w.heap.size ≤ k_) ∧ some k_ ≠ (v1 : Value).ownBlock ∧ some k_ ≠ (v836 : Value).ownBlock) u0 x0_15) ∧ Aside0 (Kd.R (Kd.int .u8) 5 wc w0.heap.size (fun k_ => ((P0_ k_ ∨ P1_ k_) ∨ w.heap.size ≤ k_) ∧ some k_ ≠ (u0 : Value).ownBlock ∧ some k_ ≠ (v836 : Value).ownBlock) v1 x1_20) ∧ Aside0 (Kd.R (Kd.int .u8) 5 wc w0.heap.size (fun k_ => ((P0_ k_ ∨ P1_ k_) ∨ w.heap.size ≤ k_) ∧ some k_ ≠ (u0 : Value).ownBlock ∧ some k_ ≠ (v1 : Value).ownBlock) v836 t835) ∧ Aside0 (Kept w wc (fun k_ => P0_ k_ ∨ P1_ k_)) ∧ Aside0 (Below w0.heap.size w0 wc))
     case first =>
      have H := HC21.out
      clear HC21
      replace H := iB H; rcases H with ⟨rfl, H⟩ | ⟨rfl, H⟩
      ·replace H := bN H; obtain ⟨t843, A23, H⟩ := H
       have H' := Aside0.mk H
       clear H
       obtain ⟨Ao24, co24, eo24⟩ := Kd.R_slice HO_8.out
       subst eo24
       obtain ⟨Ao25, co25, eo25⟩ := Kd.R_slice HO_1.out
       subst eo25
       go_wp2_with ((go_at_call 61; (with_reducible refine (maskref1_minus.calls kj15 _ _ t835 _ _ l1 t843 _ ?side1 ?side2 ?side3 ?side4 A23.out).mono ?_); (case side1 => exact (Kd.R_reads' HO_8.out).2.2); (case side2 => exact (Kd.R_reads' HO_8.out).2.1); (case side3 => exact (Kd.R_reads' HO_1.out).2.2); (case side4 => exact (Kd.R_reads' HO_1.out).2.1); rintro e w26 ⟨v844, rfl, ho0, hb⟩; have HO845 := Aside0.mk (Kd.R_lower (Kd.R_new' (Kd.R_new' (Kd.R_new' (Kd.R_newM (M := fun k_ => ((P0_ k_ ∨ P1_ k_) ∨ w.heap.size ≤ k_)) ho0 (by exact HK.out.1) (fun k_ h_ => .inr h_)) (Kd.R_lt HO_0.out)) (Kd.R_lt HO_1.out)) (Kd.R_lt HO_8.out)) (below_size HB.out)); replace HO_0 := Aside0.mk (Kd.R_elder' HO_0.out (Kd.R_base ho0) hb); replace HO_1 := Aside0.mk (Kd.R_elder' HO_1.out (Kd.R_base ho0) hb); replace HO_8 := Aside0.mk (Kd.R_elder' HO_8.out (Kd.R_base ho0) hb); replace HK := Aside0.mk (Kept.below (S := (fun k_ => P0_ k_ ∨ P1_ k_)) HK.out hb); replace HB := hb1 HB hb; (try clear hb); (try clear ho0)))
       go_meet
       case rel => exact ⟨_, (t843), H', ⟨by have := HJ4.out; have := HJ15.out; omega⟩, ⟨by exact Kd.R_mono HO_0.out (fun _ hk => ⟨hk.1.1, ⟨hk.2, hk.1.2.2⟩⟩)⟩, ⟨by exact Kd.R_mono HO845.out (fun _ hk => ⟨hk.1.1.1.1, ⟨hk.1.1.2, hk.2⟩⟩)⟩, ⟨by exact Kd.R_mono HO_8.out (fun _ hk => ⟨hk.1.1, ⟨hk.1.2.1, hk.2⟩⟩)⟩, ⟨by repeat (with_reducible exact HK.out)⟩, ⟨by repeat (with_reducible exact HB.out)⟩⟩
      ·have H' := Aside0.mk H
       clear H
       go_wp2
       go_meet
       case rel => exact ⟨_, (l1), H', ⟨by have := HJ4.out; have := HJ15.out; omega⟩, ⟨by exact HO_0.out⟩, ⟨by exact HO_1.out⟩, ⟨by exact HO_8.out⟩, ⟨by repeat (with_reducible exact HK.out)⟩, ⟨by repeat (with_reducible exact HB.out)⟩⟩
     case rest =>
      clear HC21
      obtain ⟨kq, x1_20, HA, HJ20, HO_0, HO_1, HO_8, HK, HB⟩ := hcut
      cases kq with
      | zero => exact absurd HA.out (by simp [maskref1_shared.j2])
      | succ kj20 =>
       have H := HA.out
       clear HA
       simp only [maskref1_shared.j2] at H
       replace H := bN H; obtain ⟨⟨t846, t847⟩, A27, H⟩ := H; dsimp only at H
       have HC28 := Aside0.mk H
       clear H
       obtain ⟨Ao29, co29, eo29⟩ := Kd.R_slice HO_0.out
       subst eo29
       obtain ⟨Ao30, co30, eo30⟩ := Kd.R_slice HO_1.out
       subst eo30
       go_upto_if 52 with ((go_at_call 124; (with_reducible refine (maskref1_over.calls kj20 _ _ x0_15 _ _ x1_20 t846 t847 _ ?side1 ?side2 ?side3 ?side4 A27.out).mono ?_); (case side1 => exact (Kd.R_reads' HO_0.out).2.2); (case side2 => exact (Kd.R_reads' HO_0.out).2.1); (case side3 => exact (Kd.R_reads' HO_1.out).2.2); (case side4 => exact (Kd.R_reads' HO_1.out).2.1); rintro e w31 ⟨v848, v850, rfl, ho0, ho1, hb⟩; have HO849 := Aside0.mk (Kd.R_lower (Kd.R_new' (Kd.R_new' (Kd.R_new' (Kd.R_newM (M := fun k_ => ((P0_ k_ ∨ P1_ k_) ∨ w.heap.size ≤ k_)) ho0 (by exact HK.out.1) (fun k_ h_ => .inr h_)) (Kd.R_lt HO_0.out)) (Kd.R_lt HO_1.out)) (Kd.R_lt HO_8.out)) (below_size HB.out)); have HO851 := Aside0.mk (Kd.R_lower (Kd.R_new' (Kd.R_new' (Kd.R_new' (Kd.R_newM (M := fun k_ => ((P0_ k_ ∨ P1_ k_) ∨ w.heap.size ≤ k_)) ho1 (by exact HK.out.1) (fun k_ h_ => .inr h_)) (Kd.R_lt HO_0.out)) (Kd.R_lt HO_1.out)) (Kd.R_lt HO_8.out)) (below_size HB.out)); replace HO_0 := Aside0.mk (Kd.R_mono (Kd.R_told (Kd.R_told (Kd.R_old HO_0.out hb) (Kd.R_base ho0)) (Kd.R_base ho1)) (fun _ h_ => h_.1)); replace HO_1 := Aside0.mk (Kd.R_mono (Kd.R_told (Kd.R_told (Kd.R_old HO_1.out hb) (Kd.R_base ho0)) (Kd.R_base ho1)) (fun _ h_ => h_.1)); replace HO_8 := Aside0.mk (Kd.R_mono (Kd.R_told (Kd.R_told (Kd.R_old HO_8.out hb) (Kd.R_base ho0)) (Kd.R_base ho1)) (fun _ h_ => h_.1)); replace HK := Aside0.mk (Kept.below (S := (fun k_ => P0_ k_ ∨ P1_ k_)) HK.out hb); replace HB := hb1 HB hb; (try clear hb); (try clear ho0); (try clear ho1)))
       go_cut [11] (fun v11 wc => ∃ (kq : Nat) (x11_27 : List Int), Aside0 (maskref1_shared.j3 kq t835 x9_4 x11_27 t847 = some (r1, r2)) ∧ Aside0 (kq ≤ kj20) ∧ Aside0 (Kd.R (Kd.int .u8) 5 wc w0.heap.size (fun k_ => ((P0_ k_ ∨ P1_ k_) ∨ w.heap.size ≤ k_) ∧ some k_ ≠ (v11 : Value).ownBlock ∧ some k_ ≠ (v850 : Value).ownBlock) v836 t835) ∧ Aside0 (Kd.R (Kd.int .u8) 5 wc w0.heap.size (fun k_ => ((P0_ k_ ∨ P1_ k_) ∨ w.heap.size ≤ k_) ∧ some k_ ≠ (v836 : Value).ownBlock ∧ some k_ ≠ (v850 : Value).ownBlock) v11 x11_27) ∧ Aside0 (Kd.R (Kd.int .u8) 5 wc w0.heap.size (fun k_ => ((P0_ k_ ∨ P1_ k_) ∨ w.heap.size ≤ k_) ∧ some k_ ≠ (v836 : Value).ownBlock ∧ some k_ ≠ (v11 : Value).ownBlock) v850 t847) ∧ Aside0 (Kept w wc (fun k_ => P0_ k_ ∨ P1_ k_)) ∧ Aside0 (Below w0.heap.size w0 wc))
       case first =>
        have H := HC28.out
        clear HC28
        by_cases c32 : (x9_4 != x10_4) = true
        ·rw [if_pos c32] at H
         have c32b0 : (x9_4 != x10_4) = true := c32
         (try (have c32b1 : decide (x9_4 = x10_4) = false := by simpa using c32))
         (try (have c32b2 : (x9_4 == x10_4) = false := by simpa using c32))
         (try (have c32b3 : ¬ (x9_4 = x10_4) := by simpa using c32))
         clear c32
         (rw [show (!(x9_4 == x10_4)) = true from c32b0])
         replace H := bN H; obtain ⟨t852, A33, H⟩ := H
         have H' := Aside0.mk H
         clear H
         obtain ⟨Ao34, co34, eo34⟩ := Kd.R_slice HO_8.out
         subst eo34
         obtain ⟨Ao35, co35, eo35⟩ := Kd.R_slice HO849.out
         subst eo35
         go_wp2_with ((go_at_call 61; (with_reducible refine (maskref1_minus.calls kj20 _ _ t835 _ _ t846 t852 _ ?side1 ?side2 ?side3 ?side4 A33.out).mono ?_); (case side1 => exact (Kd.R_reads' HO_8.out).2.2); (case side2 => exact (Kd.R_reads' HO_8.out).2.1); (case side3 => exact (Kd.R_reads' HO849.out).2.2); (case side4 => exact (Kd.R_reads' HO849.out).2.1); rintro e w36 ⟨v853, rfl, ho0, hb⟩; have HO854 := Aside0.mk (Kd.R_lower (Kd.R_new' (Kd.R_new' (Kd.R_new' (Kd.R_new' (Kd.R_new' (Kd.R_newM (M := fun k_ => ((P0_ k_ ∨ P1_ k_) ∨ w.heap.size ≤ k_)) ho0 (by exact HK.out.1) (fun k_ h_ => .inr h_)) (Kd.R_lt HO_0.out)) (Kd.R_lt HO_1.out)) (Kd.R_lt HO_8.out)) (Kd.R_lt HO849.out)) (Kd.R_lt HO851.out)) (below_size HB.out)); replace HO_0 := Aside0.mk (Kd.R_elder' HO_0.out (Kd.R_base ho0) hb); replace HO_1 := Aside0.mk (Kd.R_elder' HO_1.out (Kd.R_base ho0) hb); replace HO_8 := Aside0.mk (Kd.R_elder' HO_8.out (Kd.R_base ho0) hb); replace HO849 := Aside0.mk (Kd.R_elder' HO849.out (Kd.R_base ho0) hb); replace HO851 := Aside0.mk (Kd.R_elder' HO851.out (Kd.R_base ho0) hb); replace HK := Aside0.mk (Kept.below (S := (fun k_ => P0_ k_ ∨ P1_ k_)) HK.out hb); replace HB := hb1 HB hb; (try clear hb); (try clear ho0)))
         go_meet
         case rel => exact ⟨_, (t852), H', ⟨by have := HJ4.out; have := HJ15.out; have := HJ20.out; omega⟩, ⟨by exact Kd.R_mono HO_8.out (fun _ hk => ⟨hk.1.1.1.1, ⟨hk.2, hk.1.2⟩⟩)⟩, ⟨by exact Kd.R_mono HO854.out (fun _ hk => ⟨hk.1.1.1.1.1.1, ⟨hk.1.1.2, hk.2⟩⟩)⟩, ⟨by exact Kd.R_mono HO851.out (fun _ hk => ⟨hk.1.1.1.1.1, ⟨hk.1.2, hk.2⟩⟩)⟩, ⟨by repeat (with_reducible exact HK.out)⟩, ⟨by repeat (with_reducible exact HB.out)⟩⟩
        ·rw [if_neg c32] at H
         have c32b0 : (x9_4 != x10_4) = false := by simpa using c32
         (try (have c32b1 : decide (x9_4 = x10_4) = true := by simpa using c32))
         (try (have c32b2 : (x9_4 == x10_4) = true := by simpa using c32))
         clear c32
         (rw [show (!(x9_4 == x10_4)) = false from c32b0])
         have H' := Aside0.mk H
         clear H
         go_wp2
         go_meet
         case rel => exact ⟨_, (t846), H', ⟨by have := HJ4.out; have := HJ15.out; have := HJ20.out; omega⟩, ⟨by exact Kd.R_mono HO_8.out (fun _ hk => ⟨hk.1.1.1, ⟨hk.1.2, hk.2⟩⟩)⟩, ⟨by exact Kd.R_mono HO849.out (fun _ hk => ⟨hk.1.1.1.1, ⟨hk.2, hk.1.1.1.2⟩⟩)⟩, ⟨by exact Kd.R_mono HO851.out (fun _ hk => ⟨hk.1.1.1.1, ⟨hk.2, hk.1.1.1.2⟩⟩)⟩, ⟨by repeat (with_reducible exact HK.out)⟩, ⟨by repeat (with_reducible exact HB.out)⟩⟩
       case rest =>
        clear HC28
        obtain ⟨kq, x11_27, HA, HJ27, HO_8, HO_11, HO_12, HK, HB⟩ := hcut
        cases kq with
        | zero => exact absurd HA.out (by simp [maskref1_shared.j3])
        | succ kj27 =>
         have H := HA.out
         clear HA
         simp only [maskref1_shared.j3] at H
         replace H := iB H; rcases H with ⟨rfl, H⟩ | ⟨rfl, H⟩
         ·replace H := bN H; obtain ⟨t855, A38, H⟩ := H
          replace H := s2 H; obtain ⟨rfl, rfl⟩ := H
          obtain ⟨Ao39, co39, eo39⟩ := Kd.R_slice HO_8.out
          subst eo39
          obtain ⟨Ao40, co40, eo40⟩ := Kd.R_slice HO_12.out
          subst eo40
          go_wp2_with ((go_at_call 61; (with_reducible refine (maskref1_minus.calls kj27 _ _ t835 _ _ t847 t855 _ ?side1 ?side2 ?side3 ?side4 A38.out).mono ?_); (case side1 => exact (Kd.R_reads' HO_8.out).2.2); (case side2 => exact (Kd.R_reads' HO_8.out).2.1); (case side3 => exact (Kd.R_reads' HO_12.out).2.2); (case side4 => exact (Kd.R_reads' HO_12.out).2.1); rintro e w41 ⟨v856, rfl, ho0, hb⟩; have HO857 := Aside0.mk (Kd.R_lower (Kd.R_new' (Kd.R_new' (Kd.R_new' (Kd.R_newM (M := fun k_ => ((P0_ k_ ∨ P1_ k_) ∨ w.heap.size ≤ k_)) ho0 (by exact HK.out.1) (fun k_ h_ => .inr h_)) (Kd.R_lt HO_8.out)) (Kd.R_lt HO_11.out)) (Kd.R_lt HO_12.out)) (below_size HB.out)); replace HO_8 := Aside0.mk (Kd.R_elder' HO_8.out (Kd.R_base ho0) hb); replace HO_11 := Aside0.mk (Kd.R_elder' HO_11.out (Kd.R_base ho0) hb); replace HO_12 := Aside0.mk (Kd.R_elder' HO_12.out (Kd.R_base ho0) hb); replace HK := Aside0.mk (Kept.below (S := (fun k_ => P0_ k_ ∨ P1_ k_)) HK.out hb); replace HB := hb1 HB hb; (try clear hb); (try clear ho0)))
          go_ret2
          exact ⟨_, _, by rfl, by exact Kd.R_mono HO_11.out (fun _ hk => ⟨hk.1.1, hk.2⟩), by exact Kd.R_mono HO857.out (fun _ hk => ⟨hk.1.1.1.1, hk.1.2⟩), by repeat (with_reducible exact HB.out), by repeat (with_reducible exact HK.out)⟩
         ·replace H := s2 H; obtain ⟨rfl, rfl⟩ := H
          go_wp2
          go_ret2
          exact ⟨_, _, by rfl, by exact Kd.R_mono HO_11.out (fun _ hk => ⟨hk.1, hk.2.2⟩), by exact Kd.R_mono HO_12.out (fun _ hk => ⟨hk.1, hk.2.2⟩), by repeat (with_reducible exact HB.out), by repeat (with_reducible exact HK.out)⟩
end Go.Proofs.YtfigblfjogpojaaDoor.PBits
end
section
namespace Go.Proofs.YtfigblfjogpojaaDoor.PBits
open Go.RowKit Go.Proofs.YtfigblfjogpojaaDoorW.PrintWords Go.Proofs.YtfigblfjogpojaaDoorW.PrintLast Go.Proofs.YtfigblfjogpojaaDoorW.PrintMore
attribute [local go_sem] max2_int min2_int max_two min_two max_three min_three max_four min_four
set_option linter.unusedVariables false
set_option linter.unusedSimpArgs false
def maskref1_Number.j0 : Nat → Int → List Int → List Int → Bool → Bool → Option (List Int)
 | 0, _, _, _, _, _ => none
 | k + 1, x0, x1, x2, x3, x31 => if x31 = true then ((maskref1_Fill.f k (x1.length : Int) 120).bind fun t862 => (some t862)) else (if x0 = 16 then ((maskref1_plus.f k x1 x2 48).bind fun t865 => (some t865)) else (if x0 = 17 then ((maskref1_minus.f k x1 x2).bind fun t868 => (some t868)) else (if x0 = 18 then ((maskref1_times.f k x1 x2).bind fun t871 => (some t871)) else ((maskref1_shared.f k x1 x2 x3).bind fun bt874 => (if x0 = 19 then (some bt874.1) else (some bt874.2))))))
def maskref1_Number.f (k : Nat) (a0 : Int) (l1 : List Int) (l2 : List Int) (a3 : Bool) : Option (List Int) := (maskref1_Known.f k l1).bind fun t858 => (if t858 = true then ((maskref1_Known.f k l2).bind fun t859 => (if t859 = true then (if a0 = 19 then ((maskref1_Truth.f k l2).bind fun t860 => (maskref1_Number.j0 k a0 l1 l2 a3 (t860 == 102))) else (if a0 = 20 then ((maskref1_Truth.f k l2).bind fun t861 => (maskref1_Number.j0 k a0 l1 l2 a3 (t861 == 102))) else (maskref1_Number.j0 k a0 l1 l2 a3 false))) else (maskref1_Number.j0 k a0 l1 l2 a3 true))) else (maskref1_Number.j0 k a0 l1 l2 a3 true))
set_option maxHeartbeats 8000000 in
set_option maxRecDepth 100000 in
theorem maskref1_Number.calls (k : Nat) (a0 : Int) (P1_ : Nat → Prop) (u9000_ : Value) (l1 : List Int) (P2_ : Nat → Prop) (u9001_ : Value) (l2 : List Int) (a3 : Bool) (r : List Int) (w0 w : World) (hB : Below w0.heap.size w0 w) (ho1 : Kd.R (Kd.int .u8) 5 w w0.heap.size P1_ u9000_ l1) (hp1_2 : ∀ k_, P1_ k_ → ¬ P2_ k_) (ho2 : Kd.R (Kd.int .u8) 5 w w0.heap.size P2_ u9001_ l2) (hp2_1 : ∀ k_, P2_ k_ → ¬ P1_ k_) (h : maskref1_Number.f k a0 l1 l2 a3 = some r) :
  Calls Tryd.prog 89 #[.int .i64 a0, u9000_, u9001_, .bool a3] w fun e w' => ∃ v0_ : Value, e = .returned (v0_) ∧ Kd.R (Kd.int .u8) 5 w' w0.heap.size (fun k_ => ((P1_ k_ ∨ P2_ k_) ∨ w.heap.size ≤ k_)) v0_ r ∧ Below w0.heap.size w0 w' ∧ Kept w w' (fun k_ => P1_ k_ ∨ P2_ k_) := by
 have HO1 := Aside0.mk (show Kd.R (Kd.int .u8) 5 w w0.heap.size (fun k_ => ((P1_ k_ ∨ P2_ k_) ∨ w.heap.size ≤ k_) ∧ some k_ ≠ (u9001_ : Value).ownBlock) u9000_ l1 from Kd.R_mono ho1 (fun k_ hk => ⟨(.inl (.inl hk)), fun e_ => hp1_2 k_ hk (ho2.1 k_ e_.symm)⟩))
 have HO2 := Aside0.mk (show Kd.R (Kd.int .u8) 5 w w0.heap.size (fun k_ => ((P1_ k_ ∨ P2_ k_) ∨ w.heap.size ≤ k_) ∧ some k_ ≠ (u9000_ : Value).ownBlock) u9001_ l2 from Kd.R_mono ho2 (fun k_ hk => ⟨(.inl (.inr hk)), fun e_ => hp2_1 k_ hk (ho1.1 k_ e_.symm)⟩))
 have HK := Aside0.mk (Kept.refl w (fun k_ => P1_ k_ ∨ P2_ k_))
 have HW0 := Aside0.mk hB.size
 have HB := Aside0.mk hB
 clear hB
 have H := h
 clear h
 unfold maskref1_Number.f at H
 have HC5 := Aside0.mk H
 clear H
 go_enter Tryd.func89, Tryd.ntmps89
 go_upto_region 1 with (fail)
 go_cut [31] (fun v31 wc => ∃ (kq : Nat) (x31_4 : Bool), v31 = .bool x31_4 ∧ Aside0 (maskref1_Number.j0 kq a0 l1 l2 a3 x31_4 = some r) ∧ Aside0 (kq ≤ k) ∧ Aside0 (Kd.R (Kd.int .u8) 5 wc w0.heap.size (fun k_ => ((P1_ k_ ∨ P2_ k_) ∨ w.heap.size ≤ k_) ∧ some k_ ≠ (u9001_ : Value).ownBlock) u9000_ l1) ∧ Aside0 (Kd.R (Kd.int .u8) 5 wc w0.heap.size (fun k_ => ((P1_ k_ ∨ P2_ k_) ∨ w.heap.size ≤ k_) ∧ some k_ ≠ (u9000_ : Value).ownBlock) u9001_ l2) ∧ Aside0 (Kept w wc (fun k_ => P1_ k_ ∨ P2_ k_)) ∧ Aside0 (Below w0.heap.size w0 wc))
 case first =>
  have H := HC5.out
  clear HC5
  replace H := bN H; obtain ⟨t858, A6, H⟩ := H
  replace H := iB H; rcases H with ⟨rfl, H⟩ | ⟨rfl, H⟩
  ·replace H := bN H; obtain ⟨t859, A8, H⟩ := H
   replace H := iB H; rcases H with ⟨rfl, H⟩ | ⟨rfl, H⟩
   ·replace H := iE H; rcases H with ⟨c10b0, c10b1, H⟩ | ⟨c10, c10b0, c10b1, H⟩
    ·(skip)
     replace H := bN H; obtain ⟨t860, A11, H⟩ := H
     have H' := Aside0.mk H
     clear H
     obtain ⟨Ao12, co12, eo12⟩ := Kd.R_slice HO1.out
     subst eo12
     go_wp2_with (first | (refine callA (some 12) Tryd.func33 #[.slice Ao12 l1.length co12] ?_; (with_reducible refine (maskref1_Known.calls k _ _ l1 true _ ?side1 ?side2 A6.out).mono ?_); (case side1 => exact (Kd.R_reads' HO1.out).2.2); (case side2 => exact (Kd.R_reads' HO1.out).2.1); rintro e w' ⟨rfl, ⟨nd, rfl⟩⟩; refine ⟨_, rfl, ?_⟩; obtain ⟨Ao13, co13, eo13⟩ := Kd.R_slice HO2.out; subst eo13) | (go_at_call 33; (with_reducible refine (maskref1_Known.calls k _ _ l2 true _ ?side1 ?side2 A8.out).mono ?_); (case side1 => exact (Kd.R_reads' HO2.out).2.2); (case side2 => exact (Kd.R_reads' HO2.out).2.1); rintro e w' ⟨rfl, ⟨nd, rfl⟩⟩) | (go_at_call 59; (with_reducible refine (maskref1_Truth.calls k _ _ l2 t860 _ ?side1 ?side2 A11.out).mono ?_); (case side1 => exact (Kd.R_reads' HO2.out).2.2); (case side2 => exact (Kd.R_reads' HO2.out).2.1); rintro e w' ⟨rfl, ⟨nd, rfl⟩⟩))
     go_meet
     case rel => exact ⟨_, (t860 == 102), (by rfl), H', ⟨by omega⟩, ⟨by (with_reducible repeat (apply Kd.R_drewN)); exact HO1.out⟩, ⟨by (with_reducible repeat (apply Kd.R_drewN)); exact HO2.out⟩, ⟨by repeat (with_reducible first | exact HK.out | apply Kept.drewN)⟩, ⟨by repeat (with_reducible first | exact HB.out | apply pw_below_drewN)⟩⟩
    ·(skip)
     replace H := iE H; rcases H with ⟨c14b0, c14b1, H⟩ | ⟨c14, c14b0, c14b1, H⟩
     ·replace H := bN H; obtain ⟨t861, A15, H⟩ := H
      have H' := Aside0.mk H
      clear H
      obtain ⟨Ao16, co16, eo16⟩ := Kd.R_slice HO1.out
      subst eo16
      go_wp2_with (first | (refine callA (some 12) Tryd.func33 #[.slice Ao16 l1.length co16] ?_; (with_reducible refine (maskref1_Known.calls k _ _ l1 true _ ?side1 ?side2 A6.out).mono ?_); (case side1 => exact (Kd.R_reads' HO1.out).2.2); (case side2 => exact (Kd.R_reads' HO1.out).2.1); rintro e w' ⟨rfl, ⟨nd, rfl⟩⟩; refine ⟨_, rfl, ?_⟩; obtain ⟨Ao17, co17, eo17⟩ := Kd.R_slice HO2.out; subst eo17) | (go_at_call 33; (with_reducible refine (maskref1_Known.calls k _ _ l2 true _ ?side1 ?side2 A8.out).mono ?_); (case side1 => exact (Kd.R_reads' HO2.out).2.2); (case side2 => exact (Kd.R_reads' HO2.out).2.1); rintro e w' ⟨rfl, ⟨nd, rfl⟩⟩) | (go_at_call 59; (with_reducible refine (maskref1_Truth.calls k _ _ l2 t861 _ ?side1 ?side2 A15.out).mono ?_); (case side1 => exact (Kd.R_reads' HO2.out).2.2); (case side2 => exact (Kd.R_reads' HO2.out).2.1); rintro e w' ⟨rfl, ⟨nd, rfl⟩⟩))
      go_meet
      case rel => exact ⟨_, (t861 == 102), (by rfl), H', ⟨by omega⟩, ⟨by (with_reducible repeat (apply Kd.R_drewN)); exact HO1.out⟩, ⟨by (with_reducible repeat (apply Kd.R_drewN)); exact HO2.out⟩, ⟨by repeat (with_reducible first | exact HK.out | apply Kept.drewN)⟩, ⟨by repeat (with_reducible first | exact HB.out | apply pw_below_drewN)⟩⟩
     ·have H' := Aside0.mk H
      clear H
      obtain ⟨Ao18, co18, eo18⟩ := Kd.R_slice HO1.out
      subst eo18
      go_wp2_with (first | (refine callA (some 12) Tryd.func33 #[.slice Ao18 l1.length co18] ?_; (with_reducible refine (maskref1_Known.calls k _ _ l1 true _ ?side1 ?side2 A6.out).mono ?_); (case side1 => exact (Kd.R_reads' HO1.out).2.2); (case side2 => exact (Kd.R_reads' HO1.out).2.1); rintro e w' ⟨rfl, ⟨nd, rfl⟩⟩; refine ⟨_, rfl, ?_⟩; obtain ⟨Ao19, co19, eo19⟩ := Kd.R_slice HO2.out; subst eo19) | (go_at_call 33; (with_reducible refine (maskref1_Known.calls k _ _ l2 true _ ?side1 ?side2 A8.out).mono ?_); (case side1 => exact (Kd.R_reads' HO2.out).2.2); (case side2 => exact (Kd.R_reads' HO2.out).2.1); rintro e w' ⟨rfl, ⟨nd, rfl⟩⟩))
      go_meet
      case rel => exact ⟨_, (false), (by rfl), H', ⟨by omega⟩, ⟨by (with_reducible repeat (apply Kd.R_drewN)); exact HO1.out⟩, ⟨by (with_reducible repeat (apply Kd.R_drewN)); exact HO2.out⟩, ⟨by repeat (with_reducible first | exact HK.out | apply Kept.drewN)⟩, ⟨by repeat (with_reducible first | exact HB.out | apply pw_below_drewN)⟩⟩
   ·have H' := Aside0.mk H
    clear H
    obtain ⟨Ao20, co20, eo20⟩ := Kd.R_slice HO1.out
    subst eo20
    go_wp2_with (first | (refine callA (some 12) Tryd.func33 #[.slice Ao20 l1.length co20] ?_; (with_reducible refine (maskref1_Known.calls k _ _ l1 true _ ?side1 ?side2 A6.out).mono ?_); (case side1 => exact (Kd.R_reads' HO1.out).2.2); (case side2 => exact (Kd.R_reads' HO1.out).2.1); rintro e w' ⟨rfl, ⟨nd, rfl⟩⟩; refine ⟨_, rfl, ?_⟩; obtain ⟨Ao21, co21, eo21⟩ := Kd.R_slice HO2.out; subst eo21) | (go_at_call 33; (with_reducible refine (maskref1_Known.calls k _ _ l2 false _ ?side1 ?side2 A8.out).mono ?_); (case side1 => exact (Kd.R_reads' HO2.out).2.2); (case side2 => exact (Kd.R_reads' HO2.out).2.1); rintro e w' ⟨rfl, ⟨nd, rfl⟩⟩))
    go_meet
    case rel => exact ⟨_, (true), (by rfl), H', ⟨by omega⟩, ⟨by (with_reducible repeat (apply Kd.R_drewN)); exact HO1.out⟩, ⟨by (with_reducible repeat (apply Kd.R_drewN)); exact HO2.out⟩, ⟨by repeat (with_reducible first | exact HK.out | apply Kept.drewN)⟩, ⟨by repeat (with_reducible first | exact HB.out | apply pw_below_drewN)⟩⟩
  ·have H' := Aside0.mk H
   clear H
   obtain ⟨Ao22, co22, eo22⟩ := Kd.R_slice HO1.out
   subst eo22
   go_wp2_with ((refine callA (some 12) Tryd.func33 #[.slice Ao22 l1.length co22] ?_; (with_reducible refine (maskref1_Known.calls k _ _ l1 false _ ?side1 ?side2 A6.out).mono ?_); (case side1 => exact (Kd.R_reads' HO1.out).2.2); (case side2 => exact (Kd.R_reads' HO1.out).2.1); rintro e w' ⟨rfl, ⟨nd, rfl⟩⟩; refine ⟨_, rfl, ?_⟩))
   go_meet
   case rel => exact ⟨_, (true), (by rfl), H', ⟨by omega⟩, ⟨by (with_reducible repeat (apply Kd.R_drewN)); exact HO1.out⟩, ⟨by (with_reducible repeat (apply Kd.R_drewN)); exact HO2.out⟩, ⟨by repeat (with_reducible first | exact HK.out | apply Kept.drewN)⟩, ⟨by repeat (with_reducible first | exact HB.out | apply pw_below_drewN)⟩⟩
 case rest =>
  clear HC5
  obtain ⟨kq, x31_4, rfl, HA, HJ4, HO_1, HO_2, HK, HB⟩ := hcut
  cases kq with
  | zero => exact absurd HA.out (by simp [maskref1_Number.j0])
  | succ kj4 =>
   have H := HA.out
   clear HA
   simp only [maskref1_Number.j0] at H
   replace H := iB H; rcases H with ⟨rfl, H⟩ | ⟨rfl, H⟩
   ·replace H := bN H; obtain ⟨t862, A24, H⟩ := H
    obtain rfl := Option.some.inj H
    obtain ⟨Ao25, co25, eo25⟩ := Kd.R_slice HO_1.out
    subst eo25
    go_wp2_with ((refine callA (some 34) Tryd.func27 #[.int .i64 (l1.length : Int), .int .u8 120] ?_; (with_reducible refine (maskref1_Fill.calls kj4 (l1.length : Int) 120 t862 _ A24.out).mono ?_); rintro e w26 ⟨v863, rfl, ho0, hb⟩; refine ⟨_, rfl, ?_⟩; have HO864 := Aside0.mk (Kd.R_lower (Kd.R_new' (Kd.R_new' (Kd.R_newM (M := fun k_ => ((P1_ k_ ∨ P2_ k_) ∨ w.heap.size ≤ k_)) ho0 (by exact HK.out.1) (fun k_ h_ => .inr h_)) (Kd.R_lt HO_1.out)) (Kd.R_lt HO_2.out)) (below_size HB.out)); replace HO_1 := Aside0.mk (Kd.R_elder' HO_1.out (Kd.R_base ho0) hb); replace HO_2 := Aside0.mk (Kd.R_elder' HO_2.out (Kd.R_base ho0) hb); replace HK := Aside0.mk (Kept.below (S := (fun k_ => P1_ k_ ∨ P2_ k_)) HK.out hb); replace HB := hb1 HB hb; (try clear hb); (try clear ho0)))
    go_ret
    exact ⟨_, by rfl, by exact Kd.R_mono HO864.out (fun _ hk => hk.1.1.1), by repeat (with_reducible exact HB.out), by repeat (with_reducible exact HK.out)⟩
   ·replace H := iE H; rcases H with ⟨c27b0, c27b1, H⟩ | ⟨c27, c27b0, c27b1, H⟩
    ·replace H := bN H; obtain ⟨t865, A28, H⟩ := H
     obtain rfl := Option.some.inj H
     obtain ⟨Ao29, co29, eo29⟩ := Kd.R_slice HO_1.out
     subst eo29
     obtain ⟨Ao30, co30, eo30⟩ := Kd.R_slice HO_2.out
     subst eo30
     go_wp2_with ((refine callA (some 40) Tryd.func75 #[.slice Ao29 l1.length co29, .slice Ao30 l2.length co30, .int .u8 48] ?_; (with_reducible refine (maskref1_plus.calls kj4 _ _ l1 _ _ l2 48 t865 _ ?side1 ?side2 ?side3 ?side4 A28.out).mono ?_); (case side1 => exact (Kd.R_reads' HO_1.out).2.2); (case side2 => exact (Kd.R_reads' HO_1.out).2.1); (case side3 => exact (Kd.R_reads' HO_2.out).2.2); (case side4 => exact (Kd.R_reads' HO_2.out).2.1); rintro e w31 ⟨v866, rfl, ho0, hb⟩; refine ⟨_, rfl, ?_⟩; have HO867 := Aside0.mk (Kd.R_lower (Kd.R_new' (Kd.R_new' (Kd.R_newM (M := fun k_ => ((P1_ k_ ∨ P2_ k_) ∨ w.heap.size ≤ k_)) ho0 (by exact HK.out.1) (fun k_ h_ => .inr h_)) (Kd.R_lt HO_1.out)) (Kd.R_lt HO_2.out)) (below_size HB.out)); replace HO_1 := Aside0.mk (Kd.R_elder' HO_1.out (Kd.R_base ho0) hb); replace HO_2 := Aside0.mk (Kd.R_elder' HO_2.out (Kd.R_base ho0) hb); replace HK := Aside0.mk (Kept.below (S := (fun k_ => P1_ k_ ∨ P2_ k_)) HK.out hb); replace HB := hb1 HB hb; (try clear hb); (try clear ho0)))
     go_ret
     exact ⟨_, by rfl, by exact Kd.R_mono HO867.out (fun _ hk => hk.1.1.1), by repeat (with_reducible exact HB.out), by repeat (with_reducible exact HK.out)⟩
    ·replace H := iE H; rcases H with ⟨c32b0, c32b1, H⟩ | ⟨c32, c32b0, c32b1, H⟩
     ·replace H := bN H; obtain ⟨t868, A33, H⟩ := H
      obtain rfl := Option.some.inj H
      obtain ⟨Ao34, co34, eo34⟩ := Kd.R_slice HO_1.out
      subst eo34
      obtain ⟨Ao35, co35, eo35⟩ := Kd.R_slice HO_2.out
      subst eo35
      go_wp2_with ((refine callA (some 45) Tryd.func61 #[.slice Ao34 l1.length co34, .slice Ao35 l2.length co35] ?_; (with_reducible refine (maskref1_minus.calls kj4 _ _ l1 _ _ l2 t868 _ ?side1 ?side2 ?side3 ?side4 A33.out).mono ?_); (case side1 => exact (Kd.R_reads' HO_1.out).2.2); (case side2 => exact (Kd.R_reads' HO_1.out).2.1); (case side3 => exact (Kd.R_reads' HO_2.out).2.2); (case side4 => exact (Kd.R_reads' HO_2.out).2.1); rintro e w36 ⟨v869, rfl, ho0, hb⟩; refine ⟨_, rfl, ?_⟩; have HO870 := Aside0.mk (Kd.R_lower (Kd.R_new' (Kd.R_new' (Kd.R_newM (M := fun k_ => ((P1_ k_ ∨ P2_ k_) ∨ w.heap.size ≤ k_)) ho0 (by exact HK.out.1) (fun k_ h_ => .inr h_)) (Kd.R_lt HO_1.out)) (Kd.R_lt HO_2.out)) (below_size HB.out)); replace HO_1 := Aside0.mk (Kd.R_elder' HO_1.out (Kd.R_base ho0) hb); replace HO_2 := Aside0.mk (Kd.R_elder' HO_2.out (Kd.R_base ho0) hb); replace HK := Aside0.mk (Kept.below (S := (fun k_ => P1_ k_ ∨ P2_ k_)) HK.out hb); replace HB := hb1 HB hb; (try clear hb); (try clear ho0)))
      go_ret
      exact ⟨_, by rfl, by exact Kd.R_mono HO870.out (fun _ hk => hk.1.1.1), by repeat (with_reducible exact HB.out), by repeat (with_reducible exact HK.out)⟩
     ·replace H := iE H; rcases H with ⟨c37b0, c37b1, H⟩ | ⟨c37, c37b0, c37b1, H⟩
      ·replace H := bN H; obtain ⟨t871, A38, H⟩ := H
       obtain rfl := Option.some.inj H
       obtain ⟨Ao39, co39, eo39⟩ := Kd.R_slice HO_1.out
       subst eo39
       obtain ⟨Ao40, co40, eo40⟩ := Kd.R_slice HO_2.out
       subst eo40
       go_wp2_with ((refine callA (some 50) Tryd.func110 #[.slice Ao39 l1.length co39, .slice Ao40 l2.length co40] ?_; (with_reducible refine (maskref1_times.calls kj4 _ _ l1 _ _ l2 t871 _ ?side1 ?side2 ?side3 ?side4 A38.out).mono ?_); (case side1 => exact (Kd.R_reads' HO_1.out).2.2); (case side2 => exact (Kd.R_reads' HO_1.out).2.1); (case side3 => exact (Kd.R_reads' HO_2.out).2.2); (case side4 => exact (Kd.R_reads' HO_2.out).2.1); rintro e w41 ⟨v872, rfl, ho0, hb⟩; refine ⟨_, rfl, ?_⟩; have HO873 := Aside0.mk (Kd.R_lower (Kd.R_new' (Kd.R_new' (Kd.R_newM (M := fun k_ => ((P1_ k_ ∨ P2_ k_) ∨ w.heap.size ≤ k_)) ho0 (by exact HK.out.1) (fun k_ h_ => .inr h_)) (Kd.R_lt HO_1.out)) (Kd.R_lt HO_2.out)) (below_size HB.out)); replace HO_1 := Aside0.mk (Kd.R_elder' HO_1.out (Kd.R_base ho0) hb); replace HO_2 := Aside0.mk (Kd.R_elder' HO_2.out (Kd.R_base ho0) hb); replace HK := Aside0.mk (Kept.below (S := (fun k_ => P1_ k_ ∨ P2_ k_)) HK.out hb); replace HB := hb1 HB hb; (try clear hb); (try clear ho0)))
       go_ret
       exact ⟨_, by rfl, by exact Kd.R_mono HO873.out (fun _ hk => hk.1.1.1), by repeat (with_reducible exact HB.out), by repeat (with_reducible exact HK.out)⟩
      ·replace H := bN H; obtain ⟨⟨t874, t877⟩, A42, H⟩ := H; dsimp only at H
       replace H := iE H; rcases H with ⟨c43b0, c43b1, H⟩ | ⟨c43, c43b0, c43b1, H⟩
       ·obtain rfl := Option.some.inj H
        obtain ⟨Ao44, co44, eo44⟩ := Kd.R_slice HO_1.out
        subst eo44
        obtain ⟨Ao45, co45, eo45⟩ := Kd.R_slice HO_2.out
        subst eo45
        go_wp2_with ((refine callA (some 55) Tryd.func111 #[.slice Ao44 l1.length co44, .slice Ao45 l2.length co45, .bool a3] ?_; (with_reducible refine (maskref1_shared.calls kj4 (fun k_ => some k_ = (.slice Ao44 l1.length co44 : Value).ownBlock) (.slice Ao44 l1.length co44) l1 (fun k_ => some k_ = (.slice Ao45 l2.length co45 : Value).ownBlock) (.slice Ao45 l2.length co45) l2 a3 t874 t877 w0 _ ?side1 ?side2 ?side3 ?side4 ?side5 A42.out).mono ?_); (case side1 => repeat (with_reducible exact HB.out)); (case side2 => exact Kd.R_tight rfl HO_1.out); (case side3 => exact fun k_ e_ => (HO_1.out.1 k_ e_.symm).2); (case side4 => exact Kd.R_tight rfl HO_2.out); (case side5 => exact fun k_ e_ => (HO_2.out.1 k_ e_.symm).2); rintro e w46 ⟨v875, v878, rfl, ho0, ho1, hb, hkp⟩; refine ⟨_, rfl, ?_⟩; have HO876 := Aside0.mk (Kd.R_mono (ok' := fun k_ => ((P1_ k_ ∨ P2_ k_) ∨ w.heap.size ≤ k_) ∧ some k_ ≠ (v878 : Value).ownBlock) ho0 (fun k_ hk_ => ⟨Or.elim hk_.1 (fun hs_ => Or.elim hs_ (fun hs_ => (HO_1.out.1 k_ (hs_).symm).1) (fun hs_ => (HO_2.out.1 k_ (hs_).symm).1)) (fun hn_ => (.inr (Nat.le_trans (by exact HK.out.1) hn_))), hk_.2⟩)); have HO879 := Aside0.mk (Kd.R_mono (ok' := fun k_ => ((P1_ k_ ∨ P2_ k_) ∨ w.heap.size ≤ k_) ∧ some k_ ≠ (v875 : Value).ownBlock) ho1 (fun k_ hk_ => ⟨Or.elim hk_.1 (fun hs_ => Or.elim hs_ (fun hs_ => (HO_1.out.1 k_ (hs_).symm).1) (fun hs_ => (HO_2.out.1 k_ (hs_).symm).1)) (fun hn_ => (.inr (Nat.le_trans (by exact HK.out.1) hn_))), hk_.2⟩)); replace HK := Aside0.mk (Kept.then_ (S := (fun k_ => P1_ k_ ∨ P2_ k_)) HK.out hkp (fun k_ hs_ => Or.elim hs_ (fun e_ => (fun e_ => (HO_1.out.1 k_ e_.symm).1) e_) (fun e_ => (fun e_ => (HO_2.out.1 k_ e_.symm).1) e_))); replace HB := Aside0.mk (hb); clear HO_1 HO_2; (try clear hb); (try clear hkp); (try clear ho0); (try clear ho1)))
        go_ret
        exact ⟨_, by rfl, by exact Kd.R_mono HO876.out (fun _ hk => hk.1), by repeat (with_reducible exact HB.out), by repeat (with_reducible exact HK.out)⟩
       ·obtain rfl := Option.some.inj H
        obtain ⟨Ao47, co47, eo47⟩ := Kd.R_slice HO_1.out
        subst eo47
        obtain ⟨Ao48, co48, eo48⟩ := Kd.R_slice HO_2.out
        subst eo48
        go_wp2_with ((refine callA (some 55) Tryd.func111 #[.slice Ao47 l1.length co47, .slice Ao48 l2.length co48, .bool a3] ?_; (with_reducible refine (maskref1_shared.calls kj4 (fun k_ => some k_ = (.slice Ao47 l1.length co47 : Value).ownBlock) (.slice Ao47 l1.length co47) l1 (fun k_ => some k_ = (.slice Ao48 l2.length co48 : Value).ownBlock) (.slice Ao48 l2.length co48) l2 a3 t874 t877 w0 _ ?side1 ?side2 ?side3 ?side4 ?side5 A42.out).mono ?_); (case side1 => repeat (with_reducible exact HB.out)); (case side2 => exact Kd.R_tight rfl HO_1.out); (case side3 => exact fun k_ e_ => (HO_1.out.1 k_ e_.symm).2); (case side4 => exact Kd.R_tight rfl HO_2.out); (case side5 => exact fun k_ e_ => (HO_2.out.1 k_ e_.symm).2); rintro e w49 ⟨v875, v878, rfl, ho0, ho1, hb, hkp⟩; refine ⟨_, rfl, ?_⟩; have HO876 := Aside0.mk (Kd.R_mono (ok' := fun k_ => ((P1_ k_ ∨ P2_ k_) ∨ w.heap.size ≤ k_) ∧ some k_ ≠ (v878 : Value).ownBlock) ho0 (fun k_ hk_ => ⟨Or.elim hk_.1 (fun hs_ => Or.elim hs_ (fun hs_ => (HO_1.out.1 k_ (hs_).symm).1) (fun hs_ => (HO_2.out.1 k_ (hs_).symm).1)) (fun hn_ => (.inr (Nat.le_trans (by exact HK.out.1) hn_))), hk_.2⟩)); have HO879 := Aside0.mk (Kd.R_mono (ok' := fun k_ => ((P1_ k_ ∨ P2_ k_) ∨ w.heap.size ≤ k_) ∧ some k_ ≠ (v875 : Value).ownBlock) ho1 (fun k_ hk_ => ⟨Or.elim hk_.1 (fun hs_ => Or.elim hs_ (fun hs_ => (HO_1.out.1 k_ (hs_).symm).1) (fun hs_ => (HO_2.out.1 k_ (hs_).symm).1)) (fun hn_ => (.inr (Nat.le_trans (by exact HK.out.1) hn_))), hk_.2⟩)); replace HK := Aside0.mk (Kept.then_ (S := (fun k_ => P1_ k_ ∨ P2_ k_)) HK.out hkp (fun k_ hs_ => Or.elim hs_ (fun e_ => (fun e_ => (HO_1.out.1 k_ e_.symm).1) e_) (fun e_ => (fun e_ => (HO_2.out.1 k_ e_.symm).1) e_))); replace HB := Aside0.mk (hb); clear HO_1 HO_2; (try clear hb); (try clear hkp); (try clear ho0); (try clear ho1)))
        go_ret
        exact ⟨_, by rfl, by exact Kd.R_mono HO879.out (fun _ hk => hk.1), by repeat (with_reducible exact HB.out), by repeat (with_reducible exact HK.out)⟩
end Go.Proofs.YtfigblfjogpojaaDoor.PBits
end
