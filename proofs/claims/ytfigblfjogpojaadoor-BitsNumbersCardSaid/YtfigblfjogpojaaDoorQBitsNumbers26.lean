/- Part 27 of the proof of BitsNumbersCardSaid: The law BitsNumbers: for all arguments it returns true; each argument reads behind the call as it read before. Out of the plain theorem of YtfigblfjogpojaaDoorPureBitsNumbers and the printed contract. -/
import Derived.Test.YtfigblfjogpojaaDoorQBitsNumbers15
import Derived.Test.YtfigblfjogpojaaDoorQBitsNumbers21
import Derived.Test.YtfigblfjogpojaaDoorQBitsNumbers14
import Derived.Test.YtfigblfjogpojaaDoorQBitsNumbers23
section
namespace Go.Proofs.YtfigblfjogpojaaDoor.PBits
open Go.RowKit Go.Proofs.YtfigblfjogpojaaDoorW.PrintWords Go.Proofs.YtfigblfjogpojaaDoorW.PrintLast Go.Proofs.YtfigblfjogpojaaDoorW.PrintMore
attribute [local go_sem] max2_int min2_int max_two min_two max_three min_three max_four min_four
set_option linter.unusedVariables false
set_option linter.unusedSimpArgs false
mutual
def maskref1_moved.l0 : Nat → List Int → Bool → Int → Int → List Int → Int → Int → Option (List Int)
 | 0, _, _, _, _, _, _, _ => none
 | k + 1, x0, x2, x3, x9, x10, x22, x23 => if x23 < x22 then (if x2 = true then (maskref1_moved.j1 k x0 x2 x3 x9 x10 (wrap64 (x23 - x9)) x22 x23) else (maskref1_moved.j1 k x0 x2 x3 x9 x10 (wrap64 (x23 + x9)) x22 x23)) else (some x10)
def maskref1_moved.j1 : Nat → List Int → Bool → Int → Int → List Int → Int → Int → Int → Option (List Int)
 | 0, _, _, _, _, _, _, _, _ => none
 | k + 1, x0, x2, x3, x9, x10, x12, x22, x23 => if x12 ≥ 0 then (if x12 < (x0.length : Int) then (if 0 ≤ x12 then (if x10.length < 140737488355328 then (maskref1_moved.l0 k x0 x2 x3 x9 (x10 ++ [rd x0 x12]) x22 (wrap64 (x23 + 1))) else (none)) else (none)) else (if x10.length < 140737488355328 then (maskref1_moved.l0 k x0 x2 x3 x9 (x10 ++ [x3]) x22 (wrap64 (x23 + 1))) else (none))) else (if x10.length < 140737488355328 then (maskref1_moved.l0 k x0 x2 x3 x9 (x10 ++ [x3]) x22 (wrap64 (x23 + 1))) else (none))
end
def maskref1_moved.f (k : Nat) (l0 : List Int) (l1 : List Int) (a2 : Bool) (a3 : Int) : Option (List Int) := (maskref1_Known.f k l1).bind fun t762 => (if t762 = true then ((maskref1_Count.f k l1 64).bind fun t766 => (maskref1_moved.l0 k l0 a2 a3 t766 ([] : List Int) (l0.length : Int) 0)) else ((maskref1_Fill.f k (l0.length : Int) 120).bind fun t763 => (some t763)))
set_option maxHeartbeats 8000000 in
set_option maxRecDepth 100000 in
theorem maskref1_moved.calls (k : Nat) (A0 : Option Addr) (c0 : Nat) (l0 : List Int) (A1 : Option Addr) (c1 : Nat) (l1 : List Int) (a2 : Bool) (a3 : Int) (r : List Int) (w : World) (hr0 : Kd.C (Kd.int .u8) w A0 l0.length l0) (hc0 : l0.length ≤ c0) (hr1 : Kd.C (Kd.int .u8) w A1 l1.length l1) (hc1 : l1.length ≤ c1) (h : maskref1_moved.f k l0 l1 a2 a3 = some r) :
  Calls Tryd.prog 83 #[.slice A0 l0.length c0, .slice A1 l1.length c1, .bool a2, .int .u8 a3] w fun e w' => ∃ v0_ : Value, e = .returned (v0_) ∧ Kd.R (Kd.int .u8) 5 w' w.heap.size (fun _ => True) v0_ r ∧ Below w.heap.size w w' := by
 have HR0 := Aside0.mk hr0
 have HC0 := Aside0.mk hc0
 clear hr0 hc0
 have HR1 := Aside0.mk hr1
 have HC1 := Aside0.mk hc1
 clear hr1 hc1
 have HB := Aside0.mk (Below.refl w.heap.size w)
 have H := h
 clear h
 unfold maskref1_moved.f at H
 replace H := bN H; obtain ⟨t762, A5, H⟩ := H
 replace H := iB H; rcases H with ⟨rfl, H⟩ | ⟨rfl, H⟩
 ·replace H := bN H; obtain ⟨t766, A7, H⟩ := H
  have H' := Aside0.mk H
  clear H
  go_enter Tryd.func83, Tryd.ntmps83
  go_wp2_with (first | (refine callA (some 14) Tryd.func33 #[.slice A1 l1.length c1] ?_; (with_reducible refine (maskref1_Known.calls k _ _ l1 true _ ?side1 ?side2 A5.out).mono ?_); (case side1 => exact HR1.out); (case side2 => exact HC1.out); rintro e w' ⟨rfl, ⟨nd, rfl⟩⟩; refine ⟨_, rfl, ?_⟩) | (refine callA (some 20) Tryd.func60 #[.slice A1 l1.length c1, .int .i64 64] ?_; (with_reducible refine (maskref1_Count.calls k _ _ l1 64 t766 _ ?side1 ?side2 A7.out).mono ?_); (case side1 => exact HR1.out); (case side2 => exact HC1.out); rintro e w8 ⟨rfl, hb⟩; refine ⟨_, rfl, ?_⟩; replace HB := hb1 HB hb; (try clear hb)))
  go_loopg [10, 23] k (fun kq v10 v23 w' => ∃ (x10_1 : List Int) (x23_1 : Int), v23 = .int .i64 x23_1 ∧ Aside0 (maskref1_moved.l0 kq l0 a2 a3 t766 x10_1 (l0.length : Int) x23_1 = some r) ∧ Aside0 (kq ≤ k) ∧ Aside0 (Kd.R (Kd.int .u8) 5 w' w.heap.size (fun _ => True) v10 x10_1) ∧ Aside0 (Below w.heap.size w w'))
  case atStart => exact ⟨([] : List Int), (0), (by rfl), H', ⟨Nat.le_refl _⟩, ⟨by exact Kd.R_nil _ _ _ _ _⟩, ⟨by repeat (with_reducible exact HB.out)⟩⟩
  case round =>
   clear H'
   obtain ⟨x10_1, x23_1, rfl, HA, HK1, HO_10, HB⟩ := hrel
   cases gk with
   | zero => exact absurd HA.out (by simp [maskref1_moved.l0])
   | succ k1 =>
    have H := HA.out
    clear HA
    simp only [maskref1_moved.l0] at H
    replace H := iD H; rcases H with ⟨c9b0, H⟩ | ⟨c9b0, H⟩
    ·have HC10 := Aside0.mk H
     clear H
     go_upto_if 29 with (fail)
     go_cut [12] (fun v12 wc => ∃ (kq : Nat) (x12_9 : Int), v12 = .int .i64 x12_9 ∧ Aside0 (maskref1_moved.j1 kq l0 a2 a3 t766 x10_1 x12_9 (l0.length : Int) x23_1 = some r) ∧ Aside0 (kq ≤ k1) ∧ Aside0 (Kd.R (Kd.int .u8) 5 wc w.heap.size (fun _ => True) u10 x10_1) ∧ Aside0 (Below w.heap.size w wc))
     case first =>
      have H := HC10.out
      clear HC10
      replace H := iB H; rcases H with ⟨rfl, H⟩ | ⟨rfl, H⟩
      ·have H' := Aside0.mk H
       clear H
       go_wp2
       go_meet
       case rel => exact ⟨_, (wrap64 (x23_1 - t766)), (by rfl), H', ⟨by have := HK1.out; omega⟩, ⟨by exact HO_10.out⟩, ⟨by repeat (with_reducible exact HB.out)⟩⟩
      ·have H' := Aside0.mk H
       clear H
       go_wp2
       go_meet
       case rel => exact ⟨_, (wrap64 (x23_1 + t766)), (by rfl), H', ⟨by have := HK1.out; omega⟩, ⟨by exact HO_10.out⟩, ⟨by repeat (with_reducible exact HB.out)⟩⟩
     case rest =>
      clear HC10
      (try clear c9b0)
      obtain ⟨kq, x12_9, rfl, HA, HJ9, HO_10, HB⟩ := hcut
      cases kq with
      | zero => exact absurd HA.out (by simp [maskref1_moved.j1])
      | succ kj9 =>
       have H := HA.out
       clear HA
       simp only [maskref1_moved.j1] at H
       replace H := iD H; rcases H with ⟨c12b0, H⟩ | ⟨c12b0, H⟩
       ·replace c12b0 : decide (0 ≤ x12_9) = true := c12b0
        replace H := iD H; rcases H with ⟨c13b0, H⟩ | ⟨c13b0, H⟩
        ·replace H := iN H; obtain ⟨c14b0, H⟩ := H
         by_cases c15 : x10_1.length < 140737488355328
         ·rw [if_pos c15] at H
          have LMc15 := Aside0.mk c15
          clear c15
          obtain ⟨y768, hy768⟩ : ∃ y_ : List Int, y_ = (x10_1 ++ [rd l0 x12_9]) := ⟨_, rfl⟩
          replace H : (maskref1_moved.l0 kj9 l0 a2 a3 t766 y768 (l0.length : Int) (wrap64 (x23_1 + 1))) = some r := by (rw [hy768]; with_reducible exact H)
          have Ny768 := Aside0.mk hy768
          clear hy768
          have H' := Aside0.mk H
          clear H
          have p767 : 0 ≤ (x12_9 : Int) := of_decide_eq_true (by (with_reducible assumption))
          have q767 : x12_9 < (l0.length : Int) := of_decide_eq_true (by (with_reducible assumption))
          obtain ⟨ad767, e767, hx767_0⟩ := Kd.at_int HR0.out x12_9 p767 q767
          cases e767
          replace hx767_0 := (HB.out.cell (World.block_lt_of_cell? w _ hx767_0)).trans hx767_0
          replace p767 := eq_true p767
          replace q767 := eq_true q767
          go_wp2_with (((with_reducible refine gate_builtin (b := .append) (xs := #[.tmp 41, .tmp 46]) rfl ?_); (try (refine gate_guard (by rfl) ?_; dsimp only)); at_builtin; refine Kd.R_append (Kd.int .u8) (w0 := w) w.heap.size rfl (.tmp 41) (.tmp 46) 43 5 (.int .u8 0) 1 rfl Tryd.underlying43 info5 rfl (by decide) (by omega) u10 x10_1 (rd l0 x12_9) [.int .u8 (rd l0 x12_9)] (fun _ => True) (fun _ => False) rfl rfl ?aP (fun _ hk => hk.elim) ?aF ?aO ?aB ?aS ?aL ?_; (case aP => exact rfl); (case aB => exact HB.out); (case aF => exact (fun _ _ => trivial)); (case aO => exact HO_10.out); (case aS => exact (below_size HB.out)); (case aL => have := LMc15.out; omega); intro v769 w16 ho hb hg hat; rw [← Ny768.out] at ho; replace HB := Aside0.mk (hb); have HO770 := Aside0.mk (ho); clear HO_10; clear ho hb hg hat))
          go_roundg kj9
          case measure => have := HK1.out; have := HJ9.out; omega
          case rel => exact ⟨(y768), (wrap64 (x23_1 + 1)), (by rfl), H', ⟨by have := HK1.out; have := HJ9.out; omega⟩, ⟨by exact HO770.out⟩, ⟨by repeat (with_reducible exact HB.out)⟩⟩
         ·rw [if_neg c15] at H
          exact absurd H (by simp)
        ·by_cases c17 : x10_1.length < 140737488355328
         ·rw [if_pos c17] at H
          have LMc17 := Aside0.mk c17
          clear c17
          obtain ⟨y771, hy771⟩ : ∃ y_ : List Int, y_ = (x10_1 ++ [a3]) := ⟨_, rfl⟩
          replace H : (maskref1_moved.l0 kj9 l0 a2 a3 t766 y771 (l0.length : Int) (wrap64 (x23_1 + 1))) = some r := by (rw [hy771]; with_reducible exact H)
          have Ny771 := Aside0.mk hy771
          clear hy771
          have H' := Aside0.mk H
          clear H
          go_wp2_with (((with_reducible refine gate_builtin (b := .append) (xs := #[.tmp 48, .tmp 50]) rfl ?_); (try (refine gate_guard (by rfl) ?_; dsimp only)); at_builtin; refine Kd.R_append (Kd.int .u8) (w0 := w) w.heap.size rfl (.tmp 48) (.tmp 50) 43 5 (.int .u8 0) 1 rfl Tryd.underlying43 info5 rfl (by decide) (by omega) u10 x10_1 a3 [.int .u8 a3] (fun _ => True) (fun _ => False) rfl rfl ?aP (fun _ hk => hk.elim) ?aF ?aO ?aB ?aS ?aL ?_; (case aP => exact rfl); (case aB => exact HB.out); (case aF => exact (fun _ _ => trivial)); (case aO => exact HO_10.out); (case aS => exact (below_size HB.out)); (case aL => have := LMc17.out; omega); intro v772 w18 ho hb hg hat; rw [← Ny771.out] at ho; replace HB := Aside0.mk (hb); have HO773 := Aside0.mk (ho); clear HO_10; clear ho hb hg hat))
          go_roundg kj9
          case measure => have := HK1.out; have := HJ9.out; omega
          case rel => exact ⟨(y771), (wrap64 (x23_1 + 1)), (by rfl), H', ⟨by have := HK1.out; have := HJ9.out; omega⟩, ⟨by exact HO773.out⟩, ⟨by repeat (with_reducible exact HB.out)⟩⟩
         ·rw [if_neg c17] at H
          exact absurd H (by simp)
       ·replace c12b0 : decide (0 ≤ x12_9) = false := c12b0
        by_cases c19 : x10_1.length < 140737488355328
        ·rw [if_pos c19] at H
         have LMc19 := Aside0.mk c19
         clear c19
         obtain ⟨y774, hy774⟩ : ∃ y_ : List Int, y_ = (x10_1 ++ [a3]) := ⟨_, rfl⟩
         replace H : (maskref1_moved.l0 kj9 l0 a2 a3 t766 y774 (l0.length : Int) (wrap64 (x23_1 + 1))) = some r := by (rw [hy774]; with_reducible exact H)
         have Ny774 := Aside0.mk hy774
         clear hy774
         have H' := Aside0.mk H
         clear H
         go_wp2_with (((with_reducible refine gate_builtin (b := .append) (xs := #[.tmp 48, .tmp 50]) rfl ?_); (try (refine gate_guard (by rfl) ?_; dsimp only)); at_builtin; refine Kd.R_append (Kd.int .u8) (w0 := w) w.heap.size rfl (.tmp 48) (.tmp 50) 43 5 (.int .u8 0) 1 rfl Tryd.underlying43 info5 rfl (by decide) (by omega) u10 x10_1 a3 [.int .u8 a3] (fun _ => True) (fun _ => False) rfl rfl ?aP (fun _ hk => hk.elim) ?aF ?aO ?aB ?aS ?aL ?_; (case aP => exact rfl); (case aB => exact HB.out); (case aF => exact (fun _ _ => trivial)); (case aO => exact HO_10.out); (case aS => exact (below_size HB.out)); (case aL => have := LMc19.out; omega); intro v775 w20 ho hb hg hat; rw [← Ny774.out] at ho; replace HB := Aside0.mk (hb); have HO776 := Aside0.mk (ho); clear HO_10; clear ho hb hg hat))
         go_roundg kj9
         case measure => have := HK1.out; have := HJ9.out; omega
         case rel => exact ⟨(y774), (wrap64 (x23_1 + 1)), (by rfl), H', ⟨by have := HK1.out; have := HJ9.out; omega⟩, ⟨by exact HO776.out⟩, ⟨by repeat (with_reducible exact HB.out)⟩⟩
        ·rw [if_neg c19] at H
         exact absurd H (by simp)
    ·obtain rfl := Option.some.inj H
     go_wp2
     go_ret
     exact ⟨_, by rfl, by exact HO_10.out, by repeat (with_reducible exact HB.out)⟩
 ·replace H := bN H; obtain ⟨t763, A21, H⟩ := H
  obtain rfl := Option.some.inj H
  go_enter Tryd.func83, Tryd.ntmps83
  go_wp2_with (first | (refine callA (some 14) Tryd.func33 #[.slice A1 l1.length c1] ?_; (with_reducible refine (maskref1_Known.calls k _ _ l1 false _ ?side1 ?side2 A5.out).mono ?_); (case side1 => exact HR1.out); (case side2 => exact HC1.out); rintro e w' ⟨rfl, ⟨nd, rfl⟩⟩; refine ⟨_, rfl, ?_⟩) | (refine callA (some 18) Tryd.func27 #[.int .i64 (l0.length : Int), .int .u8 120] ?_; (with_reducible refine (maskref1_Fill.calls k (l0.length : Int) 120 t763 _ A21.out).mono ?_); rintro e w22 ⟨v764, rfl, ho0, hb⟩; refine ⟨_, rfl, ?_⟩; have HO765 := Aside0.mk (Kd.R_lower ho0 (below_size (by repeat (with_reducible first | exact HB.out | apply pw_below_drewN)))); replace HB := hb1 HB hb; (try clear hb); (try clear ho0)))
  go_ret
  exact ⟨_, by rfl, by exact HO765.out, by repeat (with_reducible exact HB.out)⟩
end Go.Proofs.YtfigblfjogpojaaDoor.PBits
end
section
namespace Go.Proofs.YtfigblfjogpojaaDoor.PBits
open Go.RowKit Go.Proofs.YtfigblfjogpojaaDoorW.PrintWords Go.Proofs.YtfigblfjogpojaaDoorW.PrintLast Go.Proofs.YtfigblfjogpojaaDoorW.PrintMore
attribute [local go_sem] max2_int min2_int max_two min_two max_three min_three max_four min_four
set_option linter.unusedVariables false
set_option linter.unusedSimpArgs false
def bits_shift.f (k : Nat) (a0_0 : Int) (a0_1 : Int) (a0_2 : Int) : Option (Int × Bool) := (bits_Uint.f k a0_0 a0_1 a0_2).bind fun bt1059 => (some (wrap64 (mn bt1059.1 64), bt1059.2))
set_option maxHeartbeats 8000000 in
set_option maxRecDepth 100000 in
theorem bits_shift.calls (k : Nat) (a0_0 : Int) (a0_1 : Int) (a0_2 : Int) (r1 : Int) (r2 : Bool) (w : World) (h : bits_shift.f k a0_0 a0_1 a0_2 = some (r1, r2)) :
  Calls Tryd.prog 113 #[.agg #[.int .i64 a0_0, .int .u64 a0_1, .int .u64 a0_2]] w fun e w' => e = .returned (.tuple #[.int .i64 r1, .bool r2]) ∧ Below w.heap.size w w' := by
 have hu24 := Tryd.underlying24
 have HB := Aside0.mk (Below.refl w.heap.size w)
 have H := h
 clear h
 unfold bits_shift.f at H
 replace H := bN H; obtain ⟨⟨t1059, t1060⟩, A2, H⟩ := H; dsimp only at H
 obtain ⟨ji3, hji3⟩ : ∃ j_ : Int, (mn t1059 64) = j_ := ⟨_, rfl⟩
 replace H : (some (wrap64 (ji3), t1060)) = some (r1, r2) := by (rw [hji3] at H; exact H)
 (try (have hji3h : ji3 ≤ 64 := by (rw [← hji3]; unfold mn; (repeat' split) <;> omega)))
 (try (have hji3g : ji3 ≤ 64 := by omega))
 have hji3_ : (if 64 < t1059 then 64 else t1059) = ji3 := hji3
 replace H := s2 H; obtain ⟨rfl, rfl⟩ := H
 go_enter Tryd.func113, Tryd.ntmps113
 go_wp2_with (first | (refine boxA HB 1 #[.int .i64 a0_0, .int .u64 a0_1, .int .u64 a0_2] 24 ?_; clear HB; intro gb1058 w4 BK1058 GE1058 hg hb HB; clear hb hg; obtain ⟨hcz5_0, hcz5_1, hcz5_2, hfz5_0, hfz5_1, hfz5_2⟩ := cf3 BK1058) | (refine callA (some 8) Tryd.func18 #[.agg #[.int .i64 a0_0, .int .u64 a0_1, .int .u64 a0_2]] ?_; (with_reducible refine (bits_Uint.calls k a0_0 a0_1 a0_2 t1059 t1060 _ A2.out).mono ?_); rintro e w6 ⟨rfl, hb⟩; refine ⟨_, rfl, ?_⟩; replace BK1058 := bk1 BK1058 hb; replace HB := hb1 HB hb; (try clear hb)))
 go_ret2
 exact ⟨by rfl, by repeat (with_reducible exact HB.out)⟩
end Go.Proofs.YtfigblfjogpojaaDoor.PBits
end
section
namespace Go.Proofs.YtfigblfjogpojaaDoor.PBits
open Go.RowKit Go.Proofs.YtfigblfjogpojaaDoorW.PrintWords Go.Proofs.YtfigblfjogpojaaDoorW.PrintLast Go.Proofs.YtfigblfjogpojaaDoorW.PrintMore
attribute [local go_sem] max2_int min2_int max_two min_two max_three min_three max_four min_four
set_option linter.unusedVariables false
set_option linter.unusedSimpArgs false
def bits_Shl.f (k : Nat) (a0_0 : Int) (a0_1 : Int) (a0_2 : Int) (a1_0 : Int) (a1_1 : Int) (a1_2 : Int) : Option (Int × Int × Int) := (bits_valid.f k (([(⟨a0_0, a0_1, a0_2⟩ : S24), (⟨a1_0, a1_1, a1_2⟩ : S24)] : List (S24)))).bind fun t1067 => (if t1067 = true then ((bits_shift.f k a1_0 a1_1 a1_2).bind fun bt1068 => (if bt1068.2 = true then (if 0 ≤ bt1068.1 then ((bits_mask.f a0_0).bind fun t1073 => ((bits_mask.f a0_0).bind fun t1074 => (some (a0_0, Go.bits .and .u64 (shl .u64 a0_1 bt1068.1) t1073, Go.bits .and .u64 (shl .u64 a0_2 bt1068.1) t1074)))) else (none)) else ((bits_All.f k a0_0 120).bind fun bt1070 => (some (bt1070.1, bt1070.2.1, bt1070.2.2))))) else (some (0, 0, 0)))
def bits_Shl.T6 : Bool × List (List Nat × List Nat) := (true, [([], []), ([0], [0]), ([], []), ([2], [2]), ([], []), ([3, 4], [3, 4]), ([], []), ([6], [6]), ([7], [7]), ([5, 8], [5, 8]), ([], []), ([10], [10]), ([], []), ([11, 12], [11, 12]), ([], []), ([14], [14]), ([15, 8], [15]), ([13, 16], [13, 16]), ([1, 9, 17], [1, 9, 17]), ([18, 16, 0, 1, 2, 3, 4, 5, 6, 7, 8, 9, 10, 11, 12, 13, 14, 15, 16, 17, 18], [18])])
def bits_Shl.B6 : List Nat := [0, 1, 0, 4, 0, 28, 0, 64, 192, 508, 0, 1024, 0, 7168, 0, 16384, 49600, 130496, 262143, 524287]
theorem bits_Shl.tab6 : rtab .any (opsOf Tryd.f95 6) = bits_Shl.T6 := by kernel_rfl
theorem bits_Shl.bits6 : waitsOk bits_Shl.T6.2 bits_Shl.B6 = true := by kernel_rfl
set_option maxHeartbeats 8000000 in
set_option maxRecDepth 100000 in
theorem bits_Shl.calls (k : Nat) (a0_0 : Int) (a0_1 : Int) (a0_2 : Int) (a1_0 : Int) (a1_1 : Int) (a1_2 : Int) (r1 : Int) (r2 : Int) (r3 : Int) (w : World) (h : bits_Shl.f k a0_0 a0_1 a0_2 a1_0 a1_1 a1_2 = some (r1, r2, r3)) :
  Calls Tryd.prog 95 #[.agg #[.int .i64 a0_0, .int .u64 a0_1, .int .u64 a0_2], .agg #[.int .i64 a1_0, .int .u64 a1_1, .int .u64 a1_2]] w fun e w' => e = .returned (.agg #[.int .i64 r1, .int .u64 r2, .int .u64 r3]) ∧ Below w.heap.size w w' := by
 have hu24 := Tryd.underlying24
 have HB := Aside0.mk (Below.refl w.heap.size w)
 have H := h
 clear h
 unfold bits_Shl.f at H
 obtain ⟨y1064, hy1064⟩ : ∃ y_ : List (S24), y_ = ([(⟨a0_0, a0_1, a0_2⟩ : S24), (⟨a1_0, a1_1, a1_2⟩ : S24)] : List (S24)) := ⟨_, rfl⟩
 replace H : ((bits_valid.f k y1064).bind fun t1067 => (if t1067 = true then ((bits_shift.f k a1_0 a1_1 a1_2).bind fun bt1068 => (if bt1068.2 = true then (if 0 ≤ bt1068.1 then ((bits_mask.f a0_0).bind fun t1073 => ((bits_mask.f a0_0).bind fun t1074 => (some (a0_0, Go.bits .and .u64 (shl .u64 a0_1 bt1068.1) t1073, Go.bits .and .u64 (shl .u64 a0_2 bt1068.1) t1074)))) else (none)) else ((bits_All.f k a0_0 120).bind fun bt1070 => (some (bt1070.1, bt1070.2.1, bt1070.2.2))))) else (some (0, 0, 0)))) = some (r1, r2, r3) := by (rw [hy1064]; with_reducible exact H)
 have Ny1064 := Aside0.mk hy1064
 clear hy1064
 replace H := bN H; obtain ⟨t1067, A3, H⟩ := H
 replace H := iB H; rcases H with ⟨rfl, H⟩ | ⟨rfl, H⟩
 ·replace H := bN H; obtain ⟨⟨t1068, t1069⟩, A5, H⟩ := H; dsimp only at H
  replace H := iB H; rcases H with ⟨rfl, H⟩ | ⟨rfl, H⟩
  ·by_cases c7 : 0 ≤ t1068
   ·rw [if_pos c7] at H
    have c7b0 := eq_true c7
    have c7b1 : decide (0 ≤ t1068) = true := decide_eq_true c7
    clear c7
    obtain ⟨ji8, hji8⟩ : ∃ j_ : Int, (shl .u64 a0_1 t1068) = j_ := ⟨_, rfl⟩
    replace H : ((bits_mask.f a0_0).bind fun t1073 => ((bits_mask.f a0_0).bind fun t1074 => (some (a0_0, Go.bits .and .u64 (ji8) t1073, Go.bits .and .u64 (shl .u64 a0_2 t1068) t1074)))) = some (r1, r2, r3) := by (rw [hji8] at H; exact H)
    have hji8_ : (IntKind.u64.wrap (a0_1 * 2 ^ min t1068.toNat 64)) = ji8 := hji8
    have hji8z : t1068 ≤ 64 → (IntKind.u64.wrap (a0_1 * 2 ^ t1068.toNat)) = ji8 := shl_small hji8
    replace H := bN H; obtain ⟨t1073, A9, H⟩ := H
    have c10b0 := eq_true (of_decide_eq_true (by (with_reducible assumption)) : 0 ≤ t1068)
    obtain ⟨ji11, hji11⟩ : ∃ j_ : Int, (shl .u64 a0_2 t1068) = j_ := ⟨_, rfl⟩
    replace H : ((bits_mask.f a0_0).bind fun t1074 => (some (a0_0, Go.bits .and .u64 (ji8) t1073, Go.bits .and .u64 (ji11) t1074))) = some (r1, r2, r3) := by (rw [hji11] at H; exact H)
    have hji11_ : (IntKind.u64.wrap (a0_2 * 2 ^ min t1068.toNat 64)) = ji11 := hji11
    have hji11z : t1068 ≤ 64 → (IntKind.u64.wrap (a0_2 * 2 ^ t1068.toNat)) = ji11 := shl_small hji11
    replace H := bN H; obtain ⟨t1074, A12, H⟩ := H
    replace H := s3 H; obtain ⟨rfl, rfl, rfl⟩ := H
    go_enter Tryd.func95, Tryd.ntmps95
    try go_wp2_with (first | (refine boxA HB 2 #[.int .i64 a0_0, .int .u64 a0_1, .int .u64 a0_2] 24 ?_; clear HB; intro gb1061 w13 BK1061 GE1061 hg hb HB; clear hb hg) | (refine boxA HB 3 #[.int .i64 a1_0, .int .u64 a1_1, .int .u64 a1_2] 24 ?_; clear HB; intro gb1062 w14 BK1062 GE1062 hg hb HB; have NB1061_1062 := nbA BK1061 hg; have NB1062_1061 := nbB BK1061 hg; replace BK1061 := bk1 BK1061 hb; clear hb hg) | (refine boxA HB 4 #[.int .i64 0, .int .u64 0, .int .u64 0] 24 ?_; clear HB; intro gb1063 w15 BK1063 GE1063 hg hb HB; have NB1061_1063 := nbA BK1061 hg; have NB1063_1061 := nbB BK1061 hg; replace BK1061 := bk1 BK1061 hb; have NB1062_1063 := nbA BK1062 hg; have NB1063_1062 := nbB BK1062 hg; replace BK1062 := bk1 BK1062 hb; clear hb hg; have hnb16 := NB1061_1062.out; have hnc16 := NB1062_1061.out; have hnb17 := NB1061_1063.out; have hnc17 := NB1063_1061.out; obtain ⟨hcz18_0, hcz18_1, hcz18_2, hfz18_0, hfz18_1, hfz18_2⟩ := cf3 BK1061; have hnb19 := NB1062_1063.out; have hnc19 := NB1063_1062.out; obtain ⟨hcz20_0, hcz20_1, hcz20_2, hfz20_0, hfz20_1, hfz20_2⟩ := cf3 BK1062) | ((with_reducible refine gate_dst (N := 9) rfl ?_); refine Kd.R_lit k24 _ 24 ?hg (N := 9) ?hd (xs := ([(⟨a0_0, a0_1, a0_2⟩ : S24), (⟨a1_0, a1_1, a1_2⟩ : S24)] : List (S24))) (inner := [.int .i64 a0_0, .int .u64 a0_1, .int .u64 a0_2, .int .i64 a1_0, .int .u64 a1_1, .int .u64 a1_2]) (ok := fun _ => True) (okp := fun _ => True) ?hr ?hp (fun _ hk => hk) trivial (Below.refl _ _) (Nat.le_refl _) (by simp) ?_; (case hd => rfl); (case hg => rfl); (case hr => (go_simp; done)); (case hp => exact (Reps.c3 (show Kd.M k24 _ _ _ (⟨a0_0, a0_1, a0_2⟩ : S24) [.int .i64 a0_0, .int .u64 a0_1, .int .u64 a0_2] from (k24_mkM _ _ _ (⟨a0_0, a0_1, a0_2⟩ : S24) )) (Reps.c3 (show Kd.M k24 _ _ _ (⟨a1_0, a1_1, a1_2⟩ : S24) [.int .i64 a1_0, .int .u64 a1_1, .int .u64 a1_2] from (k24_mkM _ _ _ (⟨a1_0, a1_1, a1_2⟩ : S24) )) (Reps.none _ _)))); intro v1065 w21 ho22 hb hg_ hnew_; clear hg_ hnew_; (rw [← Ny1064.out] at ho22); have HO1066 := Aside0.mk (Kd.R_lower (Kd.R_newB (Kd.R_newB (Kd.R_newB ho22 BK1061.out) BK1062.out) BK1063.out) (below_size HB.out)); replace BK1061 := bk1 BK1061 hb; replace BK1062 := bk1 BK1062 hb; replace BK1063 := bk1 BK1063 hb; replace HB := hb1 HB hb; clear hb ho22; obtain ⟨Ao23, co23, eo23⟩ := Kd.R_slice HO1066.out; subst eo23) | (refine callA (some 10) Tryd.func56 #[.slice Ao23 y1064.length co23] ?_; (with_reducible refine (bits_valid.calls k _ _ y1064 true _ ?side1 ?side2 A3.out).mono ?_); (case side1 => exact (Kd.R_reads' HO1066.out).2.2); (case side2 => exact (Kd.R_reads' HO1066.out).2.1); rintro e w24 ⟨rfl, hb⟩; refine ⟨_, rfl, ?_⟩; replace HO1066 := Kd.rb1 HO1066 hb; replace BK1061 := bk1 BK1061 hb; replace BK1062 := bk1 BK1062 hb; replace BK1063 := bk1 BK1063 hb; replace HB := hb1 HB hb; (try clear hb); obtain ⟨hcz25_0, hcz25_1, hcz25_2, hfz25_0, hfz25_1, hfz25_2⟩ := cf3 BK1062) | (refine callA (some 15) Tryd.func113 #[.agg #[.int .i64 a1_0, .int .u64 a1_1, .int .u64 a1_2]] ?_; (with_reducible refine (bits_shift.calls k a1_0 a1_1 a1_2 t1068 true _ A5.out).mono ?_); rintro e w26 ⟨rfl, hb⟩; refine ⟨_, rfl, ?_⟩; replace HO1066 := Kd.rb1 HO1066 hb; replace BK1061 := bk1 BK1061 hb; replace BK1062 := bk1 BK1062 hb; replace BK1063 := bk1 BK1063 hb; replace HB := hb1 HB hb; (try clear hb)))
    replace HO1066 := Aside0.mk (Kd.R_drew HO1066.out)
    replace BK1061 := bkd BK1061
    replace BK1062 := bkd BK1062
    replace BK1063 := bkd BK1063
    replace HB := hbd HB
    refine start_ (n := 20) (S := fun w' => w'.cell? ⟨gb1061, 0, none⟩ = some (.int .i64 a0_0) ∧ w'.cell? ⟨gb1061, 1, none⟩ = some (.int .u64 a0_1) ∧ w'.cell? ⟨gb1061, 2, none⟩ = some (.int .u64 a0_2)) (ds := []) (tb 20 0) (by kernel_rfl) rfl (by kernel_rfl) (d3 BK1061) (fun hHeld => ?_); refine with_tabW bits_Shl.tab6 bits_Shl.bits6 (fun HT_ HW_ => ?_)
    generalize w26.drew = w27 at HO1066 BK1061 BK1062 BK1063 HB hHeld ⊢
    refine pA 0 23 (tb 20 1) HT_ ?_
    refine pA 2 25 (tb 20 5) HT_ ?_
    refine pA 4 27 (tb 20 21) HT_ ?_
    refine pA 6 29 (tb 20 85) HT_ ?_
    refine pA 10 33 (tb 20 1109) HT_ ?_
    refine pA 12 35 (tb 20 5205) HT_ ?_
    refine pA 14 37 (tb 20 21589) HT_ ?_
    refine tA 1 24 (tb 20 21591) HT_ HW_ hHeld ?_
    refine tA 3 26 (tb 20 21599) HT_ HW_ hHeld ?_
    refine pA 5 28 (tb 20 21631) HT_ ?_
    refine tA 7 30 (tb 20 21759) HT_ HW_ hHeld ?_
    refine tA 11 34 (tb 20 23807) HT_ HW_ hHeld ?_
    refine pA 13 36 (tb 20 31999) HT_ ?_
    refine tA 15 38 (tb 20 64767) HT_ HW_ hHeld ?_
    refine oA 8 (some 31) (tb 20 65023) HT_ (fun K hK => ?_)
    refine gA Tryd.func58 #[.int .i64 a0_0] ?_
    with_reducible refine (bits_mask.calls a0_0 t1073 _ A9.out).mono ?_
    rintro e w' ⟨rfl, ⟨nd, rfl⟩⟩
    refine ⟨_, rfl, ?_⟩
    refine hK.out _ _ (d3 BK1061) (fun hHeld => ?_)
    clear hK K
    refine nA ?_
    refine pA 9 32 (tb 20 65535) HT_ ?_
    refine oA 16 (some 39) (tb 20 131071) HT_ (fun K hK => ?_)
    refine gA Tryd.func58 #[.int .i64 a0_0] ?_
    with_reducible refine (bits_mask.calls a0_0 t1074 _ A12.out).mono ?_
    rintro e w' ⟨rfl, ⟨nd, rfl⟩⟩
    refine ⟨_, rfl, ?_⟩
    refine hK.out _ _ (d3 BK1061) (fun hHeld => ?_)
    clear hK K
    refine nA ?_
    refine pA 17 40 (tb 20 262143) HT_ ?_
    refine pA 18 41 (tb 20 524287) HT_ ?_
    refine oA 19 (none) (tb 20 1048575) HT_ (fun K hK => ?_)
    have hs28 : w27.cell? ⟨gb1063, 0, none⟩ = some (.int .i64 0) := (blk_cell BK1063.out 0).trans rfl
    have hfs28 := blk_frozen BK1063.out 0
    have hns28_0 := NB1061_1063.out
    have hns28_1 := NB1062_1063.out
    have hms28_0 := NB1063_1061.out
    have hms28_1 := NB1063_1062.out
    have hs29 : w27.cell? ⟨gb1063, 1, none⟩ = some (.int .u64 0) := (blk_cell BK1063.out 1).trans rfl
    have hfs29 := blk_frozen BK1063.out 1
    have hns29_0 := NB1061_1063.out
    have hns29_1 := NB1062_1063.out
    have hms29_0 := NB1063_1061.out
    have hms29_1 := NB1063_1062.out
    have hs30 : w27.cell? ⟨gb1063, 2, none⟩ = some (.int .u64 0) := (blk_cell BK1063.out 2).trans rfl
    have hfs30 := blk_frozen BK1063.out 2
    have hns30_0 := NB1061_1063.out
    have hns30_1 := NB1062_1063.out
    have hms30_0 := NB1063_1061.out
    have hms30_1 := NB1063_1062.out
    refine skip_ (w1 := ?_) (by rfl) rfl ?_ ?_
    rotate_left
    ·go_simp
     rfl
    refine hK.out _ _ ⟨((cell_far (p := ⟨gb1063, _, none⟩) NB1061_1063.out _).trans (((cell_far (p := ⟨gb1063, _, none⟩) NB1061_1063.out _).trans (((cell_far (p := ⟨gb1063, _, none⟩) NB1061_1063.out _).trans (hHeld.1)))))), ((cell_far (p := ⟨gb1063, _, none⟩) NB1061_1063.out _).trans (((cell_far (p := ⟨gb1063, _, none⟩) NB1061_1063.out _).trans (((cell_far (p := ⟨gb1063, _, none⟩) NB1061_1063.out _).trans (hHeld.2.1)))))), ((cell_far (p := ⟨gb1063, _, none⟩) NB1061_1063.out _).trans (((cell_far (p := ⟨gb1063, _, none⟩) NB1061_1063.out _).trans (((cell_far (p := ⟨gb1063, _, none⟩) NB1061_1063.out _).trans (hHeld.2.2))))))⟩ (fun hHeld => ?_)
    clear hK K
    refine done_ (done_of HT_.out (by kernel_rfl)) ?_
    try go_wp2
    refine retA gb1063 24 #[.int .i64 a0_0, .int .u64 (Go.bits .and .u64 (ji8) t1073), .int .u64 (Go.bits .and .u64 (ji11) t1074)] (put3 BK1063) Tryd.underlying24 ?_
    exact ⟨by rfl, by repeat (with_reducible first | exact HB.out | apply pw_below_drewN | refine below_set ?_ GE1063.out)⟩
   ·rw [if_neg c7] at H
    exact absurd H (by simp)
  ·replace H := bN H; obtain ⟨⟨t1070, t1071, t1072⟩, A31, H⟩ := H; dsimp only at H
   replace H := s3 H; obtain ⟨rfl, rfl, rfl⟩ := H
   go_enter Tryd.func95, Tryd.ntmps95
   go_wp2_with (first | (refine boxA HB 2 #[.int .i64 a0_0, .int .u64 a0_1, .int .u64 a0_2] 24 ?_; clear HB; intro gb1061 w32 BK1061 GE1061 hg hb HB; clear hb hg) | (refine boxA HB 3 #[.int .i64 a1_0, .int .u64 a1_1, .int .u64 a1_2] 24 ?_; clear HB; intro gb1062 w33 BK1062 GE1062 hg hb HB; have NB1061_1062 := nbA BK1061 hg; have NB1062_1061 := nbB BK1061 hg; replace BK1061 := bk1 BK1061 hb; clear hb hg) | (refine boxA HB 4 #[.int .i64 0, .int .u64 0, .int .u64 0] 24 ?_; clear HB; intro gb1063 w34 BK1063 GE1063 hg hb HB; have NB1061_1063 := nbA BK1061 hg; have NB1063_1061 := nbB BK1061 hg; replace BK1061 := bk1 BK1061 hb; have NB1062_1063 := nbA BK1062 hg; have NB1063_1062 := nbB BK1062 hg; replace BK1062 := bk1 BK1062 hb; clear hb hg; have hnb35 := NB1061_1062.out; have hnc35 := NB1062_1061.out; have hnb36 := NB1061_1063.out; have hnc36 := NB1063_1061.out; obtain ⟨hcz37_0, hcz37_1, hcz37_2, hfz37_0, hfz37_1, hfz37_2⟩ := cf3 BK1061; have hnb38 := NB1062_1063.out; have hnc38 := NB1063_1062.out; obtain ⟨hcz39_0, hcz39_1, hcz39_2, hfz39_0, hfz39_1, hfz39_2⟩ := cf3 BK1062) | ((with_reducible refine gate_dst (N := 9) rfl ?_); refine Kd.R_lit k24 _ 24 ?hg (N := 9) ?hd (xs := ([(⟨a0_0, a0_1, a0_2⟩ : S24), (⟨a1_0, a1_1, a1_2⟩ : S24)] : List (S24))) (inner := [.int .i64 a0_0, .int .u64 a0_1, .int .u64 a0_2, .int .i64 a1_0, .int .u64 a1_1, .int .u64 a1_2]) (ok := fun _ => True) (okp := fun _ => True) ?hr ?hp (fun _ hk => hk) trivial (Below.refl _ _) (Nat.le_refl _) (by simp) ?_; (case hd => rfl); (case hg => rfl); (case hr => (go_simp; done)); (case hp => exact (Reps.c3 (show Kd.M k24 _ _ _ (⟨a0_0, a0_1, a0_2⟩ : S24) [.int .i64 a0_0, .int .u64 a0_1, .int .u64 a0_2] from (k24_mkM _ _ _ (⟨a0_0, a0_1, a0_2⟩ : S24) )) (Reps.c3 (show Kd.M k24 _ _ _ (⟨a1_0, a1_1, a1_2⟩ : S24) [.int .i64 a1_0, .int .u64 a1_1, .int .u64 a1_2] from (k24_mkM _ _ _ (⟨a1_0, a1_1, a1_2⟩ : S24) )) (Reps.none _ _)))); intro v1065 w40 ho41 hb hg_ hnew_; clear hg_ hnew_; (rw [← Ny1064.out] at ho41); have HO1066 := Aside0.mk (Kd.R_lower (Kd.R_newB (Kd.R_newB (Kd.R_newB ho41 BK1061.out) BK1062.out) BK1063.out) (below_size HB.out)); replace BK1061 := bk1 BK1061 hb; replace BK1062 := bk1 BK1062 hb; replace BK1063 := bk1 BK1063 hb; replace HB := hb1 HB hb; clear hb ho41; obtain ⟨Ao42, co42, eo42⟩ := Kd.R_slice HO1066.out; subst eo42) | (refine callA (some 10) Tryd.func56 #[.slice Ao42 y1064.length co42] ?_; (with_reducible refine (bits_valid.calls k _ _ y1064 true _ ?side1 ?side2 A3.out).mono ?_); (case side1 => exact (Kd.R_reads' HO1066.out).2.2); (case side2 => exact (Kd.R_reads' HO1066.out).2.1); rintro e w43 ⟨rfl, hb⟩; refine ⟨_, rfl, ?_⟩; replace HO1066 := Kd.rb1 HO1066 hb; replace BK1061 := bk1 BK1061 hb; replace BK1062 := bk1 BK1062 hb; replace BK1063 := bk1 BK1063 hb; replace HB := hb1 HB hb; (try clear hb); obtain ⟨hcz44_0, hcz44_1, hcz44_2, hfz44_0, hfz44_1, hfz44_2⟩ := cf3 BK1062) | (refine callA (some 15) Tryd.func113 #[.agg #[.int .i64 a1_0, .int .u64 a1_1, .int .u64 a1_2]] ?_; (with_reducible refine (bits_shift.calls k a1_0 a1_1 a1_2 t1068 false _ A5.out).mono ?_); rintro e w45 ⟨rfl, hb⟩; refine ⟨_, rfl, ?_⟩; replace HO1066 := Kd.rb1 HO1066 hb; replace BK1061 := bk1 BK1061 hb; replace BK1062 := bk1 BK1062 hb; replace BK1063 := bk1 BK1063 hb; replace HB := hb1 HB hb; (try clear hb); obtain ⟨hcz46_0, hcz46_1, hcz46_2, hfz46_0, hfz46_1, hfz46_2⟩ := cf3 BK1061) | (refine callA (some 22) Tryd.func25 #[.int .i64 a0_0, .int .u8 120] ?_; (with_reducible refine (bits_All.calls k a0_0 120 t1070 t1071 t1072 _ A31.out).mono ?_); rintro e w47 ⟨rfl, hb⟩; refine ⟨_, rfl, ?_⟩; replace HO1066 := Kd.rb1 HO1066 hb; replace BK1061 := bk1 BK1061 hb; replace BK1062 := bk1 BK1062 hb; replace BK1063 := bk1 BK1063 hb; replace HB := hb1 HB hb; (try clear hb); obtain ⟨hcz48_0, hcz48_1, hcz48_2, hfz48_0, hfz48_1, hfz48_2⟩ := cf3 BK1063))
   refine retA gb1063 24 #[.int .i64 t1070, .int .u64 t1071, .int .u64 t1072] (put3 BK1063) Tryd.underlying24 ?_
   exact ⟨by rfl, by repeat (with_reducible first | exact HB.out | refine below_set ?_ GE1063.out)⟩
 ·replace H := s3 H; obtain ⟨rfl, rfl, rfl⟩ := H
  go_enter Tryd.func95, Tryd.ntmps95
  go_wp2_with (first | (refine boxA HB 2 #[.int .i64 a0_0, .int .u64 a0_1, .int .u64 a0_2] 24 ?_; clear HB; intro gb1061 w49 BK1061 GE1061 hg hb HB; clear hb hg) | (refine boxA HB 3 #[.int .i64 a1_0, .int .u64 a1_1, .int .u64 a1_2] 24 ?_; clear HB; intro gb1062 w50 BK1062 GE1062 hg hb HB; have NB1061_1062 := nbA BK1061 hg; have NB1062_1061 := nbB BK1061 hg; replace BK1061 := bk1 BK1061 hb; clear hb hg) | (refine boxA HB 4 #[.int .i64 0, .int .u64 0, .int .u64 0] 24 ?_; clear HB; intro gb1063 w51 BK1063 GE1063 hg hb HB; have NB1061_1063 := nbA BK1061 hg; have NB1063_1061 := nbB BK1061 hg; replace BK1061 := bk1 BK1061 hb; have NB1062_1063 := nbA BK1062 hg; have NB1063_1062 := nbB BK1062 hg; replace BK1062 := bk1 BK1062 hb; clear hb hg; have hnb52 := NB1061_1062.out; have hnc52 := NB1062_1061.out; have hnb53 := NB1061_1063.out; have hnc53 := NB1063_1061.out; obtain ⟨hcz54_0, hcz54_1, hcz54_2, hfz54_0, hfz54_1, hfz54_2⟩ := cf3 BK1061; have hnb55 := NB1062_1063.out; have hnc55 := NB1063_1062.out; obtain ⟨hcz56_0, hcz56_1, hcz56_2, hfz56_0, hfz56_1, hfz56_2⟩ := cf3 BK1062) | ((with_reducible refine gate_dst (N := 9) rfl ?_); refine Kd.R_lit k24 _ 24 ?hg (N := 9) ?hd (xs := ([(⟨a0_0, a0_1, a0_2⟩ : S24), (⟨a1_0, a1_1, a1_2⟩ : S24)] : List (S24))) (inner := [.int .i64 a0_0, .int .u64 a0_1, .int .u64 a0_2, .int .i64 a1_0, .int .u64 a1_1, .int .u64 a1_2]) (ok := fun _ => True) (okp := fun _ => True) ?hr ?hp (fun _ hk => hk) trivial (Below.refl _ _) (Nat.le_refl _) (by simp) ?_; (case hd => rfl); (case hg => rfl); (case hr => (go_simp; done)); (case hp => exact (Reps.c3 (show Kd.M k24 _ _ _ (⟨a0_0, a0_1, a0_2⟩ : S24) [.int .i64 a0_0, .int .u64 a0_1, .int .u64 a0_2] from (k24_mkM _ _ _ (⟨a0_0, a0_1, a0_2⟩ : S24) )) (Reps.c3 (show Kd.M k24 _ _ _ (⟨a1_0, a1_1, a1_2⟩ : S24) [.int .i64 a1_0, .int .u64 a1_1, .int .u64 a1_2] from (k24_mkM _ _ _ (⟨a1_0, a1_1, a1_2⟩ : S24) )) (Reps.none _ _)))); intro v1065 w57 ho58 hb hg_ hnew_; clear hg_ hnew_; (rw [← Ny1064.out] at ho58); have HO1066 := Aside0.mk (Kd.R_lower (Kd.R_newB (Kd.R_newB (Kd.R_newB ho58 BK1061.out) BK1062.out) BK1063.out) (below_size HB.out)); replace BK1061 := bk1 BK1061 hb; replace BK1062 := bk1 BK1062 hb; replace BK1063 := bk1 BK1063 hb; replace HB := hb1 HB hb; clear hb ho58; obtain ⟨Ao59, co59, eo59⟩ := Kd.R_slice HO1066.out; subst eo59) | (refine callA (some 10) Tryd.func56 #[.slice Ao59 y1064.length co59] ?_; (with_reducible refine (bits_valid.calls k _ _ y1064 false _ ?side1 ?side2 A3.out).mono ?_); (case side1 => exact (Kd.R_reads' HO1066.out).2.2); (case side2 => exact (Kd.R_reads' HO1066.out).2.1); rintro e w60 ⟨rfl, hb⟩; refine ⟨_, rfl, ?_⟩; replace HO1066 := Kd.rb1 HO1066 hb; replace BK1061 := bk1 BK1061 hb; replace BK1062 := bk1 BK1062 hb; replace BK1063 := bk1 BK1063 hb; replace HB := hb1 HB hb; (try clear hb); obtain ⟨hcz61_0, hcz61_1, hcz61_2, hfz61_0, hfz61_1, hfz61_2⟩ := cf3 BK1063))
  refine retA gb1063 24 #[.int .i64 0, .int .u64 0, .int .u64 0] (put3 BK1063) Tryd.underlying24 ?_
  exact ⟨by rfl, by repeat (with_reducible first | exact HB.out | refine below_set ?_ GE1063.out)⟩
end Go.Proofs.YtfigblfjogpojaaDoor.PBits
end
section
namespace Go.Proofs.YtfigblfjogpojaaDoor.PBits
open Go.RowKit Go.Proofs.YtfigblfjogpojaaDoorW.PrintWords Go.Proofs.YtfigblfjogpojaaDoorW.PrintLast Go.Proofs.YtfigblfjogpojaaDoorW.PrintMore
attribute [local go_sem] max2_int min2_int max_two min_two max_three min_three max_four min_four
set_option linter.unusedVariables false
set_option linter.unusedSimpArgs false
def bits_Shr.f (k : Nat) (a0_0 : Int) (a0_1 : Int) (a0_2 : Int) (a1_0 : Int) (a1_1 : Int) (a1_2 : Int) : Option (Int × Int × Int) := (bits_valid.f k (([(⟨a0_0, a0_1, a0_2⟩ : S24), (⟨a1_0, a1_1, a1_2⟩ : S24)] : List (S24)))).bind fun t1081 => (if t1081 = true then ((bits_shift.f k a1_0 a1_1 a1_2).bind fun bt1082 => (if bt1082.2 = true then (if 0 ≤ bt1082.1 then (some (a0_0, shr .u64 a0_1 bt1082.1, shr .u64 a0_2 bt1082.1)) else (none)) else ((bits_All.f k a0_0 120).bind fun bt1084 => (some (bt1084.1, bt1084.2.1, bt1084.2.2))))) else (some (0, 0, 0)))
def bits_Shr.T6 : Bool × List (List Nat × List Nat) := (true, [([], []), ([0], [0]), ([], []), ([2], [2]), ([], []), ([3, 4], [3, 4]), ([], []), ([6], [6]), ([], []), ([7, 8], [7, 8]), ([1, 5, 9], [1, 5, 9]), ([10, 0, 1, 2, 3, 4, 5, 6, 7, 8, 9, 10], [10])])
def bits_Shr.B6 : List Nat := [0, 1, 0, 4, 0, 28, 0, 64, 0, 448, 1023, 2047]
theorem bits_Shr.tab6 : rtab .any (opsOf Tryd.f96 6) = bits_Shr.T6 := by kernel_rfl
theorem bits_Shr.bits6 : waitsOk bits_Shr.T6.2 bits_Shr.B6 = true := by kernel_rfl
set_option maxHeartbeats 8000000 in
set_option maxRecDepth 100000 in
theorem bits_Shr.calls (k : Nat) (a0_0 : Int) (a0_1 : Int) (a0_2 : Int) (a1_0 : Int) (a1_1 : Int) (a1_2 : Int) (r1 : Int) (r2 : Int) (r3 : Int) (w : World) (h : bits_Shr.f k a0_0 a0_1 a0_2 a1_0 a1_1 a1_2 = some (r1, r2, r3)) :
  Calls Tryd.prog 96 #[.agg #[.int .i64 a0_0, .int .u64 a0_1, .int .u64 a0_2], .agg #[.int .i64 a1_0, .int .u64 a1_1, .int .u64 a1_2]] w fun e w' => e = .returned (.agg #[.int .i64 r1, .int .u64 r2, .int .u64 r3]) ∧ Below w.heap.size w w' := by
 have hu24 := Tryd.underlying24
 have HB := Aside0.mk (Below.refl w.heap.size w)
 have H := h
 clear h
 unfold bits_Shr.f at H
 obtain ⟨y1078, hy1078⟩ : ∃ y_ : List (S24), y_ = ([(⟨a0_0, a0_1, a0_2⟩ : S24), (⟨a1_0, a1_1, a1_2⟩ : S24)] : List (S24)) := ⟨_, rfl⟩
 replace H : ((bits_valid.f k y1078).bind fun t1081 => (if t1081 = true then ((bits_shift.f k a1_0 a1_1 a1_2).bind fun bt1082 => (if bt1082.2 = true then (if 0 ≤ bt1082.1 then (some (a0_0, shr .u64 a0_1 bt1082.1, shr .u64 a0_2 bt1082.1)) else (none)) else ((bits_All.f k a0_0 120).bind fun bt1084 => (some (bt1084.1, bt1084.2.1, bt1084.2.2))))) else (some (0, 0, 0)))) = some (r1, r2, r3) := by (rw [hy1078]; with_reducible exact H)
 have Ny1078 := Aside0.mk hy1078
 clear hy1078
 replace H := bN H; obtain ⟨t1081, A3, H⟩ := H
 replace H := iB H; rcases H with ⟨rfl, H⟩ | ⟨rfl, H⟩
 ·replace H := bN H; obtain ⟨⟨t1082, t1083⟩, A5, H⟩ := H; dsimp only at H
  replace H := iB H; rcases H with ⟨rfl, H⟩ | ⟨rfl, H⟩
  ·by_cases c7 : 0 ≤ t1082
   ·rw [if_pos c7] at H
    have c7b0 := eq_true c7
    have c7b1 : decide (0 ≤ t1082) = true := decide_eq_true c7
    clear c7
    obtain ⟨ji8, hji8⟩ : ∃ j_ : Int, (shr .u64 a0_1 t1082) = j_ := ⟨_, rfl⟩
    replace H : (some (a0_0, ji8, shr .u64 a0_2 t1082)) = some (r1, r2, r3) := by (rw [hji8] at H; exact H)
    have hji8_ : (a0_1 / 2 ^ min t1082.toNat 64) = ji8 := hji8
    have hji8z : t1082 ≤ 64 → (a0_1 / 2 ^ t1082.toNat) = ji8 := shr_small hji8
    have c9b0 := eq_true (of_decide_eq_true (by (with_reducible assumption)) : 0 ≤ t1082)
    obtain ⟨ji10, hji10⟩ : ∃ j_ : Int, (shr .u64 a0_2 t1082) = j_ := ⟨_, rfl⟩
    replace H : (some (a0_0, ji8, ji10)) = some (r1, r2, r3) := by (rw [hji10] at H; exact H)
    have hji10_ : (a0_2 / 2 ^ min t1082.toNat 64) = ji10 := hji10
    have hji10z : t1082 ≤ 64 → (a0_2 / 2 ^ t1082.toNat) = ji10 := shr_small hji10
    replace H := s3 H; obtain ⟨rfl, rfl, rfl⟩ := H
    go_enter Tryd.func96, Tryd.ntmps96
    try go_wp2_with (first | (refine boxA HB 2 #[.int .i64 a0_0, .int .u64 a0_1, .int .u64 a0_2] 24 ?_; clear HB; intro gb1075 w11 BK1075 GE1075 hg hb HB; clear hb hg) | (refine boxA HB 3 #[.int .i64 a1_0, .int .u64 a1_1, .int .u64 a1_2] 24 ?_; clear HB; intro gb1076 w12 BK1076 GE1076 hg hb HB; have NB1075_1076 := nbA BK1075 hg; have NB1076_1075 := nbB BK1075 hg; replace BK1075 := bk1 BK1075 hb; clear hb hg) | (refine boxA HB 4 #[.int .i64 0, .int .u64 0, .int .u64 0] 24 ?_; clear HB; intro gb1077 w13 BK1077 GE1077 hg hb HB; have NB1075_1077 := nbA BK1075 hg; have NB1077_1075 := nbB BK1075 hg; replace BK1075 := bk1 BK1075 hb; have NB1076_1077 := nbA BK1076 hg; have NB1077_1076 := nbB BK1076 hg; replace BK1076 := bk1 BK1076 hb; clear hb hg; have hnb14 := NB1075_1076.out; have hnc14 := NB1076_1075.out; have hnb15 := NB1075_1077.out; have hnc15 := NB1077_1075.out; obtain ⟨hcz16_0, hcz16_1, hcz16_2, hfz16_0, hfz16_1, hfz16_2⟩ := cf3 BK1075; have hnb17 := NB1076_1077.out; have hnc17 := NB1077_1076.out; obtain ⟨hcz18_0, hcz18_1, hcz18_2, hfz18_0, hfz18_1, hfz18_2⟩ := cf3 BK1076) | ((with_reducible refine gate_dst (N := 9) rfl ?_); refine Kd.R_lit k24 _ 24 ?hg (N := 9) ?hd (xs := ([(⟨a0_0, a0_1, a0_2⟩ : S24), (⟨a1_0, a1_1, a1_2⟩ : S24)] : List (S24))) (inner := [.int .i64 a0_0, .int .u64 a0_1, .int .u64 a0_2, .int .i64 a1_0, .int .u64 a1_1, .int .u64 a1_2]) (ok := fun _ => True) (okp := fun _ => True) ?hr ?hp (fun _ hk => hk) trivial (Below.refl _ _) (Nat.le_refl _) (by simp) ?_; (case hd => rfl); (case hg => rfl); (case hr => (go_simp; done)); (case hp => exact (Reps.c3 (show Kd.M k24 _ _ _ (⟨a0_0, a0_1, a0_2⟩ : S24) [.int .i64 a0_0, .int .u64 a0_1, .int .u64 a0_2] from (k24_mkM _ _ _ (⟨a0_0, a0_1, a0_2⟩ : S24) )) (Reps.c3 (show Kd.M k24 _ _ _ (⟨a1_0, a1_1, a1_2⟩ : S24) [.int .i64 a1_0, .int .u64 a1_1, .int .u64 a1_2] from (k24_mkM _ _ _ (⟨a1_0, a1_1, a1_2⟩ : S24) )) (Reps.none _ _)))); intro v1079 w19 ho20 hb hg_ hnew_; clear hg_ hnew_; (rw [← Ny1078.out] at ho20); have HO1080 := Aside0.mk (Kd.R_lower (Kd.R_newB (Kd.R_newB (Kd.R_newB ho20 BK1075.out) BK1076.out) BK1077.out) (below_size HB.out)); replace BK1075 := bk1 BK1075 hb; replace BK1076 := bk1 BK1076 hb; replace BK1077 := bk1 BK1077 hb; replace HB := hb1 HB hb; clear hb ho20; obtain ⟨Ao21, co21, eo21⟩ := Kd.R_slice HO1080.out; subst eo21) | (refine callA (some 10) Tryd.func56 #[.slice Ao21 y1078.length co21] ?_; (with_reducible refine (bits_valid.calls k _ _ y1078 true _ ?side1 ?side2 A3.out).mono ?_); (case side1 => exact (Kd.R_reads' HO1080.out).2.2); (case side2 => exact (Kd.R_reads' HO1080.out).2.1); rintro e w22 ⟨rfl, hb⟩; refine ⟨_, rfl, ?_⟩; replace HO1080 := Kd.rb1 HO1080 hb; replace BK1075 := bk1 BK1075 hb; replace BK1076 := bk1 BK1076 hb; replace BK1077 := bk1 BK1077 hb; replace HB := hb1 HB hb; (try clear hb); obtain ⟨hcz23_0, hcz23_1, hcz23_2, hfz23_0, hfz23_1, hfz23_2⟩ := cf3 BK1076) | (refine callA (some 15) Tryd.func113 #[.agg #[.int .i64 a1_0, .int .u64 a1_1, .int .u64 a1_2]] ?_; (with_reducible refine (bits_shift.calls k a1_0 a1_1 a1_2 t1082 true _ A5.out).mono ?_); rintro e w24 ⟨rfl, hb⟩; refine ⟨_, rfl, ?_⟩; replace HO1080 := Kd.rb1 HO1080 hb; replace BK1075 := bk1 BK1075 hb; replace BK1076 := bk1 BK1076 hb; replace BK1077 := bk1 BK1077 hb; replace HB := hb1 HB hb; (try clear hb)))
    replace HO1080 := Aside0.mk (Kd.R_drew HO1080.out)
    replace BK1075 := bkd BK1075
    replace BK1076 := bkd BK1076
    replace BK1077 := bkd BK1077
    replace HB := hbd HB
    refine start_ (n := 12) (S := fun w' => w'.cell? ⟨gb1075, 0, none⟩ = some (.int .i64 a0_0) ∧ w'.cell? ⟨gb1075, 1, none⟩ = some (.int .u64 a0_1) ∧ w'.cell? ⟨gb1075, 2, none⟩ = some (.int .u64 a0_2)) (ds := []) (tb 12 0) (by kernel_rfl) rfl (by kernel_rfl) (d3 BK1075) (fun hHeld => ?_); refine with_tabW bits_Shr.tab6 bits_Shr.bits6 (fun HT_ HW_ => ?_)
    generalize w24.drew = w25 at HO1080 BK1075 BK1076 BK1077 HB hHeld ⊢
    refine pA 0 23 (tb 12 1) HT_ ?_
    refine pA 2 25 (tb 12 5) HT_ ?_
    refine pA 4 27 (tb 12 21) HT_ ?_
    refine pA 6 29 (tb 12 85) HT_ ?_
    refine pA 8 31 (tb 12 341) HT_ ?_
    refine tA 1 24 (tb 12 343) HT_ HW_ hHeld ?_
    refine tA 3 26 (tb 12 351) HT_ HW_ hHeld ?_
    refine pA 5 28 (tb 12 383) HT_ ?_
    refine tA 7 30 (tb 12 511) HT_ HW_ hHeld ?_
    refine pA 9 32 (tb 12 1023) HT_ ?_
    refine pA 10 33 (tb 12 2047) HT_ ?_
    refine oA 11 (none) (tb 12 4095) HT_ (fun K hK => ?_)
    have hs26 : w25.cell? ⟨gb1077, 0, none⟩ = some (.int .i64 0) := (blk_cell BK1077.out 0).trans rfl
    have hfs26 := blk_frozen BK1077.out 0
    have hns26_0 := NB1075_1077.out
    have hns26_1 := NB1076_1077.out
    have hms26_0 := NB1077_1075.out
    have hms26_1 := NB1077_1076.out
    have hs27 : w25.cell? ⟨gb1077, 1, none⟩ = some (.int .u64 0) := (blk_cell BK1077.out 1).trans rfl
    have hfs27 := blk_frozen BK1077.out 1
    have hns27_0 := NB1075_1077.out
    have hns27_1 := NB1076_1077.out
    have hms27_0 := NB1077_1075.out
    have hms27_1 := NB1077_1076.out
    have hs28 : w25.cell? ⟨gb1077, 2, none⟩ = some (.int .u64 0) := (blk_cell BK1077.out 2).trans rfl
    have hfs28 := blk_frozen BK1077.out 2
    have hns28_0 := NB1075_1077.out
    have hns28_1 := NB1076_1077.out
    have hms28_0 := NB1077_1075.out
    have hms28_1 := NB1077_1076.out
    refine skip_ (w1 := ?_) (by rfl) rfl ?_ ?_
    rotate_left
    ·go_simp
     rfl
    refine hK.out _ _ ⟨((cell_far (p := ⟨gb1077, _, none⟩) NB1075_1077.out _).trans (((cell_far (p := ⟨gb1077, _, none⟩) NB1075_1077.out _).trans (((cell_far (p := ⟨gb1077, _, none⟩) NB1075_1077.out _).trans (hHeld.1)))))), ((cell_far (p := ⟨gb1077, _, none⟩) NB1075_1077.out _).trans (((cell_far (p := ⟨gb1077, _, none⟩) NB1075_1077.out _).trans (((cell_far (p := ⟨gb1077, _, none⟩) NB1075_1077.out _).trans (hHeld.2.1)))))), ((cell_far (p := ⟨gb1077, _, none⟩) NB1075_1077.out _).trans (((cell_far (p := ⟨gb1077, _, none⟩) NB1075_1077.out _).trans (((cell_far (p := ⟨gb1077, _, none⟩) NB1075_1077.out _).trans (hHeld.2.2))))))⟩ (fun hHeld => ?_)
    clear hK K
    refine done_ (done_of HT_.out (by kernel_rfl)) ?_
    try go_wp2
    refine retA gb1077 24 #[.int .i64 a0_0, .int .u64 ji8, .int .u64 ji10] (put3 BK1077) Tryd.underlying24 ?_
    exact ⟨by rfl, by repeat (with_reducible first | exact HB.out | refine below_set ?_ GE1077.out)⟩
   ·rw [if_neg c7] at H
    exact absurd H (by simp)
  ·replace H := bN H; obtain ⟨⟨t1084, t1085, t1086⟩, A29, H⟩ := H; dsimp only at H
   replace H := s3 H; obtain ⟨rfl, rfl, rfl⟩ := H
   go_enter Tryd.func96, Tryd.ntmps96
   go_wp2_with (first | (refine boxA HB 2 #[.int .i64 a0_0, .int .u64 a0_1, .int .u64 a0_2] 24 ?_; clear HB; intro gb1075 w30 BK1075 GE1075 hg hb HB; clear hb hg) | (refine boxA HB 3 #[.int .i64 a1_0, .int .u64 a1_1, .int .u64 a1_2] 24 ?_; clear HB; intro gb1076 w31 BK1076 GE1076 hg hb HB; have NB1075_1076 := nbA BK1075 hg; have NB1076_1075 := nbB BK1075 hg; replace BK1075 := bk1 BK1075 hb; clear hb hg) | (refine boxA HB 4 #[.int .i64 0, .int .u64 0, .int .u64 0] 24 ?_; clear HB; intro gb1077 w32 BK1077 GE1077 hg hb HB; have NB1075_1077 := nbA BK1075 hg; have NB1077_1075 := nbB BK1075 hg; replace BK1075 := bk1 BK1075 hb; have NB1076_1077 := nbA BK1076 hg; have NB1077_1076 := nbB BK1076 hg; replace BK1076 := bk1 BK1076 hb; clear hb hg; have hnb33 := NB1075_1076.out; have hnc33 := NB1076_1075.out; have hnb34 := NB1075_1077.out; have hnc34 := NB1077_1075.out; obtain ⟨hcz35_0, hcz35_1, hcz35_2, hfz35_0, hfz35_1, hfz35_2⟩ := cf3 BK1075; have hnb36 := NB1076_1077.out; have hnc36 := NB1077_1076.out; obtain ⟨hcz37_0, hcz37_1, hcz37_2, hfz37_0, hfz37_1, hfz37_2⟩ := cf3 BK1076) | ((with_reducible refine gate_dst (N := 9) rfl ?_); refine Kd.R_lit k24 _ 24 ?hg (N := 9) ?hd (xs := ([(⟨a0_0, a0_1, a0_2⟩ : S24), (⟨a1_0, a1_1, a1_2⟩ : S24)] : List (S24))) (inner := [.int .i64 a0_0, .int .u64 a0_1, .int .u64 a0_2, .int .i64 a1_0, .int .u64 a1_1, .int .u64 a1_2]) (ok := fun _ => True) (okp := fun _ => True) ?hr ?hp (fun _ hk => hk) trivial (Below.refl _ _) (Nat.le_refl _) (by simp) ?_; (case hd => rfl); (case hg => rfl); (case hr => (go_simp; done)); (case hp => exact (Reps.c3 (show Kd.M k24 _ _ _ (⟨a0_0, a0_1, a0_2⟩ : S24) [.int .i64 a0_0, .int .u64 a0_1, .int .u64 a0_2] from (k24_mkM _ _ _ (⟨a0_0, a0_1, a0_2⟩ : S24) )) (Reps.c3 (show Kd.M k24 _ _ _ (⟨a1_0, a1_1, a1_2⟩ : S24) [.int .i64 a1_0, .int .u64 a1_1, .int .u64 a1_2] from (k24_mkM _ _ _ (⟨a1_0, a1_1, a1_2⟩ : S24) )) (Reps.none _ _)))); intro v1079 w38 ho39 hb hg_ hnew_; clear hg_ hnew_; (rw [← Ny1078.out] at ho39); have HO1080 := Aside0.mk (Kd.R_lower (Kd.R_newB (Kd.R_newB (Kd.R_newB ho39 BK1075.out) BK1076.out) BK1077.out) (below_size HB.out)); replace BK1075 := bk1 BK1075 hb; replace BK1076 := bk1 BK1076 hb; replace BK1077 := bk1 BK1077 hb; replace HB := hb1 HB hb; clear hb ho39; obtain ⟨Ao40, co40, eo40⟩ := Kd.R_slice HO1080.out; subst eo40) | (refine callA (some 10) Tryd.func56 #[.slice Ao40 y1078.length co40] ?_; (with_reducible refine (bits_valid.calls k _ _ y1078 true _ ?side1 ?side2 A3.out).mono ?_); (case side1 => exact (Kd.R_reads' HO1080.out).2.2); (case side2 => exact (Kd.R_reads' HO1080.out).2.1); rintro e w41 ⟨rfl, hb⟩; refine ⟨_, rfl, ?_⟩; replace HO1080 := Kd.rb1 HO1080 hb; replace BK1075 := bk1 BK1075 hb; replace BK1076 := bk1 BK1076 hb; replace BK1077 := bk1 BK1077 hb; replace HB := hb1 HB hb; (try clear hb); obtain ⟨hcz42_0, hcz42_1, hcz42_2, hfz42_0, hfz42_1, hfz42_2⟩ := cf3 BK1076) | (refine callA (some 15) Tryd.func113 #[.agg #[.int .i64 a1_0, .int .u64 a1_1, .int .u64 a1_2]] ?_; (with_reducible refine (bits_shift.calls k a1_0 a1_1 a1_2 t1082 false _ A5.out).mono ?_); rintro e w43 ⟨rfl, hb⟩; refine ⟨_, rfl, ?_⟩; replace HO1080 := Kd.rb1 HO1080 hb; replace BK1075 := bk1 BK1075 hb; replace BK1076 := bk1 BK1076 hb; replace BK1077 := bk1 BK1077 hb; replace HB := hb1 HB hb; (try clear hb); obtain ⟨hcz44_0, hcz44_1, hcz44_2, hfz44_0, hfz44_1, hfz44_2⟩ := cf3 BK1075) | (refine callA (some 22) Tryd.func25 #[.int .i64 a0_0, .int .u8 120] ?_; (with_reducible refine (bits_All.calls k a0_0 120 t1084 t1085 t1086 _ A29.out).mono ?_); rintro e w45 ⟨rfl, hb⟩; refine ⟨_, rfl, ?_⟩; replace HO1080 := Kd.rb1 HO1080 hb; replace BK1075 := bk1 BK1075 hb; replace BK1076 := bk1 BK1076 hb; replace BK1077 := bk1 BK1077 hb; replace HB := hb1 HB hb; (try clear hb); obtain ⟨hcz46_0, hcz46_1, hcz46_2, hfz46_0, hfz46_1, hfz46_2⟩ := cf3 BK1077))
   refine retA gb1077 24 #[.int .i64 t1084, .int .u64 t1085, .int .u64 t1086] (put3 BK1077) Tryd.underlying24 ?_
   exact ⟨by rfl, by repeat (with_reducible first | exact HB.out | refine below_set ?_ GE1077.out)⟩
 ·replace H := s3 H; obtain ⟨rfl, rfl, rfl⟩ := H
  go_enter Tryd.func96, Tryd.ntmps96
  go_wp2_with (first | (refine boxA HB 2 #[.int .i64 a0_0, .int .u64 a0_1, .int .u64 a0_2] 24 ?_; clear HB; intro gb1075 w47 BK1075 GE1075 hg hb HB; clear hb hg) | (refine boxA HB 3 #[.int .i64 a1_0, .int .u64 a1_1, .int .u64 a1_2] 24 ?_; clear HB; intro gb1076 w48 BK1076 GE1076 hg hb HB; have NB1075_1076 := nbA BK1075 hg; have NB1076_1075 := nbB BK1075 hg; replace BK1075 := bk1 BK1075 hb; clear hb hg) | (refine boxA HB 4 #[.int .i64 0, .int .u64 0, .int .u64 0] 24 ?_; clear HB; intro gb1077 w49 BK1077 GE1077 hg hb HB; have NB1075_1077 := nbA BK1075 hg; have NB1077_1075 := nbB BK1075 hg; replace BK1075 := bk1 BK1075 hb; have NB1076_1077 := nbA BK1076 hg; have NB1077_1076 := nbB BK1076 hg; replace BK1076 := bk1 BK1076 hb; clear hb hg; have hnb50 := NB1075_1076.out; have hnc50 := NB1076_1075.out; have hnb51 := NB1075_1077.out; have hnc51 := NB1077_1075.out; obtain ⟨hcz52_0, hcz52_1, hcz52_2, hfz52_0, hfz52_1, hfz52_2⟩ := cf3 BK1075; have hnb53 := NB1076_1077.out; have hnc53 := NB1077_1076.out; obtain ⟨hcz54_0, hcz54_1, hcz54_2, hfz54_0, hfz54_1, hfz54_2⟩ := cf3 BK1076) | ((with_reducible refine gate_dst (N := 9) rfl ?_); refine Kd.R_lit k24 _ 24 ?hg (N := 9) ?hd (xs := ([(⟨a0_0, a0_1, a0_2⟩ : S24), (⟨a1_0, a1_1, a1_2⟩ : S24)] : List (S24))) (inner := [.int .i64 a0_0, .int .u64 a0_1, .int .u64 a0_2, .int .i64 a1_0, .int .u64 a1_1, .int .u64 a1_2]) (ok := fun _ => True) (okp := fun _ => True) ?hr ?hp (fun _ hk => hk) trivial (Below.refl _ _) (Nat.le_refl _) (by simp) ?_; (case hd => rfl); (case hg => rfl); (case hr => (go_simp; done)); (case hp => exact (Reps.c3 (show Kd.M k24 _ _ _ (⟨a0_0, a0_1, a0_2⟩ : S24) [.int .i64 a0_0, .int .u64 a0_1, .int .u64 a0_2] from (k24_mkM _ _ _ (⟨a0_0, a0_1, a0_2⟩ : S24) )) (Reps.c3 (show Kd.M k24 _ _ _ (⟨a1_0, a1_1, a1_2⟩ : S24) [.int .i64 a1_0, .int .u64 a1_1, .int .u64 a1_2] from (k24_mkM _ _ _ (⟨a1_0, a1_1, a1_2⟩ : S24) )) (Reps.none _ _)))); intro v1079 w55 ho56 hb hg_ hnew_; clear hg_ hnew_; (rw [← Ny1078.out] at ho56); have HO1080 := Aside0.mk (Kd.R_lower (Kd.R_newB (Kd.R_newB (Kd.R_newB ho56 BK1075.out) BK1076.out) BK1077.out) (below_size HB.out)); replace BK1075 := bk1 BK1075 hb; replace BK1076 := bk1 BK1076 hb; replace BK1077 := bk1 BK1077 hb; replace HB := hb1 HB hb; clear hb ho56; obtain ⟨Ao57, co57, eo57⟩ := Kd.R_slice HO1080.out; subst eo57) | (refine callA (some 10) Tryd.func56 #[.slice Ao57 y1078.length co57] ?_; (with_reducible refine (bits_valid.calls k _ _ y1078 false _ ?side1 ?side2 A3.out).mono ?_); (case side1 => exact (Kd.R_reads' HO1080.out).2.2); (case side2 => exact (Kd.R_reads' HO1080.out).2.1); rintro e w58 ⟨rfl, hb⟩; refine ⟨_, rfl, ?_⟩; replace HO1080 := Kd.rb1 HO1080 hb; replace BK1075 := bk1 BK1075 hb; replace BK1076 := bk1 BK1076 hb; replace BK1077 := bk1 BK1077 hb; replace HB := hb1 HB hb; (try clear hb); obtain ⟨hcz59_0, hcz59_1, hcz59_2, hfz59_0, hfz59_1, hfz59_2⟩ := cf3 BK1077))
  refine retA gb1077 24 #[.int .i64 0, .int .u64 0, .int .u64 0] (put3 BK1077) Tryd.underlying24 ?_
  exact ⟨by rfl, by repeat (with_reducible first | exact HB.out | refine below_set ?_ GE1077.out)⟩
end Go.Proofs.YtfigblfjogpojaaDoor.PBits
end
section
namespace Go.Proofs.YtfigblfjogpojaaDoor.PBits
open Go.RowKit Go.Proofs.YtfigblfjogpojaaDoorW.PrintWords Go.Proofs.YtfigblfjogpojaaDoorW.PrintLast Go.Proofs.YtfigblfjogpojaaDoorW.PrintMore
attribute [local go_sem] max2_int min2_int max_two min_two max_three min_three max_four min_four
set_option linter.unusedVariables false
set_option linter.unusedSimpArgs false
def bits_Sar.f (k : Nat) (a0_0 : Int) (a0_1 : Int) (a0_2 : Int) (a1_0 : Int) (a1_1 : Int) (a1_2 : Int) : Option (Int × Int × Int) := (bits_valid.f k (([(⟨a0_0, a0_1, a0_2⟩ : S24), (⟨a1_0, a1_1, a1_2⟩ : S24)] : List (S24)))).bind fun t1093 => (if t1093 = true then ((bits_shift.f k a1_0 a1_1 a1_2).bind fun bt1094 => (if bt1094.2 = true then ((bits_Resize.f k a0_0 a0_1 a0_2 64 true).bind fun bt1099 => (if 0 ≤ bt1094.1 then ((bits_mask.f a0_0).bind fun t1103 => ((bits_mask.f a0_0).bind fun t1104 => (some (a0_0, Go.bits .and .u64 (IntKind.u64.wrap (shr .i64 (wrap64 (bt1099.2.1)) bt1094.1)) t1103, Go.bits .and .u64 (IntKind.u64.wrap (shr .i64 (wrap64 (bt1099.2.2)) bt1094.1)) t1104)))) else (none))) else ((bits_All.f k a0_0 120).bind fun bt1096 => (some (bt1096.1, bt1096.2.1, bt1096.2.2))))) else (some (0, 0, 0)))
def bits_Sar.T7 : Bool × List (List Nat × List Nat) := (true, [([], []), ([0], [0]), ([], []), ([2], [2]), ([3], [3]), ([], []), ([4, 5], [4, 5]), ([6], [6]), ([], []), ([8], [8]), ([9], [9]), ([7, 10], [7, 10]), ([], []), ([12], [12]), ([13], [13]), ([], []), ([14, 15], [14, 15]), ([16], [16]), ([], []), ([18], [18]), ([19, 10], [19]), ([17, 20], [17, 20]), ([1, 11, 21], [1, 11, 21]), ([22, 20, 0, 1, 2, 3, 4, 5, 6, 7, 8, 9, 10, 11, 12, 13, 14, 15, 16, 17, 18, 19, 20, 21, 22], [22])])
def bits_Sar.B7 : List Nat := [0, 1, 0, 4, 12, 0, 60, 124, 0, 256, 768, 2044, 0, 4096, 12288, 0, 61440, 126976, 0, 262144, 788224, 2094848, 4194303, 8388607]
theorem bits_Sar.tab7 : rtab .any (opsOf Tryd.f97 7) = bits_Sar.T7 := by kernel_rfl
theorem bits_Sar.bits7 : waitsOk bits_Sar.T7.2 bits_Sar.B7 = true := by kernel_rfl
set_option maxHeartbeats 8000000 in
set_option maxRecDepth 100000 in
theorem bits_Sar.calls (k : Nat) (a0_0 : Int) (a0_1 : Int) (a0_2 : Int) (a1_0 : Int) (a1_1 : Int) (a1_2 : Int) (r1 : Int) (r2 : Int) (r3 : Int) (w : World) (h : bits_Sar.f k a0_0 a0_1 a0_2 a1_0 a1_1 a1_2 = some (r1, r2, r3)) :
  Calls Tryd.prog 97 #[.agg #[.int .i64 a0_0, .int .u64 a0_1, .int .u64 a0_2], .agg #[.int .i64 a1_0, .int .u64 a1_1, .int .u64 a1_2]] w fun e w' => e = .returned (.agg #[.int .i64 r1, .int .u64 r2, .int .u64 r3]) ∧ Below w.heap.size w w' := by
 have hu24 := Tryd.underlying24
 have HB := Aside0.mk (Below.refl w.heap.size w)
 have H := h
 clear h
 unfold bits_Sar.f at H
 obtain ⟨y1090, hy1090⟩ : ∃ y_ : List (S24), y_ = ([(⟨a0_0, a0_1, a0_2⟩ : S24), (⟨a1_0, a1_1, a1_2⟩ : S24)] : List (S24)) := ⟨_, rfl⟩
 replace H : ((bits_valid.f k y1090).bind fun t1093 => (if t1093 = true then ((bits_shift.f k a1_0 a1_1 a1_2).bind fun bt1094 => (if bt1094.2 = true then ((bits_Resize.f k a0_0 a0_1 a0_2 64 true).bind fun bt1099 => (if 0 ≤ bt1094.1 then ((bits_mask.f a0_0).bind fun t1103 => ((bits_mask.f a0_0).bind fun t1104 => (some (a0_0, Go.bits .and .u64 (IntKind.u64.wrap (shr .i64 (wrap64 (bt1099.2.1)) bt1094.1)) t1103, Go.bits .and .u64 (IntKind.u64.wrap (shr .i64 (wrap64 (bt1099.2.2)) bt1094.1)) t1104)))) else (none))) else ((bits_All.f k a0_0 120).bind fun bt1096 => (some (bt1096.1, bt1096.2.1, bt1096.2.2))))) else (some (0, 0, 0)))) = some (r1, r2, r3) := by (rw [hy1090]; with_reducible exact H)
 have Ny1090 := Aside0.mk hy1090
 clear hy1090
 replace H := bN H; obtain ⟨t1093, A3, H⟩ := H
 replace H := iB H; rcases H with ⟨rfl, H⟩ | ⟨rfl, H⟩
 ·replace H := bN H; obtain ⟨⟨t1094, t1095⟩, A5, H⟩ := H; dsimp only at H
  replace H := iB H; rcases H with ⟨rfl, H⟩ | ⟨rfl, H⟩
  ·replace H := bN H; obtain ⟨⟨t1099, t1100, t1101⟩, A7, H⟩ := H; dsimp only at H
   by_cases c8 : 0 ≤ t1094
   ·rw [if_pos c8] at H
    have c8b0 := eq_true c8
    have c8b1 : decide (0 ≤ t1094) = true := decide_eq_true c8
    clear c8
    obtain ⟨ji9, hji9⟩ : ∃ j_ : Int, (shr .i64 (wrap64 (t1100)) t1094) = j_ := ⟨_, rfl⟩
    replace H : ((bits_mask.f a0_0).bind fun t1103 => ((bits_mask.f a0_0).bind fun t1104 => (some (a0_0, Go.bits .and .u64 (IntKind.u64.wrap (ji9)) t1103, Go.bits .and .u64 (IntKind.u64.wrap (shr .i64 (wrap64 (t1101)) t1094)) t1104)))) = some (r1, r2, r3) := by (rw [hji9] at H; exact H)
    have hji9_ : ((wrap64 (t1100)) / 2 ^ min t1094.toNat 64) = ji9 := hji9
    have hji9z : t1094 ≤ 64 → ((wrap64 (t1100)) / 2 ^ t1094.toNat) = ji9 := shr_small hji9
    replace H := bN H; obtain ⟨t1103, A10, H⟩ := H
    have c11b0 := eq_true (of_decide_eq_true (by (with_reducible assumption)) : 0 ≤ t1094)
    obtain ⟨ji12, hji12⟩ : ∃ j_ : Int, (shr .i64 (wrap64 (t1101)) t1094) = j_ := ⟨_, rfl⟩
    replace H : ((bits_mask.f a0_0).bind fun t1104 => (some (a0_0, Go.bits .and .u64 (IntKind.u64.wrap (ji9)) t1103, Go.bits .and .u64 (IntKind.u64.wrap (ji12)) t1104))) = some (r1, r2, r3) := by (rw [hji12] at H; exact H)
    have hji12_ : ((wrap64 (t1101)) / 2 ^ min t1094.toNat 64) = ji12 := hji12
    have hji12z : t1094 ≤ 64 → ((wrap64 (t1101)) / 2 ^ t1094.toNat) = ji12 := shr_small hji12
    replace H := bN H; obtain ⟨t1104, A13, H⟩ := H
    replace H := s3 H; obtain ⟨rfl, rfl, rfl⟩ := H
    go_enter Tryd.func97, Tryd.ntmps97
    try go_wp2_with (first | (refine boxA HB 2 #[.int .i64 a0_0, .int .u64 a0_1, .int .u64 a0_2] 24 ?_; clear HB; intro gb1087 w14 BK1087 GE1087 hg hb HB; clear hb hg) | (refine boxA HB 3 #[.int .i64 a1_0, .int .u64 a1_1, .int .u64 a1_2] 24 ?_; clear HB; intro gb1088 w15 BK1088 GE1088 hg hb HB; have NB1087_1088 := nbA BK1087 hg; have NB1088_1087 := nbB BK1087 hg; replace BK1087 := bk1 BK1087 hb; clear hb hg) | (refine boxA HB 4 #[.int .i64 0, .int .u64 0, .int .u64 0] 24 ?_; clear HB; intro gb1089 w16 BK1089 GE1089 hg hb HB; have NB1087_1089 := nbA BK1087 hg; have NB1089_1087 := nbB BK1087 hg; replace BK1087 := bk1 BK1087 hb; have NB1088_1089 := nbA BK1088 hg; have NB1089_1088 := nbB BK1088 hg; replace BK1088 := bk1 BK1088 hb; clear hb hg; have hnb17 := NB1087_1088.out; have hnc17 := NB1088_1087.out; have hnb18 := NB1087_1089.out; have hnc18 := NB1089_1087.out; obtain ⟨hcz19_0, hcz19_1, hcz19_2, hfz19_0, hfz19_1, hfz19_2⟩ := cf3 BK1087; have hnb20 := NB1088_1089.out; have hnc20 := NB1089_1088.out; obtain ⟨hcz21_0, hcz21_1, hcz21_2, hfz21_0, hfz21_1, hfz21_2⟩ := cf3 BK1088) | ((with_reducible refine gate_dst (N := 10) rfl ?_); refine Kd.R_lit k24 _ 24 ?hg (N := 10) ?hd (xs := ([(⟨a0_0, a0_1, a0_2⟩ : S24), (⟨a1_0, a1_1, a1_2⟩ : S24)] : List (S24))) (inner := [.int .i64 a0_0, .int .u64 a0_1, .int .u64 a0_2, .int .i64 a1_0, .int .u64 a1_1, .int .u64 a1_2]) (ok := fun _ => True) (okp := fun _ => True) ?hr ?hp (fun _ hk => hk) trivial (Below.refl _ _) (Nat.le_refl _) (by simp) ?_; (case hd => rfl); (case hg => rfl); (case hr => (go_simp; done)); (case hp => exact (Reps.c3 (show Kd.M k24 _ _ _ (⟨a0_0, a0_1, a0_2⟩ : S24) [.int .i64 a0_0, .int .u64 a0_1, .int .u64 a0_2] from (k24_mkM _ _ _ (⟨a0_0, a0_1, a0_2⟩ : S24) )) (Reps.c3 (show Kd.M k24 _ _ _ (⟨a1_0, a1_1, a1_2⟩ : S24) [.int .i64 a1_0, .int .u64 a1_1, .int .u64 a1_2] from (k24_mkM _ _ _ (⟨a1_0, a1_1, a1_2⟩ : S24) )) (Reps.none _ _)))); intro v1091 w22 ho23 hb hg_ hnew_; clear hg_ hnew_; (rw [← Ny1090.out] at ho23); have HO1092 := Aside0.mk (Kd.R_lower (Kd.R_newB (Kd.R_newB (Kd.R_newB ho23 BK1087.out) BK1088.out) BK1089.out) (below_size HB.out)); replace BK1087 := bk1 BK1087 hb; replace BK1088 := bk1 BK1088 hb; replace BK1089 := bk1 BK1089 hb; replace HB := hb1 HB hb; clear hb ho23; obtain ⟨Ao24, co24, eo24⟩ := Kd.R_slice HO1092.out; subst eo24) | (refine callA (some 11) Tryd.func56 #[.slice Ao24 y1090.length co24] ?_; (with_reducible refine (bits_valid.calls k _ _ y1090 true _ ?side1 ?side2 A3.out).mono ?_); (case side1 => exact (Kd.R_reads' HO1092.out).2.2); (case side2 => exact (Kd.R_reads' HO1092.out).2.1); rintro e w25 ⟨rfl, hb⟩; refine ⟨_, rfl, ?_⟩; replace HO1092 := Kd.rb1 HO1092 hb; replace BK1087 := bk1 BK1087 hb; replace BK1088 := bk1 BK1088 hb; replace BK1089 := bk1 BK1089 hb; replace HB := hb1 HB hb; (try clear hb); obtain ⟨hcz26_0, hcz26_1, hcz26_2, hfz26_0, hfz26_1, hfz26_2⟩ := cf3 BK1088) | (refine callA (some 16) Tryd.func113 #[.agg #[.int .i64 a1_0, .int .u64 a1_1, .int .u64 a1_2]] ?_; (with_reducible refine (bits_shift.calls k a1_0 a1_1 a1_2 t1094 true _ A5.out).mono ?_); rintro e w27 ⟨rfl, hb⟩; refine ⟨_, rfl, ?_⟩; replace HO1092 := Kd.rb1 HO1092 hb; replace BK1087 := bk1 BK1087 hb; replace BK1088 := bk1 BK1088 hb; replace BK1089 := bk1 BK1089 hb; replace HB := hb1 HB hb; (try clear hb); obtain ⟨hcz28_0, hcz28_1, hcz28_2, hfz28_0, hfz28_1, hfz28_2⟩ := cf3 BK1087) | (refine callA (some 25) Tryd.func39 #[.agg #[.int .i64 a0_0, .int .u64 a0_1, .int .u64 a0_2], .int .i64 64, .bool true] ?_; (with_reducible refine (bits_Resize.calls k a0_0 a0_1 a0_2 64 true t1099 t1100 t1101 _ A7.out).mono ?_); rintro e w29 ⟨rfl, hb⟩; refine ⟨_, rfl, ?_⟩; replace HO1092 := Kd.rb1 HO1092 hb; replace BK1087 := bk1 BK1087 hb; replace BK1088 := bk1 BK1088 hb; replace BK1089 := bk1 BK1089 hb; replace HB := hb1 HB hb; (try clear hb)) | ((with_reducible refine gate_dst (N := 7) rfl ?_); refine box_event ?hg (N := 7) ?hd (cs := #[.int .i64 0, .int .u64 0, .int .u64 0]) (t := 24) ?hr ?_; (case hd => rfl); (case hg => rfl); (case hr => (go_simp; done)); intro gb1102 hg w30 hbox hb; replace HO1092 := Aside0.mk (Kd.R_below (Kd.R_elderB HO1092.out gb1102 (Nat.le_of_eq hg.symm)) hb); have BK1102 := Aside0.mk (hbox); have GW1102 := ge1 HB hg; have GE1102 := ge1 HB hg; replace HB := hb1 HB hb; have NB1087_1102 := nbA BK1087 hg; have NB1102_1087 := nbB BK1087 hg; replace BK1087 := bk1 BK1087 hb; have NB1088_1102 := nbA BK1088 hg; have NB1102_1088 := nbB BK1088 hg; replace BK1088 := bk1 BK1088 hb; have NB1089_1102 := nbA BK1089 hg; have NB1102_1089 := nbB BK1089 hg; replace BK1089 := bk1 BK1089 hb; clear hb hbox hg; have hnb31 := NB1102_1087.out; have hnc31 := NB1087_1102.out; have hnb32 := NB1102_1088.out; have hnc32 := NB1088_1102.out; have hnb33 := NB1102_1089.out; have hnc33 := NB1089_1102.out; obtain ⟨hcz34_0, hcz34_1, hcz34_2, hfz34_0, hfz34_1, hfz34_2⟩ := cf3 BK1102))
    have n0_ : Aside0 (Kd.R k24 24 (((w30.setCell ⟨gb1102, 0, none⟩ (.int .i64 t1099)).setCell ⟨gb1102, 1, none⟩ (.int .u64 t1100)).setCell ⟨gb1102, 2, none⟩ (.int .u64 t1101)) w.heap.size (fun k_ => k_ ≠ gb1087 ∧ k_ ≠ gb1088 ∧ k_ ≠ gb1089 ∧ k_ ≠ gb1102) (.slice Ao24 y1090.length co24) y1090) := ⟨by exact Kd.R_mono (Kd.R_far (p := ⟨gb1102, 2, none⟩) (Kd.R_far (p := ⟨gb1102, 1, none⟩) (Kd.R_far (p := ⟨gb1102, 0, none⟩) (Kd.R_mono HO1092.out (fun k_ hk => (⟨hk, hk.2⟩ : _ ∧ k_ ≠ gb1102))) (fun _ hk => hk.2) (.int .i64 t1099)) (fun _ hk => hk.2) (.int .u64 t1100)) (fun _ hk => hk.2) (.int .u64 t1101)) (fun _ hk => ⟨hk.1.1.1.1.2, ⟨hk.1.1.1.2, ⟨hk.1.1.2, hk.1.2⟩⟩⟩)⟩
    have n1_ : Aside0 ((((w30.setCell ⟨gb1102, 0, none⟩ (.int .i64 t1099)).setCell ⟨gb1102, 1, none⟩ (.int .u64 t1100)).setCell ⟨gb1102, 2, none⟩ (.int .u64 t1101)).heap[gb1087]? = some (.cells #[.int .i64 a0_0, .int .u64 a0_1, .int .u64 a0_2] 24 (0, 0))) := ⟨by refine blk_far ?_ NB1087_1102.out _; refine blk_far ?_ NB1087_1102.out _; refine blk_far ?_ NB1087_1102.out _; exact BK1087.out⟩
    have n2_ : Aside0 ((((w30.setCell ⟨gb1102, 0, none⟩ (.int .i64 t1099)).setCell ⟨gb1102, 1, none⟩ (.int .u64 t1100)).setCell ⟨gb1102, 2, none⟩ (.int .u64 t1101)).heap[gb1088]? = some (.cells #[.int .i64 a1_0, .int .u64 a1_1, .int .u64 a1_2] 24 (0, 0))) := ⟨by refine blk_far ?_ NB1088_1102.out _; refine blk_far ?_ NB1088_1102.out _; refine blk_far ?_ NB1088_1102.out _; exact BK1088.out⟩
    have n3_ : Aside0 ((((w30.setCell ⟨gb1102, 0, none⟩ (.int .i64 t1099)).setCell ⟨gb1102, 1, none⟩ (.int .u64 t1100)).setCell ⟨gb1102, 2, none⟩ (.int .u64 t1101)).heap[gb1089]? = some (.cells #[.int .i64 0, .int .u64 0, .int .u64 0] 24 (0, 0))) := ⟨by refine blk_far ?_ NB1089_1102.out _; refine blk_far ?_ NB1089_1102.out _; refine blk_far ?_ NB1089_1102.out _; exact BK1089.out⟩
    have n4_ : Aside0 ((((w30.setCell ⟨gb1102, 0, none⟩ (.int .i64 t1099)).setCell ⟨gb1102, 1, none⟩ (.int .u64 t1100)).setCell ⟨gb1102, 2, none⟩ (.int .u64 t1101)).heap[gb1102]? = some (.cells #[.int .i64 t1099, .int .u64 t1100, .int .u64 t1101] 24 (0, 0))) := ⟨by refine blk_put (cs := #[.int .i64 t1099, .int .u64 t1100, .int .u64 0]) ?_ 2 _ rfl; refine blk_put (cs := #[.int .i64 t1099, .int .u64 0, .int .u64 0]) ?_ 1 _ rfl; refine blk_put (cs := #[.int .i64 0, .int .u64 0, .int .u64 0]) ?_ 0 _ rfl; exact BK1102.out⟩
    have n5_ : Aside0 (Below w.heap.size w (((w30.setCell ⟨gb1102, 0, none⟩ (.int .i64 t1099)).setCell ⟨gb1102, 1, none⟩ (.int .u64 t1100)).setCell ⟨gb1102, 2, none⟩ (.int .u64 t1101))) := ⟨by repeat (with_reducible first | exact HB.out | refine below_set ?_ GE1102.out)⟩
    (try clear HO1092)
    (try clear BK1087)
    (try clear BK1088)
    (try clear BK1089)
    (try clear BK1102)
    (try clear HB)
    generalize (((w30.setCell ⟨gb1102, 0, none⟩ (.int .i64 t1099)).setCell ⟨gb1102, 1, none⟩ (.int .u64 t1100)).setCell ⟨gb1102, 2, none⟩ (.int .u64 t1101)) = w35 at n0_ n1_ n2_ n3_ n4_ n5_ ⊢
    have HO1092 := n0_
    have BK1087 := n1_
    have BK1088 := n2_
    have BK1089 := n3_
    have BK1102 := n4_
    have HB := n5_
    clear n0_ n1_ n2_ n3_ n4_ n5_
    replace HO1092 := Aside0.mk (Kd.R_drew HO1092.out)
    replace BK1087 := bkd BK1087
    replace BK1088 := bkd BK1088
    replace BK1089 := bkd BK1089
    replace BK1102 := bkd BK1102
    replace HB := hbd HB
    refine start_ (n := 24) (S := fun w' => w'.cell? ⟨gb1087, 0, none⟩ = some (.int .i64 a0_0) ∧ w'.cell? ⟨gb1087, 1, none⟩ = some (.int .u64 a0_1) ∧ w'.cell? ⟨gb1087, 2, none⟩ = some (.int .u64 a0_2) ∧ w'.cell? ⟨gb1102, 0, none⟩ = some (.int .i64 t1099) ∧ w'.cell? ⟨gb1102, 1, none⟩ = some (.int .u64 t1100) ∧ w'.cell? ⟨gb1102, 2, none⟩ = some (.int .u64 t1101)) (ds := []) (tb 24 0) (by kernel_rfl) rfl (by kernel_rfl) (c3 BK1087 (d3 BK1102)) (fun hHeld => ?_); refine with_tabW bits_Sar.tab7 bits_Sar.bits7 (fun HT_ HW_ => ?_)
    generalize w35.drew = w36 at HO1092 BK1087 BK1088 BK1089 BK1102 HB hHeld ⊢
    refine pA 0 26 (tb 24 1) HT_ ?_
    refine pA 2 28 (tb 24 5) HT_ ?_
    refine pA 5 31 (tb 24 37) HT_ ?_
    refine pA 8 34 (tb 24 293) HT_ ?_
    refine pA 12 38 (tb 24 4389) HT_ ?_
    refine pA 15 41 (tb 24 37157) HT_ ?_
    refine pA 18 44 (tb 24 299301) HT_ ?_
    refine tA 1 27 (tb 24 299303) HT_ HW_ hHeld ?_
    refine tA 3 29 (tb 24 299311) HT_ HW_ hHeld ?_
    refine pA 4 30 (tb 24 299327) HT_ ?_
    refine pA 6 32 (tb 24 299391) HT_ ?_
    refine pA 7 33 (tb 24 299519) HT_ ?_
    refine tA 9 35 (tb 24 300031) HT_ HW_ hHeld ?_
    refine tA 13 39 (tb 24 308223) HT_ HW_ hHeld ?_
    refine pA 14 40 (tb 24 324607) HT_ ?_
    refine pA 16 42 (tb 24 390143) HT_ ?_
    refine pA 17 43 (tb 24 521215) HT_ ?_
    refine tA 19 45 (tb 24 1045503) HT_ HW_ hHeld ?_
    refine oA 10 (some 36) (tb 24 1046527) HT_ (fun K hK => ?_)
    refine gA Tryd.func58 #[.int .i64 a0_0] ?_
    with_reducible refine (bits_mask.calls a0_0 t1103 _ A10.out).mono ?_
    rintro e w' ⟨rfl, ⟨nd, rfl⟩⟩
    refine ⟨_, rfl, ?_⟩
    refine hK.out _ _ (c3 BK1087 (d3 BK1102)) (fun hHeld => ?_)
    clear hK K
    refine nA ?_
    refine pA 11 37 (tb 24 1048575) HT_ ?_
    refine oA 20 (some 46) (tb 24 2097151) HT_ (fun K hK => ?_)
    refine gA Tryd.func58 #[.int .i64 a0_0] ?_
    with_reducible refine (bits_mask.calls a0_0 t1104 _ A13.out).mono ?_
    rintro e w' ⟨rfl, ⟨nd, rfl⟩⟩
    refine ⟨_, rfl, ?_⟩
    refine hK.out _ _ (c3 BK1087 (d3 BK1102)) (fun hHeld => ?_)
    clear hK K
    refine nA ?_
    refine pA 21 47 (tb 24 4194303) HT_ ?_
    refine pA 22 48 (tb 24 8388607) HT_ ?_
    refine oA 23 (none) (tb 24 16777215) HT_ (fun K hK => ?_)
    have hs37 : w36.cell? ⟨gb1089, 0, none⟩ = some (.int .i64 0) := (blk_cell BK1089.out 0).trans rfl
    have hfs37 := blk_frozen BK1089.out 0
    have hns37_0 := NB1087_1089.out
    have hns37_1 := NB1088_1089.out
    have hns37_3 := NB1102_1089.out
    have hms37_0 := NB1089_1087.out
    have hms37_1 := NB1089_1088.out
    have hms37_3 := NB1089_1102.out
    have hs38 : w36.cell? ⟨gb1089, 1, none⟩ = some (.int .u64 0) := (blk_cell BK1089.out 1).trans rfl
    have hfs38 := blk_frozen BK1089.out 1
    have hns38_0 := NB1087_1089.out
    have hns38_1 := NB1088_1089.out
    have hns38_3 := NB1102_1089.out
    have hms38_0 := NB1089_1087.out
    have hms38_1 := NB1089_1088.out
    have hms38_3 := NB1089_1102.out
    have hs39 : w36.cell? ⟨gb1089, 2, none⟩ = some (.int .u64 0) := (blk_cell BK1089.out 2).trans rfl
    have hfs39 := blk_frozen BK1089.out 2
    have hns39_0 := NB1087_1089.out
    have hns39_1 := NB1088_1089.out
    have hns39_3 := NB1102_1089.out
    have hms39_0 := NB1089_1087.out
    have hms39_1 := NB1089_1088.out
    have hms39_3 := NB1089_1102.out
    refine skip_ (w1 := ?_) (by rfl) rfl ?_ ?_
    rotate_left
    ·go_simp
     rfl
    refine hK.out _ _ ⟨((cell_far (p := ⟨gb1089, _, none⟩) NB1087_1089.out _).trans (((cell_far (p := ⟨gb1089, _, none⟩) NB1087_1089.out _).trans (((cell_far (p := ⟨gb1089, _, none⟩) NB1087_1089.out _).trans (hHeld.1)))))), ((cell_far (p := ⟨gb1089, _, none⟩) NB1087_1089.out _).trans (((cell_far (p := ⟨gb1089, _, none⟩) NB1087_1089.out _).trans (((cell_far (p := ⟨gb1089, _, none⟩) NB1087_1089.out _).trans (hHeld.2.1)))))), ((cell_far (p := ⟨gb1089, _, none⟩) NB1087_1089.out _).trans (((cell_far (p := ⟨gb1089, _, none⟩) NB1087_1089.out _).trans (((cell_far (p := ⟨gb1089, _, none⟩) NB1087_1089.out _).trans (hHeld.2.2.1)))))), ((cell_far (p := ⟨gb1089, _, none⟩) NB1102_1089.out _).trans (((cell_far (p := ⟨gb1089, _, none⟩) NB1102_1089.out _).trans (((cell_far (p := ⟨gb1089, _, none⟩) NB1102_1089.out _).trans (hHeld.2.2.2.1)))))), ((cell_far (p := ⟨gb1089, _, none⟩) NB1102_1089.out _).trans (((cell_far (p := ⟨gb1089, _, none⟩) NB1102_1089.out _).trans (((cell_far (p := ⟨gb1089, _, none⟩) NB1102_1089.out _).trans (hHeld.2.2.2.2.1)))))), ((cell_far (p := ⟨gb1089, _, none⟩) NB1102_1089.out _).trans (((cell_far (p := ⟨gb1089, _, none⟩) NB1102_1089.out _).trans (((cell_far (p := ⟨gb1089, _, none⟩) NB1102_1089.out _).trans (hHeld.2.2.2.2.2))))))⟩ (fun hHeld => ?_)
    clear hK K
    refine done_ (done_of HT_.out (by kernel_rfl)) ?_
    try go_wp2
    refine retA gb1089 24 #[.int .i64 a0_0, .int .u64 (Go.bits .and .u64 (IntKind.u64.wrap (ji9)) t1103), .int .u64 (Go.bits .and .u64 (IntKind.u64.wrap (ji12)) t1104)] (put3 BK1089) Tryd.underlying24 ?_
    exact ⟨by rfl, by repeat (with_reducible first | exact HB.out | apply pw_below_drewN | refine below_set ?_ GE1089.out)⟩
   ·rw [if_neg c8] at H
    exact absurd H (by simp)
  ·replace H := bN H; obtain ⟨⟨t1096, t1097, t1098⟩, A40, H⟩ := H; dsimp only at H
   replace H := s3 H; obtain ⟨rfl, rfl, rfl⟩ := H
   go_enter Tryd.func97, Tryd.ntmps97
   go_wp2_with (first | (refine boxA HB 2 #[.int .i64 a0_0, .int .u64 a0_1, .int .u64 a0_2] 24 ?_; clear HB; intro gb1087 w41 BK1087 GE1087 hg hb HB; clear hb hg) | (refine boxA HB 3 #[.int .i64 a1_0, .int .u64 a1_1, .int .u64 a1_2] 24 ?_; clear HB; intro gb1088 w42 BK1088 GE1088 hg hb HB; have NB1087_1088 := nbA BK1087 hg; have NB1088_1087 := nbB BK1087 hg; replace BK1087 := bk1 BK1087 hb; clear hb hg) | (refine boxA HB 4 #[.int .i64 0, .int .u64 0, .int .u64 0] 24 ?_; clear HB; intro gb1089 w43 BK1089 GE1089 hg hb HB; have NB1087_1089 := nbA BK1087 hg; have NB1089_1087 := nbB BK1087 hg; replace BK1087 := bk1 BK1087 hb; have NB1088_1089 := nbA BK1088 hg; have NB1089_1088 := nbB BK1088 hg; replace BK1088 := bk1 BK1088 hb; clear hb hg; have hnb44 := NB1087_1088.out; have hnc44 := NB1088_1087.out; have hnb45 := NB1087_1089.out; have hnc45 := NB1089_1087.out; obtain ⟨hcz46_0, hcz46_1, hcz46_2, hfz46_0, hfz46_1, hfz46_2⟩ := cf3 BK1087; have hnb47 := NB1088_1089.out; have hnc47 := NB1089_1088.out; obtain ⟨hcz48_0, hcz48_1, hcz48_2, hfz48_0, hfz48_1, hfz48_2⟩ := cf3 BK1088) | ((with_reducible refine gate_dst (N := 10) rfl ?_); refine Kd.R_lit k24 _ 24 ?hg (N := 10) ?hd (xs := ([(⟨a0_0, a0_1, a0_2⟩ : S24), (⟨a1_0, a1_1, a1_2⟩ : S24)] : List (S24))) (inner := [.int .i64 a0_0, .int .u64 a0_1, .int .u64 a0_2, .int .i64 a1_0, .int .u64 a1_1, .int .u64 a1_2]) (ok := fun _ => True) (okp := fun _ => True) ?hr ?hp (fun _ hk => hk) trivial (Below.refl _ _) (Nat.le_refl _) (by simp) ?_; (case hd => rfl); (case hg => rfl); (case hr => (go_simp; done)); (case hp => exact (Reps.c3 (show Kd.M k24 _ _ _ (⟨a0_0, a0_1, a0_2⟩ : S24) [.int .i64 a0_0, .int .u64 a0_1, .int .u64 a0_2] from (k24_mkM _ _ _ (⟨a0_0, a0_1, a0_2⟩ : S24) )) (Reps.c3 (show Kd.M k24 _ _ _ (⟨a1_0, a1_1, a1_2⟩ : S24) [.int .i64 a1_0, .int .u64 a1_1, .int .u64 a1_2] from (k24_mkM _ _ _ (⟨a1_0, a1_1, a1_2⟩ : S24) )) (Reps.none _ _)))); intro v1091 w49 ho50 hb hg_ hnew_; clear hg_ hnew_; (rw [← Ny1090.out] at ho50); have HO1092 := Aside0.mk (Kd.R_lower (Kd.R_newB (Kd.R_newB (Kd.R_newB ho50 BK1087.out) BK1088.out) BK1089.out) (below_size HB.out)); replace BK1087 := bk1 BK1087 hb; replace BK1088 := bk1 BK1088 hb; replace BK1089 := bk1 BK1089 hb; replace HB := hb1 HB hb; clear hb ho50; obtain ⟨Ao51, co51, eo51⟩ := Kd.R_slice HO1092.out; subst eo51) | (refine callA (some 11) Tryd.func56 #[.slice Ao51 y1090.length co51] ?_; (with_reducible refine (bits_valid.calls k _ _ y1090 true _ ?side1 ?side2 A3.out).mono ?_); (case side1 => exact (Kd.R_reads' HO1092.out).2.2); (case side2 => exact (Kd.R_reads' HO1092.out).2.1); rintro e w52 ⟨rfl, hb⟩; refine ⟨_, rfl, ?_⟩; replace HO1092 := Kd.rb1 HO1092 hb; replace BK1087 := bk1 BK1087 hb; replace BK1088 := bk1 BK1088 hb; replace BK1089 := bk1 BK1089 hb; replace HB := hb1 HB hb; (try clear hb); obtain ⟨hcz53_0, hcz53_1, hcz53_2, hfz53_0, hfz53_1, hfz53_2⟩ := cf3 BK1088) | (refine callA (some 16) Tryd.func113 #[.agg #[.int .i64 a1_0, .int .u64 a1_1, .int .u64 a1_2]] ?_; (with_reducible refine (bits_shift.calls k a1_0 a1_1 a1_2 t1094 false _ A5.out).mono ?_); rintro e w54 ⟨rfl, hb⟩; refine ⟨_, rfl, ?_⟩; replace HO1092 := Kd.rb1 HO1092 hb; replace BK1087 := bk1 BK1087 hb; replace BK1088 := bk1 BK1088 hb; replace BK1089 := bk1 BK1089 hb; replace HB := hb1 HB hb; (try clear hb); obtain ⟨hcz55_0, hcz55_1, hcz55_2, hfz55_0, hfz55_1, hfz55_2⟩ := cf3 BK1087) | (refine callA (some 23) Tryd.func25 #[.int .i64 a0_0, .int .u8 120] ?_; (with_reducible refine (bits_All.calls k a0_0 120 t1096 t1097 t1098 _ A40.out).mono ?_); rintro e w56 ⟨rfl, hb⟩; refine ⟨_, rfl, ?_⟩; replace HO1092 := Kd.rb1 HO1092 hb; replace BK1087 := bk1 BK1087 hb; replace BK1088 := bk1 BK1088 hb; replace BK1089 := bk1 BK1089 hb; replace HB := hb1 HB hb; (try clear hb); obtain ⟨hcz57_0, hcz57_1, hcz57_2, hfz57_0, hfz57_1, hfz57_2⟩ := cf3 BK1089))
   refine retA gb1089 24 #[.int .i64 t1096, .int .u64 t1097, .int .u64 t1098] (put3 BK1089) Tryd.underlying24 ?_
   exact ⟨by rfl, by repeat (with_reducible first | exact HB.out | refine below_set ?_ GE1089.out)⟩
 ·replace H := s3 H; obtain ⟨rfl, rfl, rfl⟩ := H
  go_enter Tryd.func97, Tryd.ntmps97
  go_wp2_with (first | (refine boxA HB 2 #[.int .i64 a0_0, .int .u64 a0_1, .int .u64 a0_2] 24 ?_; clear HB; intro gb1087 w58 BK1087 GE1087 hg hb HB; clear hb hg) | (refine boxA HB 3 #[.int .i64 a1_0, .int .u64 a1_1, .int .u64 a1_2] 24 ?_; clear HB; intro gb1088 w59 BK1088 GE1088 hg hb HB; have NB1087_1088 := nbA BK1087 hg; have NB1088_1087 := nbB BK1087 hg; replace BK1087 := bk1 BK1087 hb; clear hb hg) | (refine boxA HB 4 #[.int .i64 0, .int .u64 0, .int .u64 0] 24 ?_; clear HB; intro gb1089 w60 BK1089 GE1089 hg hb HB; have NB1087_1089 := nbA BK1087 hg; have NB1089_1087 := nbB BK1087 hg; replace BK1087 := bk1 BK1087 hb; have NB1088_1089 := nbA BK1088 hg; have NB1089_1088 := nbB BK1088 hg; replace BK1088 := bk1 BK1088 hb; clear hb hg; have hnb61 := NB1087_1088.out; have hnc61 := NB1088_1087.out; have hnb62 := NB1087_1089.out; have hnc62 := NB1089_1087.out; obtain ⟨hcz63_0, hcz63_1, hcz63_2, hfz63_0, hfz63_1, hfz63_2⟩ := cf3 BK1087; have hnb64 := NB1088_1089.out; have hnc64 := NB1089_1088.out; obtain ⟨hcz65_0, hcz65_1, hcz65_2, hfz65_0, hfz65_1, hfz65_2⟩ := cf3 BK1088) | ((with_reducible refine gate_dst (N := 10) rfl ?_); refine Kd.R_lit k24 _ 24 ?hg (N := 10) ?hd (xs := ([(⟨a0_0, a0_1, a0_2⟩ : S24), (⟨a1_0, a1_1, a1_2⟩ : S24)] : List (S24))) (inner := [.int .i64 a0_0, .int .u64 a0_1, .int .u64 a0_2, .int .i64 a1_0, .int .u64 a1_1, .int .u64 a1_2]) (ok := fun _ => True) (okp := fun _ => True) ?hr ?hp (fun _ hk => hk) trivial (Below.refl _ _) (Nat.le_refl _) (by simp) ?_; (case hd => rfl); (case hg => rfl); (case hr => (go_simp; done)); (case hp => exact (Reps.c3 (show Kd.M k24 _ _ _ (⟨a0_0, a0_1, a0_2⟩ : S24) [.int .i64 a0_0, .int .u64 a0_1, .int .u64 a0_2] from (k24_mkM _ _ _ (⟨a0_0, a0_1, a0_2⟩ : S24) )) (Reps.c3 (show Kd.M k24 _ _ _ (⟨a1_0, a1_1, a1_2⟩ : S24) [.int .i64 a1_0, .int .u64 a1_1, .int .u64 a1_2] from (k24_mkM _ _ _ (⟨a1_0, a1_1, a1_2⟩ : S24) )) (Reps.none _ _)))); intro v1091 w66 ho67 hb hg_ hnew_; clear hg_ hnew_; (rw [← Ny1090.out] at ho67); have HO1092 := Aside0.mk (Kd.R_lower (Kd.R_newB (Kd.R_newB (Kd.R_newB ho67 BK1087.out) BK1088.out) BK1089.out) (below_size HB.out)); replace BK1087 := bk1 BK1087 hb; replace BK1088 := bk1 BK1088 hb; replace BK1089 := bk1 BK1089 hb; replace HB := hb1 HB hb; clear hb ho67; obtain ⟨Ao68, co68, eo68⟩ := Kd.R_slice HO1092.out; subst eo68) | (refine callA (some 11) Tryd.func56 #[.slice Ao68 y1090.length co68] ?_; (with_reducible refine (bits_valid.calls k _ _ y1090 false _ ?side1 ?side2 A3.out).mono ?_); (case side1 => exact (Kd.R_reads' HO1092.out).2.2); (case side2 => exact (Kd.R_reads' HO1092.out).2.1); rintro e w69 ⟨rfl, hb⟩; refine ⟨_, rfl, ?_⟩; replace HO1092 := Kd.rb1 HO1092 hb; replace BK1087 := bk1 BK1087 hb; replace BK1088 := bk1 BK1088 hb; replace BK1089 := bk1 BK1089 hb; replace HB := hb1 HB hb; (try clear hb); obtain ⟨hcz70_0, hcz70_1, hcz70_2, hfz70_0, hfz70_1, hfz70_2⟩ := cf3 BK1089))
  refine retA gb1089 24 #[.int .i64 0, .int .u64 0, .int .u64 0] (put3 BK1089) Tryd.underlying24 ?_
  exact ⟨by rfl, by repeat (with_reducible first | exact HB.out | refine below_set ?_ GE1089.out)⟩
end Go.Proofs.YtfigblfjogpojaaDoor.PBits
end
