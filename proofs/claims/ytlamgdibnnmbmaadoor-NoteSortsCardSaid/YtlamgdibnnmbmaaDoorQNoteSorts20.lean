/- Part 21 of the proof of NoteSortsCardSaid: The law NoteSorts: for all arguments it returns true; each argument reads behind the call as it read before. Out of the plain theorem of YtlamgdibnnmbmaaDoorPureNoteSorts and the printed contract. -/
import Derived.Test.YtlamgdibnnmbmaaDoorQNoteSorts15
import Derived.Test.YtlamgdibnnmbmaaDoorQNoteSorts18
import Derived.Test.YtlamgdibnnmbmaaDoorQNoteSorts17
section
namespace Go.Proofs.YtlamgdibnnmbmaaDoor.PSort
open Go.RowKit Go.Proofs.YtlamgdibnnmbmaaDoorW.PrintWords Go.Proofs.YtlamgdibnnmbmaaDoorW.PrintLast Go.Proofs.YtlamgdibnnmbmaaDoorW.PrintMore
attribute [local go_sem] max2_int min2_int max_two min_two max_three min_three max_four min_four
set_option linter.unusedVariables false
set_option linter.unusedSimpArgs false
mutual
def maskref1_Sorted.l0 : Nat → List (S24) → List (S24) → Option ((List (S24)))
 | 0, _, _ => none
 | k + 1, x0, x3 => if (x3.length : Int) < 20 then (maskref1_Sorted.l1 k x0 x3 (-1) x0 (x0.length : Int) 0) else (some x3)
def maskref1_Sorted.l1 : Nat → List (S24) → List (S24) → Int → List (S24) → Int → Int → Option ((List (S24)))
 | 0, _, _, _, _, _, _ => none
 | k + 1, x0, x3, x4, x10, x11, x12 => if x12 < x11 then (if 0 ≤ x12 then (if x12 < (x10.length : Int) then (if (x3.length : Int) = 0 then (if x4 < 0 then (maskref1_Sorted.j2 k x0 x3 x4 x12 x10 x11 x12 true) else (if 0 ≤ x4 then (if x4 < (x0.length : Int) then ((maskref1_NoteBefore.f ((rd_T24 x10 x12).f0) ((rd_T24 x10 x12).f1) ((rd_T24 x10 x12).f2) ((rd_T24 x10 x12).f3) ((rd_T24 x10 x12).f4) ((rd_T24 x0 x4).f0) ((rd_T24 x0 x4).f1) ((rd_T24 x0 x4).f2) ((rd_T24 x0 x4).f3) ((rd_T24 x0 x4).f4)).bind fun t246 => (maskref1_Sorted.j2 k x0 x3 x4 x12 x10 x11 x12 t246)) else (none)) else (none))) else (if 0 ≤ (wrap64 ((x3.length : Int) - 1)) then (if (wrap64 ((x3.length : Int) - 1)) < (x3.length : Int) then ((maskref1_NoteBefore.f ((rd_T24 x3 (wrap64 ((x3.length : Int) - 1))).f0) ((rd_T24 x3 (wrap64 ((x3.length : Int) - 1))).f1) ((rd_T24 x3 (wrap64 ((x3.length : Int) - 1))).f2) ((rd_T24 x3 (wrap64 ((x3.length : Int) - 1))).f3) ((rd_T24 x3 (wrap64 ((x3.length : Int) - 1))).f4) ((rd_T24 x10 x12).f0) ((rd_T24 x10 x12).f1) ((rd_T24 x10 x12).f2) ((rd_T24 x10 x12).f3) ((rd_T24 x10 x12).f4)).bind fun t248 => (if t248 = true then (if x4 < 0 then (maskref1_Sorted.j2 k x0 x3 x4 x12 x10 x11 x12 true) else (if 0 ≤ x4 then (if x4 < (x0.length : Int) then ((maskref1_NoteBefore.f ((rd_T24 x10 x12).f0) ((rd_T24 x10 x12).f1) ((rd_T24 x10 x12).f2) ((rd_T24 x10 x12).f3) ((rd_T24 x10 x12).f4) ((rd_T24 x0 x4).f0) ((rd_T24 x0 x4).f1) ((rd_T24 x0 x4).f2) ((rd_T24 x0 x4).f3) ((rd_T24 x0 x4).f4)).bind fun t250 => (maskref1_Sorted.j2 k x0 x3 x4 x12 x10 x11 x12 t250)) else (none)) else (none))) else (maskref1_Sorted.j2 k x0 x3 x4 x12 x10 x11 x12 false))) else (none)) else (none))) else (none)) else (none)) else (if x4 < 0 then (some x3) else (if 0 ≤ x4 then (if x4 < (x0.length : Int) then (if x3.length < 2513169434916 then (maskref1_Sorted.l0 k x0 (x3 ++ [(⟨(rd_T24 x0 x4).f0, (rd_T24 x0 x4).f1, (rd_T24 x0 x4).f2, (rd_T24 x0 x4).f3, (rd_T24 x0 x4).f4⟩ : S24)])) else (none)) else (none)) else (none)))
def maskref1_Sorted.j2 : Nat → List (S24) → List (S24) → Int → Int → List (S24) → Int → Int → Bool → Option ((List (S24)))
 | 0, _, _, _, _, _, _, _, _ => none
 | k + 1, x0, x3, x4, x5, x10, x11, x12, x41 => if x41 = true then (maskref1_Sorted.l1 k x0 x3 x5 x10 x11 (wrap64 (x12 + 1))) else (maskref1_Sorted.l1 k x0 x3 x4 x10 x11 (wrap64 (x12 + 1)))
end
def maskref1_Sorted.f (k : Nat) (l0 : List (S24)) : Option ((List (S24))) := maskref1_Sorted.l0 k l0 ([] : List (S24))
def maskref1_Sorted.T7 : Bool × List (List Nat × List Nat) := (true, [([], []), ([0], [0]), ([1], [1]), ([2], [2]), ([3], [3]), ([3], [3]), ([5, 3], [3, 5]), ([6, 3], [3, 6]), ([4, 7, 3], [3, 4, 7]), ([8, 3], [3, 8]), ([3], [3]), ([9, 10, 3, 3], [3, 9, 10]), ([3, 11], [3, 11]), ([12, 11], [12]), ([13], [13]), ([14, 13], [13, 14]), ([15, 13, 13], [13, 15]), ([16], [16]), ([16], [16]), ([16], [16]), ([18, 19, 16], [16, 18, 19]), ([20, 16], [16, 20]), ([17, 21, 16, 16], [16, 17, 21]), ([16, 22, 13], [13, 16, 22]), ([13, 23], [13, 23])])
def maskref1_Sorted.B7 : List Nat := [0, 1, 3, 7, 15, 15, 47, 111, 255, 511, 15, 2047, 4095, 8191, 16383, 32767, 65535, 131071, 131071, 131071, 917503, 1966079, 4194303, 8388607, 16777215]
theorem maskref1_Sorted.tab7 : rtab .any (opsOf Tryd.f23 7) = maskref1_Sorted.T7 := by kernel_rfl
theorem maskref1_Sorted.bits7 : waitsOk maskref1_Sorted.T7.2 maskref1_Sorted.B7 = true := by kernel_rfl
set_option maxHeartbeats 8000000 in
set_option maxRecDepth 100000 in
theorem maskref1_Sorted.calls (k : Nat) (A0 : Option Addr) (c0 : Nat) (l0 : List (S24)) (r : List (S24)) (w : World) (hr0 : Kd.C k24 w A0 l0.length l0) (hc0 : l0.length ≤ c0) (h : maskref1_Sorted.f k l0 = some r) :
  Calls Tryd.prog 23 #[.slice A0 l0.length c0] w fun e w' => ∃ v0_ : Value, e = .returned (v0_) ∧ Kd.R k24 24 w' w.heap.size (fun _ => True) v0_ r ∧ Below w.heap.size w w' := by
 have hu24 := Tryd.underlying24
 have HR0 := Aside0.mk hr0
 have HC0 := Aside0.mk hc0
 clear hr0 hc0
 have HB := Aside0.mk (Below.refl w.heap.size w)
 have H := h
 clear h
 unfold maskref1_Sorted.f at H
 have H' := Aside0.mk H
 clear H
 go_enter Tryd.func23, Tryd.ntmps23
 go_wp2
 go_loopg [3] k (fun kq v3 w' => ∃ (x3_1 : List (S24)), Aside0 (maskref1_Sorted.l0 kq l0 x3_1 = some r) ∧ Aside0 (kq ≤ k) ∧ Aside0 (Kd.R k24 24 w' w.heap.size (fun _ => True) v3 x3_1) ∧ Aside0 (Below w.heap.size w w'))
 case atStart => exact ⟨([] : List (S24)), H', ⟨Nat.le_refl _⟩, ⟨by exact Kd.R_nil _ _ _ _ _⟩, ⟨by repeat (with_reducible exact HB.out)⟩⟩
 case round =>
  clear H'
  obtain ⟨x3_1, HA, HK1, HO_3, HB⟩ := hrel
  cases gk with
  | zero => exact absurd HA.out (by simp [maskref1_Sorted.l0])
  | succ k1 =>
   have H := HA.out
   clear HA
   simp only [maskref1_Sorted.l0] at H
   by_cases c2 : (x3_1.length : Int) < 20
   ·rw [if_pos c2] at H
    have c2b0 : decide ((x3_1.length : Int) < 20) = true := decide_eq_true c2
    have c2b1 : decide (x3_1.length < 20) = true := decide_eq_true (by omega)
    clear c2
    have H' := Aside0.mk H
    clear H
    obtain ⟨Ao3, co3, eo3⟩ := Kd.R_slice HO_3.out
    subst eo3
    go_wp2
    go_loopg [4, 12] k1 (fun kq v4 v12 w' => ∃ (x4_2 : Int) (x12_2 : Int), v4 = .int .i64 x4_2 ∧ v12 = .int .i64 x12_2 ∧ Aside0 (maskref1_Sorted.l1 kq l0 x3_1 x4_2 l0 (l0.length : Int) x12_2 = some r) ∧ Aside0 (kq ≤ k1) ∧ Aside0 (Kd.R k24 24 w' w.heap.size (fun _ => True) (.slice Ao3 x3_1.length co3) x3_1) ∧ Aside0 (Below w.heap.size w w'))
    case atStart => exact ⟨(-1), (0), (by rfl), (by rfl), H', ⟨Nat.le_refl _⟩, ⟨by exact HO_3.out⟩, ⟨by repeat (with_reducible exact HB.out)⟩⟩
    case round =>
     clear H'
     (try clear c2b0); (try clear c2b1)
     obtain ⟨x4_2, x12_2, rfl, rfl, HA, HK2, HO_3, HB⟩ := hrel
     cases gk with
     | zero => exact absurd HA.out (by simp [maskref1_Sorted.l1])
     | succ k2 =>
      have H := HA.out
      clear HA
      simp only [maskref1_Sorted.l1] at H
      replace H := iD H; rcases H with ⟨c4b0, H⟩ | ⟨c4b0, H⟩
      ·replace H := iN H; obtain ⟨c5b0, H⟩ := H
       replace H := iN H; obtain ⟨c6b0, H⟩ := H
       have HC7 := Aside0.mk H
       clear H
       have p243 : 0 ≤ (x12_2 : Int) := of_decide_eq_true (by (with_reducible assumption))
       have q243 : x12_2 < (l0.length : Int) := of_decide_eq_true (by (with_reducible assumption))
       obtain ⟨ad243, e243, hx243_0, hx243_1, hx243_2, hx243_3, hx243_4⟩ := at_T24 HR0.out x12_2 p243 q243
       cases e243
       replace hx243_0 := (HB.out.cell (World.block_lt_of_cell? w _ hx243_0)).trans hx243_0
       replace hx243_1 := (HB.out.cell (World.block_lt_of_cell? w _ hx243_1)).trans hx243_1
       replace hx243_2 := (HB.out.cell (World.block_lt_of_cell? w _ hx243_2)).trans hx243_2
       replace hx243_3 := (HB.out.cell (World.block_lt_of_cell? w _ hx243_3)).trans hx243_3
       replace hx243_4 := (HB.out.cell (World.block_lt_of_cell? w _ hx243_4)).trans hx243_4
       replace p243 := eq_true p243
       replace q243 := eq_true q243
       go_upto_region 7 with (((with_reducible refine gate_dst (N := 6) rfl ?_); (try (refine gate_guard (by rfl) ?_; dsimp only)); refine box_event ?hg (N := 6) ?hd (cs := #[.string (⟨#[]⟩ : ByteArray), .int .i64 0, .int .i64 0, .int .i64 0, .string (⟨#[]⟩ : ByteArray)]) (t := 24) ?hr ?_; (case hd => rfl); (case hg => rfl); (case hr => (go_simp; done)); intro gb244 hg w8 hbox hb; replace HO_3 := Aside0.mk (Kd.R_below (Kd.R_elderB HO_3.out gb244 (Nat.le_of_eq hg.symm)) hb); have BK244 := Aside0.mk (hbox); have GW244 := ge1 HB hg; have GE244 := ge1 HB hg; replace HB := hb1 HB hb; clear hb hbox hg; obtain ⟨hcz9_0, hcz9_1, hcz9_2, hcz9_3, hcz9_4, hfz9_0, hfz9_1, hfz9_2, hfz9_3, hfz9_4⟩ := cf5 BK244))
       go_cut [41] (fun v41 wc => ∃ (kq : Nat) (x41_6 : Bool), v41 = .bool x41_6 ∧ Aside0 (maskref1_Sorted.j2 kq l0 x3_1 x4_2 x12_2 l0 (l0.length : Int) x12_2 x41_6 = some r) ∧ Aside0 (kq ≤ k2) ∧ Aside0 (Kd.R k24 24 wc w.heap.size (fun k_ => k_ ≠ gb244) (.slice Ao3 x3_1.length co3) x3_1) ∧ Aside0 (wc.heap[gb244]? = some (.cells #[.string ((rd_T24 l0 x12_2).f0), .int .i64 ((rd_T24 l0 x12_2).f1), .int .i64 ((rd_T24 l0 x12_2).f2), .int .i64 ((rd_T24 l0 x12_2).f3), .string ((rd_T24 l0 x12_2).f4)] 24 (0, 0))) ∧ Aside0 (Below w.heap.size w wc))
       case first =>
        have H := HC7.out
        clear HC7
        replace H := iE H; rcases H with ⟨c10b0, c10b1, H⟩ | ⟨c10, c10b0, c10b1, H⟩
        ·(skip)
         replace H := iD H; rcases H with ⟨c11b0, H⟩ | ⟨c11b0, H⟩
         ·have H' := Aside0.mk H
          clear H
          try go_wp2
          have n0_ : Aside0 (Kd.R k24 24 (((((w8.setCell ⟨gb244, 0, none⟩ (.string ((rd_T24 l0 x12_2).f0))).setCell ⟨gb244, 1, none⟩ (.int .i64 ((rd_T24 l0 x12_2).f1))).setCell ⟨gb244, 2, none⟩ (.int .i64 ((rd_T24 l0 x12_2).f2))).setCell ⟨gb244, 3, none⟩ (.int .i64 ((rd_T24 l0 x12_2).f3))).setCell ⟨gb244, 4, none⟩ (.string ((rd_T24 l0 x12_2).f4))) w.heap.size (fun k_ => k_ ≠ gb244) (.slice Ao3 x3_1.length co3) x3_1) := ⟨by exact Kd.R_mono (Kd.R_far (p := ⟨gb244, 4, none⟩) (Kd.R_far (p := ⟨gb244, 3, none⟩) (Kd.R_far (p := ⟨gb244, 2, none⟩) (Kd.R_far (p := ⟨gb244, 1, none⟩) (Kd.R_far (p := ⟨gb244, 0, none⟩) (Kd.R_mono HO_3.out (fun k_ hk => (⟨hk, hk.2⟩ : _ ∧ k_ ≠ gb244))) (fun _ hk => hk.2) (.string ((rd_T24 l0 x12_2).f0))) (fun _ hk => hk.2) (.int .i64 ((rd_T24 l0 x12_2).f1))) (fun _ hk => hk.2) (.int .i64 ((rd_T24 l0 x12_2).f2))) (fun _ hk => hk.2) (.int .i64 ((rd_T24 l0 x12_2).f3))) (fun _ hk => hk.2) (.string ((rd_T24 l0 x12_2).f4))) (fun _ hk => hk.1.2)⟩
          have n1_ : Aside0 ((((((w8.setCell ⟨gb244, 0, none⟩ (.string ((rd_T24 l0 x12_2).f0))).setCell ⟨gb244, 1, none⟩ (.int .i64 ((rd_T24 l0 x12_2).f1))).setCell ⟨gb244, 2, none⟩ (.int .i64 ((rd_T24 l0 x12_2).f2))).setCell ⟨gb244, 3, none⟩ (.int .i64 ((rd_T24 l0 x12_2).f3))).setCell ⟨gb244, 4, none⟩ (.string ((rd_T24 l0 x12_2).f4))).heap[gb244]? = some (.cells #[.string ((rd_T24 l0 x12_2).f0), .int .i64 ((rd_T24 l0 x12_2).f1), .int .i64 ((rd_T24 l0 x12_2).f2), .int .i64 ((rd_T24 l0 x12_2).f3), .string ((rd_T24 l0 x12_2).f4)] 24 (0, 0))) := ⟨by refine blk_put (cs := #[.string ((rd_T24 l0 x12_2).f0), .int .i64 ((rd_T24 l0 x12_2).f1), .int .i64 ((rd_T24 l0 x12_2).f2), .int .i64 ((rd_T24 l0 x12_2).f3), .string (⟨#[]⟩ : ByteArray)]) ?_ 4 _ rfl; refine blk_put (cs := #[.string ((rd_T24 l0 x12_2).f0), .int .i64 ((rd_T24 l0 x12_2).f1), .int .i64 ((rd_T24 l0 x12_2).f2), .int .i64 0, .string (⟨#[]⟩ : ByteArray)]) ?_ 3 _ rfl; refine blk_put (cs := #[.string ((rd_T24 l0 x12_2).f0), .int .i64 ((rd_T24 l0 x12_2).f1), .int .i64 0, .int .i64 0, .string (⟨#[]⟩ : ByteArray)]) ?_ 2 _ rfl; refine blk_put (cs := #[.string ((rd_T24 l0 x12_2).f0), .int .i64 0, .int .i64 0, .int .i64 0, .string (⟨#[]⟩ : ByteArray)]) ?_ 1 _ rfl; refine blk_put (cs := #[.string (⟨#[]⟩ : ByteArray), .int .i64 0, .int .i64 0, .int .i64 0, .string (⟨#[]⟩ : ByteArray)]) ?_ 0 _ rfl; exact BK244.out⟩
          have n2_ : Aside0 (Below w.heap.size w (((((w8.setCell ⟨gb244, 0, none⟩ (.string ((rd_T24 l0 x12_2).f0))).setCell ⟨gb244, 1, none⟩ (.int .i64 ((rd_T24 l0 x12_2).f1))).setCell ⟨gb244, 2, none⟩ (.int .i64 ((rd_T24 l0 x12_2).f2))).setCell ⟨gb244, 3, none⟩ (.int .i64 ((rd_T24 l0 x12_2).f3))).setCell ⟨gb244, 4, none⟩ (.string ((rd_T24 l0 x12_2).f4)))) := ⟨by repeat (with_reducible first | exact HB.out | refine below_set ?_ GE244.out)⟩
          (try clear HO_3)
          (try clear BK244)
          (try clear HB)
          generalize (((((w8.setCell ⟨gb244, 0, none⟩ (.string ((rd_T24 l0 x12_2).f0))).setCell ⟨gb244, 1, none⟩ (.int .i64 ((rd_T24 l0 x12_2).f1))).setCell ⟨gb244, 2, none⟩ (.int .i64 ((rd_T24 l0 x12_2).f2))).setCell ⟨gb244, 3, none⟩ (.int .i64 ((rd_T24 l0 x12_2).f3))).setCell ⟨gb244, 4, none⟩ (.string ((rd_T24 l0 x12_2).f4))) = w12 at n0_ n1_ n2_ ⊢
          have HO_3 := n0_
          have BK244 := n1_
          have HB := n2_
          clear n0_ n1_ n2_
          replace HO_3 := Aside0.mk (Kd.R_drew HO_3.out)
          replace BK244 := bkd BK244
          replace HB := hbd HB
          refine start_ (n := 25) (S := fun w' => True) (ds := []) (tb 25 0) (by kernel_rfl) rfl (by kernel_rfl) trivial (fun hHeld => ?_); refine with_tabW maskref1_Sorted.tab7 maskref1_Sorted.bits7 (fun HT_ HW_ => ?_)
          generalize w12.drew = w13 at HO_3 BK244 HB hHeld ⊢
          refine pA 0 17 (tb 25 1) HT_ ?_
          refine pA 1 18 (tb 25 3) HT_ ?_
          refine pA 2 19 (tb 25 7) HT_ ?_
          refine pA 3 20 (tb 25 15) HT_ ?_
          refine pU 4 21 (tb 25 31) HT_ ?_
          refine pU 5 22 (tb 25 63) HT_ ?_
          refine pU 6 23 (tb 25 127) HT_ ?_
          refine pU 7 24 (tb 25 255) HT_ ?_
          refine pU 8 25 (tb 25 511) HT_ ?_
          refine pU 9 26 (tb 25 1023) HT_ ?_
          refine pU 10 27 (tb 25 2047) HT_ ?_
          refine pU 11 28 (tb 25 4095) HT_ ?_
          refine pA 12 29 (tb 25 8191) HT_ ?_
          refine pA 13 30 (tb 25 16383) HT_ ?_
          refine pA 14 31 (tb 25 32767) HT_ ?_
          refine pA 15 32 (tb 25 65535) HT_ ?_
          refine pA 16 33 (tb 25 131071) HT_ ?_
          refine pU 17 34 (tb 25 262143) HT_ ?_
          refine pU 18 35 (tb 25 524287) HT_ ?_
          refine pU 19 36 (tb 25 1048575) HT_ ?_
          refine pU 20 37 (tb 25 2097151) HT_ ?_
          refine pU 21 38 (tb 25 4194303) HT_ ?_
          refine pU 22 39 (tb 25 8388607) HT_ ?_
          refine pA 23 40 (tb 25 16777215) HT_ ?_
          refine pA 24 41 (tb 25 33554431) HT_ ?_
          refine done_ (done_of HT_.out (by kernel_rfl)) ?_
          try go_wp2
          go_meet
          case rel => exact ⟨_, (true), (by rfl), H', ⟨by have := HK1.out; have := HK2.out; omega⟩, ⟨by exact HO_3.out⟩, ⟨by exact BK244.out⟩, ⟨by repeat (with_reducible exact HB.out)⟩⟩
         ·replace H := iN H; obtain ⟨c14b0, H⟩ := H
          replace H := iN H; obtain ⟨c15b0, H⟩ := H
          replace H := bN H; obtain ⟨t246, A16, H⟩ := H
          have H' := Aside0.mk H
          clear H
          try go_wp2
          have n0_ : Aside0 (Kd.R k24 24 (((((w8.setCell ⟨gb244, 0, none⟩ (.string ((rd_T24 l0 x12_2).f0))).setCell ⟨gb244, 1, none⟩ (.int .i64 ((rd_T24 l0 x12_2).f1))).setCell ⟨gb244, 2, none⟩ (.int .i64 ((rd_T24 l0 x12_2).f2))).setCell ⟨gb244, 3, none⟩ (.int .i64 ((rd_T24 l0 x12_2).f3))).setCell ⟨gb244, 4, none⟩ (.string ((rd_T24 l0 x12_2).f4))) w.heap.size (fun k_ => k_ ≠ gb244) (.slice Ao3 x3_1.length co3) x3_1) := ⟨by exact Kd.R_mono (Kd.R_far (p := ⟨gb244, 4, none⟩) (Kd.R_far (p := ⟨gb244, 3, none⟩) (Kd.R_far (p := ⟨gb244, 2, none⟩) (Kd.R_far (p := ⟨gb244, 1, none⟩) (Kd.R_far (p := ⟨gb244, 0, none⟩) (Kd.R_mono HO_3.out (fun k_ hk => (⟨hk, hk.2⟩ : _ ∧ k_ ≠ gb244))) (fun _ hk => hk.2) (.string ((rd_T24 l0 x12_2).f0))) (fun _ hk => hk.2) (.int .i64 ((rd_T24 l0 x12_2).f1))) (fun _ hk => hk.2) (.int .i64 ((rd_T24 l0 x12_2).f2))) (fun _ hk => hk.2) (.int .i64 ((rd_T24 l0 x12_2).f3))) (fun _ hk => hk.2) (.string ((rd_T24 l0 x12_2).f4))) (fun _ hk => hk.1.2)⟩
          have n1_ : Aside0 ((((((w8.setCell ⟨gb244, 0, none⟩ (.string ((rd_T24 l0 x12_2).f0))).setCell ⟨gb244, 1, none⟩ (.int .i64 ((rd_T24 l0 x12_2).f1))).setCell ⟨gb244, 2, none⟩ (.int .i64 ((rd_T24 l0 x12_2).f2))).setCell ⟨gb244, 3, none⟩ (.int .i64 ((rd_T24 l0 x12_2).f3))).setCell ⟨gb244, 4, none⟩ (.string ((rd_T24 l0 x12_2).f4))).heap[gb244]? = some (.cells #[.string ((rd_T24 l0 x12_2).f0), .int .i64 ((rd_T24 l0 x12_2).f1), .int .i64 ((rd_T24 l0 x12_2).f2), .int .i64 ((rd_T24 l0 x12_2).f3), .string ((rd_T24 l0 x12_2).f4)] 24 (0, 0))) := ⟨by refine blk_put (cs := #[.string ((rd_T24 l0 x12_2).f0), .int .i64 ((rd_T24 l0 x12_2).f1), .int .i64 ((rd_T24 l0 x12_2).f2), .int .i64 ((rd_T24 l0 x12_2).f3), .string (⟨#[]⟩ : ByteArray)]) ?_ 4 _ rfl; refine blk_put (cs := #[.string ((rd_T24 l0 x12_2).f0), .int .i64 ((rd_T24 l0 x12_2).f1), .int .i64 ((rd_T24 l0 x12_2).f2), .int .i64 0, .string (⟨#[]⟩ : ByteArray)]) ?_ 3 _ rfl; refine blk_put (cs := #[.string ((rd_T24 l0 x12_2).f0), .int .i64 ((rd_T24 l0 x12_2).f1), .int .i64 0, .int .i64 0, .string (⟨#[]⟩ : ByteArray)]) ?_ 2 _ rfl; refine blk_put (cs := #[.string ((rd_T24 l0 x12_2).f0), .int .i64 0, .int .i64 0, .int .i64 0, .string (⟨#[]⟩ : ByteArray)]) ?_ 1 _ rfl; refine blk_put (cs := #[.string (⟨#[]⟩ : ByteArray), .int .i64 0, .int .i64 0, .int .i64 0, .string (⟨#[]⟩ : ByteArray)]) ?_ 0 _ rfl; exact BK244.out⟩
          have n2_ : Aside0 (Below w.heap.size w (((((w8.setCell ⟨gb244, 0, none⟩ (.string ((rd_T24 l0 x12_2).f0))).setCell ⟨gb244, 1, none⟩ (.int .i64 ((rd_T24 l0 x12_2).f1))).setCell ⟨gb244, 2, none⟩ (.int .i64 ((rd_T24 l0 x12_2).f2))).setCell ⟨gb244, 3, none⟩ (.int .i64 ((rd_T24 l0 x12_2).f3))).setCell ⟨gb244, 4, none⟩ (.string ((rd_T24 l0 x12_2).f4)))) := ⟨by repeat (with_reducible first | exact HB.out | refine below_set ?_ GE244.out)⟩
          (try clear HO_3)
          (try clear BK244)
          (try clear HB)
          generalize (((((w8.setCell ⟨gb244, 0, none⟩ (.string ((rd_T24 l0 x12_2).f0))).setCell ⟨gb244, 1, none⟩ (.int .i64 ((rd_T24 l0 x12_2).f1))).setCell ⟨gb244, 2, none⟩ (.int .i64 ((rd_T24 l0 x12_2).f2))).setCell ⟨gb244, 3, none⟩ (.int .i64 ((rd_T24 l0 x12_2).f3))).setCell ⟨gb244, 4, none⟩ (.string ((rd_T24 l0 x12_2).f4))) = w17 at n0_ n1_ n2_ ⊢
          have HO_3 := n0_
          have BK244 := n1_
          have HB := n2_
          clear n0_ n1_ n2_
          replace HO_3 := Aside0.mk (Kd.R_drew HO_3.out)
          replace BK244 := bkd BK244
          replace HB := hbd HB
          have p245 : 0 ≤ (x4_2 : Int) := of_decide_eq_true (by (with_reducible assumption))
          have q245 : x4_2 < (l0.length : Int) := of_decide_eq_true (by (with_reducible assumption))
          obtain ⟨ad245, e245, hx245_0, hx245_1, hx245_2, hx245_3, hx245_4⟩ := at_T24 HR0.out x4_2 p245 q245
          have hw245_4 := hx245_4
          have hw245_3 := hx245_3
          have hw245_2 := hx245_2
          have hw245_1 := hx245_1
          have hw245_0 := hx245_0
          obtain rfl : ad243 = ad245 := (by injection e245)
          replace hx245_0 := (HB.out.cell (World.block_lt_of_cell? w _ hx245_0)).trans hx245_0
          replace hx245_1 := (HB.out.cell (World.block_lt_of_cell? w _ hx245_1)).trans hx245_1
          replace hx245_2 := (HB.out.cell (World.block_lt_of_cell? w _ hx245_2)).trans hx245_2
          replace hx245_3 := (HB.out.cell (World.block_lt_of_cell? w _ hx245_3)).trans hx245_3
          replace hx245_4 := (HB.out.cell (World.block_lt_of_cell? w _ hx245_4)).trans hx245_4
          replace p245 := eq_true p245
          replace q245 := eq_true q245
          refine start_ (n := 25) (S := fun w' => w'.cell? ⟨gb244, 0, none⟩ = some (.string ((rd_T24 l0 x12_2).f0)) ∧ w'.cell? ⟨gb244, 1, none⟩ = some (.int .i64 ((rd_T24 l0 x12_2).f1)) ∧ w'.cell? ⟨gb244, 2, none⟩ = some (.int .i64 ((rd_T24 l0 x12_2).f2)) ∧ w'.cell? ⟨gb244, 3, none⟩ = some (.int .i64 ((rd_T24 l0 x12_2).f3)) ∧ w'.cell? ⟨gb244, 4, none⟩ = some (.string ((rd_T24 l0 x12_2).f4)) ∧ w'.cell? (ad243.add ((x4_2).toNat * 5)) = some (.string ((rd_T24 l0 x4_2).f0)) ∧ w'.cell? ⟨(ad243.add ((x4_2).toNat * 5)).block, (ad243.add ((x4_2).toNat * 5)).off + 1, none⟩ = some (.int .i64 ((rd_T24 l0 x4_2).f1)) ∧ w'.cell? ⟨(ad243.add ((x4_2).toNat * 5)).block, (ad243.add ((x4_2).toNat * 5)).off + 2, none⟩ = some (.int .i64 ((rd_T24 l0 x4_2).f2)) ∧ w'.cell? ⟨(ad243.add ((x4_2).toNat * 5)).block, (ad243.add ((x4_2).toNat * 5)).off + 3, none⟩ = some (.int .i64 ((rd_T24 l0 x4_2).f3)) ∧ w'.cell? ⟨(ad243.add ((x4_2).toNat * 5)).block, (ad243.add ((x4_2).toNat * 5)).off + 4, none⟩ = some (.string ((rd_T24 l0 x4_2).f4))) (ds := []) (tb 25 0) (by kernel_rfl) rfl (by kernel_rfl) ⟨(blk_cell BK244.out 0).trans rfl, (blk_cell BK244.out 1).trans rfl, (blk_cell BK244.out 2).trans rfl, (blk_cell BK244.out 3).trans rfl, (blk_cell BK244.out 4).trans rfl, ((HB.out.cell (World.block_lt_of_cell? w _ hw245_0)).trans hw245_0), ((HB.out.cell (World.block_lt_of_cell? w _ hw245_1)).trans hw245_1), ((HB.out.cell (World.block_lt_of_cell? w _ hw245_2)).trans hw245_2), ((HB.out.cell (World.block_lt_of_cell? w _ hw245_3)).trans hw245_3), ((HB.out.cell (World.block_lt_of_cell? w _ hw245_4)).trans hw245_4)⟩ (fun hHeld => ?_); refine with_tabW maskref1_Sorted.tab7 maskref1_Sorted.bits7 (fun HT_ HW_ => ?_)
          generalize w17.drew = w18 at HO_3 BK244 HB hx245_0 hx245_1 hx245_2 hx245_3 hx245_4 hHeld ⊢
          refine pA 0 17 (tb 25 1) HT_ ?_
          refine pA 1 18 (tb 25 3) HT_ ?_
          refine pA 2 19 (tb 25 7) HT_ ?_
          refine pA 3 20 (tb 25 15) HT_ ?_
          refine pU 4 21 (tb 25 31) HT_ ?_
          refine pU 5 22 (tb 25 63) HT_ ?_
          refine pU 6 23 (tb 25 127) HT_ ?_
          refine pU 7 24 (tb 25 255) HT_ ?_
          refine pU 8 25 (tb 25 511) HT_ ?_
          refine pU 9 26 (tb 25 1023) HT_ ?_
          refine pU 10 27 (tb 25 2047) HT_ ?_
          refine pU 11 28 (tb 25 4095) HT_ ?_
          refine pA 12 29 (tb 25 8191) HT_ ?_
          refine pA 13 30 (tb 25 16383) HT_ ?_
          refine pA 14 31 (tb 25 32767) HT_ ?_
          refine pA 15 32 (tb 25 65535) HT_ ?_
          refine pA 16 33 (tb 25 131071) HT_ ?_
          refine pA 18 35 (tb 25 393215) HT_ ?_
          refine pA 19 36 (tb 25 917503) HT_ ?_
          refine pA 20 37 (tb 25 1966079) HT_ ?_
          refine tA 17 34 (tb 25 2097151) HT_ HW_ hHeld ?_
          refine tA 21 38 (tb 25 4194303) HT_ HW_ hHeld ?_
          refine oA 22 (some 39) (tb 25 8388607) HT_ (fun K hK => ?_)
          refine gA Tryd.func19 #[.agg #[.string ((rd_T24 l0 x12_2).f0), .int .i64 ((rd_T24 l0 x12_2).f1), .int .i64 ((rd_T24 l0 x12_2).f2), .int .i64 ((rd_T24 l0 x12_2).f3), .string ((rd_T24 l0 x12_2).f4)], .agg #[.string ((rd_T24 l0 x4_2).f0), .int .i64 ((rd_T24 l0 x4_2).f1), .int .i64 ((rd_T24 l0 x4_2).f2), .int .i64 ((rd_T24 l0 x4_2).f3), .string ((rd_T24 l0 x4_2).f4)]] ?_
          with_reducible refine (maskref1_NoteBefore.calls ((rd_T24 l0 x12_2).f0) ((rd_T24 l0 x12_2).f1) ((rd_T24 l0 x12_2).f2) ((rd_T24 l0 x12_2).f3) ((rd_T24 l0 x12_2).f4) ((rd_T24 l0 x4_2).f0) ((rd_T24 l0 x4_2).f1) ((rd_T24 l0 x4_2).f2) ((rd_T24 l0 x4_2).f3) ((rd_T24 l0 x4_2).f4) t246 _ A16.out).mono ?_
          rintro e w19 ⟨rfl, hb⟩
          refine ⟨_, rfl, ?_⟩
          replace HO_3 := Kd.rb1 HO_3 hb
          replace BK244 := bk1 BK244 hb
          replace HB := hb1 HB hb
          (try clear hb)
          refine hK.out _ _ ⟨(blk_cell BK244.out 0).trans rfl, (blk_cell BK244.out 1).trans rfl, (blk_cell BK244.out 2).trans rfl, (blk_cell BK244.out 3).trans rfl, (blk_cell BK244.out 4).trans rfl, ((HB.out.cell (World.block_lt_of_cell? w _ hw245_0)).trans hw245_0), ((HB.out.cell (World.block_lt_of_cell? w _ hw245_1)).trans hw245_1), ((HB.out.cell (World.block_lt_of_cell? w _ hw245_2)).trans hw245_2), ((HB.out.cell (World.block_lt_of_cell? w _ hw245_3)).trans hw245_3), ((HB.out.cell (World.block_lt_of_cell? w _ hw245_4)).trans hw245_4)⟩ (fun hHeld => ?_)
          clear hK K
          refine nA ?_
          refine pA 23 40 (tb 25 16777215) HT_ ?_
          refine pA 24 41 (tb 25 33554431) HT_ ?_
          refine done_ (done_of HT_.out (by kernel_rfl)) ?_
          try go_wp2
          go_meet
          case rel => exact ⟨_, (t246), (by rfl), H', ⟨by have := HK1.out; have := HK2.out; omega⟩, ⟨by exact HO_3.out⟩, ⟨by exact BK244.out⟩, ⟨by repeat (with_reducible exact HB.out)⟩⟩
        ·have c10b2 : ¬ (x3_1 = []) := fun h_ => c10 (by rw [h_]; rfl)
         (skip)
         obtain ⟨ji20, hji20⟩ : ∃ j_ : Int, (wrap64 ((x3_1.length : Int) - 1)) = j_ := ⟨_, rfl⟩
         replace H : (if 0 ≤ (ji20) then (if (ji20) < (x3_1.length : Int) then ((maskref1_NoteBefore.f ((rd_T24 x3_1 (ji20)).f0) ((rd_T24 x3_1 (ji20)).f1) ((rd_T24 x3_1 (ji20)).f2) ((rd_T24 x3_1 (ji20)).f3) ((rd_T24 x3_1 (ji20)).f4) ((rd_T24 l0 x12_2).f0) ((rd_T24 l0 x12_2).f1) ((rd_T24 l0 x12_2).f2) ((rd_T24 l0 x12_2).f3) ((rd_T24 l0 x12_2).f4)).bind fun t248 => (if t248 = true then (if x4_2 < 0 then (maskref1_Sorted.j2 k2 l0 x3_1 x4_2 x12_2 l0 (l0.length : Int) x12_2 true) else (if 0 ≤ x4_2 then (if x4_2 < (l0.length : Int) then ((maskref1_NoteBefore.f ((rd_T24 l0 x12_2).f0) ((rd_T24 l0 x12_2).f1) ((rd_T24 l0 x12_2).f2) ((rd_T24 l0 x12_2).f3) ((rd_T24 l0 x12_2).f4) ((rd_T24 l0 x4_2).f0) ((rd_T24 l0 x4_2).f1) ((rd_T24 l0 x4_2).f2) ((rd_T24 l0 x4_2).f3) ((rd_T24 l0 x4_2).f4)).bind fun t250 => (maskref1_Sorted.j2 k2 l0 x3_1 x4_2 x12_2 l0 (l0.length : Int) x12_2 t250)) else (none)) else (none))) else (maskref1_Sorted.j2 k2 l0 x3_1 x4_2 x12_2 l0 (l0.length : Int) x12_2 false))) else (none)) else (none)) = some r := by (rw [hji20] at H; exact H)
         have hji20w : (IntKind.i64.wrap ((x3_1.length : Int) - 1)) = ji20 := (i64_w _).trans hji20
         replace H := iN H; obtain ⟨c21b0, H⟩ := H
         replace H := iN H; obtain ⟨c22b0, H⟩ := H
         replace H := bN H; obtain ⟨t248, A23, H⟩ := H
         replace H := iB H; rcases H with ⟨rfl, H⟩ | ⟨rfl, H⟩
         ·replace H := iD H; rcases H with ⟨c25b0, H⟩ | ⟨c25b0, H⟩
          ·have H' := Aside0.mk H
           clear H
           try go_wp2
           have n0_ : Aside0 (Kd.R k24 24 (((((w8.setCell ⟨gb244, 0, none⟩ (.string ((rd_T24 l0 x12_2).f0))).setCell ⟨gb244, 1, none⟩ (.int .i64 ((rd_T24 l0 x12_2).f1))).setCell ⟨gb244, 2, none⟩ (.int .i64 ((rd_T24 l0 x12_2).f2))).setCell ⟨gb244, 3, none⟩ (.int .i64 ((rd_T24 l0 x12_2).f3))).setCell ⟨gb244, 4, none⟩ (.string ((rd_T24 l0 x12_2).f4))) w.heap.size (fun k_ => k_ ≠ gb244) (.slice Ao3 x3_1.length co3) x3_1) := ⟨by exact Kd.R_mono (Kd.R_far (p := ⟨gb244, 4, none⟩) (Kd.R_far (p := ⟨gb244, 3, none⟩) (Kd.R_far (p := ⟨gb244, 2, none⟩) (Kd.R_far (p := ⟨gb244, 1, none⟩) (Kd.R_far (p := ⟨gb244, 0, none⟩) (Kd.R_mono HO_3.out (fun k_ hk => (⟨hk, hk.2⟩ : _ ∧ k_ ≠ gb244))) (fun _ hk => hk.2) (.string ((rd_T24 l0 x12_2).f0))) (fun _ hk => hk.2) (.int .i64 ((rd_T24 l0 x12_2).f1))) (fun _ hk => hk.2) (.int .i64 ((rd_T24 l0 x12_2).f2))) (fun _ hk => hk.2) (.int .i64 ((rd_T24 l0 x12_2).f3))) (fun _ hk => hk.2) (.string ((rd_T24 l0 x12_2).f4))) (fun _ hk => hk.1.2)⟩
           have n1_ : Aside0 ((((((w8.setCell ⟨gb244, 0, none⟩ (.string ((rd_T24 l0 x12_2).f0))).setCell ⟨gb244, 1, none⟩ (.int .i64 ((rd_T24 l0 x12_2).f1))).setCell ⟨gb244, 2, none⟩ (.int .i64 ((rd_T24 l0 x12_2).f2))).setCell ⟨gb244, 3, none⟩ (.int .i64 ((rd_T24 l0 x12_2).f3))).setCell ⟨gb244, 4, none⟩ (.string ((rd_T24 l0 x12_2).f4))).heap[gb244]? = some (.cells #[.string ((rd_T24 l0 x12_2).f0), .int .i64 ((rd_T24 l0 x12_2).f1), .int .i64 ((rd_T24 l0 x12_2).f2), .int .i64 ((rd_T24 l0 x12_2).f3), .string ((rd_T24 l0 x12_2).f4)] 24 (0, 0))) := ⟨by refine blk_put (cs := #[.string ((rd_T24 l0 x12_2).f0), .int .i64 ((rd_T24 l0 x12_2).f1), .int .i64 ((rd_T24 l0 x12_2).f2), .int .i64 ((rd_T24 l0 x12_2).f3), .string (⟨#[]⟩ : ByteArray)]) ?_ 4 _ rfl; refine blk_put (cs := #[.string ((rd_T24 l0 x12_2).f0), .int .i64 ((rd_T24 l0 x12_2).f1), .int .i64 ((rd_T24 l0 x12_2).f2), .int .i64 0, .string (⟨#[]⟩ : ByteArray)]) ?_ 3 _ rfl; refine blk_put (cs := #[.string ((rd_T24 l0 x12_2).f0), .int .i64 ((rd_T24 l0 x12_2).f1), .int .i64 0, .int .i64 0, .string (⟨#[]⟩ : ByteArray)]) ?_ 2 _ rfl; refine blk_put (cs := #[.string ((rd_T24 l0 x12_2).f0), .int .i64 0, .int .i64 0, .int .i64 0, .string (⟨#[]⟩ : ByteArray)]) ?_ 1 _ rfl; refine blk_put (cs := #[.string (⟨#[]⟩ : ByteArray), .int .i64 0, .int .i64 0, .int .i64 0, .string (⟨#[]⟩ : ByteArray)]) ?_ 0 _ rfl; exact BK244.out⟩
           have n2_ : Aside0 (Below w.heap.size w (((((w8.setCell ⟨gb244, 0, none⟩ (.string ((rd_T24 l0 x12_2).f0))).setCell ⟨gb244, 1, none⟩ (.int .i64 ((rd_T24 l0 x12_2).f1))).setCell ⟨gb244, 2, none⟩ (.int .i64 ((rd_T24 l0 x12_2).f2))).setCell ⟨gb244, 3, none⟩ (.int .i64 ((rd_T24 l0 x12_2).f3))).setCell ⟨gb244, 4, none⟩ (.string ((rd_T24 l0 x12_2).f4)))) := ⟨by repeat (with_reducible first | exact HB.out | refine below_set ?_ GE244.out)⟩
           (try clear HO_3)
           (try clear BK244)
           (try clear HB)
           generalize (((((w8.setCell ⟨gb244, 0, none⟩ (.string ((rd_T24 l0 x12_2).f0))).setCell ⟨gb244, 1, none⟩ (.int .i64 ((rd_T24 l0 x12_2).f1))).setCell ⟨gb244, 2, none⟩ (.int .i64 ((rd_T24 l0 x12_2).f2))).setCell ⟨gb244, 3, none⟩ (.int .i64 ((rd_T24 l0 x12_2).f3))).setCell ⟨gb244, 4, none⟩ (.string ((rd_T24 l0 x12_2).f4))) = w26 at n0_ n1_ n2_ ⊢
           have HO_3 := n0_
           have BK244 := n1_
           have HB := n2_
           clear n0_ n1_ n2_
           replace HO_3 := Aside0.mk (Kd.R_drew HO_3.out)
           replace BK244 := bkd BK244
           replace HB := hbd HB
           have p247 : 0 ≤ ((ji20) : Int) := of_decide_eq_true (by (with_reducible assumption))
           have q247 : (ji20) < (x3_1.length : Int) := of_decide_eq_true (by (with_reducible assumption))
           obtain ⟨ad247, e247, hx247_0, hx247_1, hx247_2, hx247_3, hx247_4⟩ := at_T24 (Kd.R_reads' HO_3.out).2.2 (ji20) p247 q247
           cases e247
           replace p247 := eq_true p247
           replace q247 := eq_true q247
           refine start_ (n := 25) (S := fun w' => w'.cell? ⟨gb244, 0, none⟩ = some (.string ((rd_T24 l0 x12_2).f0)) ∧ w'.cell? ⟨gb244, 1, none⟩ = some (.int .i64 ((rd_T24 l0 x12_2).f1)) ∧ w'.cell? ⟨gb244, 2, none⟩ = some (.int .i64 ((rd_T24 l0 x12_2).f2)) ∧ w'.cell? ⟨gb244, 3, none⟩ = some (.int .i64 ((rd_T24 l0 x12_2).f3)) ∧ w'.cell? ⟨gb244, 4, none⟩ = some (.string ((rd_T24 l0 x12_2).f4)) ∧ w'.cell? (ad247.add ((ji20).toNat * 5)) = some (.string ((rd_T24 x3_1 (ji20)).f0)) ∧ w'.cell? ⟨(ad247.add ((ji20).toNat * 5)).block, (ad247.add ((ji20).toNat * 5)).off + 1, none⟩ = some (.int .i64 ((rd_T24 x3_1 (ji20)).f1)) ∧ w'.cell? ⟨(ad247.add ((ji20).toNat * 5)).block, (ad247.add ((ji20).toNat * 5)).off + 2, none⟩ = some (.int .i64 ((rd_T24 x3_1 (ji20)).f2)) ∧ w'.cell? ⟨(ad247.add ((ji20).toNat * 5)).block, (ad247.add ((ji20).toNat * 5)).off + 3, none⟩ = some (.int .i64 ((rd_T24 x3_1 (ji20)).f3)) ∧ w'.cell? ⟨(ad247.add ((ji20).toNat * 5)).block, (ad247.add ((ji20).toNat * 5)).off + 4, none⟩ = some (.string ((rd_T24 x3_1 (ji20)).f4))) (ds := []) (tb 25 0) (by kernel_rfl) rfl (by kernel_rfl) ⟨(blk_cell BK244.out 0).trans rfl, (blk_cell BK244.out 1).trans rfl, (blk_cell BK244.out 2).trans rfl, (blk_cell BK244.out 3).trans rfl, (blk_cell BK244.out 4).trans rfl, hx247_0, hx247_1, hx247_2, hx247_3, hx247_4⟩ (fun hHeld => ?_); refine with_tabW maskref1_Sorted.tab7 maskref1_Sorted.bits7 (fun HT_ HW_ => ?_)
           generalize w26.drew = w27 at HO_3 BK244 HB hx247_0 hx247_1 hx247_2 hx247_3 hx247_4 hHeld ⊢
           refine pA 0 17 (tb 25 1) HT_ ?_
           refine pA 1 18 (tb 25 3) HT_ ?_
           refine pA 2 19 (tb 25 7) HT_ ?_
           refine pA 3 20 (tb 25 15) HT_ ?_
           refine pA 4 21 (tb 25 31) HT_ ?_
           refine pA 5 22 (tb 25 63) HT_ ?_
           refine pA 6 23 (tb 25 127) HT_ ?_
           refine pA 7 24 (tb 25 255) HT_ ?_
           refine pA 8 25 (tb 25 511) HT_ ?_
           refine tA 9 26 (tb 25 1023) HT_ HW_ hHeld ?_
           refine tA 10 27 (tb 25 2047) HT_ HW_ hHeld ?_
           refine oA 11 (some 28) (tb 25 4095) HT_ (fun K hK => ?_)
           refine gA Tryd.func19 #[.agg #[.string ((rd_T24 x3_1 (ji20)).f0), .int .i64 ((rd_T24 x3_1 (ji20)).f1), .int .i64 ((rd_T24 x3_1 (ji20)).f2), .int .i64 ((rd_T24 x3_1 (ji20)).f3), .string ((rd_T24 x3_1 (ji20)).f4)], .agg #[.string ((rd_T24 l0 x12_2).f0), .int .i64 ((rd_T24 l0 x12_2).f1), .int .i64 ((rd_T24 l0 x12_2).f2), .int .i64 ((rd_T24 l0 x12_2).f3), .string ((rd_T24 l0 x12_2).f4)]] ?_
           with_reducible refine (maskref1_NoteBefore.calls ((rd_T24 x3_1 (ji20)).f0) ((rd_T24 x3_1 (ji20)).f1) ((rd_T24 x3_1 (ji20)).f2) ((rd_T24 x3_1 (ji20)).f3) ((rd_T24 x3_1 (ji20)).f4) ((rd_T24 l0 x12_2).f0) ((rd_T24 l0 x12_2).f1) ((rd_T24 l0 x12_2).f2) ((rd_T24 l0 x12_2).f3) ((rd_T24 l0 x12_2).f4) true _ A23.out).mono ?_
           rintro e w28 ⟨rfl, hb⟩
           have HS5_ := (hb.cell (World.block_lt_of_cell? _ _ (hHeld.2.2.2.2.2.1))).trans (hHeld.2.2.2.2.2.1)
           have HS6_ := (hb.cell (World.block_lt_of_cell? _ _ (hHeld.2.2.2.2.2.2.1))).trans (hHeld.2.2.2.2.2.2.1)
           have HS7_ := (hb.cell (World.block_lt_of_cell? _ _ (hHeld.2.2.2.2.2.2.2.1))).trans (hHeld.2.2.2.2.2.2.2.1)
           have HS8_ := (hb.cell (World.block_lt_of_cell? _ _ (hHeld.2.2.2.2.2.2.2.2.1))).trans (hHeld.2.2.2.2.2.2.2.2.1)
           have HS9_ := (hb.cell (World.block_lt_of_cell? _ _ (hHeld.2.2.2.2.2.2.2.2.2))).trans (hHeld.2.2.2.2.2.2.2.2.2)
           refine ⟨_, rfl, ?_⟩
           replace HO_3 := Kd.rb1 HO_3 hb
           replace BK244 := bk1 BK244 hb
           replace HB := hb1 HB hb
           (try clear hb)
           refine hK.out _ _ ⟨(blk_cell BK244.out 0).trans rfl, (blk_cell BK244.out 1).trans rfl, (blk_cell BK244.out 2).trans rfl, (blk_cell BK244.out 3).trans rfl, (blk_cell BK244.out 4).trans rfl, HS5_, HS6_, HS7_, HS8_, HS9_⟩ (fun hHeld => ?_)
           clear hK K
           refine nA ?_
           refine pA 12 29 (tb 25 8191) HT_ ?_
           refine pA 13 30 (tb 25 16383) HT_ ?_
           refine pA 14 31 (tb 25 32767) HT_ ?_
           refine pA 15 32 (tb 25 65535) HT_ ?_
           refine pA 16 33 (tb 25 131071) HT_ ?_
           refine pU 17 34 (tb 25 262143) HT_ ?_
           refine pU 18 35 (tb 25 524287) HT_ ?_
           refine pU 19 36 (tb 25 1048575) HT_ ?_
           refine pU 20 37 (tb 25 2097151) HT_ ?_
           refine pU 21 38 (tb 25 4194303) HT_ ?_
           refine pU 22 39 (tb 25 8388607) HT_ ?_
           refine pA 23 40 (tb 25 16777215) HT_ ?_
           refine pA 24 41 (tb 25 33554431) HT_ ?_
           refine done_ (done_of HT_.out (by kernel_rfl)) ?_
           try go_wp2
           go_meet
           case rel => exact ⟨_, (true), (by rfl), H', ⟨by have := HK1.out; have := HK2.out; omega⟩, ⟨by exact HO_3.out⟩, ⟨by exact BK244.out⟩, ⟨by repeat (with_reducible exact HB.out)⟩⟩
          ·replace H := iN H; obtain ⟨c29b0, H⟩ := H
           replace H := iN H; obtain ⟨c30b0, H⟩ := H
           replace H := bN H; obtain ⟨t250, A31, H⟩ := H
           have H' := Aside0.mk H
           clear H
           try go_wp2
           have n0_ : Aside0 (Kd.R k24 24 (((((w8.setCell ⟨gb244, 0, none⟩ (.string ((rd_T24 l0 x12_2).f0))).setCell ⟨gb244, 1, none⟩ (.int .i64 ((rd_T24 l0 x12_2).f1))).setCell ⟨gb244, 2, none⟩ (.int .i64 ((rd_T24 l0 x12_2).f2))).setCell ⟨gb244, 3, none⟩ (.int .i64 ((rd_T24 l0 x12_2).f3))).setCell ⟨gb244, 4, none⟩ (.string ((rd_T24 l0 x12_2).f4))) w.heap.size (fun k_ => k_ ≠ gb244) (.slice Ao3 x3_1.length co3) x3_1) := ⟨by exact Kd.R_mono (Kd.R_far (p := ⟨gb244, 4, none⟩) (Kd.R_far (p := ⟨gb244, 3, none⟩) (Kd.R_far (p := ⟨gb244, 2, none⟩) (Kd.R_far (p := ⟨gb244, 1, none⟩) (Kd.R_far (p := ⟨gb244, 0, none⟩) (Kd.R_mono HO_3.out (fun k_ hk => (⟨hk, hk.2⟩ : _ ∧ k_ ≠ gb244))) (fun _ hk => hk.2) (.string ((rd_T24 l0 x12_2).f0))) (fun _ hk => hk.2) (.int .i64 ((rd_T24 l0 x12_2).f1))) (fun _ hk => hk.2) (.int .i64 ((rd_T24 l0 x12_2).f2))) (fun _ hk => hk.2) (.int .i64 ((rd_T24 l0 x12_2).f3))) (fun _ hk => hk.2) (.string ((rd_T24 l0 x12_2).f4))) (fun _ hk => hk.1.2)⟩
           have n1_ : Aside0 ((((((w8.setCell ⟨gb244, 0, none⟩ (.string ((rd_T24 l0 x12_2).f0))).setCell ⟨gb244, 1, none⟩ (.int .i64 ((rd_T24 l0 x12_2).f1))).setCell ⟨gb244, 2, none⟩ (.int .i64 ((rd_T24 l0 x12_2).f2))).setCell ⟨gb244, 3, none⟩ (.int .i64 ((rd_T24 l0 x12_2).f3))).setCell ⟨gb244, 4, none⟩ (.string ((rd_T24 l0 x12_2).f4))).heap[gb244]? = some (.cells #[.string ((rd_T24 l0 x12_2).f0), .int .i64 ((rd_T24 l0 x12_2).f1), .int .i64 ((rd_T24 l0 x12_2).f2), .int .i64 ((rd_T24 l0 x12_2).f3), .string ((rd_T24 l0 x12_2).f4)] 24 (0, 0))) := ⟨by refine blk_put (cs := #[.string ((rd_T24 l0 x12_2).f0), .int .i64 ((rd_T24 l0 x12_2).f1), .int .i64 ((rd_T24 l0 x12_2).f2), .int .i64 ((rd_T24 l0 x12_2).f3), .string (⟨#[]⟩ : ByteArray)]) ?_ 4 _ rfl; refine blk_put (cs := #[.string ((rd_T24 l0 x12_2).f0), .int .i64 ((rd_T24 l0 x12_2).f1), .int .i64 ((rd_T24 l0 x12_2).f2), .int .i64 0, .string (⟨#[]⟩ : ByteArray)]) ?_ 3 _ rfl; refine blk_put (cs := #[.string ((rd_T24 l0 x12_2).f0), .int .i64 ((rd_T24 l0 x12_2).f1), .int .i64 0, .int .i64 0, .string (⟨#[]⟩ : ByteArray)]) ?_ 2 _ rfl; refine blk_put (cs := #[.string ((rd_T24 l0 x12_2).f0), .int .i64 0, .int .i64 0, .int .i64 0, .string (⟨#[]⟩ : ByteArray)]) ?_ 1 _ rfl; refine blk_put (cs := #[.string (⟨#[]⟩ : ByteArray), .int .i64 0, .int .i64 0, .int .i64 0, .string (⟨#[]⟩ : ByteArray)]) ?_ 0 _ rfl; exact BK244.out⟩
           have n2_ : Aside0 (Below w.heap.size w (((((w8.setCell ⟨gb244, 0, none⟩ (.string ((rd_T24 l0 x12_2).f0))).setCell ⟨gb244, 1, none⟩ (.int .i64 ((rd_T24 l0 x12_2).f1))).setCell ⟨gb244, 2, none⟩ (.int .i64 ((rd_T24 l0 x12_2).f2))).setCell ⟨gb244, 3, none⟩ (.int .i64 ((rd_T24 l0 x12_2).f3))).setCell ⟨gb244, 4, none⟩ (.string ((rd_T24 l0 x12_2).f4)))) := ⟨by repeat (with_reducible first | exact HB.out | refine below_set ?_ GE244.out)⟩
           (try clear HO_3)
           (try clear BK244)
           (try clear HB)
           generalize (((((w8.setCell ⟨gb244, 0, none⟩ (.string ((rd_T24 l0 x12_2).f0))).setCell ⟨gb244, 1, none⟩ (.int .i64 ((rd_T24 l0 x12_2).f1))).setCell ⟨gb244, 2, none⟩ (.int .i64 ((rd_T24 l0 x12_2).f2))).setCell ⟨gb244, 3, none⟩ (.int .i64 ((rd_T24 l0 x12_2).f3))).setCell ⟨gb244, 4, none⟩ (.string ((rd_T24 l0 x12_2).f4))) = w32 at n0_ n1_ n2_ ⊢
           have HO_3 := n0_
           have BK244 := n1_
           have HB := n2_
           clear n0_ n1_ n2_
           replace HO_3 := Aside0.mk (Kd.R_drew HO_3.out)
           replace BK244 := bkd BK244
           replace HB := hbd HB
           have p247 : 0 ≤ ((ji20) : Int) := of_decide_eq_true (by (with_reducible assumption))
           have q247 : (ji20) < (x3_1.length : Int) := of_decide_eq_true (by (with_reducible assumption))
           obtain ⟨ad247, e247, hx247_0, hx247_1, hx247_2, hx247_3, hx247_4⟩ := at_T24 (Kd.R_reads' HO_3.out).2.2 (ji20) p247 q247
           cases e247
           replace p247 := eq_true p247
           replace q247 := eq_true q247
           have p249 : 0 ≤ (x4_2 : Int) := of_decide_eq_true (by (with_reducible assumption))
           have q249 : x4_2 < (l0.length : Int) := of_decide_eq_true (by (with_reducible assumption))
           obtain ⟨ad249, e249, hx249_0, hx249_1, hx249_2, hx249_3, hx249_4⟩ := at_T24 HR0.out x4_2 p249 q249
           have hw249_4 := hx249_4
           have hw249_3 := hx249_3
           have hw249_2 := hx249_2
           have hw249_1 := hx249_1
           have hw249_0 := hx249_0
           obtain rfl : ad243 = ad249 := (by injection e249)
           replace hx249_0 := (HB.out.cell (World.block_lt_of_cell? w _ hx249_0)).trans hx249_0
           replace hx249_1 := (HB.out.cell (World.block_lt_of_cell? w _ hx249_1)).trans hx249_1
           replace hx249_2 := (HB.out.cell (World.block_lt_of_cell? w _ hx249_2)).trans hx249_2
           replace hx249_3 := (HB.out.cell (World.block_lt_of_cell? w _ hx249_3)).trans hx249_3
           replace hx249_4 := (HB.out.cell (World.block_lt_of_cell? w _ hx249_4)).trans hx249_4
           replace p249 := eq_true p249
           replace q249 := eq_true q249
           refine start_ (n := 25) (S := fun w' => w'.cell? ⟨gb244, 0, none⟩ = some (.string ((rd_T24 l0 x12_2).f0)) ∧ w'.cell? ⟨gb244, 1, none⟩ = some (.int .i64 ((rd_T24 l0 x12_2).f1)) ∧ w'.cell? ⟨gb244, 2, none⟩ = some (.int .i64 ((rd_T24 l0 x12_2).f2)) ∧ w'.cell? ⟨gb244, 3, none⟩ = some (.int .i64 ((rd_T24 l0 x12_2).f3)) ∧ w'.cell? ⟨gb244, 4, none⟩ = some (.string ((rd_T24 l0 x12_2).f4)) ∧ w'.cell? (ad247.add ((ji20).toNat * 5)) = some (.string ((rd_T24 x3_1 (ji20)).f0)) ∧ w'.cell? ⟨(ad247.add ((ji20).toNat * 5)).block, (ad247.add ((ji20).toNat * 5)).off + 1, none⟩ = some (.int .i64 ((rd_T24 x3_1 (ji20)).f1)) ∧ w'.cell? ⟨(ad247.add ((ji20).toNat * 5)).block, (ad247.add ((ji20).toNat * 5)).off + 2, none⟩ = some (.int .i64 ((rd_T24 x3_1 (ji20)).f2)) ∧ w'.cell? ⟨(ad247.add ((ji20).toNat * 5)).block, (ad247.add ((ji20).toNat * 5)).off + 3, none⟩ = some (.int .i64 ((rd_T24 x3_1 (ji20)).f3)) ∧ w'.cell? ⟨(ad247.add ((ji20).toNat * 5)).block, (ad247.add ((ji20).toNat * 5)).off + 4, none⟩ = some (.string ((rd_T24 x3_1 (ji20)).f4)) ∧ w'.cell? (ad243.add ((x4_2).toNat * 5)) = some (.string ((rd_T24 l0 x4_2).f0)) ∧ w'.cell? ⟨(ad243.add ((x4_2).toNat * 5)).block, (ad243.add ((x4_2).toNat * 5)).off + 1, none⟩ = some (.int .i64 ((rd_T24 l0 x4_2).f1)) ∧ w'.cell? ⟨(ad243.add ((x4_2).toNat * 5)).block, (ad243.add ((x4_2).toNat * 5)).off + 2, none⟩ = some (.int .i64 ((rd_T24 l0 x4_2).f2)) ∧ w'.cell? ⟨(ad243.add ((x4_2).toNat * 5)).block, (ad243.add ((x4_2).toNat * 5)).off + 3, none⟩ = some (.int .i64 ((rd_T24 l0 x4_2).f3)) ∧ w'.cell? ⟨(ad243.add ((x4_2).toNat * 5)).block, (ad243.add ((x4_2).toNat * 5)).off + 4, none⟩ = some (.string ((rd_T24 l0 x4_2).f4))) (ds := []) (tb 25 0) (by kernel_rfl) rfl (by kernel_rfl) ⟨(blk_cell BK244.out 0).trans rfl, (blk_cell BK244.out 1).trans rfl, (blk_cell BK244.out 2).trans rfl, (blk_cell BK244.out 3).trans rfl, (blk_cell BK244.out 4).trans rfl, hx247_0, hx247_1, hx247_2, hx247_3, hx247_4, ((HB.out.cell (World.block_lt_of_cell? w _ hw249_0)).trans hw249_0), ((HB.out.cell (World.block_lt_of_cell? w _ hw249_1)).trans hw249_1), ((HB.out.cell (World.block_lt_of_cell? w _ hw249_2)).trans hw249_2), ((HB.out.cell (World.block_lt_of_cell? w _ hw249_3)).trans hw249_3), ((HB.out.cell (World.block_lt_of_cell? w _ hw249_4)).trans hw249_4)⟩ (fun hHeld => ?_); refine with_tabW maskref1_Sorted.tab7 maskref1_Sorted.bits7 (fun HT_ HW_ => ?_)
           generalize w32.drew = w33 at HO_3 BK244 HB hx247_0 hx247_1 hx247_2 hx247_3 hx247_4 hx249_0 hx249_1 hx249_2 hx249_3 hx249_4 hHeld ⊢
           refine pA 0 17 (tb 25 1) HT_ ?_
           refine pA 1 18 (tb 25 3) HT_ ?_
           refine pA 2 19 (tb 25 7) HT_ ?_
           refine pA 3 20 (tb 25 15) HT_ ?_
           refine pA 4 21 (tb 25 31) HT_ ?_
           refine pA 5 22 (tb 25 63) HT_ ?_
           refine pA 6 23 (tb 25 127) HT_ ?_
           refine pA 7 24 (tb 25 255) HT_ ?_
           refine pA 8 25 (tb 25 511) HT_ ?_
           refine tA 9 26 (tb 25 1023) HT_ HW_ hHeld ?_
           refine tA 10 27 (tb 25 2047) HT_ HW_ hHeld ?_
           refine oA 11 (some 28) (tb 25 4095) HT_ (fun K hK => ?_)
           refine gA Tryd.func19 #[.agg #[.string ((rd_T24 x3_1 (ji20)).f0), .int .i64 ((rd_T24 x3_1 (ji20)).f1), .int .i64 ((rd_T24 x3_1 (ji20)).f2), .int .i64 ((rd_T24 x3_1 (ji20)).f3), .string ((rd_T24 x3_1 (ji20)).f4)], .agg #[.string ((rd_T24 l0 x12_2).f0), .int .i64 ((rd_T24 l0 x12_2).f1), .int .i64 ((rd_T24 l0 x12_2).f2), .int .i64 ((rd_T24 l0 x12_2).f3), .string ((rd_T24 l0 x12_2).f4)]] ?_
           with_reducible refine (maskref1_NoteBefore.calls ((rd_T24 x3_1 (ji20)).f0) ((rd_T24 x3_1 (ji20)).f1) ((rd_T24 x3_1 (ji20)).f2) ((rd_T24 x3_1 (ji20)).f3) ((rd_T24 x3_1 (ji20)).f4) ((rd_T24 l0 x12_2).f0) ((rd_T24 l0 x12_2).f1) ((rd_T24 l0 x12_2).f2) ((rd_T24 l0 x12_2).f3) ((rd_T24 l0 x12_2).f4) true _ A23.out).mono ?_
           rintro e w34 ⟨rfl, hb⟩
           have HS5_ := (hb.cell (World.block_lt_of_cell? _ _ (hHeld.2.2.2.2.2.1))).trans (hHeld.2.2.2.2.2.1)
           have HS6_ := (hb.cell (World.block_lt_of_cell? _ _ (hHeld.2.2.2.2.2.2.1))).trans (hHeld.2.2.2.2.2.2.1)
           have HS7_ := (hb.cell (World.block_lt_of_cell? _ _ (hHeld.2.2.2.2.2.2.2.1))).trans (hHeld.2.2.2.2.2.2.2.1)
           have HS8_ := (hb.cell (World.block_lt_of_cell? _ _ (hHeld.2.2.2.2.2.2.2.2.1))).trans (hHeld.2.2.2.2.2.2.2.2.1)
           have HS9_ := (hb.cell (World.block_lt_of_cell? _ _ (hHeld.2.2.2.2.2.2.2.2.2.1))).trans (hHeld.2.2.2.2.2.2.2.2.2.1)
           refine ⟨_, rfl, ?_⟩
           replace HO_3 := Kd.rb1 HO_3 hb
           replace BK244 := bk1 BK244 hb
           replace HB := hb1 HB hb
           (try clear hb)
           refine hK.out _ _ ⟨(blk_cell BK244.out 0).trans rfl, (blk_cell BK244.out 1).trans rfl, (blk_cell BK244.out 2).trans rfl, (blk_cell BK244.out 3).trans rfl, (blk_cell BK244.out 4).trans rfl, HS5_, HS6_, HS7_, HS8_, HS9_, ((HB.out.cell (World.block_lt_of_cell? w _ hw249_0)).trans hw249_0), ((HB.out.cell (World.block_lt_of_cell? w _ hw249_1)).trans hw249_1), ((HB.out.cell (World.block_lt_of_cell? w _ hw249_2)).trans hw249_2), ((HB.out.cell (World.block_lt_of_cell? w _ hw249_3)).trans hw249_3), ((HB.out.cell (World.block_lt_of_cell? w _ hw249_4)).trans hw249_4)⟩ (fun hHeld => ?_)
           clear hK K
           refine nA ?_
           refine pA 12 29 (tb 25 8191) HT_ ?_
           refine pA 13 30 (tb 25 16383) HT_ ?_
           refine pA 14 31 (tb 25 32767) HT_ ?_
           refine pA 15 32 (tb 25 65535) HT_ ?_
           refine pA 16 33 (tb 25 131071) HT_ ?_
           refine pA 18 35 (tb 25 393215) HT_ ?_
           refine pA 19 36 (tb 25 917503) HT_ ?_
           refine pA 20 37 (tb 25 1966079) HT_ ?_
           refine tA 17 34 (tb 25 2097151) HT_ HW_ hHeld ?_
           refine tA 21 38 (tb 25 4194303) HT_ HW_ hHeld ?_
           refine oA 22 (some 39) (tb 25 8388607) HT_ (fun K hK => ?_)
           refine gA Tryd.func19 #[.agg #[.string ((rd_T24 l0 x12_2).f0), .int .i64 ((rd_T24 l0 x12_2).f1), .int .i64 ((rd_T24 l0 x12_2).f2), .int .i64 ((rd_T24 l0 x12_2).f3), .string ((rd_T24 l0 x12_2).f4)], .agg #[.string ((rd_T24 l0 x4_2).f0), .int .i64 ((rd_T24 l0 x4_2).f1), .int .i64 ((rd_T24 l0 x4_2).f2), .int .i64 ((rd_T24 l0 x4_2).f3), .string ((rd_T24 l0 x4_2).f4)]] ?_
           with_reducible refine (maskref1_NoteBefore.calls ((rd_T24 l0 x12_2).f0) ((rd_T24 l0 x12_2).f1) ((rd_T24 l0 x12_2).f2) ((rd_T24 l0 x12_2).f3) ((rd_T24 l0 x12_2).f4) ((rd_T24 l0 x4_2).f0) ((rd_T24 l0 x4_2).f1) ((rd_T24 l0 x4_2).f2) ((rd_T24 l0 x4_2).f3) ((rd_T24 l0 x4_2).f4) t250 _ A31.out).mono ?_
           rintro e w35 ⟨rfl, hb⟩
           have HS5_ := (hb.cell (World.block_lt_of_cell? _ _ (hHeld.2.2.2.2.2.1))).trans (hHeld.2.2.2.2.2.1)
           have HS6_ := (hb.cell (World.block_lt_of_cell? _ _ (hHeld.2.2.2.2.2.2.1))).trans (hHeld.2.2.2.2.2.2.1)
           have HS7_ := (hb.cell (World.block_lt_of_cell? _ _ (hHeld.2.2.2.2.2.2.2.1))).trans (hHeld.2.2.2.2.2.2.2.1)
           have HS8_ := (hb.cell (World.block_lt_of_cell? _ _ (hHeld.2.2.2.2.2.2.2.2.1))).trans (hHeld.2.2.2.2.2.2.2.2.1)
           have HS9_ := (hb.cell (World.block_lt_of_cell? _ _ (hHeld.2.2.2.2.2.2.2.2.2.1))).trans (hHeld.2.2.2.2.2.2.2.2.2.1)
           refine ⟨_, rfl, ?_⟩
           replace HO_3 := Kd.rb1 HO_3 hb
           replace BK244 := bk1 BK244 hb
           replace HB := hb1 HB hb
           (try clear hb)
           refine hK.out _ _ ⟨(blk_cell BK244.out 0).trans rfl, (blk_cell BK244.out 1).trans rfl, (blk_cell BK244.out 2).trans rfl, (blk_cell BK244.out 3).trans rfl, (blk_cell BK244.out 4).trans rfl, HS5_, HS6_, HS7_, HS8_, HS9_, ((HB.out.cell (World.block_lt_of_cell? w _ hw249_0)).trans hw249_0), ((HB.out.cell (World.block_lt_of_cell? w _ hw249_1)).trans hw249_1), ((HB.out.cell (World.block_lt_of_cell? w _ hw249_2)).trans hw249_2), ((HB.out.cell (World.block_lt_of_cell? w _ hw249_3)).trans hw249_3), ((HB.out.cell (World.block_lt_of_cell? w _ hw249_4)).trans hw249_4)⟩ (fun hHeld => ?_)
           clear hK K
           refine nA ?_
           refine pA 23 40 (tb 25 16777215) HT_ ?_
           refine pA 24 41 (tb 25 33554431) HT_ ?_
           refine done_ (done_of HT_.out (by kernel_rfl)) ?_
           try go_wp2
           go_meet
           case rel => exact ⟨_, (t250), (by rfl), H', ⟨by have := HK1.out; have := HK2.out; omega⟩, ⟨by exact HO_3.out⟩, ⟨by exact BK244.out⟩, ⟨by repeat (with_reducible exact HB.out)⟩⟩
         ·have H' := Aside0.mk H
          clear H
          try go_wp2
          have n0_ : Aside0 (Kd.R k24 24 (((((w8.setCell ⟨gb244, 0, none⟩ (.string ((rd_T24 l0 x12_2).f0))).setCell ⟨gb244, 1, none⟩ (.int .i64 ((rd_T24 l0 x12_2).f1))).setCell ⟨gb244, 2, none⟩ (.int .i64 ((rd_T24 l0 x12_2).f2))).setCell ⟨gb244, 3, none⟩ (.int .i64 ((rd_T24 l0 x12_2).f3))).setCell ⟨gb244, 4, none⟩ (.string ((rd_T24 l0 x12_2).f4))) w.heap.size (fun k_ => k_ ≠ gb244) (.slice Ao3 x3_1.length co3) x3_1) := ⟨by exact Kd.R_mono (Kd.R_far (p := ⟨gb244, 4, none⟩) (Kd.R_far (p := ⟨gb244, 3, none⟩) (Kd.R_far (p := ⟨gb244, 2, none⟩) (Kd.R_far (p := ⟨gb244, 1, none⟩) (Kd.R_far (p := ⟨gb244, 0, none⟩) (Kd.R_mono HO_3.out (fun k_ hk => (⟨hk, hk.2⟩ : _ ∧ k_ ≠ gb244))) (fun _ hk => hk.2) (.string ((rd_T24 l0 x12_2).f0))) (fun _ hk => hk.2) (.int .i64 ((rd_T24 l0 x12_2).f1))) (fun _ hk => hk.2) (.int .i64 ((rd_T24 l0 x12_2).f2))) (fun _ hk => hk.2) (.int .i64 ((rd_T24 l0 x12_2).f3))) (fun _ hk => hk.2) (.string ((rd_T24 l0 x12_2).f4))) (fun _ hk => hk.1.2)⟩
          have n1_ : Aside0 ((((((w8.setCell ⟨gb244, 0, none⟩ (.string ((rd_T24 l0 x12_2).f0))).setCell ⟨gb244, 1, none⟩ (.int .i64 ((rd_T24 l0 x12_2).f1))).setCell ⟨gb244, 2, none⟩ (.int .i64 ((rd_T24 l0 x12_2).f2))).setCell ⟨gb244, 3, none⟩ (.int .i64 ((rd_T24 l0 x12_2).f3))).setCell ⟨gb244, 4, none⟩ (.string ((rd_T24 l0 x12_2).f4))).heap[gb244]? = some (.cells #[.string ((rd_T24 l0 x12_2).f0), .int .i64 ((rd_T24 l0 x12_2).f1), .int .i64 ((rd_T24 l0 x12_2).f2), .int .i64 ((rd_T24 l0 x12_2).f3), .string ((rd_T24 l0 x12_2).f4)] 24 (0, 0))) := ⟨by refine blk_put (cs := #[.string ((rd_T24 l0 x12_2).f0), .int .i64 ((rd_T24 l0 x12_2).f1), .int .i64 ((rd_T24 l0 x12_2).f2), .int .i64 ((rd_T24 l0 x12_2).f3), .string (⟨#[]⟩ : ByteArray)]) ?_ 4 _ rfl; refine blk_put (cs := #[.string ((rd_T24 l0 x12_2).f0), .int .i64 ((rd_T24 l0 x12_2).f1), .int .i64 ((rd_T24 l0 x12_2).f2), .int .i64 0, .string (⟨#[]⟩ : ByteArray)]) ?_ 3 _ rfl; refine blk_put (cs := #[.string ((rd_T24 l0 x12_2).f0), .int .i64 ((rd_T24 l0 x12_2).f1), .int .i64 0, .int .i64 0, .string (⟨#[]⟩ : ByteArray)]) ?_ 2 _ rfl; refine blk_put (cs := #[.string ((rd_T24 l0 x12_2).f0), .int .i64 0, .int .i64 0, .int .i64 0, .string (⟨#[]⟩ : ByteArray)]) ?_ 1 _ rfl; refine blk_put (cs := #[.string (⟨#[]⟩ : ByteArray), .int .i64 0, .int .i64 0, .int .i64 0, .string (⟨#[]⟩ : ByteArray)]) ?_ 0 _ rfl; exact BK244.out⟩
          have n2_ : Aside0 (Below w.heap.size w (((((w8.setCell ⟨gb244, 0, none⟩ (.string ((rd_T24 l0 x12_2).f0))).setCell ⟨gb244, 1, none⟩ (.int .i64 ((rd_T24 l0 x12_2).f1))).setCell ⟨gb244, 2, none⟩ (.int .i64 ((rd_T24 l0 x12_2).f2))).setCell ⟨gb244, 3, none⟩ (.int .i64 ((rd_T24 l0 x12_2).f3))).setCell ⟨gb244, 4, none⟩ (.string ((rd_T24 l0 x12_2).f4)))) := ⟨by repeat (with_reducible first | exact HB.out | refine below_set ?_ GE244.out)⟩
          (try clear HO_3)
          (try clear BK244)
          (try clear HB)
          generalize (((((w8.setCell ⟨gb244, 0, none⟩ (.string ((rd_T24 l0 x12_2).f0))).setCell ⟨gb244, 1, none⟩ (.int .i64 ((rd_T24 l0 x12_2).f1))).setCell ⟨gb244, 2, none⟩ (.int .i64 ((rd_T24 l0 x12_2).f2))).setCell ⟨gb244, 3, none⟩ (.int .i64 ((rd_T24 l0 x12_2).f3))).setCell ⟨gb244, 4, none⟩ (.string ((rd_T24 l0 x12_2).f4))) = w36 at n0_ n1_ n2_ ⊢
          have HO_3 := n0_
          have BK244 := n1_
          have HB := n2_
          clear n0_ n1_ n2_
          replace HO_3 := Aside0.mk (Kd.R_drew HO_3.out)
          replace BK244 := bkd BK244
          replace HB := hbd HB
          have p247 : 0 ≤ ((ji20) : Int) := of_decide_eq_true (by (with_reducible assumption))
          have q247 : (ji20) < (x3_1.length : Int) := of_decide_eq_true (by (with_reducible assumption))
          obtain ⟨ad247, e247, hx247_0, hx247_1, hx247_2, hx247_3, hx247_4⟩ := at_T24 (Kd.R_reads' HO_3.out).2.2 (ji20) p247 q247
          cases e247
          replace p247 := eq_true p247
          replace q247 := eq_true q247
          refine start_ (n := 25) (S := fun w' => w'.cell? ⟨gb244, 0, none⟩ = some (.string ((rd_T24 l0 x12_2).f0)) ∧ w'.cell? ⟨gb244, 1, none⟩ = some (.int .i64 ((rd_T24 l0 x12_2).f1)) ∧ w'.cell? ⟨gb244, 2, none⟩ = some (.int .i64 ((rd_T24 l0 x12_2).f2)) ∧ w'.cell? ⟨gb244, 3, none⟩ = some (.int .i64 ((rd_T24 l0 x12_2).f3)) ∧ w'.cell? ⟨gb244, 4, none⟩ = some (.string ((rd_T24 l0 x12_2).f4)) ∧ w'.cell? (ad247.add ((ji20).toNat * 5)) = some (.string ((rd_T24 x3_1 (ji20)).f0)) ∧ w'.cell? ⟨(ad247.add ((ji20).toNat * 5)).block, (ad247.add ((ji20).toNat * 5)).off + 1, none⟩ = some (.int .i64 ((rd_T24 x3_1 (ji20)).f1)) ∧ w'.cell? ⟨(ad247.add ((ji20).toNat * 5)).block, (ad247.add ((ji20).toNat * 5)).off + 2, none⟩ = some (.int .i64 ((rd_T24 x3_1 (ji20)).f2)) ∧ w'.cell? ⟨(ad247.add ((ji20).toNat * 5)).block, (ad247.add ((ji20).toNat * 5)).off + 3, none⟩ = some (.int .i64 ((rd_T24 x3_1 (ji20)).f3)) ∧ w'.cell? ⟨(ad247.add ((ji20).toNat * 5)).block, (ad247.add ((ji20).toNat * 5)).off + 4, none⟩ = some (.string ((rd_T24 x3_1 (ji20)).f4))) (ds := []) (tb 25 0) (by kernel_rfl) rfl (by kernel_rfl) ⟨(blk_cell BK244.out 0).trans rfl, (blk_cell BK244.out 1).trans rfl, (blk_cell BK244.out 2).trans rfl, (blk_cell BK244.out 3).trans rfl, (blk_cell BK244.out 4).trans rfl, hx247_0, hx247_1, hx247_2, hx247_3, hx247_4⟩ (fun hHeld => ?_); refine with_tabW maskref1_Sorted.tab7 maskref1_Sorted.bits7 (fun HT_ HW_ => ?_)
          generalize w36.drew = w37 at HO_3 BK244 HB hx247_0 hx247_1 hx247_2 hx247_3 hx247_4 hHeld ⊢
          refine pA 0 17 (tb 25 1) HT_ ?_
          refine pA 1 18 (tb 25 3) HT_ ?_
          refine pA 2 19 (tb 25 7) HT_ ?_
          refine pA 3 20 (tb 25 15) HT_ ?_
          refine pA 4 21 (tb 25 31) HT_ ?_
          refine pA 5 22 (tb 25 63) HT_ ?_
          refine pA 6 23 (tb 25 127) HT_ ?_
          refine pA 7 24 (tb 25 255) HT_ ?_
          refine pA 8 25 (tb 25 511) HT_ ?_
          refine tA 9 26 (tb 25 1023) HT_ HW_ hHeld ?_
          refine tA 10 27 (tb 25 2047) HT_ HW_ hHeld ?_
          refine oA 11 (some 28) (tb 25 4095) HT_ (fun K hK => ?_)
          refine gA Tryd.func19 #[.agg #[.string ((rd_T24 x3_1 (ji20)).f0), .int .i64 ((rd_T24 x3_1 (ji20)).f1), .int .i64 ((rd_T24 x3_1 (ji20)).f2), .int .i64 ((rd_T24 x3_1 (ji20)).f3), .string ((rd_T24 x3_1 (ji20)).f4)], .agg #[.string ((rd_T24 l0 x12_2).f0), .int .i64 ((rd_T24 l0 x12_2).f1), .int .i64 ((rd_T24 l0 x12_2).f2), .int .i64 ((rd_T24 l0 x12_2).f3), .string ((rd_T24 l0 x12_2).f4)]] ?_
          with_reducible refine (maskref1_NoteBefore.calls ((rd_T24 x3_1 (ji20)).f0) ((rd_T24 x3_1 (ji20)).f1) ((rd_T24 x3_1 (ji20)).f2) ((rd_T24 x3_1 (ji20)).f3) ((rd_T24 x3_1 (ji20)).f4) ((rd_T24 l0 x12_2).f0) ((rd_T24 l0 x12_2).f1) ((rd_T24 l0 x12_2).f2) ((rd_T24 l0 x12_2).f3) ((rd_T24 l0 x12_2).f4) false _ A23.out).mono ?_
          rintro e w38 ⟨rfl, hb⟩
          have HS5_ := (hb.cell (World.block_lt_of_cell? _ _ (hHeld.2.2.2.2.2.1))).trans (hHeld.2.2.2.2.2.1)
          have HS6_ := (hb.cell (World.block_lt_of_cell? _ _ (hHeld.2.2.2.2.2.2.1))).trans (hHeld.2.2.2.2.2.2.1)
          have HS7_ := (hb.cell (World.block_lt_of_cell? _ _ (hHeld.2.2.2.2.2.2.2.1))).trans (hHeld.2.2.2.2.2.2.2.1)
          have HS8_ := (hb.cell (World.block_lt_of_cell? _ _ (hHeld.2.2.2.2.2.2.2.2.1))).trans (hHeld.2.2.2.2.2.2.2.2.1)
          have HS9_ := (hb.cell (World.block_lt_of_cell? _ _ (hHeld.2.2.2.2.2.2.2.2.2))).trans (hHeld.2.2.2.2.2.2.2.2.2)
          refine ⟨_, rfl, ?_⟩
          replace HO_3 := Kd.rb1 HO_3 hb
          replace BK244 := bk1 BK244 hb
          replace HB := hb1 HB hb
          (try clear hb)
          refine hK.out _ _ ⟨(blk_cell BK244.out 0).trans rfl, (blk_cell BK244.out 1).trans rfl, (blk_cell BK244.out 2).trans rfl, (blk_cell BK244.out 3).trans rfl, (blk_cell BK244.out 4).trans rfl, HS5_, HS6_, HS7_, HS8_, HS9_⟩ (fun hHeld => ?_)
          clear hK K
          refine nA ?_
          refine pA 12 29 (tb 25 8191) HT_ ?_
          refine pA 13 30 (tb 25 16383) HT_ ?_
          refine pU 14 31 (tb 25 32767) HT_ ?_
          refine pU 15 32 (tb 25 65535) HT_ ?_
          refine pU 16 33 (tb 25 131071) HT_ ?_
          refine pU 17 34 (tb 25 262143) HT_ ?_
          refine pU 18 35 (tb 25 524287) HT_ ?_
          refine pU 19 36 (tb 25 1048575) HT_ ?_
          refine pU 20 37 (tb 25 2097151) HT_ ?_
          refine pU 21 38 (tb 25 4194303) HT_ ?_
          refine pU 22 39 (tb 25 8388607) HT_ ?_
          refine pU 23 40 (tb 25 16777215) HT_ ?_
          refine pA 24 41 (tb 25 33554431) HT_ ?_
          refine done_ (done_of HT_.out (by kernel_rfl)) ?_
          try go_wp2
          go_meet
          case rel => exact ⟨_, (false), (by rfl), H', ⟨by have := HK1.out; have := HK2.out; omega⟩, ⟨by exact HO_3.out⟩, ⟨by exact BK244.out⟩, ⟨by repeat (with_reducible exact HB.out)⟩⟩
       case rest =>
        clear HC7
        obtain ⟨kq, x41_6, rfl, HA, HJ6, HO_3, BK244, HB⟩ := hcut
        cases kq with
        | zero => exact absurd HA.out (by simp [maskref1_Sorted.j2])
        | succ kj6 =>
         have H := HA.out
         clear HA
         simp only [maskref1_Sorted.j2] at H
         replace H := iB H; rcases H with ⟨rfl, H⟩ | ⟨rfl, H⟩
         ·have H' := Aside0.mk H
          clear H
          go_wp2
          go_roundg kj6
          case measure => have := HK1.out; have := HK2.out; have := HJ6.out; omega
          case rel => exact ⟨(x12_2), (wrap64 (x12_2 + 1)), (by rfl), (by rfl), H', ⟨by have := HK1.out; have := HK2.out; have := HJ6.out; omega⟩, ⟨by exact Kd.R_mono HO_3.out (fun _ hk => trivial)⟩, ⟨by repeat (with_reducible exact HB.out)⟩⟩
         ·have H' := Aside0.mk H
          clear H
          go_wp2
          go_roundg kj6
          case measure => have := HK1.out; have := HK2.out; have := HJ6.out; omega
          case rel => exact ⟨(x4_2), (wrap64 (x12_2 + 1)), (by rfl), (by rfl), H', ⟨by have := HK1.out; have := HK2.out; have := HJ6.out; omega⟩, ⟨by exact Kd.R_mono HO_3.out (fun _ hk => trivial)⟩, ⟨by repeat (with_reducible exact HB.out)⟩⟩
      ·replace H := iD H; rcases H with ⟨c40b0, H⟩ | ⟨c40b0, H⟩
       ·obtain rfl := Option.some.inj H
        go_wp2
        go_ret
        exact ⟨_, by rfl, by exact HO_3.out, by repeat (with_reducible exact HB.out)⟩
       ·replace H := iN H; obtain ⟨c41b0, H⟩ := H
        replace H := iN H; obtain ⟨c42b0, H⟩ := H
        by_cases c43 : x3_1.length < 2513169434916
        ·rw [if_pos c43] at H
         have LMc43 := Aside0.mk c43
         clear c43
         obtain ⟨y252, hy252⟩ : ∃ y_ : List (S24), y_ = (x3_1 ++ [(⟨(rd_T24 l0 x4_2).f0, (rd_T24 l0 x4_2).f1, (rd_T24 l0 x4_2).f2, (rd_T24 l0 x4_2).f3, (rd_T24 l0 x4_2).f4⟩ : S24)]) := ⟨_, rfl⟩
         replace H : (maskref1_Sorted.l0 k2 l0 y252) = some r := by (rw [hy252]; with_reducible exact H)
         have Ny252 := Aside0.mk hy252
         clear hy252
         have H' := Aside0.mk H
         clear H
         have p251 : 0 ≤ (x4_2 : Int) := of_decide_eq_true (by (with_reducible assumption))
         have q251 : x4_2 < (l0.length : Int) := of_decide_eq_true (by (with_reducible assumption))
         obtain ⟨ad251, e251, hx251_0, hx251_1, hx251_2, hx251_3, hx251_4⟩ := at_T24 HR0.out x4_2 p251 q251
         cases e251
         replace hx251_0 := (HB.out.cell (World.block_lt_of_cell? w _ hx251_0)).trans hx251_0
         replace hx251_1 := (HB.out.cell (World.block_lt_of_cell? w _ hx251_1)).trans hx251_1
         replace hx251_2 := (HB.out.cell (World.block_lt_of_cell? w _ hx251_2)).trans hx251_2
         replace hx251_3 := (HB.out.cell (World.block_lt_of_cell? w _ hx251_3)).trans hx251_3
         replace hx251_4 := (HB.out.cell (World.block_lt_of_cell? w _ hx251_4)).trans hx251_4
         replace p251 := eq_true p251
         replace q251 := eq_true q251
         go_wp2_with (((with_reducible refine gate_builtin (b := .append) (xs := #[.tmp 46, .tmp 51]) rfl ?_); (try (refine gate_guard (by rfl) ?_; dsimp only)); at_builtin; refine Kd.R_append k24 (w0 := w) w.heap.size rfl (.tmp 46) (.tmp 51) 36 24 (.agg #[(.string ⟨#[]⟩), (.int .i64 0), (.int .i64 0), (.int .i64 0), (.string ⟨#[]⟩)]) 56 rfl Tryd.underlying36 info24 rfl (by decide) (by omega) (.slice Ao3 x3_1.length co3) x3_1 (⟨(rd_T24 l0 x4_2).f0, (rd_T24 l0 x4_2).f1, (rd_T24 l0 x4_2).f2, (rd_T24 l0 x4_2).f3, (rd_T24 l0 x4_2).f4⟩ : S24) [.string ((rd_T24 l0 x4_2).f0), .int .i64 ((rd_T24 l0 x4_2).f1), .int .i64 ((rd_T24 l0 x4_2).f2), .int .i64 ((rd_T24 l0 x4_2).f3), .string ((rd_T24 l0 x4_2).f4)] (fun _ => True) (fun _ => False) rfl rfl ?aP (fun _ hk => hk.elim) ?aF ?aO ?aB ?aS ?aL ?_; (case aP => exact k24_mkM _ _ _ (⟨(rd_T24 l0 x4_2).f0, (rd_T24 l0 x4_2).f1, (rd_T24 l0 x4_2).f2, (rd_T24 l0 x4_2).f3, (rd_T24 l0 x4_2).f4⟩ : S24)); (case aB => exact HB.out); (case aF => exact (fun _ _ => trivial)); (case aO => exact HO_3.out); (case aS => exact (below_size HB.out)); (case aL => have := LMc43.out; omega); intro v253 w44 ho hb hg hat; rw [← Ny252.out] at ho; replace HB := Aside0.mk (hb); have HO254 := Aside0.mk (ho); clear HO_3; clear ho hb hg hat))
         go_roundg k2
         case measure => have := HK1.out; have := HK2.out; omega
         case rel => exact ⟨(y252), H', ⟨by have := HK1.out; have := HK2.out; omega⟩, ⟨by exact HO254.out⟩, ⟨by repeat (with_reducible exact HB.out)⟩⟩
        ·rw [if_neg c43] at H
         exact absurd H (by simp)
   ·rw [if_neg c2] at H
    have c2b0 : decide ((x3_1.length : Int) < 20) = false := decide_eq_false c2
    have c2b1 : decide (x3_1.length < 20) = false := decide_eq_false (by omega)
    clear c2
    obtain rfl := Option.some.inj H
    obtain ⟨Ao45, co45, eo45⟩ := Kd.R_slice HO_3.out
    subst eo45
    go_wp2
    go_ret
    exact ⟨_, by rfl, by exact HO_3.out, by repeat (with_reducible exact HB.out)⟩
end Go.Proofs.YtlamgdibnnmbmaaDoor.PSort
end
