/- Part 35 of the proof of BitsShiftedCardSaid: The law BitsShifted: for all arguments it returns true; each argument reads behind the call as it read before. Out of the plain theorem of YtfigblfjogpojaaDoorPureBitsShifted and the printed contract. -/
import Derived.Test.YtfigblfjogpojaaDoorQBitsShifted14
import Derived.Test.YtfigblfjogpojaaDoorQBitsShifted28
import Derived.Test.YtfigblfjogpojaaDoorQBitsShifted16
import Derived.Test.YtfigblfjogpojaaDoorQBitsShifted15
import Derived.Test.YtfigblfjogpojaaDoorQBitsShifted33
import Derived.Test.YtfigblfjogpojaaDoorQBitsShifted31
section
namespace Go.Proofs.YtfigblfjogpojaaDoor.PShift
open Go.Proofs.YtfigblfjogpojaaDoor.PBits
open Go.RowKit Go.Proofs.YtfigblfjogpojaaDoorW.PrintWords Go.Proofs.YtfigblfjogpojaaDoorW.PrintLast Go.Proofs.YtfigblfjogpojaaDoorW.PrintMore
attribute [local go_sem] max2_int min2_int max_two min_two max_three min_three max_four min_four
set_option linter.unusedVariables false
set_option linter.unusedSimpArgs false
attribute [local go_sem high] eqA24
mutual
def masklaw1_pair.l0 : Nat → Bool → List Int → Int → Int → Int → Int → Int → Int → Int → Int → Option (Bool)
 | 0, _, _, _, _, _, _, _, _, _, _ => none
 | k + 1, x3, x13, x14, x15, x1316000, x1316001, x1316002, x1317000, x1317001, x1317002 => if x15 < x14 then (if 0 ≤ x15 then (if x15 < (x13.length : Int) then (if (rd x13 x15) = 11 then (masklaw1_pair.j1 k x3 (rd x13 x15) true x13 x14 x15 x1316000 x1316001 x1316002 x1317000 x1317001 x1317002) else (if (rd x13 x15) = 12 then (masklaw1_pair.j1 k x3 (rd x13 x15) true x13 x14 x15 x1316000 x1316001 x1316002 x1317000 x1317001 x1317002) else (if (rd x13 x15) = 21 then (masklaw1_pair.j1 k x3 (rd x13 x15) true x13 x14 x15 x1316000 x1316001 x1316002 x1317000 x1317001 x1317002) else (if (rd x13 x15) = 22 then (masklaw1_pair.j1 k x3 (rd x13 x15) true x13 x14 x15 x1316000 x1316001 x1316002 x1317000 x1317001 x1317002) else (masklaw1_pair.j1 k x3 (rd x13 x15) ((rd x13 x15) == 23) x13 x14 x15 x1316000 x1316001 x1316002 x1317000 x1317001 x1317002))))) else (none)) else (none)) else (some true)
def masklaw1_pair.j1 : Nat → Bool → Int → Bool → List Int → Int → Int → Int → Int → Int → Int → Int → Int → Option (Bool)
 | 0, _, _, _, _, _, _, _, _, _, _, _, _ => none
 | k + 1, x3, x10, x11, x13, x14, x15, x1316000, x1316001, x1316002, x1317000, x1317001, x1317002 => (maskref1_Valid.f k x1316000 x1316001 x1316002).bind fun t1319 => (if t1319 = true then ((maskref1_Valid.f k x1317000 x1317001 x1317002).bind fun t1320 => (if t1320 = true then (if x11 = true then (masklaw1_pair.j2 k x3 x10 x13 x14 x15 true x1316000 x1316001 x1316002 x1317000 x1317001 x1317002 0 0 0) else (masklaw1_pair.j2 k x3 x10 x13 x14 x15 (x1316000 == x1317000) x1316000 x1316001 x1316002 x1317000 x1317001 x1317002 0 0 0)) else (masklaw1_pair.j2 k x3 x10 x13 x14 x15 false x1316000 x1316001 x1316002 x1317000 x1317001 x1317002 0 0 0))) else (masklaw1_pair.j2 k x3 x10 x13 x14 x15 false x1316000 x1316001 x1316002 x1317000 x1317001 x1317002 0 0 0))
def masklaw1_pair.j2 : Nat → Bool → Int → List Int → Int → Int → Bool → Int → Int → Int → Int → Int → Int → Int → Int → Int → Option (Bool)
 | 0, _, _, _, _, _, _, _, _, _, _, _, _, _, _, _ => none
 | k + 1, x3, x10, x13, x14, x15, x52, x1316000, x1316001, x1316002, x1317000, x1317001, x1317002, x1319000, x1319001, x1319002 => if x52 = true then ((maskref1_V.f k x1316000 x1316001 x1316002).bind fun t1321 => ((maskref1_V.f k x1317000 x1317001 x1317002).bind fun t1324 => ((maskref1_Binary.f k x10 t1321 t1324 x3).bind fun t1327 => ((maskref1_B.f k t1327).bind fun bt1330 => (masklaw1_pair.j3 k x3 x10 x13 x14 x15 x1316000 x1316001 x1316002 x1317000 x1317001 x1317002 bt1330.1 bt1330.2.1 bt1330.2.2))))) else (masklaw1_pair.j3 k x3 x10 x13 x14 x15 x1316000 x1316001 x1316002 x1317000 x1317001 x1317002 x1319000 x1319001 x1319002)
def masklaw1_pair.j3 : Nat → Bool → Int → List Int → Int → Int → Int → Int → Int → Int → Int → Int → Int → Int → Int → Option (Bool)
 | 0, _, _, _, _, _, _, _, _, _, _, _, _, _, _ => none
 | k + 1, x3, x10, x13, x14, x15, x1316000, x1316001, x1316002, x1317000, x1317001, x1317002, x1319000, x1319001, x1319002 => (masklaw1_binary.f k x10 x1316000 x1316001 x1316002 x1317000 x1317001 x1317002 x3).bind fun bt1333 => (if (!(bt1333.1 == x1319000) || (!(bt1333.2.1 == x1319001) || (!(bt1333.2.2 == x1319002)))) = true then (some false) else (masklaw1_pair.l0 k x3 x13 x14 (wrap64 (x15 + 1)) x1316000 x1316001 x1316002 x1317000 x1317001 x1317002))
end
def masklaw1_pair.f (k : Nat) (l0 : List Int) (a1_0 : Int) (a1_1 : Int) (a1_2 : Int) (a2_0 : Int) (a2_1 : Int) (a2_2 : Int) (a3 : Bool) : Option (Bool) := masklaw1_pair.l0 k a3 l0 (l0.length : Int) 0 a1_0 a1_1 a1_2 a2_0 a2_1 a2_2
def masklaw1_pair.T7 : Bool × List (List Nat × List Nat) := (true, [([], []), ([], []), ([1], [1]), ([], []), ([3, 2], [3]), ([], []), ([0, 2, 4, 5, 4], [0, 2, 4, 5]), ([6, 6], [6]), ([7, 7, 0, 1, 2, 3, 4, 5, 6, 7], [7])])
def masklaw1_pair.B7 : List Nat := [0, 0, 2, 0, 14, 0, 63, 127, 255]
theorem masklaw1_pair.tab7 : rtab .any (opsOf Tryd.f46 7) = masklaw1_pair.T7 := by kernel_rfl
theorem masklaw1_pair.bits7 : waitsOk masklaw1_pair.T7.2 masklaw1_pair.B7 = true := by kernel_rfl
set_option maxHeartbeats 8000000 in
set_option maxRecDepth 100000 in
theorem masklaw1_pair.calls (k : Nat) (A0 : Option Addr) (c0 : Nat) (l0 : List Int) (a1_0 : Int) (a1_1 : Int) (a1_2 : Int) (a2_0 : Int) (a2_1 : Int) (a2_2 : Int) (a3 : Bool) (r : Bool) (w : World) (hr0 : Kd.C (Kd.int .i64) w A0 l0.length l0) (hc0 : l0.length ≤ c0) (h : masklaw1_pair.f k l0 a1_0 a1_1 a1_2 a2_0 a2_1 a2_2 a3 = some r) :
  Calls Tryd.prog 46 #[.slice A0 l0.length c0, .agg #[.int .i64 a1_0, .int .u64 a1_1, .int .u64 a1_2], .agg #[.int .i64 a2_0, .int .u64 a2_1, .int .u64 a2_2], .bool a3] w fun e w' => e = .returned (.bool r) ∧ Below w.heap.size w w' := by
 have hu24 := Tryd.underlying24
 have HR0 := Aside0.mk hr0
 have HC0 := Aside0.mk hc0
 clear hr0 hc0
 have HB := Aside0.mk (Below.refl w.heap.size w)
 have H : (masklaw1_pair.l0 k a3 l0 (l0.length : Int) 0 a1_0 a1_1 a1_2 a2_0 a2_1 a2_2) = some r := h
 clear h
 have H' := Aside0.mk H
 clear H
 go_enter Tryd.func46, Tryd.ntmps46
 go_wp2_with (first | ((with_reducible refine gate_dst (N := 5) rfl ?_); refine box_event ?hg (N := 5) ?hd (cs := #[.int .i64 a1_0, .int .u64 a1_1, .int .u64 a1_2]) (t := 24) ?hr ?_; (case hd => rfl); (case hg => rfl); (case hr => (go_simp; done)); intro gb1315 hg w5 hbox hb; have BK1315 := Aside0.mk (hbox); have GW1315 := ge1 HB hg; have GE1315 := ge1 HB hg; replace HB := hb1 HB hb; clear hb hbox hg) | ((with_reducible refine gate_dst (N := 6) rfl ?_); refine box_event ?hg (N := 6) ?hd (cs := #[.int .i64 a2_0, .int .u64 a2_1, .int .u64 a2_2]) (t := 24) ?hr ?_; (case hd => rfl); (case hg => rfl); (case hr => (go_simp; done)); intro gb1316 hg w6 hbox hb; have BK1316 := Aside0.mk (hbox); have GW1316 := ge1 HB hg; have GE1316 := ge1 HB hg; replace HB := hb1 HB hb; have NB1315_1316 := Aside0.mk ((by rw [hg]; exact Nat.ne_of_lt (blk_lt BK1315.out) : gb1315 ≠ gb1316)); have NB1316_1315 := Aside0.mk ((by rw [hg]; exact Nat.ne_of_gt (blk_lt BK1315.out) : gb1316 ≠ gb1315)); replace BK1315 := bk1 BK1315 hb; clear hb hbox hg))
 go_loopg [15] k (fun kq v15 w' => ∃ (x15_1 : Int), v15 = .int .i64 x15_1 ∧ Aside0 (masklaw1_pair.l0 kq a3 l0 (l0.length : Int) x15_1 a1_0 a1_1 a1_2 a2_0 a2_1 a2_2 = some r) ∧ Aside0 (kq ≤ k) ∧ Aside0 (w'.heap[gb1315]? = some (.cells #[.int .i64 a1_0, .int .u64 a1_1, .int .u64 a1_2] 24 (0, 0))) ∧ Aside0 (w'.heap[gb1316]? = some (.cells #[.int .i64 a2_0, .int .u64 a2_1, .int .u64 a2_2] 24 (0, 0))) ∧ Aside0 (Below w.heap.size w w'))
 case atStart => exact ⟨(0), (by rfl), H', ⟨Nat.le_refl _⟩, ⟨by exact BK1315.out⟩, ⟨by exact BK1316.out⟩, ⟨by repeat (with_reducible exact HB.out)⟩⟩
 case round =>
  clear H'
  obtain ⟨x15_1, rfl, HA, HK1, BK1315, BK1316, HB⟩ := hrel
  cases gk with
  | zero => exact absurd HA.out (by simp [masklaw1_pair.l0])
  | succ k1 =>
   have H := HA.out
   clear HA
   simp only [masklaw1_pair.l0] at H
   by_cases c7 : x15_1 < (l0.length : Int)
   ·rw [if_pos c7] at H
    have c7b0 : decide (x15_1 < (l0.length : Int)) = true := decide_eq_true c7
    clear c7
    by_cases c8 : 0 ≤ x15_1
    ·rw [if_pos c8] at H
     have c8b0 : decide (0 ≤ x15_1) = true := decide_eq_true c8
     clear c8
     by_cases c9 : x15_1 < (l0.length : Int)
     ·rw [if_pos c9] at H
      have c9b0 : decide (x15_1 < (l0.length : Int)) = true := decide_eq_true c9
      clear c9
      have HC10 := Aside0.mk H
      clear H
      have p1317 : 0 ≤ (x15_1 : Int) := of_decide_eq_true (by (with_reducible assumption))
      have q1317 : x15_1 < (l0.length : Int) := of_decide_eq_true (by (with_reducible assumption))
      obtain ⟨ad1317, e1317, hx1317_0⟩ := Kd.at_int HR0.out x15_1 p1317 q1317
      cases e1317
      replace hx1317_0 := (HB.out.cell (World.block_lt_of_cell? w _ hx1317_0)).trans hx1317_0
      replace p1317 := eq_true p1317
      replace q1317 := eq_true q1317
      go_upto_region 4 with (fail)
      go_cut [11] (fun v11 wc => ∃ (kq : Nat) (x11_9 : Bool), v11 = .bool x11_9 ∧ Aside0 (masklaw1_pair.j1 kq a3 (rd l0 x15_1) x11_9 l0 (l0.length : Int) x15_1 a1_0 a1_1 a1_2 a2_0 a2_1 a2_2 = some r) ∧ Aside0 (kq ≤ k1) ∧ Aside0 (wc.heap[gb1315]? = some (.cells #[.int .i64 a1_0, .int .u64 a1_1, .int .u64 a1_2] 24 (0, 0))) ∧ Aside0 (wc.heap[gb1316]? = some (.cells #[.int .i64 a2_0, .int .u64 a2_1, .int .u64 a2_2] 24 (0, 0))) ∧ Aside0 (Below w.heap.size w wc))
      case first =>
       have H := HC10.out
       clear HC10
       by_cases c11 : (rd l0 x15_1) = 11
       ·rw [if_pos c11] at H
        have c11b0 : ((rd l0 x15_1) == 11) = true := beq_iff_eq.mpr c11
        have c11b1 : ((rd l0 x15_1) != 11) = false := bne_eq_false_iff_eq.mpr c11
        clear c11
        (skip)
        have H' := Aside0.mk H
        clear H
        go_wp2
        go_meet
        case rel => exact ⟨_, (true), (by rfl), H', ⟨by have := HK1.out; omega⟩, ⟨by exact BK1315.out⟩, ⟨by exact BK1316.out⟩, ⟨by repeat (with_reducible exact HB.out)⟩⟩
       ·rw [if_neg c11] at H
        have c11b0 : ((rd l0 x15_1) == 11) = false := beq_eq_false_iff_ne.mpr c11
        have c11b1 : ((rd l0 x15_1) != 11) = true := bne_iff_ne.mpr c11
        (skip)
        by_cases c12 : (rd l0 x15_1) = 12
        ·rw [if_pos c12] at H
         have c12b0 : ((rd l0 x15_1) == 12) = true := beq_iff_eq.mpr c12
         have c12b1 : ((rd l0 x15_1) != 12) = false := bne_eq_false_iff_eq.mpr c12
         clear c12
         have H' := Aside0.mk H
         clear H
         go_wp2
         go_meet
         case rel => exact ⟨_, (true), (by rfl), H', ⟨by have := HK1.out; omega⟩, ⟨by exact BK1315.out⟩, ⟨by exact BK1316.out⟩, ⟨by repeat (with_reducible exact HB.out)⟩⟩
        ·rw [if_neg c12] at H
         have c12b0 : ((rd l0 x15_1) == 12) = false := beq_eq_false_iff_ne.mpr c12
         have c12b1 : ((rd l0 x15_1) != 12) = true := bne_iff_ne.mpr c12
         by_cases c13 : (rd l0 x15_1) = 21
         ·rw [if_pos c13] at H
          have c13b0 : ((rd l0 x15_1) == 21) = true := beq_iff_eq.mpr c13
          have c13b1 : ((rd l0 x15_1) != 21) = false := bne_eq_false_iff_eq.mpr c13
          clear c13
          have H' := Aside0.mk H
          clear H
          go_wp2
          go_meet
          case rel => exact ⟨_, (true), (by rfl), H', ⟨by have := HK1.out; omega⟩, ⟨by exact BK1315.out⟩, ⟨by exact BK1316.out⟩, ⟨by repeat (with_reducible exact HB.out)⟩⟩
         ·rw [if_neg c13] at H
          have c13b0 : ((rd l0 x15_1) == 21) = false := beq_eq_false_iff_ne.mpr c13
          have c13b1 : ((rd l0 x15_1) != 21) = true := bne_iff_ne.mpr c13
          by_cases c14 : (rd l0 x15_1) = 22
          ·rw [if_pos c14] at H
           have c14b0 : ((rd l0 x15_1) == 22) = true := beq_iff_eq.mpr c14
           have c14b1 : ((rd l0 x15_1) != 22) = false := bne_eq_false_iff_eq.mpr c14
           clear c14
           have H' := Aside0.mk H
           clear H
           go_wp2
           go_meet
           case rel => exact ⟨_, (true), (by rfl), H', ⟨by have := HK1.out; omega⟩, ⟨by exact BK1315.out⟩, ⟨by exact BK1316.out⟩, ⟨by repeat (with_reducible exact HB.out)⟩⟩
          ·rw [if_neg c14] at H
           have c14b0 : ((rd l0 x15_1) == 22) = false := beq_eq_false_iff_ne.mpr c14
           have c14b1 : ((rd l0 x15_1) != 22) = true := bne_iff_ne.mpr c14
           have H' := Aside0.mk H
           clear H
           go_wp2
           go_meet
           case rel => exact ⟨_, ((rd l0 x15_1) == 23), (by rfl), H', ⟨by have := HK1.out; omega⟩, ⟨by exact BK1315.out⟩, ⟨by exact BK1316.out⟩, ⟨by repeat (with_reducible exact HB.out)⟩⟩
      case rest =>
       clear HC10
       (try clear c7b0); (try clear c8b0); (try clear c9b0); (try clear hx1317_0); (try clear p1317); (try clear q1317)
       obtain ⟨kq, x11_9, rfl, HA, HJ9, BK1315, BK1316, HB⟩ := hcut
       cases kq with
       | zero => exact absurd HA.out (by simp [masklaw1_pair.j1])
       | succ kj9 =>
        have H := HA.out
        clear HA
        simp only [masklaw1_pair.j1] at H
        have HC15 := Aside0.mk H
        clear H
        go_upto_region 6 with (((with_reducible refine gate_dst (N := 12) rfl ?_); refine box_event ?hg (N := 12) ?hd (cs := #[.int .i64 0, .int .u64 0, .int .u64 0]) (t := 24) ?hr ?_; (case hd => rfl); (case hg => rfl); (case hr => (go_simp; done)); intro gb1318 hg w16 hbox hb; have BK1318 := Aside0.mk (hbox); have GW1318 := ge1 HB hg; have GE1318 := ge1 HB hg; replace HB := hb1 HB hb; have NB1315_1318 := Aside0.mk ((by rw [hg]; exact Nat.ne_of_lt (blk_lt BK1315.out) : gb1315 ≠ gb1318)); have NB1318_1315 := Aside0.mk ((by rw [hg]; exact Nat.ne_of_gt (blk_lt BK1315.out) : gb1318 ≠ gb1315)); replace BK1315 := bk1 BK1315 hb; have NB1316_1318 := Aside0.mk ((by rw [hg]; exact Nat.ne_of_lt (blk_lt BK1316.out) : gb1316 ≠ gb1318)); have NB1318_1316 := Aside0.mk ((by rw [hg]; exact Nat.ne_of_gt (blk_lt BK1316.out) : gb1318 ≠ gb1316)); replace BK1316 := bk1 BK1316 hb; clear hb hbox hg))
        (try simp only [Act.put, List.setIfInBounds_toArray, List.set_cons_zero, List.set_cons_succ])
        go_cut [52] (fun v52 wc => ∃ (kq : Nat) (x52_14 : Bool), v52 = .bool x52_14 ∧ Aside0 (masklaw1_pair.j2 kq a3 (rd l0 x15_1) l0 (l0.length : Int) x15_1 x52_14 a1_0 a1_1 a1_2 a2_0 a2_1 a2_2 0 0 0 = some r) ∧ Aside0 (kq ≤ kj9) ∧ Aside0 (wc.heap[gb1315]? = some (.cells #[.int .i64 a1_0, .int .u64 a1_1, .int .u64 a1_2] 24 (0, 0))) ∧ Aside0 (wc.heap[gb1316]? = some (.cells #[.int .i64 a2_0, .int .u64 a2_1, .int .u64 a2_2] 24 (0, 0))) ∧ Aside0 (wc.heap[gb1318]? = some (.cells #[.int .i64 0, .int .u64 0, .int .u64 0] 24 (0, 0))) ∧ Aside0 (Below w.heap.size w wc))
        case first =>
         have H := HC15.out
         clear HC15
         replace H := Option.bind_eq_some_iff.mp H
         obtain ⟨t1319, A170, H⟩ := H
         replace H : (if t1319 = true then ((maskref1_Valid.f kj9 a2_0 a2_1 a2_2).bind fun t1320 => (if t1320 = true then (if x11_9 = true then (masklaw1_pair.j2 kj9 a3 (rd l0 x15_1) l0 (l0.length : Int) x15_1 true a1_0 a1_1 a1_2 a2_0 a2_1 a2_2 0 0 0) else (masklaw1_pair.j2 kj9 a3 (rd l0 x15_1) l0 (l0.length : Int) x15_1 (a1_0 == a2_0) a1_0 a1_1 a1_2 a2_0 a2_1 a2_2 0 0 0)) else (masklaw1_pair.j2 kj9 a3 (rd l0 x15_1) l0 (l0.length : Int) x15_1 false a1_0 a1_1 a1_2 a2_0 a2_1 a2_2 0 0 0))) else (masklaw1_pair.j2 kj9 a3 (rd l0 x15_1) l0 (l0.length : Int) x15_1 false a1_0 a1_1 a1_2 a2_0 a2_1 a2_2 0 0 0)) = some r := H
         have A17 := Aside0.mk A170
         clear A170
         by_cases c18 : t1319 = true
         ·subst c18
          have H1 : ((maskref1_Valid.f kj9 a2_0 a2_1 a2_2).bind fun t1320 => (if t1320 = true then (if x11_9 = true then (masklaw1_pair.j2 kj9 a3 (rd l0 x15_1) l0 (l0.length : Int) x15_1 true a1_0 a1_1 a1_2 a2_0 a2_1 a2_2 0 0 0) else (masklaw1_pair.j2 kj9 a3 (rd l0 x15_1) l0 (l0.length : Int) x15_1 (a1_0 == a2_0) a1_0 a1_1 a1_2 a2_0 a2_1 a2_2 0 0 0)) else (masklaw1_pair.j2 kj9 a3 (rd l0 x15_1) l0 (l0.length : Int) x15_1 false a1_0 a1_1 a1_2 a2_0 a2_1 a2_2 0 0 0))) = some r := by rw [if_pos rfl] at H; exact H
          clear H
          have H := H1
          clear H1
          replace H := Option.bind_eq_some_iff.mp H
          obtain ⟨t1320, A190, H⟩ := H
          replace H : (if t1320 = true then (if x11_9 = true then (masklaw1_pair.j2 kj9 a3 (rd l0 x15_1) l0 (l0.length : Int) x15_1 true a1_0 a1_1 a1_2 a2_0 a2_1 a2_2 0 0 0) else (masklaw1_pair.j2 kj9 a3 (rd l0 x15_1) l0 (l0.length : Int) x15_1 (a1_0 == a2_0) a1_0 a1_1 a1_2 a2_0 a2_1 a2_2 0 0 0)) else (masklaw1_pair.j2 kj9 a3 (rd l0 x15_1) l0 (l0.length : Int) x15_1 false a1_0 a1_1 a1_2 a2_0 a2_1 a2_2 0 0 0)) = some r := H
          have A19 := Aside0.mk A190
          clear A190
          by_cases c20 : t1320 = true
          ·subst c20
           have H1 : (if x11_9 = true then (masklaw1_pair.j2 kj9 a3 (rd l0 x15_1) l0 (l0.length : Int) x15_1 true a1_0 a1_1 a1_2 a2_0 a2_1 a2_2 0 0 0) else (masklaw1_pair.j2 kj9 a3 (rd l0 x15_1) l0 (l0.length : Int) x15_1 (a1_0 == a2_0) a1_0 a1_1 a1_2 a2_0 a2_1 a2_2 0 0 0)) = some r := by rw [if_pos rfl] at H; exact H
           clear H
           have H := H1
           clear H1
           by_cases c21 : x11_9 = true
           ·subst c21
            have H1 : (masklaw1_pair.j2 kj9 a3 (rd l0 x15_1) l0 (l0.length : Int) x15_1 true a1_0 a1_1 a1_2 a2_0 a2_1 a2_2 0 0 0) = some r := by rw [if_pos rfl] at H; exact H
            clear H
            have H := H1
            clear H1
            have H' := Aside0.mk H
            clear H
            have hnb22 := NB1315_1316.out
            have hnc22 := NB1316_1315.out
            have hnb23 := NB1315_1318.out
            have hnc23 := NB1318_1315.out
            obtain ⟨hcz24_0, hcz24_1, hcz24_2⟩ := sq_cells3 (W := w16) (g := gb1315) BK1315.out; obtain ⟨hfz24_0, hfz24_1, hfz24_2⟩ := sq_frozen3 BK1315.out
            go_wp2_with (first | ((with_reducible refine gate_callee (f := 14) rfl ?_); refine goesL_ (some 38) rfl rfl Tryd.func14 (by kernel_rfl) rfl #[.agg #[.int .i64 a1_0, .int .u64 a1_1, .int .u64 a1_2]] rfl (by (try simp only [List.map_toArray, List.map_cons, List.map_nil]); rfl) ?_; (with_reducible refine (maskref1_Valid.calls kj9 a1_0 a1_1 a1_2 true _ A17.out).mono ?_); rintro e w25 ⟨rfl, hb⟩; refine ⟨_, rfl, ?_⟩; replace BK1315 := bk1 BK1315 hb; replace BK1316 := bk1 BK1316 hb; replace BK1318 := bk1 BK1318 hb; replace HB := hb1 HB hb; (try clear hb); have hnb26 := NB1316_1318.out; have hnc26 := NB1318_1316.out; have hcz27_0 : w25.cell? ⟨gb1316, 0, none⟩ = some (.int .i64 a2_0) := (blk_cell BK1316.out 0).trans rfl; have hcz27_1 : w25.cell? ⟨gb1316, 1, none⟩ = some (.int .u64 a2_1) := (blk_cell BK1316.out 1).trans rfl; have hcz27_2 : w25.cell? ⟨gb1316, 2, none⟩ = some (.int .u64 a2_2) := (blk_cell BK1316.out 2).trans rfl; have hfz27_0 := blk_frozen BK1316.out 0; have hfz27_1 := blk_frozen BK1316.out 1; have hfz27_2 := blk_frozen BK1316.out 2) | (go_at_call 14; (with_reducible refine (maskref1_Valid.calls kj9 a2_0 a2_1 a2_2 true _ A19.out).mono ?_); rintro e w28 ⟨rfl, hb⟩; replace BK1315 := bk1 BK1315 hb; replace BK1316 := bk1 BK1316 hb; replace BK1318 := bk1 BK1318 hb; replace HB := hb1 HB hb; (try clear hb)))
            go_meet
            case rel => exact ⟨_, (true), (by rfl), H', ⟨by have := HK1.out; have := HJ9.out; omega⟩, ⟨by exact BK1315.out⟩, ⟨by exact BK1316.out⟩, ⟨by exact BK1318.out⟩, ⟨by repeat (with_reducible exact HB.out)⟩⟩
           ·replace c21 := Bool.eq_false_iff.mpr c21
            subst c21
            have H1 : (masklaw1_pair.j2 kj9 a3 (rd l0 x15_1) l0 (l0.length : Int) x15_1 (a1_0 == a2_0) a1_0 a1_1 a1_2 a2_0 a2_1 a2_2 0 0 0) = some r := by rw [if_neg (show ¬ (false = true) by decide)] at H; exact H
            clear H
            have H := H1
            clear H1
            have H' := Aside0.mk H
            clear H
            have hnb29 := NB1315_1316.out
            have hnc29 := NB1316_1315.out
            have hnb30 := NB1315_1318.out
            have hnc30 := NB1318_1315.out
            obtain ⟨hcz31_0, hcz31_1, hcz31_2⟩ := sq_cells3 (W := w16) (g := gb1315) BK1315.out; obtain ⟨hfz31_0, hfz31_1, hfz31_2⟩ := sq_frozen3 BK1315.out
            go_wp2_with (first | ((with_reducible refine gate_callee (f := 14) rfl ?_); refine goesL_ (some 38) rfl rfl Tryd.func14 (by kernel_rfl) rfl #[.agg #[.int .i64 a1_0, .int .u64 a1_1, .int .u64 a1_2]] rfl (by (try simp only [List.map_toArray, List.map_cons, List.map_nil]); rfl) ?_; (with_reducible refine (maskref1_Valid.calls kj9 a1_0 a1_1 a1_2 true _ A17.out).mono ?_); rintro e w32 ⟨rfl, hb⟩; refine ⟨_, rfl, ?_⟩; replace BK1315 := bk1 BK1315 hb; replace BK1316 := bk1 BK1316 hb; replace BK1318 := bk1 BK1318 hb; replace HB := hb1 HB hb; (try clear hb); have hnb33 := NB1316_1318.out; have hnc33 := NB1318_1316.out; have hcz34_0 : w32.cell? ⟨gb1316, 0, none⟩ = some (.int .i64 a2_0) := (blk_cell BK1316.out 0).trans rfl; have hcz34_1 : w32.cell? ⟨gb1316, 1, none⟩ = some (.int .u64 a2_1) := (blk_cell BK1316.out 1).trans rfl; have hcz34_2 : w32.cell? ⟨gb1316, 2, none⟩ = some (.int .u64 a2_2) := (blk_cell BK1316.out 2).trans rfl; have hfz34_0 := blk_frozen BK1316.out 0; have hfz34_1 := blk_frozen BK1316.out 1; have hfz34_2 := blk_frozen BK1316.out 2) | (go_at_call 14; (with_reducible refine (maskref1_Valid.calls kj9 a2_0 a2_1 a2_2 true _ A19.out).mono ?_); rintro e w35 ⟨rfl, hb⟩; replace BK1315 := bk1 BK1315 hb; replace BK1316 := bk1 BK1316 hb; replace BK1318 := bk1 BK1318 hb; replace HB := hb1 HB hb; (try clear hb); have hcz36_0 : w35.cell? ⟨gb1315, 0, none⟩ = some (.int .i64 a1_0) := (blk_cell BK1315.out 0).trans rfl; have hcz36_1 : w35.cell? ⟨gb1315, 1, none⟩ = some (.int .u64 a1_1) := (blk_cell BK1315.out 1).trans rfl; have hcz36_2 : w35.cell? ⟨gb1315, 2, none⟩ = some (.int .u64 a1_2) := (blk_cell BK1315.out 2).trans rfl; have hfz36_0 := blk_frozen BK1315.out 0; have hfz36_1 := blk_frozen BK1315.out 1; have hfz36_2 := blk_frozen BK1315.out 2; have hcz37_0 : w35.cell? ⟨gb1316, 0, none⟩ = some (.int .i64 a2_0) := (blk_cell BK1316.out 0).trans rfl; have hcz37_1 : w35.cell? ⟨gb1316, 1, none⟩ = some (.int .u64 a2_1) := (blk_cell BK1316.out 1).trans rfl; have hcz37_2 : w35.cell? ⟨gb1316, 2, none⟩ = some (.int .u64 a2_2) := (blk_cell BK1316.out 2).trans rfl; have hfz37_0 := blk_frozen BK1316.out 0; have hfz37_1 := blk_frozen BK1316.out 1; have hfz37_2 := blk_frozen BK1316.out 2))
            go_meet
            case rel => exact ⟨_, (a1_0 == a2_0), (by rfl), H', ⟨by have := HK1.out; have := HJ9.out; omega⟩, ⟨by exact BK1315.out⟩, ⟨by exact BK1316.out⟩, ⟨by exact BK1318.out⟩, ⟨by repeat (with_reducible exact HB.out)⟩⟩
          ·replace c20 := Bool.eq_false_iff.mpr c20
           subst c20
           have H1 : (masklaw1_pair.j2 kj9 a3 (rd l0 x15_1) l0 (l0.length : Int) x15_1 false a1_0 a1_1 a1_2 a2_0 a2_1 a2_2 0 0 0) = some r := by rw [if_neg (show ¬ (false = true) by decide)] at H; exact H
           clear H
           have H := H1
           clear H1
           have H' := Aside0.mk H
           clear H
           have hnb38 := NB1315_1316.out
           have hnc38 := NB1316_1315.out
           have hnb39 := NB1315_1318.out
           have hnc39 := NB1318_1315.out
           obtain ⟨hcz40_0, hcz40_1, hcz40_2⟩ := sq_cells3 (W := w16) (g := gb1315) BK1315.out; obtain ⟨hfz40_0, hfz40_1, hfz40_2⟩ := sq_frozen3 BK1315.out
           go_wp2_with (first | ((with_reducible refine gate_callee (f := 14) rfl ?_); refine goesL_ (some 38) rfl rfl Tryd.func14 (by kernel_rfl) rfl #[.agg #[.int .i64 a1_0, .int .u64 a1_1, .int .u64 a1_2]] rfl (by (try simp only [List.map_toArray, List.map_cons, List.map_nil]); rfl) ?_; (with_reducible refine (maskref1_Valid.calls kj9 a1_0 a1_1 a1_2 true _ A17.out).mono ?_); rintro e w41 ⟨rfl, hb⟩; refine ⟨_, rfl, ?_⟩; replace BK1315 := bk1 BK1315 hb; replace BK1316 := bk1 BK1316 hb; replace BK1318 := bk1 BK1318 hb; replace HB := hb1 HB hb; (try clear hb); have hnb42 := NB1316_1318.out; have hnc42 := NB1318_1316.out; have hcz43_0 : w41.cell? ⟨gb1316, 0, none⟩ = some (.int .i64 a2_0) := (blk_cell BK1316.out 0).trans rfl; have hcz43_1 : w41.cell? ⟨gb1316, 1, none⟩ = some (.int .u64 a2_1) := (blk_cell BK1316.out 1).trans rfl; have hcz43_2 : w41.cell? ⟨gb1316, 2, none⟩ = some (.int .u64 a2_2) := (blk_cell BK1316.out 2).trans rfl; have hfz43_0 := blk_frozen BK1316.out 0; have hfz43_1 := blk_frozen BK1316.out 1; have hfz43_2 := blk_frozen BK1316.out 2) | (go_at_call 14; (with_reducible refine (maskref1_Valid.calls kj9 a2_0 a2_1 a2_2 false _ A19.out).mono ?_); rintro e w44 ⟨rfl, hb⟩; replace BK1315 := bk1 BK1315 hb; replace BK1316 := bk1 BK1316 hb; replace BK1318 := bk1 BK1318 hb; replace HB := hb1 HB hb; (try clear hb)))
           go_meet
           case rel => exact ⟨_, (false), (by rfl), H', ⟨by have := HK1.out; have := HJ9.out; omega⟩, ⟨by exact BK1315.out⟩, ⟨by exact BK1316.out⟩, ⟨by exact BK1318.out⟩, ⟨by repeat (with_reducible exact HB.out)⟩⟩
         ·replace c18 := Bool.eq_false_iff.mpr c18
          subst c18
          have H1 : (masklaw1_pair.j2 kj9 a3 (rd l0 x15_1) l0 (l0.length : Int) x15_1 false a1_0 a1_1 a1_2 a2_0 a2_1 a2_2 0 0 0) = some r := by rw [if_neg (show ¬ (false = true) by decide)] at H; exact H
          clear H
          have H := H1
          clear H1
          have H' := Aside0.mk H
          clear H
          have hnb45 := NB1315_1316.out
          have hnc45 := NB1316_1315.out
          have hnb46 := NB1315_1318.out
          have hnc46 := NB1318_1315.out
          obtain ⟨hcz47_0, hcz47_1, hcz47_2⟩ := sq_cells3 (W := w16) (g := gb1315) BK1315.out; obtain ⟨hfz47_0, hfz47_1, hfz47_2⟩ := sq_frozen3 BK1315.out
          go_wp2_with (((with_reducible refine gate_callee (f := 14) rfl ?_); refine goesL_ (some 38) rfl rfl Tryd.func14 (by kernel_rfl) rfl #[.agg #[.int .i64 a1_0, .int .u64 a1_1, .int .u64 a1_2]] rfl (by (try simp only [List.map_toArray, List.map_cons, List.map_nil]); rfl) ?_; (with_reducible refine (maskref1_Valid.calls kj9 a1_0 a1_1 a1_2 false _ A17.out).mono ?_); rintro e w48 ⟨rfl, hb⟩; refine ⟨_, rfl, ?_⟩; replace BK1315 := bk1 BK1315 hb; replace BK1316 := bk1 BK1316 hb; replace BK1318 := bk1 BK1318 hb; replace HB := hb1 HB hb; (try clear hb)))
          go_meet
          case rel => exact ⟨_, (false), (by rfl), H', ⟨by have := HK1.out; have := HJ9.out; omega⟩, ⟨by exact BK1315.out⟩, ⟨by exact BK1316.out⟩, ⟨by exact BK1318.out⟩, ⟨by repeat (with_reducible exact HB.out)⟩⟩
        case rest =>
         clear HC15
         obtain ⟨kq, x52_14, rfl, HA, HJ14, BK1315, BK1316, BK1318, HB⟩ := hcut
         cases kq with
         | zero => exact absurd HA.out (by simp [masklaw1_pair.j2])
         | succ kj14 =>
          have H := HA.out
          clear HA
          simp only [masklaw1_pair.j2] at H
          have HC49 := Aside0.mk H
          clear H
          go_upto_if 52 with (fail)
          go_cut [] (fun wc => ∃ (kq : Nat) (x1319000_48 : Int) (x1319001_48 : Int) (x1319002_48 : Int), Aside0 (masklaw1_pair.j3 kq a3 (rd l0 x15_1) l0 (l0.length : Int) x15_1 a1_0 a1_1 a1_2 a2_0 a2_1 a2_2 x1319000_48 x1319001_48 x1319002_48 = some r) ∧ Aside0 (kq ≤ kj14) ∧ Aside0 (wc.heap[gb1315]? = some (.cells #[.int .i64 a1_0, .int .u64 a1_1, .int .u64 a1_2] 24 (0, 0))) ∧ Aside0 (wc.heap[gb1316]? = some (.cells #[.int .i64 a2_0, .int .u64 a2_1, .int .u64 a2_2] 24 (0, 0))) ∧ Aside0 (wc.heap[gb1318]? = some (.cells #[.int .i64 x1319000_48, .int .u64 x1319001_48, .int .u64 x1319002_48] 24 (0, 0))) ∧ Aside0 (Below w.heap.size w wc))
          case first =>
           have H := HC49.out
           clear HC49
           by_cases c50 : x52_14 = true
           ·subst c50
            have H1 : ((maskref1_V.f kj14 a1_0 a1_1 a1_2).bind fun t1321 => ((maskref1_V.f kj14 a2_0 a2_1 a2_2).bind fun t1324 => ((maskref1_Binary.f kj14 (rd l0 x15_1) t1321 t1324 a3).bind fun t1327 => ((maskref1_B.f kj14 t1327).bind fun bt1330 => (masklaw1_pair.j3 kj14 a3 (rd l0 x15_1) l0 (l0.length : Int) x15_1 a1_0 a1_1 a1_2 a2_0 a2_1 a2_2 bt1330.1 bt1330.2.1 bt1330.2.2))))) = some r := by rw [if_pos rfl] at H; exact H
            clear H
            have H := H1
            clear H1
            replace H := Option.bind_eq_some_iff.mp H
            obtain ⟨t1321, A510, H⟩ := H
            replace H : ((maskref1_V.f kj14 a2_0 a2_1 a2_2).bind fun t1324 => ((maskref1_Binary.f kj14 (rd l0 x15_1) t1321 t1324 a3).bind fun t1327 => ((maskref1_B.f kj14 t1327).bind fun bt1330 => (masklaw1_pair.j3 kj14 a3 (rd l0 x15_1) l0 (l0.length : Int) x15_1 a1_0 a1_1 a1_2 a2_0 a2_1 a2_2 bt1330.1 bt1330.2.1 bt1330.2.2)))) = some r := H
            have A51 := Aside0.mk A510
            clear A510
            replace H := Option.bind_eq_some_iff.mp H
            obtain ⟨t1324, A520, H⟩ := H
            replace H : ((maskref1_Binary.f kj14 (rd l0 x15_1) t1321 t1324 a3).bind fun t1327 => ((maskref1_B.f kj14 t1327).bind fun bt1330 => (masklaw1_pair.j3 kj14 a3 (rd l0 x15_1) l0 (l0.length : Int) x15_1 a1_0 a1_1 a1_2 a2_0 a2_1 a2_2 bt1330.1 bt1330.2.1 bt1330.2.2))) = some r := H
            have A52 := Aside0.mk A520
            clear A520
            replace H := Option.bind_eq_some_iff.mp H
            obtain ⟨t1327, A530, H⟩ := H
            replace H : ((maskref1_B.f kj14 t1327).bind fun bt1330 => (masklaw1_pair.j3 kj14 a3 (rd l0 x15_1) l0 (l0.length : Int) x15_1 a1_0 a1_1 a1_2 a2_0 a2_1 a2_2 bt1330.1 bt1330.2.1 bt1330.2.2)) = some r := H
            have A53 := Aside0.mk A530
            clear A530
            replace H := Option.bind_eq_some_iff.mp H
            obtain ⟨⟨t1330, t1331, t1332⟩, A540, H⟩ := H
            replace H : (masklaw1_pair.j3 kj14 a3 (rd l0 x15_1) l0 (l0.length : Int) x15_1 a1_0 a1_1 a1_2 a2_0 a2_1 a2_2 t1330 t1331 t1332) = some r := H
            have A54 := Aside0.mk A540
            clear A540
            have H' := Aside0.mk H
            clear H
            try go_wp2
            replace BK1315 := bkd BK1315
            replace BK1316 := bkd BK1316
            replace BK1318 := bkd BK1318
            replace HB := hbd HB
            refine start_ (n := 9) (S := fun w' => w'.cell? ⟨gb1315, 0, none⟩ = some (.int .i64 a1_0) ∧ w'.cell? ⟨gb1315, 1, none⟩ = some (.int .u64 a1_1) ∧ w'.cell? ⟨gb1315, 2, none⟩ = some (.int .u64 a1_2) ∧ w'.cell? ⟨gb1316, 0, none⟩ = some (.int .i64 a2_0) ∧ w'.cell? ⟨gb1316, 1, none⟩ = some (.int .u64 a2_1) ∧ w'.cell? ⟨gb1316, 2, none⟩ = some (.int .u64 a2_2)) (ds := []) (tb 9 0) (by kernel_rfl) rfl (by kernel_rfl) (c3 BK1315 (d3 BK1316)) (fun hHeld => ?_); refine with_tabW masklaw1_pair.tab7 masklaw1_pair.bits7 (fun HT_ HW_ => ?_)
            generalize wc.drew = w55 at BK1315 BK1316 BK1318 HB hHeld ⊢
            refine pA 0 53 (tb 9 1) HT_ ?_
            refine pA 5 58 (tb 9 33) HT_ ?_
            refine tA 1 54 (tb 9 35) HT_ HW_ hHeld ?_
            refine tA 3 56 (tb 9 43) HT_ HW_ hHeld ?_
            refine oA 2 (some 55) (tb 9 47) HT_ (fun K hK => ?_)
            refine gA Tryd.func28 #[.agg #[.int .i64 a1_0, .int .u64 a1_1, .int .u64 a1_2]] ?_
            with_reducible refine (maskref1_V.calls kj14 a1_0 a1_1 a1_2 t1321 _ A51.out).mono ?_
            rintro e w56 ⟨v1322, rfl, ho0, hb⟩
            refine ⟨_, rfl, ?_⟩
            have HO1323 := Aside0.mk (Kd.R_lower ho0 (below_size HB.out))
            replace BK1315 := bk1 BK1315 hb
            replace BK1316 := bk1 BK1316 hb
            replace BK1318 := bk1 BK1318 hb
            replace HB := hb1 HB hb
            (try clear hb)
            (try clear ho0)
            refine hK.out _ _ (c3 BK1315 (d3 BK1316)) (fun hHeld => ?_)
            clear hK K
            refine nA ?_
            refine oA 4 (some 57) (tb 9 63) HT_ (fun K hK => ?_)
            refine gA Tryd.func28 #[.agg #[.int .i64 a2_0, .int .u64 a2_1, .int .u64 a2_2]] ?_
            with_reducible refine (maskref1_V.calls kj14 a2_0 a2_1 a2_2 t1324 _ A52.out).mono ?_
            rintro e w57 ⟨v1325, rfl, ho0, hb⟩
            refine ⟨_, rfl, ?_⟩
            have HO1326 := Aside0.mk (Kd.R_lower (Kd.R_new' ho0 (Kd.R_lt HO1323.out)) (below_size HB.out))
            replace HO1323 := Aside0.mk (Kd.R_elder' HO1323.out (Kd.R_base ho0) hb)
            replace BK1315 := bk1 BK1315 hb
            replace BK1316 := bk1 BK1316 hb
            replace BK1318 := bk1 BK1318 hb
            replace HB := hb1 HB hb
            (try clear hb)
            (try clear ho0)
            obtain ⟨Ao58, co58, eo58⟩ := Kd.R_slice HO1323.out
            (subst eo58)
            obtain ⟨Ao59, co59, eo59⟩ := Kd.R_slice HO1326.out
            (subst eo59)
            refine hK.out _ _ (c3 BK1315 (d3 BK1316)) (fun hHeld => ?_)
            clear hK K
            refine nA ?_
            refine oA 6 (some 59) (tb 9 127) HT_ (fun K hK => ?_)
            refine gA Tryd.func68 #[.int .i64 (rd l0 x15_1), .slice Ao58 t1321.length co58, .slice Ao59 t1324.length co59, .bool a3] ?_
            with_reducible refine (maskref1_Binary.calls kj14 (rd l0 x15_1) (fun k_ => some k_ = (.slice Ao58 t1321.length co58 : Value).ownBlock) (.slice Ao58 t1321.length co58) t1321 (fun k_ => some k_ = (.slice Ao59 t1324.length co59 : Value).ownBlock) (.slice Ao59 t1324.length co59) t1324 a3 t1327 w _ ?side1 ?side2 ?side3 ?side4 ?side5 A53.out).mono ?_
            (case side1 => repeat (with_reducible exact HB.out))
            (case side2 => exact Kd.R_tight rfl HO1323.out)
            (case side3 => exact fun k_ e_ => (HO1323.out.1 k_ e_.symm).2)
            (case side4 => exact Kd.R_tight rfl HO1326.out)
            (case side5 => exact fun k_ e_ => (HO1326.out.1 k_ e_.symm).2)
            rintro e w60 ⟨v1328, rfl, ho0, hb, hkp⟩
            refine ⟨_, rfl, ?_⟩
            replace BK1315 := Aside0.mk (blk_kept BK1315.out hkp (fun hs_ => Or.elim hs_ (fun e_ => (fun e_ => (Kd.R_ne HO1323.out BK1315.out (by decide)) e_) e_) (fun e_ => (fun e_ => (Kd.R_ne HO1326.out BK1315.out (by decide)) e_) e_)))
            replace BK1316 := Aside0.mk (blk_kept BK1316.out hkp (fun hs_ => Or.elim hs_ (fun e_ => (fun e_ => (Kd.R_ne HO1323.out BK1316.out (by decide)) e_) e_) (fun e_ => (fun e_ => (Kd.R_ne HO1326.out BK1316.out (by decide)) e_) e_)))
            replace BK1318 := Aside0.mk (blk_kept BK1318.out hkp (fun hs_ => Or.elim hs_ (fun e_ => (fun e_ => (Kd.R_ne HO1323.out BK1318.out (by decide)) e_) e_) (fun e_ => (fun e_ => (Kd.R_ne HO1326.out BK1318.out (by decide)) e_) e_)))
            have HO1329 := Aside0.mk (Kd.R_mono (ok' := fun k_ => True) ho0 (fun k_ hk_ => trivial))
            replace HB := Aside0.mk (hb)
            clear HO1323 HO1326
            (try clear hb)
            (try clear hkp)
            (try clear ho0)
            obtain ⟨Ao61, co61, eo61⟩ := Kd.R_slice HO1329.out
            (subst eo61)
            refine hK.out _ _ (c3 BK1315 (d3 BK1316)) (fun hHeld => ?_)
            clear hK K
            refine nA ?_
            refine oA 7 (some 60) (tb 9 255) HT_ (fun K hK => ?_)
            refine gA Tryd.func26 #[.slice Ao61 t1327.length co61] ?_
            with_reducible refine (maskref1_B.calls kj14 _ _ t1327 t1330 t1331 t1332 _ ?side1 ?side2 A54.out).mono ?_
            (case side1 => repeat (exact (Kd.R_reads' HO1329.out).2.2))
            (case side2 => exact (Kd.R_reads' HO1329.out).2.1)
            rintro e w62 ⟨rfl, hb⟩
            refine ⟨_, rfl, ?_⟩
            replace HO1329 := Kd.rb1 HO1329 hb
            replace BK1315 := bk1 BK1315 hb
            replace BK1316 := bk1 BK1316 hb
            replace BK1318 := bk1 BK1318 hb
            replace HB := hb1 HB hb
            (try clear hb)
            refine hK.out _ _ (c3 BK1315 (d3 BK1316)) (fun hHeld => ?_)
            clear hK K
            refine nA ?_
            refine oA 8 (none) (tb 9 511) HT_ (fun K hK => ?_)
            have hs63 : w62.cell? ⟨gb1318, 0, none⟩ = some (.int .i64 0) := (blk_cell BK1318.out 0).trans rfl
            have hfs63 := blk_frozen BK1318.out 0
            have hns63_0 := NB1315_1318.out
            have hns63_1 := NB1316_1318.out
            have hms63_0 := NB1318_1315.out
            have hms63_1 := NB1318_1316.out
            have hs64 : w62.cell? ⟨gb1318, 1, none⟩ = some (.int .u64 0) := (blk_cell BK1318.out 1).trans rfl
            have hfs64 := blk_frozen BK1318.out 1
            have hns64_0 := NB1315_1318.out
            have hns64_1 := NB1316_1318.out
            have hms64_0 := NB1318_1315.out
            have hms64_1 := NB1318_1316.out
            have hs65 : w62.cell? ⟨gb1318, 2, none⟩ = some (.int .u64 0) := (blk_cell BK1318.out 2).trans rfl
            have hfs65 := blk_frozen BK1318.out 2
            have hns65_0 := NB1315_1318.out
            have hns65_1 := NB1316_1318.out
            have hms65_0 := NB1318_1315.out
            have hms65_1 := NB1318_1316.out
            refine skip_ (w1 := ?_) (by rfl) rfl ?_ ?_
            rotate_left
            ·go_simp
             rfl
            refine hK.out _ _ ⟨((cell_far (p := ⟨gb1318, _, none⟩) NB1315_1318.out _).trans (((cell_far (p := ⟨gb1318, _, none⟩) NB1315_1318.out _).trans (((cell_far (p := ⟨gb1318, _, none⟩) NB1315_1318.out _).trans (hHeld.1)))))), ((cell_far (p := ⟨gb1318, _, none⟩) NB1315_1318.out _).trans (((cell_far (p := ⟨gb1318, _, none⟩) NB1315_1318.out _).trans (((cell_far (p := ⟨gb1318, _, none⟩) NB1315_1318.out _).trans (hHeld.2.1)))))), ((cell_far (p := ⟨gb1318, _, none⟩) NB1315_1318.out _).trans (((cell_far (p := ⟨gb1318, _, none⟩) NB1315_1318.out _).trans (((cell_far (p := ⟨gb1318, _, none⟩) NB1315_1318.out _).trans (hHeld.2.2.1)))))), ((cell_far (p := ⟨gb1318, _, none⟩) NB1316_1318.out _).trans (((cell_far (p := ⟨gb1318, _, none⟩) NB1316_1318.out _).trans (((cell_far (p := ⟨gb1318, _, none⟩) NB1316_1318.out _).trans (hHeld.2.2.2.1)))))), ((cell_far (p := ⟨gb1318, _, none⟩) NB1316_1318.out _).trans (((cell_far (p := ⟨gb1318, _, none⟩) NB1316_1318.out _).trans (((cell_far (p := ⟨gb1318, _, none⟩) NB1316_1318.out _).trans (hHeld.2.2.2.2.1)))))), ((cell_far (p := ⟨gb1318, _, none⟩) NB1316_1318.out _).trans (((cell_far (p := ⟨gb1318, _, none⟩) NB1316_1318.out _).trans (((cell_far (p := ⟨gb1318, _, none⟩) NB1316_1318.out _).trans (hHeld.2.2.2.2.2))))))⟩ (fun hHeld => ?_)
            clear hK K
            refine done_ (done_of HT_.out (by kernel_rfl)) ?_
            try go_wp2
            go_meet
            case rel => exact ⟨_, (t1330), (t1331), (t1332), H', ⟨by have := HK1.out; have := HJ9.out; have := HJ14.out; omega⟩, ⟨by refine blk_far ?_ NB1315_1318.out _; refine blk_far ?_ NB1315_1318.out _; refine blk_far ?_ NB1315_1318.out _; exact BK1315.out⟩, ⟨by refine blk_far ?_ NB1316_1318.out _; refine blk_far ?_ NB1316_1318.out _; refine blk_far ?_ NB1316_1318.out _; exact BK1316.out⟩, ⟨by refine blk_put (cs := #[.int .i64 t1330, .int .u64 t1331, .int .u64 0]) ?_ 2 _ rfl; refine blk_put (cs := #[.int .i64 t1330, .int .u64 0, .int .u64 0]) ?_ 1 _ rfl; refine blk_put (cs := #[.int .i64 0, .int .u64 0, .int .u64 0]) ?_ 0 _ rfl; exact BK1318.out⟩, ⟨by repeat (with_reducible first | exact HB.out | refine below_set ?_ GE1318.out)⟩⟩
           ·replace c50 := Bool.eq_false_iff.mpr c50
            subst c50
            have H1 : (masklaw1_pair.j3 kj14 a3 (rd l0 x15_1) l0 (l0.length : Int) x15_1 a1_0 a1_1 a1_2 a2_0 a2_1 a2_2 0 0 0) = some r := by rw [if_neg (show ¬ (false = true) by decide)] at H; exact H
            clear H
            have H := H1
            clear H1
            have H' := Aside0.mk H
            clear H
            go_wp2
            go_meet
            case rel => exact ⟨_, (0), (0), (0), H', ⟨by have := HK1.out; have := HJ9.out; have := HJ14.out; omega⟩, ⟨by exact BK1315.out⟩, ⟨by exact BK1316.out⟩, ⟨by exact BK1318.out⟩, ⟨by repeat (with_reducible exact HB.out)⟩⟩
          case rest =>
           clear HC49
           obtain ⟨kq, x1319000_48, x1319001_48, x1319002_48, HA, HJ48, BK1315, BK1316, BK1318, HB⟩ := hcut
           cases kq with
           | zero => exact absurd HA.out (by simp [masklaw1_pair.j3])
           | succ kj48 =>
            have H := HA.out
            clear HA
            simp only [masklaw1_pair.j3] at H
            replace H := Option.bind_eq_some_iff.mp H
            obtain ⟨⟨t1333, t1334, t1335⟩, A660, H⟩ := H
            replace H : (if (!(t1333 == x1319000_48) || (!(t1334 == x1319001_48) || (!(t1335 == x1319002_48)))) = true then (some false) else (masklaw1_pair.l0 kj48 a3 l0 (l0.length : Int) (wrap64 (x15_1 + 1)) a1_0 a1_1 a1_2 a2_0 a2_1 a2_2)) = some r := H
            have A66 := Aside0.mk A660
            clear A660
            by_cases c67 : (!(t1333 == x1319000_48) || (!(t1334 == x1319001_48) || (!(t1335 == x1319002_48)))) = true
            ·rw [if_pos c67] at H
             have c67b0 : (!(t1333 == x1319000_48) || (!(t1334 == x1319001_48) || (!(t1335 == x1319002_48)))) = true := c67
             clear c67
             obtain rfl := Option.some.inj H
             try go_wp2
             replace BK1315 := bkd BK1315
             replace BK1316 := bkd BK1316
             replace BK1318 := bkd BK1318
             replace HB := hbd HB
             refine start_ (n := 7) (S := fun w' => w'.cell? ⟨gb1315, 0, none⟩ = some (.int .i64 a1_0) ∧ w'.cell? ⟨gb1315, 1, none⟩ = some (.int .u64 a1_1) ∧ w'.cell? ⟨gb1315, 2, none⟩ = some (.int .u64 a1_2) ∧ w'.cell? ⟨gb1316, 0, none⟩ = some (.int .i64 a2_0) ∧ w'.cell? ⟨gb1316, 1, none⟩ = some (.int .u64 a2_1) ∧ w'.cell? ⟨gb1316, 2, none⟩ = some (.int .u64 a2_2) ∧ w'.cell? ⟨gb1318, 0, none⟩ = some (.int .i64 x1319000_48) ∧ w'.cell? ⟨gb1318, 1, none⟩ = some (.int .u64 x1319001_48) ∧ w'.cell? ⟨gb1318, 2, none⟩ = some (.int .u64 x1319002_48)) (ds := []) (tb 7 0) (by kernel_rfl) rfl (by kernel_rfl) (c3 BK1315 (c3 BK1316 (d3 BK1318))) (fun hHeld => ?_)
             generalize wc.drew = w68 at BK1315 BK1316 BK1318 HB hHeld ⊢
             refine pure_ (i := 0) (N := some 61) (v := ?_) (a' := ?_) #[true, false, false, false, false, false, false] rfl rfl (by kernel_rfl) (fun _ _ _ h => h) (Or.inl ⟨by rfl, ?_⟩) ?_ ?_
             rotate_left
             ·intro w'
              go_simp
              with_reducible rfl
             rotate_left
             ·simp only [Act.put, List.setIfInBounds_toArray, List.set_cons_zero, List.set_cons_succ, i64_w, i32_w]
              rfl
             refine pure_ (i := 3) (N := some 64) (v := ?_) (a' := ?_) #[true, false, false, true, false, false, false] rfl rfl (by kernel_rfl) (fun _ _ _ h => h) (Or.inl ⟨by rfl, ?_⟩) ?_ ?_
             rotate_left
             ·intro w'
              go_simp
              with_reducible rfl
             rotate_left
             ·simp only [Act.put, List.setIfInBounds_toArray, List.set_cons_zero, List.set_cons_succ, i64_w, i32_w]
              rfl
             refine take_ (i := 1) (N := some 62) (v := ?_) (a' := ?_) #[true, true, false, true, false, false, false] rfl rfl (by kernel_rfl) (fun _ _ _ h => h) (Or.inl ⟨by rfl, ?_⟩) hHeld ?_ ?_
             rotate_left
             ·rintro w' ⟨s0, s1, s2, s3, s4, s5, s6, s7, s8⟩
              go_simp
              with_reducible rfl
             rotate_left
             ·simp only [Act.put, List.setIfInBounds_toArray, List.set_cons_zero, List.set_cons_succ, i64_w, i32_w]
              rfl
             refine take_ (i := 2) (N := some 63) (v := ?_) (a' := ?_) #[true, true, true, true, false, false, false] rfl rfl (by kernel_rfl) (fun _ _ _ h => h) (Or.inl ⟨by rfl, ?_⟩) hHeld ?_ ?_
             rotate_left
             ·rintro w' ⟨s0, s1, s2, s3, s4, s5, s6, s7, s8⟩
              go_simp
              with_reducible rfl
             rotate_left
             ·simp only [Act.put, List.setIfInBounds_toArray, List.set_cons_zero, List.set_cons_succ, i64_w, i32_w]
              rfl
             refine take_ (i := 5) (N := some 66) (v := ?_) (a' := ?_) #[true, true, true, true, false, true, false] rfl rfl (by kernel_rfl) (fun _ _ _ h => h) (Or.inl ⟨by rfl, ?_⟩) hHeld ?_ ?_
             rotate_left
             ·rintro w' ⟨s0, s1, s2, s3, s4, s5, s6, s7, s8⟩
              go_simp
              with_reducible rfl
             rotate_left
             ·simp only [Act.put, List.setIfInBounds_toArray, List.set_cons_zero, List.set_cons_succ, i64_w, i32_w]
              rfl
             refine one_ (i := 4) (N := some 65) #[true, true, true, true, true, true, false] rfl rfl (by kernel_rfl) (by decide) (fun K hK => ?_)
             refine gA Tryd.func69 #[.int .i64 (rd l0 x15_1), .agg #[.int .i64 a1_0, .int .u64 a1_1, .int .u64 a1_2], .agg #[.int .i64 a2_0, .int .u64 a2_1, .int .u64 a2_2], .bool a3] ?_
             with_reducible refine (masklaw1_binary.calls kj48 (rd l0 x15_1) a1_0 a1_1 a1_2 a2_0 a2_1 a2_2 a3 t1333 t1334 t1335 _ A66.out).mono ?_
             rintro e w69 ⟨rfl, hb⟩
             refine ⟨_, rfl, ?_⟩
             replace BK1315 := bk1 BK1315 hb
             replace BK1316 := bk1 BK1316 hb
             replace BK1318 := bk1 BK1318 hb
             replace HB := hb1 HB hb
             (try clear hb)
             refine hK.out _ _ (c3 BK1315 (c3 BK1316 (d3 BK1318))) (fun hHeld => ?_)
             clear hK K
             refine nA ?_
             refine pure_ (i := 6) (N := some 67) (v := ?_) (a' := ?_) #[true, true, true, true, true, true, true] rfl rfl (by kernel_rfl) (fun _ _ _ h => h) (Or.inl ⟨by rfl, ?_⟩) ?_ ?_
             rotate_left
             ·intro w'
              go_simp
              with_reducible rfl
             rotate_left
             ·simp only [Act.put, List.setIfInBounds_toArray, List.set_cons_zero, List.set_cons_succ, i64_w, i32_w]
              rfl
             refine done_ (by kernel_rfl) ?_
             try go_wp2
             go_ret
             exact ⟨by rfl, by repeat (with_reducible exact HB.out)⟩
            ·rw [if_neg c67] at H
             have c67b0 : (!(t1333 == x1319000_48) || (!(t1334 == x1319001_48) || (!(t1335 == x1319002_48)))) = false := by simpa using c67
             clear c67
             have H' := Aside0.mk H
             clear H
             try go_wp2
             replace BK1315 := bkd BK1315
             replace BK1316 := bkd BK1316
             replace BK1318 := bkd BK1318
             replace HB := hbd HB
             refine start_ (n := 7) (S := fun w' => w'.cell? ⟨gb1315, 0, none⟩ = some (.int .i64 a1_0) ∧ w'.cell? ⟨gb1315, 1, none⟩ = some (.int .u64 a1_1) ∧ w'.cell? ⟨gb1315, 2, none⟩ = some (.int .u64 a1_2) ∧ w'.cell? ⟨gb1316, 0, none⟩ = some (.int .i64 a2_0) ∧ w'.cell? ⟨gb1316, 1, none⟩ = some (.int .u64 a2_1) ∧ w'.cell? ⟨gb1316, 2, none⟩ = some (.int .u64 a2_2) ∧ w'.cell? ⟨gb1318, 0, none⟩ = some (.int .i64 x1319000_48) ∧ w'.cell? ⟨gb1318, 1, none⟩ = some (.int .u64 x1319001_48) ∧ w'.cell? ⟨gb1318, 2, none⟩ = some (.int .u64 x1319002_48)) (ds := []) (tb 7 0) (by kernel_rfl) rfl (by kernel_rfl) (c3 BK1315 (c3 BK1316 (d3 BK1318))) (fun hHeld => ?_)
             generalize wc.drew = w70 at BK1315 BK1316 BK1318 HB hHeld ⊢
             refine pure_ (i := 0) (N := some 61) (v := ?_) (a' := ?_) #[true, false, false, false, false, false, false] rfl rfl (by kernel_rfl) (fun _ _ _ h => h) (Or.inl ⟨by rfl, ?_⟩) ?_ ?_
             rotate_left
             ·intro w'
              go_simp
              with_reducible rfl
             rotate_left
             ·simp only [Act.put, List.setIfInBounds_toArray, List.set_cons_zero, List.set_cons_succ, i64_w, i32_w]
              rfl
             refine pure_ (i := 3) (N := some 64) (v := ?_) (a' := ?_) #[true, false, false, true, false, false, false] rfl rfl (by kernel_rfl) (fun _ _ _ h => h) (Or.inl ⟨by rfl, ?_⟩) ?_ ?_
             rotate_left
             ·intro w'
              go_simp
              with_reducible rfl
             rotate_left
             ·simp only [Act.put, List.setIfInBounds_toArray, List.set_cons_zero, List.set_cons_succ, i64_w, i32_w]
              rfl
             refine take_ (i := 1) (N := some 62) (v := ?_) (a' := ?_) #[true, true, false, true, false, false, false] rfl rfl (by kernel_rfl) (fun _ _ _ h => h) (Or.inl ⟨by rfl, ?_⟩) hHeld ?_ ?_
             rotate_left
             ·rintro w' ⟨s0, s1, s2, s3, s4, s5, s6, s7, s8⟩
              go_simp
              with_reducible rfl
             rotate_left
             ·simp only [Act.put, List.setIfInBounds_toArray, List.set_cons_zero, List.set_cons_succ, i64_w, i32_w]
              rfl
             refine take_ (i := 2) (N := some 63) (v := ?_) (a' := ?_) #[true, true, true, true, false, false, false] rfl rfl (by kernel_rfl) (fun _ _ _ h => h) (Or.inl ⟨by rfl, ?_⟩) hHeld ?_ ?_
             rotate_left
             ·rintro w' ⟨s0, s1, s2, s3, s4, s5, s6, s7, s8⟩
              go_simp
              with_reducible rfl
             rotate_left
             ·simp only [Act.put, List.setIfInBounds_toArray, List.set_cons_zero, List.set_cons_succ, i64_w, i32_w]
              rfl
             refine take_ (i := 5) (N := some 66) (v := ?_) (a' := ?_) #[true, true, true, true, false, true, false] rfl rfl (by kernel_rfl) (fun _ _ _ h => h) (Or.inl ⟨by rfl, ?_⟩) hHeld ?_ ?_
             rotate_left
             ·rintro w' ⟨s0, s1, s2, s3, s4, s5, s6, s7, s8⟩
              go_simp
              with_reducible rfl
             rotate_left
             ·simp only [Act.put, List.setIfInBounds_toArray, List.set_cons_zero, List.set_cons_succ, i64_w, i32_w]
              rfl
             refine one_ (i := 4) (N := some 65) #[true, true, true, true, true, true, false] rfl rfl (by kernel_rfl) (by decide) (fun K hK => ?_)
             refine gA Tryd.func69 #[.int .i64 (rd l0 x15_1), .agg #[.int .i64 a1_0, .int .u64 a1_1, .int .u64 a1_2], .agg #[.int .i64 a2_0, .int .u64 a2_1, .int .u64 a2_2], .bool a3] ?_
             with_reducible refine (masklaw1_binary.calls kj48 (rd l0 x15_1) a1_0 a1_1 a1_2 a2_0 a2_1 a2_2 a3 t1333 t1334 t1335 _ A66.out).mono ?_
             rintro e w71 ⟨rfl, hb⟩
             refine ⟨_, rfl, ?_⟩
             replace BK1315 := bk1 BK1315 hb
             replace BK1316 := bk1 BK1316 hb
             replace BK1318 := bk1 BK1318 hb
             replace HB := hb1 HB hb
             (try clear hb)
             refine hK.out _ _ (c3 BK1315 (c3 BK1316 (d3 BK1318))) (fun hHeld => ?_)
             clear hK K
             refine nA ?_
             refine pure_ (i := 6) (N := some 67) (v := ?_) (a' := ?_) #[true, true, true, true, true, true, true] rfl rfl (by kernel_rfl) (fun _ _ _ h => h) (Or.inl ⟨by rfl, ?_⟩) ?_ ?_
             rotate_left
             ·intro w'
              go_simp
              with_reducible rfl
             rotate_left
             ·simp only [Act.put, List.setIfInBounds_toArray, List.set_cons_zero, List.set_cons_succ, i64_w, i32_w]
              rfl
             refine done_ (by kernel_rfl) ?_
             try go_wp2
             go_roundg kj48
             case measure => have := HK1.out; have := HJ9.out; have := HJ14.out; have := HJ48.out; omega
             case rel => exact ⟨(wrap64 (x15_1 + 1)), (by rfl), H', ⟨by have := HK1.out; have := HJ9.out; have := HJ14.out; have := HJ48.out; omega⟩, ⟨by exact BK1315.out⟩, ⟨by exact BK1316.out⟩, ⟨by repeat (with_reducible exact HB.out)⟩⟩
     ·rw [if_neg c9] at H
      exact absurd H (by simp)
    ·rw [if_neg c8] at H
     exact absurd H (by simp)
   ·rw [if_neg c7] at H
    have c7b0 : decide (x15_1 < (l0.length : Int)) = false := decide_eq_false c7
    clear c7
    obtain rfl := Option.some.inj H
    go_wp2
    go_ret
    exact ⟨by rfl, by repeat (with_reducible exact HB.out)⟩
end Go.Proofs.YtfigblfjogpojaaDoor.PShift
end
section
namespace Go.Proofs.YtfigblfjogpojaaDoor.PShift
open Go.Proofs.YtfigblfjogpojaaDoor.PBits
open Go.RowKit Go.Proofs.YtfigblfjogpojaaDoorW.PrintWords Go.Proofs.YtfigblfjogpojaaDoorW.PrintLast Go.Proofs.YtfigblfjogpojaaDoorW.PrintMore
attribute [local go_sem] max2_int min2_int max_two min_two max_three min_three max_four min_four
set_option linter.unusedVariables false
set_option linter.unusedSimpArgs false
def masklaw1_BitsShifted.f (k : Nat) (a0_0 : Int) (a0_1 : Int) (a0_2 : Int) (a1_0 : Int) (a1_1 : Int) (a1_2 : Int) : Option (Bool) := (masklaw1_vectors.f k).bind fun t1338 => (if t1338 = true then ((masklaw1_pair.f k (([21, 22, 23] : List Int)) a0_0 a0_1 a0_2 a1_0 a1_1 a1_2 false).bind fun t1342 => (some t1342)) else (some false))
set_option maxHeartbeats 8000000 in
set_option maxRecDepth 100000 in
theorem masklaw1_BitsShifted.calls (k : Nat) (a0_0 : Int) (a0_1 : Int) (a0_2 : Int) (a1_0 : Int) (a1_1 : Int) (a1_2 : Int) (r : Bool) (w : World) (h : masklaw1_BitsShifted.f k a0_0 a0_1 a0_2 a1_0 a1_1 a1_2 = some r) :
  Calls Tryd.prog 8 #[.agg #[.int .i64 a0_0, .int .u64 a0_1, .int .u64 a0_2], .agg #[.int .i64 a1_0, .int .u64 a1_1, .int .u64 a1_2]] w fun e w' => e = .returned (.bool r) ∧ Below w.heap.size w w' := by
 have hu24 := Tryd.underlying24
 have HB := Aside0.mk (Below.refl w.heap.size w)
 have H : ((masklaw1_vectors.f k).bind fun t1338 => (if t1338 = true then ((masklaw1_pair.f k ([21, 22, 23] : List Int) a0_0 a0_1 a0_2 a1_0 a1_1 a1_2 false).bind fun t1342 => (some t1342)) else (some false))) = some r := h
 clear h
 replace H := Option.bind_eq_some_iff.mp H
 obtain ⟨t1338, A30, H⟩ := H
 replace H : (if t1338 = true then ((masklaw1_pair.f k ([21, 22, 23] : List Int) a0_0 a0_1 a0_2 a1_0 a1_1 a1_2 false).bind fun t1342 => (some t1342)) else (some false)) = some r := H
 have A3 := Aside0.mk A30
 clear A30
 by_cases c4 : t1338 = true
 ·subst c4
  have H1 : ((masklaw1_pair.f k ([21, 22, 23] : List Int) a0_0 a0_1 a0_2 a1_0 a1_1 a1_2 false).bind fun t1342 => (some t1342)) = some r := by rw [if_pos rfl] at H; exact H
  clear H
  have H := H1
  clear H1
  obtain ⟨y1339, hy1339⟩ : ∃ y_ : List Int, y_ = ([21, 22, 23] : List Int) := ⟨_, rfl⟩
  replace H : ((masklaw1_pair.f k y1339 a0_0 a0_1 a0_2 a1_0 a1_1 a1_2 false).bind fun t1342 => (some t1342)) = some r := by (rw [hy1339]; with_reducible exact H)
  have Ny1339 := Aside0.mk hy1339
  clear hy1339
  replace H := Option.bind_eq_some_iff.mp H
  obtain ⟨t1342, A50, H⟩ := H
  replace H : (some t1342) = some r := H
  have A5 := Aside0.mk A50
  clear A50
  obtain rfl := Option.some.inj H
  go_enter Tryd.func8, Tryd.ntmps8
  go_wp2_with (first | ((with_reducible refine gate_dst (N := 2) rfl ?_); (try (refine gate_guard (by rfl) ?_; dsimp only)); refine box_event ?hg (N := 2) ?hd (cs := #[.int .i64 a0_0, .int .u64 a0_1, .int .u64 a0_2]) (t := 24) ?hr ?_; (case hd => rfl); (case hg => rfl); (case hr => (go_simp; done)); intro gb1336 hg w6 hbox hb; have BK1336 := Aside0.mk (hbox); have GW1336 := ge1 HB hg; have GE1336 := ge1 HB hg; replace HB := hb1 HB hb; clear hb hbox hg) | ((with_reducible refine gate_dst (N := 3) rfl ?_); (try (refine gate_guard (by rfl) ?_; dsimp only)); refine box_event ?hg (N := 3) ?hd (cs := #[.int .i64 a1_0, .int .u64 a1_1, .int .u64 a1_2]) (t := 24) ?hr ?_; (case hd => rfl); (case hg => rfl); (case hr => (go_simp; done)); intro gb1337 hg w7 hbox hb; have BK1337 := Aside0.mk (hbox); have GW1337 := ge1 HB hg; have GE1337 := ge1 HB hg; replace HB := hb1 HB hb; have NB1336_1337 := Aside0.mk ((by rw [hg]; exact Nat.ne_of_lt (blk_lt BK1336.out) : gb1336 ≠ gb1337)); have NB1337_1336 := Aside0.mk ((by rw [hg]; exact Nat.ne_of_gt (blk_lt BK1336.out) : gb1337 ≠ gb1336)); replace BK1336 := bk1 BK1336 hb; clear hb hbox hg) | ((with_reducible refine gate_callee (f := 11) rfl ?_); refine goesL_ (some 5) rfl rfl Tryd.func11 (by kernel_rfl) rfl #[] rfl (by (try simp only [List.map_toArray, List.map_cons, List.map_nil]); done) ?_; (with_reducible refine (masklaw1_vectors.calls k  true _ A3.out).mono ?_); rintro e w8 ⟨rfl, hb⟩; refine ⟨_, rfl, ?_⟩; replace BK1336 := bk1 BK1336 hb; replace BK1337 := bk1 BK1337 hb; replace HB := hb1 HB hb; (try clear hb)) | ((with_reducible refine gate_dst (N := 7) rfl ?_); (try (refine gate_guard (by rfl) ?_; dsimp only)); refine Kd.R_lit (Kd.int .i64) _ 3 ?hg (N := 7) ?hd (xs := ([21, 22, 23] : List Int)) (inner := [.int .i64 21, .int .i64 22, .int .i64 23]) (ok := fun _ => True) (okp := fun _ => True) ?hr ?hp (fun _ hk => hk) trivial (Below.refl _ _) (Nat.le_refl _) (by simp) ?_; (case hd => rfl); (case hg => rfl); (case hr => (go_simp; done)); (case hp => exact (Reps.one (show Kd.M (Kd.int .i64) _ _ _ 21 [.int .i64 21] from rfl) (Reps.one (show Kd.M (Kd.int .i64) _ _ _ 22 [.int .i64 22] from rfl) (Reps.one (show Kd.M (Kd.int .i64) _ _ _ 23 [.int .i64 23] from rfl) (Reps.none _ _))))); intro v1340 w9 ho10 hb hg_ hnew_; clear hg_ hnew_; (rw [← Ny1339.out] at ho10); have HO1341 := Aside0.mk (Kd.R_lower ho10 (below_size HB.out)); replace BK1336 := bk1 BK1336 hb; replace BK1337 := bk1 BK1337 hb; replace HB := hb1 HB hb; clear hb ho10; have hnb11 := NB1336_1337.out; have hnc11 := NB1337_1336.out; have hcz12_0 : w9.cell? ⟨gb1336, 0, none⟩ = some (.int .i64 a0_0) := (blk_cell BK1336.out 0).trans rfl; have hcz12_1 : w9.cell? ⟨gb1336, 1, none⟩ = some (.int .u64 a0_1) := (blk_cell BK1336.out 1).trans rfl; have hcz12_2 : w9.cell? ⟨gb1336, 2, none⟩ = some (.int .u64 a0_2) := (blk_cell BK1336.out 2).trans rfl; have hfz12_0 := blk_frozen BK1336.out 0; have hfz12_1 := blk_frozen BK1336.out 1; have hfz12_2 := blk_frozen BK1336.out 2; have hcz13_0 : w9.cell? ⟨gb1337, 0, none⟩ = some (.int .i64 a1_0) := (blk_cell BK1337.out 0).trans rfl; have hcz13_1 : w9.cell? ⟨gb1337, 1, none⟩ = some (.int .u64 a1_1) := (blk_cell BK1337.out 1).trans rfl; have hcz13_2 : w9.cell? ⟨gb1337, 2, none⟩ = some (.int .u64 a1_2) := (blk_cell BK1337.out 2).trans rfl; have hfz13_0 := blk_frozen BK1337.out 0; have hfz13_1 := blk_frozen BK1337.out 1; have hfz13_2 := blk_frozen BK1337.out 2; obtain ⟨Ao14, co14, eo14⟩ := Kd.R_slice HO1341.out; subst eo14) | (go_at_call 46; (with_reducible refine (masklaw1_pair.calls k _ _ y1339 a0_0 a0_1 a0_2 a1_0 a1_1 a1_2 false t1342 _ ?side1 ?side2 A5.out).mono ?_); (case side1 => repeat (exact (Kd.R_reads' HO1341.out).2.2)); (case side2 => exact (Kd.R_reads' HO1341.out).2.1); rintro e w15 ⟨rfl, hb⟩; replace HO1341 := Kd.rb1 HO1341 hb; replace BK1336 := bk1 BK1336 hb; replace BK1337 := bk1 BK1337 hb; replace HB := hb1 HB hb; (try clear hb)))
  go_ret
  exact ⟨by rfl, by repeat (with_reducible exact HB.out)⟩
 ·replace c4 := Bool.eq_false_iff.mpr c4
  subst c4
  have H1 : (some false) = some r := by rw [if_neg (show ¬ (false = true) by decide)] at H; exact H
  clear H
  have H := H1
  clear H1
  obtain rfl := Option.some.inj H
  go_enter Tryd.func8, Tryd.ntmps8
  go_wp2_with (first | ((with_reducible refine gate_dst (N := 2) rfl ?_); (try (refine gate_guard (by rfl) ?_; dsimp only)); refine box_event ?hg (N := 2) ?hd (cs := #[.int .i64 a0_0, .int .u64 a0_1, .int .u64 a0_2]) (t := 24) ?hr ?_; (case hd => rfl); (case hg => rfl); (case hr => (go_simp; done)); intro gb1336 hg w16 hbox hb; have BK1336 := Aside0.mk (hbox); have GW1336 := ge1 HB hg; have GE1336 := ge1 HB hg; replace HB := hb1 HB hb; clear hb hbox hg) | ((with_reducible refine gate_dst (N := 3) rfl ?_); (try (refine gate_guard (by rfl) ?_; dsimp only)); refine box_event ?hg (N := 3) ?hd (cs := #[.int .i64 a1_0, .int .u64 a1_1, .int .u64 a1_2]) (t := 24) ?hr ?_; (case hd => rfl); (case hg => rfl); (case hr => (go_simp; done)); intro gb1337 hg w17 hbox hb; have BK1337 := Aside0.mk (hbox); have GW1337 := ge1 HB hg; have GE1337 := ge1 HB hg; replace HB := hb1 HB hb; have NB1336_1337 := Aside0.mk ((by rw [hg]; exact Nat.ne_of_lt (blk_lt BK1336.out) : gb1336 ≠ gb1337)); have NB1337_1336 := Aside0.mk ((by rw [hg]; exact Nat.ne_of_gt (blk_lt BK1336.out) : gb1337 ≠ gb1336)); replace BK1336 := bk1 BK1336 hb; clear hb hbox hg) | ((with_reducible refine gate_callee (f := 11) rfl ?_); refine goesL_ (some 5) rfl rfl Tryd.func11 (by kernel_rfl) rfl #[] rfl (by (try simp only [List.map_toArray, List.map_cons, List.map_nil]); done) ?_; (with_reducible refine (masklaw1_vectors.calls k  false _ A3.out).mono ?_); rintro e w18 ⟨rfl, hb⟩; refine ⟨_, rfl, ?_⟩; replace BK1336 := bk1 BK1336 hb; replace BK1337 := bk1 BK1337 hb; replace HB := hb1 HB hb; (try clear hb)))
  go_ret
  exact ⟨by rfl, by repeat (with_reducible exact HB.out)⟩
end Go.Proofs.YtfigblfjogpojaaDoor.PShift
end
