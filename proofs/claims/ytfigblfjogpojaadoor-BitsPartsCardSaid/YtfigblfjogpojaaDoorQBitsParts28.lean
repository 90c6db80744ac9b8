/- Part 29 of the proof of BitsPartsCardSaid: The law BitsParts: for all arguments it returns true; each argument reads behind the call as it read before. Out of the plain theorem of YtfigblfjogpojaaDoorPureBitsParts and the printed contract. -/
import Derived.Test.YtfigblfjogpojaaDoorQBitsParts12
import Derived.Test.YtfigblfjogpojaaDoorQBitsParts23
import Derived.Test.YtfigblfjogpojaaDoorQBitsParts20
import Derived.Test.YtfigblfjogpojaaDoorQBitsParts26
import Derived.Test.YtfigblfjogpojaaDoorQBitsParts14
import Derived.Test.YtfigblfjogpojaaDoorQBitsParts18
import Derived.Test.YtfigblfjogpojaaDoorQBitsParts13
section
namespace Go.Proofs.YtfigblfjogpojaaDoor.PBits
open Go.RowKit Go.Proofs.YtfigblfjogpojaaDoorW.PrintWords Go.Proofs.YtfigblfjogpojaaDoorW.PrintLast Go.Proofs.YtfigblfjogpojaaDoorW.PrintMore
attribute [local go_sem] max2_int min2_int max_two min_two max_three min_three max_four min_four
set_option linter.unusedVariables false
set_option linter.unusedSimpArgs false
attribute [local go_sem high] eqA24
mutual
def masklaw1_BitsParts.j0 : Nat → Int → Int → Bool → Bool → Int → Int → Int → Int → Int → Int → Int → Int → Int → Int → Int → Int → Int → Int → Int → Int → Int → Int → Option (Bool)
 | 0, _, _, _, _, _, _, _, _, _, _, _, _, _, _, _, _, _, _, _, _, _, _ => none
 | k + 1, x2, x3, x4, x40, x568000, x568001, x568002, x569000, x569001, x569002, x571000, x571001, x571002, x572000, x572001, x572002, x573000, x573001, x573002, x574000, x574001, x574002 => if x40 = true then ((maskref1_V.f k x568000 x568001 x568002).bind fun t575 => (if 0 ≤ x2 then (if x2 ≤ (wrap64 (x2 + x3)) then (if (wrap64 (x2 + x3)) ≤ (t575.length : Int) then ((maskref1_B.f k ((t575.take ((wrap64 (x2 + x3)) : Int).toNat).drop (x2 : Int).toNat)).bind fun bt582 => (masklaw1_BitsParts.j1 k x2 x3 x4 x568000 x568001 x568002 x569000 x569001 x569002 bt582.1 bt582.2.1 bt582.2.2 x572000 x572001 x572002 x573000 x573001 x573002 x574000 x574001 x574002)) else (none)) else (none)) else (none))) else (masklaw1_BitsParts.j1 k x2 x3 x4 x568000 x568001 x568002 x569000 x569001 x569002 x571000 x571001 x571002 x572000 x572001 x572002 x573000 x573001 x573002 x574000 x574001 x574002)
def masklaw1_BitsParts.j1 : Nat → Int → Int → Bool → Int → Int → Int → Int → Int → Int → Int → Int → Int → Int → Int → Int → Int → Int → Int → Int → Int → Int → Option (Bool)
 | 0, _, _, _, _, _, _, _, _, _, _, _, _, _, _, _, _, _, _, _, _, _ => none
 | k + 1, x2, x3, x4, x568000, x568001, x568002, x569000, x569001, x569002, x571000, x571001, x571002, x572000, x572001, x572002, x573000, x573001, x573002, x574000, x574001, x574002 => (maskref1_Valid.f k x568000 x568001 x568002).bind fun t585 => (if t585 = true then ((maskref1_Valid.f k x569000 x569001 x569002).bind fun t586 => (masklaw1_BitsParts.j2 k x2 x3 x4 t586 x568000 x568001 x568002 x569000 x569001 x569002 x571000 x571001 x571002 x572000 x572001 x572002 x573000 x573001 x573002 x574000 x574001 x574002)) else (masklaw1_BitsParts.j2 k x2 x3 x4 false x568000 x568001 x568002 x569000 x569001 x569002 x571000 x571001 x571002 x572000 x572001 x572002 x573000 x573001 x573002 x574000 x574001 x574002))
def masklaw1_BitsParts.j2 : Nat → Int → Int → Bool → Bool → Int → Int → Int → Int → Int → Int → Int → Int → Int → Int → Int → Int → Int → Int → Int → Int → Int → Int → Option (Bool)
 | 0, _, _, _, _, _, _, _, _, _, _, _, _, _, _, _, _, _, _, _, _, _, _ => none
 | k + 1, x2, x3, x4, x54, x568000, x568001, x568002, x569000, x569001, x569002, x571000, x571001, x571002, x572000, x572001, x572002, x573000, x573001, x573002, x574000, x574001, x574002 => if x54 = true then ((maskref1_V.f k x568000 x568001 x568002).bind fun t587 => ((maskref1_V.f k x569000 x569001 x569002).bind fun t590 => ((maskref1_Placed.f k t587 (mx (-100) (mn x2 100)) t590).bind fun t593 => ((maskref1_B.f k t593).bind fun bt596 => (masklaw1_BitsParts.j3 k x2 x3 x4 x568000 x568001 x568002 x569000 x569001 x569002 x571000 x571001 x571002 x572000 x572001 x572002 bt596.1 bt596.2.1 bt596.2.2 x574000 x574001 x574002))))) else (masklaw1_BitsParts.j3 k x2 x3 x4 x568000 x568001 x568002 x569000 x569001 x569002 x571000 x571001 x571002 x572000 x572001 x572002 x573000 x573001 x573002 x574000 x574001 x574002)
def masklaw1_BitsParts.j3 : Nat → Int → Int → Bool → Int → Int → Int → Int → Int → Int → Int → Int → Int → Int → Int → Int → Int → Int → Int → Int → Int → Int → Option (Bool)
 | 0, _, _, _, _, _, _, _, _, _, _, _, _, _, _, _, _, _, _, _, _, _ => none
 | k + 1, x2, x3, x4, x568000, x568001, x568002, x569000, x569001, x569002, x571000, x571001, x571002, x572000, x572001, x572002, x573000, x573001, x573002, x574000, x574001, x574002 => (maskref1_Valid.f k x568000 x568001 x568002).bind fun t599 => (if t599 = true then (if x3 ≥ 1 then (masklaw1_BitsParts.j4 k x2 x3 x4 (decide (x3 ≤ 64)) x568000 x568001 x568002 x569000 x569001 x569002 x571000 x571001 x571002 x572000 x572001 x572002 x573000 x573001 x573002 x574000 x574001 x574002) else (masklaw1_BitsParts.j4 k x2 x3 x4 false x568000 x568001 x568002 x569000 x569001 x569002 x571000 x571001 x571002 x572000 x572001 x572002 x573000 x573001 x573002 x574000 x574001 x574002)) else (masklaw1_BitsParts.j4 k x2 x3 x4 false x568000 x568001 x568002 x569000 x569001 x569002 x571000 x571001 x571002 x572000 x572001 x572002 x573000 x573001 x573002 x574000 x574001 x574002))
def masklaw1_BitsParts.j4 : Nat → Int → Int → Bool → Bool → Int → Int → Int → Int → Int → Int → Int → Int → Int → Int → Int → Int → Int → Int → Int → Int → Int → Int → Option (Bool)
 | 0, _, _, _, _, _, _, _, _, _, _, _, _, _, _, _, _, _, _, _, _, _, _ => none
 | k + 1, x2, x3, x4, x73, x568000, x568001, x568002, x569000, x569001, x569002, x571000, x571001, x571002, x572000, x572001, x572002, x573000, x573001, x573002, x574000, x574001, x574002 => if x73 = true then ((maskref1_V.f k x568000 x568001 x568002).bind fun t600 => ((maskref1_Stretched.f k t600 x3 x4).bind fun t603 => ((maskref1_B.f k t603).bind fun bt606 => ((maskref1_Valid.f k x569000 x569001 x569002).bind fun t609 => (if t609 = true then ((maskref1_Fill.f k x3 120).bind fun t610 => ((maskref1_B.f k t610).bind fun bt613 => ((maskref1_V.f k x569000 x569001 x569002).bind fun t616 => ((maskref1_Known.f k t616).bind fun t619 => (if t619 = true then ((maskref1_V.f k x568000 x568001 x568002).bind fun t620 => ((maskref1_V.f k x569000 x569001 x569002).bind fun t623 => ((maskref1_Offset.f k t623 x4).bind fun t626 => ((maskref1_Window.f k t620 t626 x3).bind fun t627 => ((maskref1_B.f k t627).bind fun bt630 => (masklaw1_BitsParts.j5 k x2 x3 x4 x568000 x568001 x568002 x569000 x569001 x569002 x571000 x571001 x571002 bt630.1 bt630.2.1 bt630.2.2 x573000 x573001 x573002 bt606.1 bt606.2.1 bt606.2.2)))))) else (masklaw1_BitsParts.j5 k x2 x3 x4 x568000 x568001 x568002 x569000 x569001 x569002 x571000 x571001 x571002 bt613.1 bt613.2.1 bt613.2.2 x573000 x573001 x573002 bt606.1 bt606.2.1 bt606.2.2)))))) else (masklaw1_BitsParts.j5 k x2 x3 x4 x568000 x568001 x568002 x569000 x569001 x569002 x571000 x571001 x571002 x572000 x572001 x572002 x573000 x573001 x573002 bt606.1 bt606.2.1 bt606.2.2)))))) else (masklaw1_BitsParts.j5 k x2 x3 x4 x568000 x568001 x568002 x569000 x569001 x569002 x571000 x571001 x571002 x572000 x572001 x572002 x573000 x573001 x573002 x574000 x574001 x574002)
def masklaw1_BitsParts.j5 : Nat → Int → Int → Bool → Int → Int → Int → Int → Int → Int → Int → Int → Int → Int → Int → Int → Int → Int → Int → Int → Int → Int → Option (Bool)
 | 0, _, _, _, _, _, _, _, _, _, _, _, _, _, _, _, _, _, _, _, _, _ => none
 | k + 1, x2, x3, x4, x568000, x568001, x568002, x569000, x569001, x569002, x571000, x571001, x571002, x572000, x572001, x572002, x573000, x573001, x573002, x574000, x574001, x574002 => (bits_Slice.f k x568000 x568001 x568002 x2 x3).bind fun bt633 => (if (bt633.1 == x571000 && (bt633.2.1 == x571001 && (bt633.2.2 == x571002))) = true then ((bits_Part.f k x568000 x568001 x568002 x569000 x569001 x569002 x4 x3).bind fun bt636 => (if (bt636.1 == x572000 && (bt636.2.1 == x572001 && (bt636.2.2 == x572002))) = true then ((bits_Put.f k x568000 x568001 x568002 x2 x569000 x569001 x569002).bind fun bt639 => (if (bt639.1 == x573000 && (bt639.2.1 == x573001 && (bt639.2.2 == x573002))) = true then ((bits_Resize.f k x568000 x568001 x568002 x3 x4).bind fun bt642 => (some (bt642.1 == x574000 && (bt642.2.1 == x574001 && (bt642.2.2 == x574002))))) else (some false))) else (some false))) else (some false))
end
def masklaw1_BitsParts.f (k : Nat) (a0_0 : Int) (a0_1 : Int) (a0_2 : Int) (a1_0 : Int) (a1_1 : Int) (a1_2 : Int) (a2 : Int) (a3 : Int) (a4 : Bool) : Option (Bool) := (masklaw1_vectors.f k).bind fun t569 => (if t569 = true then ((maskref1_Valid.f k a0_0 a0_1 a0_2).bind fun t574 => (if t574 = true then (if a2 ≥ 0 then (if a2 < a0_0 then (if a3 ≥ 1 then (masklaw1_BitsParts.j0 k a2 a3 a4 (decide (a3 ≤ (wrap64 (a0_0 - a2)))) a0_0 a0_1 a0_2 a1_0 a1_1 a1_2 0 0 0 0 0 0 0 0 0 0 0 0) else (masklaw1_BitsParts.j0 k a2 a3 a4 false a0_0 a0_1 a0_2 a1_0 a1_1 a1_2 0 0 0 0 0 0 0 0 0 0 0 0)) else (masklaw1_BitsParts.j0 k a2 a3 a4 false a0_0 a0_1 a0_2 a1_0 a1_1 a1_2 0 0 0 0 0 0 0 0 0 0 0 0)) else (masklaw1_BitsParts.j0 k a2 a3 a4 false a0_0 a0_1 a0_2 a1_0 a1_1 a1_2 0 0 0 0 0 0 0 0 0 0 0 0)) else (masklaw1_BitsParts.j0 k a2 a3 a4 false a0_0 a0_1 a0_2 a1_0 a1_1 a1_2 0 0 0 0 0 0 0 0 0 0 0 0))) else (some false))
def masklaw1_BitsParts.T7 : Bool × List (List Nat × List Nat) := (true, [([], []), ([0], [0]), ([], []), ([2], [2]), ([3], [3]), ([], []), ([5, 1], [5]), ([1, 4, 6, 6], [1, 4, 6]), ([7, 7], [7]), ([8, 8, 0, 1, 2, 3, 4, 5, 6, 7, 8], [8])])
def masklaw1_BitsParts.B7 : List Nat := [0, 1, 0, 4, 12, 0, 35, 127, 255, 511]
theorem masklaw1_BitsParts.tab7 : rtab .any (opsOf Tryd.f6 7) = masklaw1_BitsParts.T7 := by kernel_rfl
theorem masklaw1_BitsParts.bits7 : waitsOk masklaw1_BitsParts.T7.2 masklaw1_BitsParts.B7 = true := by kernel_rfl
def masklaw1_BitsParts.T13 : Bool × List (List Nat × List Nat) := (true, [([], []), ([0], [0]), ([], []), ([2, 1], [2]), ([], []), ([3, 4, 3], [3, 4]), ([], []), ([1, 5, 6, 5], [1, 5, 6]), ([7, 7], [7]), ([8, 8, 0, 1, 2, 3, 4, 5, 6, 7, 8], [8])])
def masklaw1_BitsParts.B13 : List Nat := [0, 1, 0, 7, 0, 31, 0, 127, 255, 511]
theorem masklaw1_BitsParts.tab13 : rtab .any (opsOf Tryd.f6 13) = masklaw1_BitsParts.T13 := by kernel_rfl
theorem masklaw1_BitsParts.bits13 : waitsOk masklaw1_BitsParts.T13.2 masklaw1_BitsParts.B13 = true := by kernel_rfl
def masklaw1_BitsParts.T14 : Bool × List (List Nat × List Nat) := (true, [([], []), ([], []), ([], []), ([0, 1, 2], [0, 1, 2]), ([], []), ([3, 4], [3, 4]), ([5, 3], [5]), ([6], [6]), ([6], [6]), ([6], [6]), ([6], [6]), ([7, 8, 9, 10, 6, 6], [6, 7, 8, 9, 10]), ([6], [6]), ([11, 12, 6], [6, 11, 12]), ([6, 13], [6, 13]), ([14, 11], [14]), ([15], [15]), ([15], [15]), ([15], [15]), ([16, 17, 18, 15, 15], [15, 16, 17, 18]), ([15], [15]), ([19, 20, 15], [15, 19, 20]), ([15, 21], [15, 21]), ([22, 19], [22]), ([23], [23]), ([23], [23]), ([23], [23]), ([24, 25, 26, 23, 23], [23, 24, 25, 26]), ([23], [23]), ([27, 28, 23], [23, 27, 28]), ([23, 29], [23, 29]), ([30, 27, 0, 1, 2, 3, 4, 5, 6, 7, 8, 9, 10, 11, 12, 13, 14, 15, 16, 17, 18, 19, 20, 21, 22, 23, 24, 25, 26, 27, 28, 29, 30], [30])])
def masklaw1_BitsParts.B14 : List Nat := [0, 0, 0, 7, 0, 31, 63, 127, 127, 127, 127, 2047, 127, 8191, 16383, 32767, 65535, 65535, 65535, 524287, 65535, 2097151, 4194303, 8388607, 16777215, 16777215, 16777215, 134217727, 16777215, 536870911, 1073741823, 2147483647]
theorem masklaw1_BitsParts.tab14 : rtab .any (opsOf Tryd.f6 14) = masklaw1_BitsParts.T14 := by kernel_rfl
theorem masklaw1_BitsParts.bits14 : waitsOk masklaw1_BitsParts.T14.2 masklaw1_BitsParts.B14 = true := by kernel_rfl
set_option maxHeartbeats 8000000 in
set_option maxRecDepth 100000 in
theorem masklaw1_BitsParts.calls (k : Nat) (a0_0 : Int) (a0_1 : Int) (a0_2 : Int) (a1_0 : Int) (a1_1 : Int) (a1_2 : Int) (a2 : Int) (a3 : Int) (a4 : Bool) (r : Bool) (w : World) (h : masklaw1_BitsParts.f k a0_0 a0_1 a0_2 a1_0 a1_1 a1_2 a2 a3 a4 = some r) :
  Calls Tryd.prog 6 #[.agg #[.int .i64 a0_0, .int .u64 a0_1, .int .u64 a0_2], .agg #[.int .i64 a1_0, .int .u64 a1_1, .int .u64 a1_2], .int .i64 a2, .int .i64 a3, .bool a4] w fun e w' => e = .returned (.bool r) ∧ Below w.heap.size w w' := by
 have hu24 := Tryd.underlying24
 have HB := Aside0.mk (Below.refl w.heap.size w)
 have H : ((masklaw1_vectors.f k).bind fun t569 => (if t569 = true then ((maskref1_Valid.f k a0_0 a0_1 a0_2).bind fun t574 => (if t574 = true then (if a2 ≥ 0 then (if a2 < a0_0 then (if a3 ≥ 1 then (masklaw1_BitsParts.j0 k a2 a3 a4 (decide (a3 ≤ (wrap64 (a0_0 - a2)))) a0_0 a0_1 a0_2 a1_0 a1_1 a1_2 0 0 0 0 0 0 0 0 0 0 0 0) else (masklaw1_BitsParts.j0 k a2 a3 a4 false a0_0 a0_1 a0_2 a1_0 a1_1 a1_2 0 0 0 0 0 0 0 0 0 0 0 0)) else (masklaw1_BitsParts.j0 k a2 a3 a4 false a0_0 a0_1 a0_2 a1_0 a1_1 a1_2 0 0 0 0 0 0 0 0 0 0 0 0)) else (masklaw1_BitsParts.j0 k a2 a3 a4 false a0_0 a0_1 a0_2 a1_0 a1_1 a1_2 0 0 0 0 0 0 0 0 0 0 0 0)) else (masklaw1_BitsParts.j0 k a2 a3 a4 false a0_0 a0_1 a0_2 a1_0 a1_1 a1_2 0 0 0 0 0 0 0 0 0 0 0 0))) else (some false))) = some r := h
 clear h
 replace H := Option.bind_eq_some_iff.mp H
 obtain ⟨t569, A60, H⟩ := H
 replace H : (if t569 = true then ((maskref1_Valid.f k a0_0 a0_1 a0_2).bind fun t574 => (if t574 = true then (if a2 ≥ 0 then (if a2 < a0_0 then (if a3 ≥ 1 then (masklaw1_BitsParts.j0 k a2 a3 a4 (decide (a3 ≤ (wrap64 (a0_0 - a2)))) a0_0 a0_1 a0_2 a1_0 a1_1 a1_2 0 0 0 0 0 0 0 0 0 0 0 0) else (masklaw1_BitsParts.j0 k a2 a3 a4 false a0_0 a0_1 a0_2 a1_0 a1_1 a1_2 0 0 0 0 0 0 0 0 0 0 0 0)) else (masklaw1_BitsParts.j0 k a2 a3 a4 false a0_0 a0_1 a0_2 a1_0 a1_1 a1_2 0 0 0 0 0 0 0 0 0 0 0 0)) else (masklaw1_BitsParts.j0 k a2 a3 a4 false a0_0 a0_1 a0_2 a1_0 a1_1 a1_2 0 0 0 0 0 0 0 0 0 0 0 0)) else (masklaw1_BitsParts.j0 k a2 a3 a4 false a0_0 a0_1 a0_2 a1_0 a1_1 a1_2 0 0 0 0 0 0 0 0 0 0 0 0))) else (some false)) = some r := H
 have A6 := Aside0.mk A60
 clear A60
 by_cases c7 : t569 = true
 ·subst c7
  have H1 : ((maskref1_Valid.f k a0_0 a0_1 a0_2).bind fun t574 => (if t574 = true then (if a2 ≥ 0 then (if a2 < a0_0 then (if a3 ≥ 1 then (masklaw1_BitsParts.j0 k a2 a3 a4 (decide (a3 ≤ (wrap64 (a0_0 - a2)))) a0_0 a0_1 a0_2 a1_0 a1_1 a1_2 0 0 0 0 0 0 0 0 0 0 0 0) else (masklaw1_BitsParts.j0 k a2 a3 a4 false a0_0 a0_1 a0_2 a1_0 a1_1 a1_2 0 0 0 0 0 0 0 0 0 0 0 0)) else (masklaw1_BitsParts.j0 k a2 a3 a4 false a0_0 a0_1 a0_2 a1_0 a1_1 a1_2 0 0 0 0 0 0 0 0 0 0 0 0)) else (masklaw1_BitsParts.j0 k a2 a3 a4 false a0_0 a0_1 a0_2 a1_0 a1_1 a1_2 0 0 0 0 0 0 0 0 0 0 0 0)) else (masklaw1_BitsParts.j0 k a2 a3 a4 false a0_0 a0_1 a0_2 a1_0 a1_1 a1_2 0 0 0 0 0 0 0 0 0 0 0 0))) = some r := by rw [if_pos rfl] at H; exact H
  clear H
  have H := H1
  clear H1
  have HC8 := Aside0.mk H
  clear H
  go_enter Tryd.func6, Tryd.ntmps6
  go_upto_region 4 with (first | ((with_reducible refine gate_dst (N := 5) rfl ?_); refine box_event ?hg (N := 5) ?hd (cs := #[.int .i64 a0_0, .int .u64 a0_1, .int .u64 a0_2]) (t := 24) ?hr ?_; (case hd => rfl); (case hg => rfl); (case hr => (go_simp; done)); intro gb567 hg w9 hbox hb; have BK567 := Aside0.mk (hbox); have GW567 := ge1 HB hg; have GE567 := ge1 HB hg; replace HB := hb1 HB hb; clear hb hbox hg) | ((with_reducible refine gate_dst (N := 6) rfl ?_); refine box_event ?hg (N := 6) ?hd (cs := #[.int .i64 a1_0, .int .u64 a1_1, .int .u64 a1_2]) (t := 24) ?hr ?_; (case hd => rfl); (case hg => rfl); (case hr => (go_simp; done)); intro gb568 hg w10 hbox hb; have BK568 := Aside0.mk (hbox); have GW568 := ge1 HB hg; have GE568 := ge1 HB hg; replace HB := hb1 HB hb; have NB567_568 := Aside0.mk ((by rw [hg]; exact Nat.ne_of_lt (blk_lt BK567.out) : gb567 ≠ gb568)); have NB568_567 := Aside0.mk ((by rw [hg]; exact Nat.ne_of_gt (blk_lt BK567.out) : gb568 ≠ gb567)); replace BK567 := bk1 BK567 hb; clear hb hbox hg) | ((with_reducible refine gate_callee (f := 11) rfl ?_); refine goesL_ (some 15) rfl rfl Tryd.func11 (by kernel_rfl) rfl #[] rfl (by (try simp only [List.map_toArray, List.map_cons, List.map_nil]); done) ?_; (with_reducible refine (masklaw1_vectors.calls k  true _ A6.out).mono ?_); rintro e w11 ⟨rfl, hb⟩; refine ⟨_, rfl, ?_⟩; replace BK567 := bk1 BK567 hb; replace BK568 := bk1 BK568 hb; replace HB := hb1 HB hb; (try clear hb)) | ((with_reducible refine gate_dst (N := 11) rfl ?_); refine box_event ?hg (N := 11) ?hd (cs := #[.int .i64 0, .int .u64 0, .int .u64 0]) (t := 24) ?hr ?_; (case hd => rfl); (case hg => rfl); (case hr => (go_simp; done)); intro gb570 hg w12 hbox hb; have BK570 := Aside0.mk (hbox); have GW570 := ge1 HB hg; have GE570 := ge1 HB hg; replace HB := hb1 HB hb; have NB567_570 := Aside0.mk ((by rw [hg]; exact Nat.ne_of_lt (blk_lt BK567.out) : gb567 ≠ gb570)); have NB570_567 := Aside0.mk ((by rw [hg]; exact Nat.ne_of_gt (blk_lt BK567.out) : gb570 ≠ gb567)); replace BK567 := bk1 BK567 hb; have NB568_570 := Aside0.mk ((by rw [hg]; exact Nat.ne_of_lt (blk_lt BK568.out) : gb568 ≠ gb570)); have NB570_568 := Aside0.mk ((by rw [hg]; exact Nat.ne_of_gt (blk_lt BK568.out) : gb570 ≠ gb568)); replace BK568 := bk1 BK568 hb; clear hb hbox hg) | ((with_reducible refine gate_dst (N := 12) rfl ?_); refine box_event ?hg (N := 12) ?hd (cs := #[.int .i64 0, .int .u64 0, .int .u64 0]) (t := 24) ?hr ?_; (case hd => rfl); (case hg => rfl); (case hr => (go_simp; done)); intro gb571 hg w13 hbox hb; have BK571 := Aside0.mk (hbox); have GW571 := ge1 HB hg; have GE571 := ge1 HB hg; replace HB := hb1 HB hb; have NB567_571 := Aside0.mk ((by rw [hg]; exact Nat.ne_of_lt (blk_lt BK567.out) : gb567 ≠ gb571)); have NB571_567 := Aside0.mk ((by rw [hg]; exact Nat.ne_of_gt (blk_lt BK567.out) : gb571 ≠ gb567)); replace BK567 := bk1 BK567 hb; have NB568_571 := Aside0.mk ((by rw [hg]; exact Nat.ne_of_lt (blk_lt BK568.out) : gb568 ≠ gb571)); have NB571_568 := Aside0.mk ((by rw [hg]; exact Nat.ne_of_gt (blk_lt BK568.out) : gb571 ≠ gb568)); replace BK568 := bk1 BK568 hb; have NB570_571 := Aside0.mk ((by rw [hg]; exact Nat.ne_of_lt (blk_lt BK570.out) : gb570 ≠ gb571)); have NB571_570 := Aside0.mk ((by rw [hg]; exact Nat.ne_of_gt (blk_lt BK570.out) : gb571 ≠ gb570)); replace BK570 := bk1 BK570 hb; clear hb hbox hg) | ((with_reducible refine gate_dst (N := 13) rfl ?_); refine box_event ?hg (N := 13) ?hd (cs := #[.int .i64 0, .int .u64 0, .int .u64 0]) (t := 24) ?hr ?_; (case hd => rfl); (case hg => rfl); (case hr => (go_simp; done)); intro gb572 hg w14 hbox hb; have BK572 := Aside0.mk (hbox); have GW572 := ge1 HB hg; have GE572 := ge1 HB hg; replace HB := hb1 HB hb; have NB567_572 := Aside0.mk ((by rw [hg]; exact Nat.ne_of_lt (blk_lt BK567.out) : gb567 ≠ gb572)); have NB572_567 := Aside0.mk ((by rw [hg]; exact Nat.ne_of_gt (blk_lt BK567.out) : gb572 ≠ gb567)); replace BK567 := bk1 BK567 hb; have NB568_572 := Aside0.mk ((by rw [hg]; exact Nat.ne_of_lt (blk_lt BK568.out) : gb568 ≠ gb572)); have NB572_568 := Aside0.mk ((by rw [hg]; exact Nat.ne_of_gt (blk_lt BK568.out) : gb572 ≠ gb568)); replace BK568 := bk1 BK568 hb; have NB570_572 := Aside0.mk ((by rw [hg]; exact Nat.ne_of_lt (blk_lt BK570.out) : gb570 ≠ gb572)); have NB572_570 := Aside0.mk ((by rw [hg]; exact Nat.ne_of_gt (blk_lt BK570.out) : gb572 ≠ gb570)); replace BK570 := bk1 BK570 hb; have NB571_572 := Aside0.mk ((by rw [hg]; exact Nat.ne_of_lt (blk_lt BK571.out) : gb571 ≠ gb572)); have NB572_571 := Aside0.mk ((by rw [hg]; exact Nat.ne_of_gt (blk_lt BK571.out) : gb572 ≠ gb571)); replace BK571 := bk1 BK571 hb; clear hb hbox hg) | ((with_reducible refine gate_dst (N := 14) rfl ?_); refine box_event ?hg (N := 14) ?hd (cs := #[.int .i64 0, .int .u64 0, .int .u64 0]) (t := 24) ?hr ?_; (case hd => rfl); (case hg => rfl); (case hr => (go_simp; done)); intro gb573 hg w15 hbox hb; have BK573 := Aside0.mk (hbox); have GW573 := ge1 HB hg; have GE573 := ge1 HB hg; replace HB := hb1 HB hb; have NB567_573 := Aside0.mk ((by rw [hg]; exact Nat.ne_of_lt (blk_lt BK567.out) : gb567 ≠ gb573)); have NB573_567 := Aside0.mk ((by rw [hg]; exact Nat.ne_of_gt (blk_lt BK567.out) : gb573 ≠ gb567)); replace BK567 := bk1 BK567 hb; have NB568_573 := Aside0.mk ((by rw [hg]; exact Nat.ne_of_lt (blk_lt BK568.out) : gb568 ≠ gb573)); have NB573_568 := Aside0.mk ((by rw [hg]; exact Nat.ne_of_gt (blk_lt BK568.out) : gb573 ≠ gb568)); replace BK568 := bk1 BK568 hb; have NB570_573 := Aside0.mk ((by rw [hg]; exact Nat.ne_of_lt (blk_lt BK570.out) : gb570 ≠ gb573)); have NB573_570 := Aside0.mk ((by rw [hg]; exact Nat.ne_of_gt (blk_lt BK570.out) : gb573 ≠ gb570)); replace BK570 := bk1 BK570 hb; have NB571_573 := Aside0.mk ((by rw [hg]; exact Nat.ne_of_lt (blk_lt BK571.out) : gb571 ≠ gb573)); have NB573_571 := Aside0.mk ((by rw [hg]; exact Nat.ne_of_gt (blk_lt BK571.out) : gb573 ≠ gb571)); replace BK571 := bk1 BK571 hb; have NB572_573 := Aside0.mk ((by rw [hg]; exact Nat.ne_of_lt (blk_lt BK572.out) : gb572 ≠ gb573)); have NB573_572 := Aside0.mk ((by rw [hg]; exact Nat.ne_of_gt (blk_lt BK572.out) : gb573 ≠ gb572)); replace BK572 := bk1 BK572 hb; clear hb hbox hg))
  (try simp only [Act.put, List.setIfInBounds_toArray, List.set_cons_zero, List.set_cons_succ])
  go_cut [40] (fun v40 wc => ∃ (kq : Nat) (x40_7 : Bool), v40 = .bool x40_7 ∧ Aside0 (masklaw1_BitsParts.j0 kq a2 a3 a4 x40_7 a0_0 a0_1 a0_2 a1_0 a1_1 a1_2 0 0 0 0 0 0 0 0 0 0 0 0 = some r) ∧ Aside0 (kq ≤ k) ∧ Aside0 (wc.heap[gb567]? = some (.cells #[.int .i64 a0_0, .int .u64 a0_1, .int .u64 a0_2] 24 (0, 0))) ∧ Aside0 (wc.heap[gb568]? = some (.cells #[.int .i64 a1_0, .int .u64 a1_1, .int .u64 a1_2] 24 (0, 0))) ∧ Aside0 (wc.heap[gb570]? = some (.cells #[.int .i64 0, .int .u64 0, .int .u64 0] 24 (0, 0))) ∧ Aside0 (wc.heap[gb571]? = some (.cells #[.int .i64 0, .int .u64 0, .int .u64 0] 24 (0, 0))) ∧ Aside0 (wc.heap[gb572]? = some (.cells #[.int .i64 0, .int .u64 0, .int .u64 0] 24 (0, 0))) ∧ Aside0 (wc.heap[gb573]? = some (.cells #[.int .i64 0, .int .u64 0, .int .u64 0] 24 (0, 0))) ∧ Aside0 (Below w.heap.size w wc))
  case first =>
   have H := HC8.out
   clear HC8
   replace H := Option.bind_eq_some_iff.mp H
   obtain ⟨t574, A160, H⟩ := H
   replace H : (if t574 = true then (if a2 ≥ 0 then (if a2 < a0_0 then (if a3 ≥ 1 then (masklaw1_BitsParts.j0 k a2 a3 a4 (decide (a3 ≤ (wrap64 (a0_0 - a2)))) a0_0 a0_1 a0_2 a1_0 a1_1 a1_2 0 0 0 0 0 0 0 0 0 0 0 0) else (masklaw1_BitsParts.j0 k a2 a3 a4 false a0_0 a0_1 a0_2 a1_0 a1_1 a1_2 0 0 0 0 0 0 0 0 0 0 0 0)) else (masklaw1_BitsParts.j0 k a2 a3 a4 false a0_0 a0_1 a0_2 a1_0 a1_1 a1_2 0 0 0 0 0 0 0 0 0 0 0 0)) else (masklaw1_BitsParts.j0 k a2 a3 a4 false a0_0 a0_1 a0_2 a1_0 a1_1 a1_2 0 0 0 0 0 0 0 0 0 0 0 0)) else (masklaw1_BitsParts.j0 k a2 a3 a4 false a0_0 a0_1 a0_2 a1_0 a1_1 a1_2 0 0 0 0 0 0 0 0 0 0 0 0)) = some r := H
   have A16 := Aside0.mk A160
   clear A160
   by_cases c17 : t574 = true
   ·subst c17
    have H1 : (if a2 ≥ 0 then (if a2 < a0_0 then (if a3 ≥ 1 then (masklaw1_BitsParts.j0 k a2 a3 a4 (decide (a3 ≤ (wrap64 (a0_0 - a2)))) a0_0 a0_1 a0_2 a1_0 a1_1 a1_2 0 0 0 0 0 0 0 0 0 0 0 0) else (masklaw1_BitsParts.j0 k a2 a3 a4 false a0_0 a0_1 a0_2 a1_0 a1_1 a1_2 0 0 0 0 0 0 0 0 0 0 0 0)) else (masklaw1_BitsParts.j0 k a2 a3 a4 false a0_0 a0_1 a0_2 a1_0 a1_1 a1_2 0 0 0 0 0 0 0 0 0 0 0 0)) else (masklaw1_BitsParts.j0 k a2 a3 a4 false a0_0 a0_1 a0_2 a1_0 a1_1 a1_2 0 0 0 0 0 0 0 0 0 0 0 0)) = some r := by rw [if_pos rfl] at H; exact H
    clear H
    have H := H1
    clear H1
    by_cases c18 : a2 ≥ 0
    ·rw [if_pos c18] at H
     have c18b0 : decide (0 ≤ a2) = true := decide_eq_true c18
     clear c18
     (skip)
     by_cases c19 : a2 < a0_0
     ·rw [if_pos c19] at H
      have c19b0 : decide (a2 < a0_0) = true := decide_eq_true c19
      clear c19
      by_cases c20 : a3 ≥ 1
      ·rw [if_pos c20] at H
       have c20b0 : decide (1 ≤ a3) = true := decide_eq_true c20
       clear c20
       have H' := Aside0.mk H
       clear H
       have hnb21 := NB567_568.out
       have hnc21 := NB568_567.out
       have hnb22 := NB567_570.out
       have hnc22 := NB570_567.out
       have hnb23 := NB567_571.out
       have hnc23 := NB571_567.out
       have hnb24 := NB567_572.out
       have hnc24 := NB572_567.out
       have hnb25 := NB567_573.out
       have hnc25 := NB573_567.out
       obtain ⟨hcz26_0, hcz26_1, hcz26_2⟩ := sq_cells3 (W := w15) (g := gb567) BK567.out; obtain ⟨hfz26_0, hfz26_1, hfz26_2⟩ := sq_frozen3 BK567.out
       go_wp2_with (((with_reducible refine gate_callee (f := 14) rfl ?_); refine goesL_ (some 18) rfl rfl Tryd.func14 (by kernel_rfl) rfl #[.agg #[.int .i64 a0_0, .int .u64 a0_1, .int .u64 a0_2]] rfl (by (try simp only [List.map_toArray, List.map_cons, List.map_nil]); rfl) ?_; (with_reducible refine (maskref1_Valid.calls k a0_0 a0_1 a0_2 true _ A16.out).mono ?_); rintro e w27 ⟨rfl, hb⟩; refine ⟨_, rfl, ?_⟩; replace BK567 := bk1 BK567 hb; replace BK568 := bk1 BK568 hb; replace BK570 := bk1 BK570 hb; replace BK571 := bk1 BK571 hb; replace BK572 := bk1 BK572 hb; replace BK573 := bk1 BK573 hb; replace HB := hb1 HB hb; (try clear hb); have hcz28_0 : w27.cell? ⟨gb567, 0, none⟩ = some (.int .i64 a0_0) := (blk_cell BK567.out 0).trans rfl; have hcz28_1 : w27.cell? ⟨gb567, 1, none⟩ = some (.int .u64 a0_1) := (blk_cell BK567.out 1).trans rfl; have hcz28_2 : w27.cell? ⟨gb567, 2, none⟩ = some (.int .u64 a0_2) := (blk_cell BK567.out 2).trans rfl; have hfz28_0 := blk_frozen BK567.out 0; have hfz28_1 := blk_frozen BK567.out 1; have hfz28_2 := blk_frozen BK567.out 2))
       go_meet
       case rel => exact ⟨_, (decide (a3 ≤ (wrap64 (a0_0 - a2)))), (by rfl), H', ⟨by omega⟩, ⟨by exact BK567.out⟩, ⟨by exact BK568.out⟩, ⟨by exact BK570.out⟩, ⟨by exact BK571.out⟩, ⟨by exact BK572.out⟩, ⟨by exact BK573.out⟩, ⟨by repeat (with_reducible exact HB.out)⟩⟩
      ·rw [if_neg c20] at H
       have c20b0 : decide (1 ≤ a3) = false := decide_eq_false c20
       clear c20
       have H' := Aside0.mk H
       clear H
       have hnb29 := NB567_568.out
       have hnc29 := NB568_567.out
       have hnb30 := NB567_570.out
       have hnc30 := NB570_567.out
       have hnb31 := NB567_571.out
       have hnc31 := NB571_567.out
       have hnb32 := NB567_572.out
       have hnc32 := NB572_567.out
       have hnb33 := NB567_573.out
       have hnc33 := NB573_567.out
       obtain ⟨hcz34_0, hcz34_1, hcz34_2⟩ := sq_cells3 (W := w15) (g := gb567) BK567.out; obtain ⟨hfz34_0, hfz34_1, hfz34_2⟩ := sq_frozen3 BK567.out
       go_wp2_with (((with_reducible refine gate_callee (f := 14) rfl ?_); refine goesL_ (some 18) rfl rfl Tryd.func14 (by kernel_rfl) rfl #[.agg #[.int .i64 a0_0, .int .u64 a0_1, .int .u64 a0_2]] rfl (by (try simp only [List.map_toArray, List.map_cons, List.map_nil]); rfl) ?_; (with_reducible refine (maskref1_Valid.calls k a0_0 a0_1 a0_2 true _ A16.out).mono ?_); rintro e w35 ⟨rfl, hb⟩; refine ⟨_, rfl, ?_⟩; replace BK567 := bk1 BK567 hb; replace BK568 := bk1 BK568 hb; replace BK570 := bk1 BK570 hb; replace BK571 := bk1 BK571 hb; replace BK572 := bk1 BK572 hb; replace BK573 := bk1 BK573 hb; replace HB := hb1 HB hb; (try clear hb); have hcz36_0 : w35.cell? ⟨gb567, 0, none⟩ = some (.int .i64 a0_0) := (blk_cell BK567.out 0).trans rfl; have hcz36_1 : w35.cell? ⟨gb567, 1, none⟩ = some (.int .u64 a0_1) := (blk_cell BK567.out 1).trans rfl; have hcz36_2 : w35.cell? ⟨gb567, 2, none⟩ = some (.int .u64 a0_2) := (blk_cell BK567.out 2).trans rfl; have hfz36_0 := blk_frozen BK567.out 0; have hfz36_1 := blk_frozen BK567.out 1; have hfz36_2 := blk_frozen BK567.out 2))
       go_meet
       case rel => exact ⟨_, (false), (by rfl), H', ⟨by omega⟩, ⟨by exact BK567.out⟩, ⟨by exact BK568.out⟩, ⟨by exact BK570.out⟩, ⟨by exact BK571.out⟩, ⟨by exact BK572.out⟩, ⟨by exact BK573.out⟩, ⟨by repeat (with_reducible exact HB.out)⟩⟩
     ·rw [if_neg c19] at H
      have c19b0 : decide (a2 < a0_0) = false := decide_eq_false c19
      clear c19
      have H' := Aside0.mk H
      clear H
      have hnb37 := NB567_568.out
      have hnc37 := NB568_567.out
      have hnb38 := NB567_570.out
      have hnc38 := NB570_567.out
      have hnb39 := NB567_571.out
      have hnc39 := NB571_567.out
      have hnb40 := NB567_572.out
      have hnc40 := NB572_567.out
      have hnb41 := NB567_573.out
      have hnc41 := NB573_567.out
      obtain ⟨hcz42_0, hcz42_1, hcz42_2⟩ := sq_cells3 (W := w15) (g := gb567) BK567.out; obtain ⟨hfz42_0, hfz42_1, hfz42_2⟩ := sq_frozen3 BK567.out
      go_wp2_with (((with_reducible refine gate_callee (f := 14) rfl ?_); refine goesL_ (some 18) rfl rfl Tryd.func14 (by kernel_rfl) rfl #[.agg #[.int .i64 a0_0, .int .u64 a0_1, .int .u64 a0_2]] rfl (by (try simp only [List.map_toArray, List.map_cons, List.map_nil]); rfl) ?_; (with_reducible refine (maskref1_Valid.calls k a0_0 a0_1 a0_2 true _ A16.out).mono ?_); rintro e w43 ⟨rfl, hb⟩; refine ⟨_, rfl, ?_⟩; replace BK567 := bk1 BK567 hb; replace BK568 := bk1 BK568 hb; replace BK570 := bk1 BK570 hb; replace BK571 := bk1 BK571 hb; replace BK572 := bk1 BK572 hb; replace BK573 := bk1 BK573 hb; replace HB := hb1 HB hb; (try clear hb); have hcz44_0 : w43.cell? ⟨gb567, 0, none⟩ = some (.int .i64 a0_0) := (blk_cell BK567.out 0).trans rfl; have hcz44_1 : w43.cell? ⟨gb567, 1, none⟩ = some (.int .u64 a0_1) := (blk_cell BK567.out 1).trans rfl; have hcz44_2 : w43.cell? ⟨gb567, 2, none⟩ = some (.int .u64 a0_2) := (blk_cell BK567.out 2).trans rfl; have hfz44_0 := blk_frozen BK567.out 0; have hfz44_1 := blk_frozen BK567.out 1; have hfz44_2 := blk_frozen BK567.out 2))
      go_meet
      case rel => exact ⟨_, (false), (by rfl), H', ⟨by omega⟩, ⟨by exact BK567.out⟩, ⟨by exact BK568.out⟩, ⟨by exact BK570.out⟩, ⟨by exact BK571.out⟩, ⟨by exact BK572.out⟩, ⟨by exact BK573.out⟩, ⟨by repeat (with_reducible exact HB.out)⟩⟩
    ·rw [if_neg c18] at H
     have c18b0 : decide (0 ≤ a2) = false := decide_eq_false c18
     clear c18
     (skip)
     have H' := Aside0.mk H
     clear H
     have hnb45 := NB567_568.out
     have hnc45 := NB568_567.out
     have hnb46 := NB567_570.out
     have hnc46 := NB570_567.out
     have hnb47 := NB567_571.out
     have hnc47 := NB571_567.out
     have hnb48 := NB567_572.out
     have hnc48 := NB572_567.out
     have hnb49 := NB567_573.out
     have hnc49 := NB573_567.out
     obtain ⟨hcz50_0, hcz50_1, hcz50_2⟩ := sq_cells3 (W := w15) (g := gb567) BK567.out; obtain ⟨hfz50_0, hfz50_1, hfz50_2⟩ := sq_frozen3 BK567.out
     go_wp2_with (((with_reducible refine gate_callee (f := 14) rfl ?_); refine goesL_ (some 18) rfl rfl Tryd.func14 (by kernel_rfl) rfl #[.agg #[.int .i64 a0_0, .int .u64 a0_1, .int .u64 a0_2]] rfl (by (try simp only [List.map_toArray, List.map_cons, List.map_nil]); rfl) ?_; (with_reducible refine (maskref1_Valid.calls k a0_0 a0_1 a0_2 true _ A16.out).mono ?_); rintro e w51 ⟨rfl, hb⟩; refine ⟨_, rfl, ?_⟩; replace BK567 := bk1 BK567 hb; replace BK568 := bk1 BK568 hb; replace BK570 := bk1 BK570 hb; replace BK571 := bk1 BK571 hb; replace BK572 := bk1 BK572 hb; replace BK573 := bk1 BK573 hb; replace HB := hb1 HB hb; (try clear hb)))
     go_meet
     case rel => exact ⟨_, (false), (by rfl), H', ⟨by omega⟩, ⟨by exact BK567.out⟩, ⟨by exact BK568.out⟩, ⟨by exact BK570.out⟩, ⟨by exact BK571.out⟩, ⟨by exact BK572.out⟩, ⟨by exact BK573.out⟩, ⟨by repeat (with_reducible exact HB.out)⟩⟩
   ·replace c17 := Bool.eq_false_iff.mpr c17
    subst c17
    have H1 : (masklaw1_BitsParts.j0 k a2 a3 a4 false a0_0 a0_1 a0_2 a1_0 a1_1 a1_2 0 0 0 0 0 0 0 0 0 0 0 0) = some r := by rw [if_neg (show ¬ (false = true) by decide)] at H; exact H
    clear H
    have H := H1
    clear H1
    have H' := Aside0.mk H
    clear H
    have hnb52 := NB567_568.out
    have hnc52 := NB568_567.out
    have hnb53 := NB567_570.out
    have hnc53 := NB570_567.out
    have hnb54 := NB567_571.out
    have hnc54 := NB571_567.out
    have hnb55 := NB567_572.out
    have hnc55 := NB572_567.out
    have hnb56 := NB567_573.out
    have hnc56 := NB573_567.out
    obtain ⟨hcz57_0, hcz57_1, hcz57_2⟩ := sq_cells3 (W := w15) (g := gb567) BK567.out; obtain ⟨hfz57_0, hfz57_1, hfz57_2⟩ := sq_frozen3 BK567.out
    go_wp2_with (((with_reducible refine gate_callee (f := 14) rfl ?_); refine goesL_ (some 18) rfl rfl Tryd.func14 (by kernel_rfl) rfl #[.agg #[.int .i64 a0_0, .int .u64 a0_1, .int .u64 a0_2]] rfl (by (try simp only [List.map_toArray, List.map_cons, List.map_nil]); rfl) ?_; (with_reducible refine (maskref1_Valid.calls k a0_0 a0_1 a0_2 false _ A16.out).mono ?_); rintro e w58 ⟨rfl, hb⟩; refine ⟨_, rfl, ?_⟩; replace BK567 := bk1 BK567 hb; replace BK568 := bk1 BK568 hb; replace BK570 := bk1 BK570 hb; replace BK571 := bk1 BK571 hb; replace BK572 := bk1 BK572 hb; replace BK573 := bk1 BK573 hb; replace HB := hb1 HB hb; (try clear hb)))
    go_meet
    case rel => exact ⟨_, (false), (by rfl), H', ⟨by omega⟩, ⟨by exact BK567.out⟩, ⟨by exact BK568.out⟩, ⟨by exact BK570.out⟩, ⟨by exact BK571.out⟩, ⟨by exact BK572.out⟩, ⟨by exact BK573.out⟩, ⟨by repeat (with_reducible exact HB.out)⟩⟩
  case rest =>
   clear HC8
   obtain ⟨kq, x40_7, rfl, HA, HJ7, BK567, BK568, BK570, BK571, BK572, BK573, HB⟩ := hcut
   cases kq with
   | zero => exact absurd HA.out (by simp [masklaw1_BitsParts.j0])
   | succ kj7 =>
    have H := HA.out
    clear HA
    simp only [masklaw1_BitsParts.j0] at H
    have HC59 := Aside0.mk H
    clear H
    go_upto_if 40 with (fail)
    go_cut [] (fun wc => ∃ (kq : Nat) (x571000_58 : Int) (x571001_58 : Int) (x571002_58 : Int), Aside0 (masklaw1_BitsParts.j1 kq a2 a3 a4 a0_0 a0_1 a0_2 a1_0 a1_1 a1_2 x571000_58 x571001_58 x571002_58 0 0 0 0 0 0 0 0 0 = some r) ∧ Aside0 (kq ≤ kj7) ∧ Aside0 (wc.heap[gb567]? = some (.cells #[.int .i64 a0_0, .int .u64 a0_1, .int .u64 a0_2] 24 (0, 0))) ∧ Aside0 (wc.heap[gb568]? = some (.cells #[.int .i64 a1_0, .int .u64 a1_1, .int .u64 a1_2] 24 (0, 0))) ∧ Aside0 (wc.heap[gb570]? = some (.cells #[.int .i64 x571000_58, .int .u64 x571001_58, .int .u64 x571002_58] 24 (0, 0))) ∧ Aside0 (wc.heap[gb571]? = some (.cells #[.int .i64 0, .int .u64 0, .int .u64 0] 24 (0, 0))) ∧ Aside0 (wc.heap[gb572]? = some (.cells #[.int .i64 0, .int .u64 0, .int .u64 0] 24 (0, 0))) ∧ Aside0 (wc.heap[gb573]? = some (.cells #[.int .i64 0, .int .u64 0, .int .u64 0] 24 (0, 0))) ∧ Aside0 (Below w.heap.size w wc))
    case first =>
     have H := HC59.out
     clear HC59
     by_cases c60 : x40_7 = true
     ·subst c60
      have H1 : ((maskref1_V.f kj7 a0_0 a0_1 a0_2).bind fun t575 => (if 0 ≤ a2 then (if a2 ≤ (wrap64 (a2 + a3)) then (if (wrap64 (a2 + a3)) ≤ (t575.length : Int) then ((maskref1_B.f kj7 ((t575.take ((wrap64 (a2 + a3)) : Int).toNat).drop (a2 : Int).toNat)).bind fun bt582 => (masklaw1_BitsParts.j1 kj7 a2 a3 a4 a0_0 a0_1 a0_2 a1_0 a1_1 a1_2 bt582.1 bt582.2.1 bt582.2.2 0 0 0 0 0 0 0 0 0)) else (none)) else (none)) else (none))) = some r := by rw [if_pos rfl] at H; exact H
      clear H
      have H := H1
      clear H1
      replace H := Option.bind_eq_some_iff.mp H
      obtain ⟨t575, A610, H⟩ := H
      replace H : (if 0 ≤ a2 then (if a2 ≤ (wrap64 (a2 + a3)) then (if (wrap64 (a2 + a3)) ≤ (t575.length : Int) then ((maskref1_B.f kj7 ((t575.take ((wrap64 (a2 + a3)) : Int).toNat).drop (a2 : Int).toNat)).bind fun bt582 => (masklaw1_BitsParts.j1 kj7 a2 a3 a4 a0_0 a0_1 a0_2 a1_0 a1_1 a1_2 bt582.1 bt582.2.1 bt582.2.2 0 0 0 0 0 0 0 0 0)) else (none)) else (none)) else (none)) = some r := H
      have A61 := Aside0.mk A610
      clear A610
      by_cases c62 : 0 ≤ a2
      ·rw [if_pos c62] at H
       have c62b0 := eq_true c62
       have c62b1 : decide (0 ≤ a2) = true := decide_eq_true c62
       clear c62
       by_cases c63 : a2 ≤ (wrap64 (a2 + a3))
       ·rw [if_pos c63] at H
        have c63b0 := eq_true c63
        have c63b1 : decide (a2 ≤ (wrap64 (a2 + a3))) = true := decide_eq_true c63
        by_cases c64 : (wrap64 (a2 + a3)) ≤ (t575.length : Int)
        ·rw [if_pos c64] at H
         have c64b0 := eq_true c64
         have c64b1 : decide ((wrap64 (a2 + a3)) ≤ (t575.length : Int)) = true := decide_eq_true c64
         obtain ⟨y578, hy578⟩ : ∃ y_ : List Int, y_ = ((t575.take ((wrap64 (a2 + a3)) : Int).toNat).drop (a2 : Int).toNat) := ⟨_, rfl⟩
         replace H : ((maskref1_B.f kj7 y578).bind fun bt582 => (masklaw1_BitsParts.j1 kj7 a2 a3 a4 a0_0 a0_1 a0_2 a1_0 a1_1 a1_2 bt582.1 bt582.2.1 bt582.2.2 0 0 0 0 0 0 0 0 0)) = some r := by (rw [hy578]; with_reducible exact H)
         have Ny578 := Aside0.mk hy578
         clear hy578
         replace H := Option.bind_eq_some_iff.mp H
         obtain ⟨⟨t582, t583, t584⟩, A650, H⟩ := H
         replace H : (masklaw1_BitsParts.j1 kj7 a2 a3 a4 a0_0 a0_1 a0_2 a1_0 a1_1 a1_2 t582 t583 t584 0 0 0 0 0 0 0 0 0) = some r := H
         have A65 := Aside0.mk A650
         clear A650
         have H' := Aside0.mk H
         clear H
         have hnb66 := NB567_568.out
         have hnc66 := NB568_567.out
         have hnb67 := NB567_570.out
         have hnc67 := NB570_567.out
         have hnb68 := NB567_571.out
         have hnc68 := NB571_567.out
         have hnb69 := NB567_572.out
         have hnc69 := NB572_567.out
         have hnb70 := NB567_573.out
         have hnc70 := NB573_567.out
         obtain ⟨hcz71_0, hcz71_1, hcz71_2⟩ := sq_cells3 (W := wc) (g := gb567) BK567.out; obtain ⟨hfz71_0, hfz71_1, hfz71_2⟩ := sq_frozen3 BK567.out
         go_wp2_with (first | ((with_reducible refine gate_callee (f := 28) rfl ?_); refine goesL_ (some 42) rfl rfl Tryd.func28 (by kernel_rfl) rfl #[.agg #[.int .i64 a0_0, .int .u64 a0_1, .int .u64 a0_2]] rfl (by (try simp only [List.map_toArray, List.map_cons, List.map_nil]); rfl) ?_; (with_reducible refine (maskref1_V.calls kj7 a0_0 a0_1 a0_2 t575 _ A61.out).mono ?_); rintro e w72 ⟨v576, rfl, ho0, hb⟩; refine ⟨_, rfl, ?_⟩; have HO577 := Aside0.mk (Kd.R_lower ho0 (below_size HB.out)); replace BK567 := bk1 BK567 hb; replace BK568 := bk1 BK568 hb; replace BK570 := bk1 BK570 hb; replace BK571 := bk1 BK571 hb; replace BK572 := bk1 BK572 hb; replace BK573 := bk1 BK573 hb; replace HB := hb1 HB hb; (try clear hb); (try clear ho0); obtain ⟨Ao74, co74, eo74⟩ := Kd.R_slice HO577.out; subst eo74; have q73 : ((wrap64 (a2 + a3)) : Int) ≤ ((t575.length : Int) : Int) := of_decide_eq_true (by (with_reducible assumption)); obtain ⟨i073, hi073, _, hsz73, _⟩ := info_parts info5; have hroom73 : t575.length ≤ co74 := (Kd.R_reads' HO577.out).2.1; have hC73 : Kd.C (Kd.int .u8) _ Ao74 t575.length t575 := (Kd.R_reads' HO577.out).2.2; have ql73 : (a2 : Int) ≤ ((wrap64 (a2 + a3)) : Int) := of_decide_eq_true (by (with_reducible assumption)); have q073 : (0 : Int) ≤ (a2 : Int) := of_decide_eq_true (by (with_reducible assumption)); have hcut73 := cut_mid (P := Tryd.prog) 43 5 .i64 .i64 Tryd.underlying43 hi073 1 hsz73 Ao74 t575.length co74 a2 (wrap64 (a2 + a3)) q073 ql73 q73 hroom73; have hr73 := Kd.C_mid (lo := (a2 : Int).toNat) (hi := ((wrap64 (a2 + a3)) : Int).toNat) (c := co74) hC73 (by omega) (by omega) hroom73; obtain ⟨A73, hA73⟩ : ∃ A1, A1 = (if co74 = (a2 : Int).toNat then Ao74 else (Ao74 : Option Addr).map (·.add ((a2 : Int).toNat * 1))) := ⟨_, rfl⟩; obtain ⟨c73, hc73⟩ : ∃ c1, c1 = co74 - (a2 : Int).toNat := ⟨_, rfl⟩; have hy73 : y578.length = ((wrap64 (a2 + a3)) : Int).toNat - (a2 : Int).toNat := (by rw [Ny578.out, List.length_drop, List.length_take] <;> omega); rw [show ((t575).take ((wrap64 (a2 + a3)) : Int).toNat).drop (a2 : Int).toNat = y578 from Ny578.out.symm] at hr73; replace hr73 : Kd.C (Kd.int .u8) _ A73 y578.length y578 := (by rw [hA73]; exact hr73); rw [← hy73, ← hA73, ← hc73] at hcut73; have HR581 := Aside0.mk hr73; have HC581 := Aside0.mk (show y578.length ≤ c73 from by rw [hy73, hc73]; exact Nat.sub_le_sub_right (Nat.le_trans (by omega) hroom73) _); clear hr73 hC73 hroom73 hi073 hsz73 hc73; have KY73 := Aside0.mk hy73; have KA73 := Aside0.mk hA73; clear hy73 hA73; have KL73 := Aside0.mk (show ((wrap64 (a2 + a3)) : Int).toNat ≤ t575.length from by omega); have KM73 := Aside0.mk (show (a2 : Int).toNat ≤ ((wrap64 (a2 + a3)) : Int).toNat from by omega); replace q73 := eq_true q73) | ((with_reducible refine gate_callee (f := 26) rfl ?_); refine goesL_ (some 48) rfl rfl Tryd.func26 (by kernel_rfl) rfl #[.slice A73 y578.length c73] rfl (by (try simp only [List.map_toArray, List.map_cons, List.map_nil]); rfl) ?_; (with_reducible refine (maskref1_B.calls kj7 _ _ y578 t582 t583 t584 _ ?side1 ?side2 A65.out).mono ?_); (case side1 => repeat (exact HR581.out)); (case side2 => exact HC581.out); rintro e w75 ⟨rfl, hb⟩; refine ⟨_, rfl, ?_⟩; replace HO577 := Kd.rb1 HO577 hb; replace BK567 := bk1 BK567 hb; replace BK568 := bk1 BK568 hb; replace BK570 := bk1 BK570 hb; replace BK571 := bk1 BK571 hb; replace BK572 := bk1 BK572 hb; replace BK573 := bk1 BK573 hb; replace HR581 := Aside0.mk (Kd.C_below HR581.out hb); replace HB := hb1 HB hb; (try clear hb); have hnb76 := NB570_568.out; have hnc76 := NB568_570.out; have hnb77 := NB570_571.out; have hnc77 := NB571_570.out; have hnb78 := NB570_572.out; have hnc78 := NB572_570.out; have hnb79 := NB570_573.out; have hnc79 := NB573_570.out; have hcz80_0 : w75.cell? ⟨gb570, 0, none⟩ = some (.int .i64 0) := (blk_cell BK570.out 0).trans rfl; have hcz80_1 : w75.cell? ⟨gb570, 1, none⟩ = some (.int .u64 0) := (blk_cell BK570.out 1).trans rfl; have hcz80_2 : w75.cell? ⟨gb570, 2, none⟩ = some (.int .u64 0) := (blk_cell BK570.out 2).trans rfl; have hfz80_0 := blk_frozen BK570.out 0; have hfz80_1 := blk_frozen BK570.out 1; have hfz80_2 := blk_frozen BK570.out 2))
         go_meet
         case rel => exact ⟨_, (t582), (t583), (t584), H', ⟨by have := HJ7.out; omega⟩, ⟨by refine blk_far ?_ NB567_570.out _; refine blk_far ?_ NB567_570.out _; refine blk_far ?_ NB567_570.out _; exact BK567.out⟩, ⟨by refine blk_far ?_ NB568_570.out _; refine blk_far ?_ NB568_570.out _; refine blk_far ?_ NB568_570.out _; exact BK568.out⟩, ⟨by refine blk_put (cs := #[.int .i64 t582, .int .u64 t583, .int .u64 0]) ?_ 2 _ rfl; refine blk_put (cs := #[.int .i64 t582, .int .u64 0, .int .u64 0]) ?_ 1 _ rfl; refine blk_put (cs := #[.int .i64 0, .int .u64 0, .int .u64 0]) ?_ 0 _ rfl; exact BK570.out⟩, ⟨by refine blk_far ?_ NB571_570.out _; refine blk_far ?_ NB571_570.out _; refine blk_far ?_ NB571_570.out _; exact BK571.out⟩, ⟨by refine blk_far ?_ NB572_570.out _; refine blk_far ?_ NB572_570.out _; refine blk_far ?_ NB572_570.out _; exact BK572.out⟩, ⟨by refine blk_far ?_ NB573_570.out _; refine blk_far ?_ NB573_570.out _; refine blk_far ?_ NB573_570.out _; exact BK573.out⟩, ⟨by repeat (with_reducible first | exact HB.out | refine below_set ?_ GE570.out)⟩⟩
        ·rw [if_neg c64] at H
         exact absurd H (by simp)
       ·rw [if_neg c63] at H
        exact absurd H (by simp)
      ·rw [if_neg c62] at H
       exact absurd H (by simp)
     ·replace c60 := Bool.eq_false_iff.mpr c60
      subst c60
      have H1 : (masklaw1_BitsParts.j1 kj7 a2 a3 a4 a0_0 a0_1 a0_2 a1_0 a1_1 a1_2 0 0 0 0 0 0 0 0 0 0 0 0) = some r := by rw [if_neg (show ¬ (false = true) by decide)] at H; exact H
      clear H
      have H := H1
      clear H1
      have H' := Aside0.mk H
      clear H
      go_wp2
      go_meet
      case rel => exact ⟨_, (0), (0), (0), H', ⟨by have := HJ7.out; omega⟩, ⟨by exact BK567.out⟩, ⟨by exact BK568.out⟩, ⟨by exact BK570.out⟩, ⟨by exact BK571.out⟩, ⟨by exact BK572.out⟩, ⟨by exact BK573.out⟩, ⟨by repeat (with_reducible exact HB.out)⟩⟩
    case rest =>
     clear HC59
     obtain ⟨kq, x571000_58, x571001_58, x571002_58, HA, HJ58, BK567, BK568, BK570, BK571, BK572, BK573, HB⟩ := hcut
     cases kq with
     | zero => exact absurd HA.out (by simp [masklaw1_BitsParts.j1])
     | succ kj58 =>
      have H := HA.out
      clear HA
      simp only [masklaw1_BitsParts.j1] at H
      have HC81 := Aside0.mk H
      clear H
      go_upto_region 6 with (fail)
      go_cut [54] (fun v54 wc => ∃ (kq : Nat) (x54_80 : Bool), v54 = .bool x54_80 ∧ Aside0 (masklaw1_BitsParts.j2 kq a2 a3 a4 x54_80 a0_0 a0_1 a0_2 a1_0 a1_1 a1_2 x571000_58 x571001_58 x571002_58 0 0 0 0 0 0 0 0 0 = some r) ∧ Aside0 (kq ≤ kj58) ∧ Aside0 (wc.heap[gb567]? = some (.cells #[.int .i64 a0_0, .int .u64 a0_1, .int .u64 a0_2] 24 (0, 0))) ∧ Aside0 (wc.heap[gb568]? = some (.cells #[.int .i64 a1_0, .int .u64 a1_1, .int .u64 a1_2] 24 (0, 0))) ∧ Aside0 (wc.heap[gb570]? = some (.cells #[.int .i64 x571000_58, .int .u64 x571001_58, .int .u64 x571002_58] 24 (0, 0))) ∧ Aside0 (wc.heap[gb571]? = some (.cells #[.int .i64 0, .int .u64 0, .int .u64 0] 24 (0, 0))) ∧ Aside0 (wc.heap[gb572]? = some (.cells #[.int .i64 0, .int .u64 0, .int .u64 0] 24 (0, 0))) ∧ Aside0 (wc.heap[gb573]? = some (.cells #[.int .i64 0, .int .u64 0, .int .u64 0] 24 (0, 0))) ∧ Aside0 (Below w.heap.size w wc))
      case first =>
       have H := HC81.out
       clear HC81
       replace H := Option.bind_eq_some_iff.mp H
       obtain ⟨t585, A820, H⟩ := H
       replace H : (if t585 = true then ((maskref1_Valid.f kj58 a1_0 a1_1 a1_2).bind fun t586 => (masklaw1_BitsParts.j2 kj58 a2 a3 a4 t586 a0_0 a0_1 a0_2 a1_0 a1_1 a1_2 x571000_58 x571001_58 x571002_58 0 0 0 0 0 0 0 0 0)) else (masklaw1_BitsParts.j2 kj58 a2 a3 a4 false a0_0 a0_1 a0_2 a1_0 a1_1 a1_2 x571000_58 x571001_58 x571002_58 0 0 0 0 0 0 0 0 0)) = some r := H
       have A82 := Aside0.mk A820
       clear A820
       by_cases c83 : t585 = true
       ·subst c83
        have H1 : ((maskref1_Valid.f kj58 a1_0 a1_1 a1_2).bind fun t586 => (masklaw1_BitsParts.j2 kj58 a2 a3 a4 t586 a0_0 a0_1 a0_2 a1_0 a1_1 a1_2 x571000_58 x571001_58 x571002_58 0 0 0 0 0 0 0 0 0)) = some r := by rw [if_pos rfl] at H; exact H
        clear H
        have H := H1
        clear H1
        replace H := Option.bind_eq_some_iff.mp H
        obtain ⟨t586, A840, H⟩ := H
        replace H : (masklaw1_BitsParts.j2 kj58 a2 a3 a4 t586 a0_0 a0_1 a0_2 a1_0 a1_1 a1_2 x571000_58 x571001_58 x571002_58 0 0 0 0 0 0 0 0 0) = some r := H
        have A84 := Aside0.mk A840
        clear A840
        have H' := Aside0.mk H
        clear H
        have hnb85 := NB567_568.out
        have hnc85 := NB568_567.out
        have hnb86 := NB567_570.out
        have hnc86 := NB570_567.out
        have hnb87 := NB567_571.out
        have hnc87 := NB571_567.out
        have hnb88 := NB567_572.out
        have hnc88 := NB572_567.out
        have hnb89 := NB567_573.out
        have hnc89 := NB573_567.out
        obtain ⟨hcz90_0, hcz90_1, hcz90_2⟩ := sq_cells3 (W := wc) (g := gb567) BK567.out; obtain ⟨hfz90_0, hfz90_1, hfz90_2⟩ := sq_frozen3 BK567.out
        go_wp2_with (first | ((with_reducible refine gate_callee (f := 14) rfl ?_); refine goesL_ (some 50) rfl rfl Tryd.func14 (by kernel_rfl) rfl #[.agg #[.int .i64 a0_0, .int .u64 a0_1, .int .u64 a0_2]] rfl (by (try simp only [List.map_toArray, List.map_cons, List.map_nil]); rfl) ?_; (with_reducible refine (maskref1_Valid.calls kj58 a0_0 a0_1 a0_2 true _ A82.out).mono ?_); rintro e w91 ⟨rfl, hb⟩; refine ⟨_, rfl, ?_⟩; replace BK567 := bk1 BK567 hb; replace BK568 := bk1 BK568 hb; replace BK570 := bk1 BK570 hb; replace BK571 := bk1 BK571 hb; replace BK572 := bk1 BK572 hb; replace BK573 := bk1 BK573 hb; replace HB := hb1 HB hb; (try clear hb); have hnb92 := NB568_570.out; have hnc92 := NB570_568.out; have hnb93 := NB568_571.out; have hnc93 := NB571_568.out; have hnb94 := NB568_572.out; have hnc94 := NB572_568.out; have hnb95 := NB568_573.out; have hnc95 := NB573_568.out; have hcz96_0 : w91.cell? ⟨gb568, 0, none⟩ = some (.int .i64 a1_0) := (blk_cell BK568.out 0).trans rfl; have hcz96_1 : w91.cell? ⟨gb568, 1, none⟩ = some (.int .u64 a1_1) := (blk_cell BK568.out 1).trans rfl; have hcz96_2 : w91.cell? ⟨gb568, 2, none⟩ = some (.int .u64 a1_2) := (blk_cell BK568.out 2).trans rfl; have hfz96_0 := blk_frozen BK568.out 0; have hfz96_1 := blk_frozen BK568.out 1; have hfz96_2 := blk_frozen BK568.out 2) | (go_at_call 14; (with_reducible refine (maskref1_Valid.calls kj58 a1_0 a1_1 a1_2 t586 _ A84.out).mono ?_); rintro e w97 ⟨rfl, hb⟩; replace BK567 := bk1 BK567 hb; replace BK568 := bk1 BK568 hb; replace BK570 := bk1 BK570 hb; replace BK571 := bk1 BK571 hb; replace BK572 := bk1 BK572 hb; replace BK573 := bk1 BK573 hb; replace HB := hb1 HB hb; (try clear hb)))
        go_meet
        case rel => exact ⟨_, (t586), (by rfl), H', ⟨by have := HJ7.out; have := HJ58.out; omega⟩, ⟨by exact BK567.out⟩, ⟨by exact BK568.out⟩, ⟨by exact BK570.out⟩, ⟨by exact BK571.out⟩, ⟨by exact BK572.out⟩, ⟨by exact BK573.out⟩, ⟨by repeat (with_reducible exact HB.out)⟩⟩
       ·replace c83 := Bool.eq_false_iff.mpr c83
        subst c83
        have H1 : (masklaw1_BitsParts.j2 kj58 a2 a3 a4 false a0_0 a0_1 a0_2 a1_0 a1_1 a1_2 x571000_58 x571001_58 x571002_58 0 0 0 0 0 0 0 0 0) = some r := by rw [if_neg (show ¬ (false = true) by decide)] at H; exact H
        clear H
        have H := H1
        clear H1
        have H' := Aside0.mk H
        clear H
        have hnb98 := NB567_568.out
        have hnc98 := NB568_567.out
        have hnb99 := NB567_570.out
        have hnc99 := NB570_567.out
        have hnb100 := NB567_571.out
        have hnc100 := NB571_567.out
        have hnb101 := NB567_572.out
        have hnc101 := NB572_567.out
        have hnb102 := NB567_573.out
        have hnc102 := NB573_567.out
        obtain ⟨hcz103_0, hcz103_1, hcz103_2⟩ := sq_cells3 (W := wc) (g := gb567) BK567.out; obtain ⟨hfz103_0, hfz103_1, hfz103_2⟩ := sq_frozen3 BK567.out
        go_wp2_with (((with_reducible refine gate_callee (f := 14) rfl ?_); refine goesL_ (some 50) rfl rfl Tryd.func14 (by kernel_rfl) rfl #[.agg #[.int .i64 a0_0, .int .u64 a0_1, .int .u64 a0_2]] rfl (by (try simp only [List.map_toArray, List.map_cons, List.map_nil]); rfl) ?_; (with_reducible refine (maskref1_Valid.calls kj58 a0_0 a0_1 a0_2 false _ A82.out).mono ?_); rintro e w104 ⟨rfl, hb⟩; refine ⟨_, rfl, ?_⟩; replace BK567 := bk1 BK567 hb; replace BK568 := bk1 BK568 hb; replace BK570 := bk1 BK570 hb; replace BK571 := bk1 BK571 hb; replace BK572 := bk1 BK572 hb; replace BK573 := bk1 BK573 hb; replace HB := hb1 HB hb; (try clear hb)))
        go_meet
        case rel => exact ⟨_, (false), (by rfl), H', ⟨by have := HJ7.out; have := HJ58.out; omega⟩, ⟨by exact BK567.out⟩, ⟨by exact BK568.out⟩, ⟨by exact BK570.out⟩, ⟨by exact BK571.out⟩, ⟨by exact BK572.out⟩, ⟨by exact BK573.out⟩, ⟨by repeat (with_reducible exact HB.out)⟩⟩
      case rest =>
       clear HC81
       obtain ⟨kq, x54_80, rfl, HA, HJ80, BK567, BK568, BK570, BK571, BK572, BK573, HB⟩ := hcut
       cases kq with
       | zero => exact absurd HA.out (by simp [masklaw1_BitsParts.j2])
       | succ kj80 =>
        have H := HA.out
        clear HA
        simp only [masklaw1_BitsParts.j2] at H
        have HC105 := Aside0.mk H
        clear H
        go_upto_if 54 with (fail)
        go_cut [] (fun wc => ∃ (kq : Nat) (x573000_104 : Int) (x573001_104 : Int) (x573002_104 : Int), Aside0 (masklaw1_BitsParts.j3 kq a2 a3 a4 a0_0 a0_1 a0_2 a1_0 a1_1 a1_2 x571000_58 x571001_58 x571002_58 0 0 0 x573000_104 x573001_104 x573002_104 0 0 0 = some r) ∧ Aside0 (kq ≤ kj80) ∧ Aside0 (wc.heap[gb567]? = some (.cells #[.int .i64 a0_0, .int .u64 a0_1, .int .u64 a0_2] 24 (0, 0))) ∧ Aside0 (wc.heap[gb568]? = some (.cells #[.int .i64 a1_0, .int .u64 a1_1, .int .u64 a1_2] 24 (0, 0))) ∧ Aside0 (wc.heap[gb570]? = some (.cells #[.int .i64 x571000_58, .int .u64 x571001_58, .int .u64 x571002_58] 24 (0, 0))) ∧ Aside0 (wc.heap[gb571]? = some (.cells #[.int .i64 0, .int .u64 0, .int .u64 0] 24 (0, 0))) ∧ Aside0 (wc.heap[gb572]? = some (.cells #[.int .i64 x573000_104, .int .u64 x573001_104, .int .u64 x573002_104] 24 (0, 0))) ∧ Aside0 (wc.heap[gb573]? = some (.cells #[.int .i64 0, .int .u64 0, .int .u64 0] 24 (0, 0))) ∧ Aside0 (Below w.heap.size w wc))
        case first =>
         have H := HC105.out
         clear HC105
         by_cases c106 : x54_80 = true
         ·subst c106
          have H1 : ((maskref1_V.f kj80 a0_0 a0_1 a0_2).bind fun t587 => ((maskref1_V.f kj80 a1_0 a1_1 a1_2).bind fun t590 => ((maskref1_Placed.f kj80 t587 (mx (-100) (mn a2 100)) t590).bind fun t593 => ((maskref1_B.f kj80 t593).bind fun bt596 => (masklaw1_BitsParts.j3 kj80 a2 a3 a4 a0_0 a0_1 a0_2 a1_0 a1_1 a1_2 x571000_58 x571001_58 x571002_58 0 0 0 bt596.1 bt596.2.1 bt596.2.2 0 0 0))))) = some r := by rw [if_pos rfl] at H; exact H
          clear H
          have H := H1
          clear H1
          replace H := Option.bind_eq_some_iff.mp H
          obtain ⟨t587, A1070, H⟩ := H
          replace H : ((maskref1_V.f kj80 a1_0 a1_1 a1_2).bind fun t590 => ((maskref1_Placed.f kj80 t587 (mx (-100) (mn a2 100)) t590).bind fun t593 => ((maskref1_B.f kj80 t593).bind fun bt596 => (masklaw1_BitsParts.j3 kj80 a2 a3 a4 a0_0 a0_1 a0_2 a1_0 a1_1 a1_2 x571000_58 x571001_58 x571002_58 0 0 0 bt596.1 bt596.2.1 bt596.2.2 0 0 0)))) = some r := H
          have A107 := Aside0.mk A1070
          clear A1070
          obtain ⟨ji108, hji108⟩ : ∃ j_ : Int, (mn a2 100) = j_ := ⟨_, rfl⟩
          replace H : ((maskref1_V.f kj80 a1_0 a1_1 a1_2).bind fun t590 => ((maskref1_Placed.f kj80 t587 (mx (-100) (ji108)) t590).bind fun t593 => ((maskref1_B.f kj80 t593).bind fun bt596 => (masklaw1_BitsParts.j3 kj80 a2 a3 a4 a0_0 a0_1 a0_2 a1_0 a1_1 a1_2 x571000_58 x571001_58 x571002_58 0 0 0 bt596.1 bt596.2.1 bt596.2.2 0 0 0)))) = some r := by (rw [hji108] at H; exact H)
          have hji108_ : (if 100 < a2 then 100 else a2) = ji108 := hji108
          obtain ⟨ji109, hji109⟩ : ∃ j_ : Int, (mx (-100) (ji108)) = j_ := ⟨_, rfl⟩
          replace H : ((maskref1_V.f kj80 a1_0 a1_1 a1_2).bind fun t590 => ((maskref1_Placed.f kj80 t587 (ji109) t590).bind fun t593 => ((maskref1_B.f kj80 t593).bind fun bt596 => (masklaw1_BitsParts.j3 kj80 a2 a3 a4 a0_0 a0_1 a0_2 a1_0 a1_1 a1_2 x571000_58 x571001_58 x571002_58 0 0 0 bt596.1 bt596.2.1 bt596.2.2 0 0 0)))) = some r := by (rw [hji109] at H; exact H)
          have hji109_ : (if (-100) < (ji108) then (ji108) else (-100)) = ji109 := hji109
          replace H := Option.bind_eq_some_iff.mp H
          obtain ⟨t590, A1100, H⟩ := H
          replace H : ((maskref1_Placed.f kj80 t587 (ji109) t590).bind fun t593 => ((maskref1_B.f kj80 t593).bind fun bt596 => (masklaw1_BitsParts.j3 kj80 a2 a3 a4 a0_0 a0_1 a0_2 a1_0 a1_1 a1_2 x571000_58 x571001_58 x571002_58 0 0 0 bt596.1 bt596.2.1 bt596.2.2 0 0 0))) = some r := H
          have A110 := Aside0.mk A1100
          clear A1100
          replace H := Option.bind_eq_some_iff.mp H
          obtain ⟨t593, A1110, H⟩ := H
          replace H : ((maskref1_B.f kj80 t593).bind fun bt596 => (masklaw1_BitsParts.j3 kj80 a2 a3 a4 a0_0 a0_1 a0_2 a1_0 a1_1 a1_2 x571000_58 x571001_58 x571002_58 0 0 0 bt596.1 bt596.2.1 bt596.2.2 0 0 0)) = some r := H
          have A111 := Aside0.mk A1110
          clear A1110
          replace H := Option.bind_eq_some_iff.mp H
          obtain ⟨⟨t596, t597, t598⟩, A1120, H⟩ := H
          replace H : (masklaw1_BitsParts.j3 kj80 a2 a3 a4 a0_0 a0_1 a0_2 a1_0 a1_1 a1_2 x571000_58 x571001_58 x571002_58 0 0 0 t596 t597 t598 0 0 0) = some r := H
          have A112 := Aside0.mk A1120
          clear A1120
          have H' := Aside0.mk H
          clear H
          try go_wp2
          replace BK567 := bkd BK567
          replace BK568 := bkd BK568
          replace BK570 := bkd BK570
          replace BK571 := bkd BK571
          replace BK572 := bkd BK572
          replace BK573 := bkd BK573
          replace HB := hbd HB
          refine start_ (n := 10) (S := fun w' => w'.cell? ⟨gb567, 0, none⟩ = some (.int .i64 a0_0) ∧ w'.cell? ⟨gb567, 1, none⟩ = some (.int .u64 a0_1) ∧ w'.cell? ⟨gb567, 2, none⟩ = some (.int .u64 a0_2) ∧ w'.cell? ⟨gb568, 0, none⟩ = some (.int .i64 a1_0) ∧ w'.cell? ⟨gb568, 1, none⟩ = some (.int .u64 a1_1) ∧ w'.cell? ⟨gb568, 2, none⟩ = some (.int .u64 a1_2)) (ds := []) (tb 10 0) (by kernel_rfl) rfl (by kernel_rfl) (c3 BK567 (d3 BK568)) (fun hHeld => ?_); refine with_tabW masklaw1_BitsParts.tab7 masklaw1_BitsParts.bits7 (fun HT_ HW_ => ?_)
          generalize wc.drew = w113 at BK567 BK568 BK570 BK571 BK572 BK573 HB hHeld ⊢
          refine pA 2 57 (tb 10 4) HT_ ?_
          refine pA 3 58 (tb 10 12) HT_ ?_
          refine pA 4 59 (tb 10 28) HT_ ?_
          refine tA 0 55 (tb 10 29) HT_ HW_ hHeld ?_
          refine tA 5 60 (tb 10 61) HT_ HW_ hHeld ?_
          refine oA 1 (some 56) (tb 10 63) HT_ (fun K hK => ?_)
          refine gA Tryd.func28 #[.agg #[.int .i64 a0_0, .int .u64 a0_1, .int .u64 a0_2]] ?_
          with_reducible refine (maskref1_V.calls kj80 a0_0 a0_1 a0_2 t587 _ A107.out).mono ?_
          rintro e w114 ⟨v588, rfl, ho0, hb⟩
          refine ⟨_, rfl, ?_⟩
          have HO589 := Aside0.mk (Kd.R_lower ho0 (below_size HB.out))
          replace BK567 := bk1 BK567 hb
          replace BK568 := bk1 BK568 hb
          replace BK570 := bk1 BK570 hb
          replace BK571 := bk1 BK571 hb
          replace BK572 := bk1 BK572 hb
          replace BK573 := bk1 BK573 hb
          replace HB := hb1 HB hb
          (try clear hb)
          (try clear ho0)
          refine hK.out _ _ (c3 BK567 (d3 BK568)) (fun hHeld => ?_)
          clear hK K
          refine nA ?_
          refine oA 6 (some 61) (tb 10 127) HT_ (fun K hK => ?_)
          refine gA Tryd.func28 #[.agg #[.int .i64 a1_0, .int .u64 a1_1, .int .u64 a1_2]] ?_
          with_reducible refine (maskref1_V.calls kj80 a1_0 a1_1 a1_2 t590 _ A110.out).mono ?_
          rintro e w115 ⟨v591, rfl, ho0, hb⟩
          refine ⟨_, rfl, ?_⟩
          have HO592 := Aside0.mk (Kd.R_lower (Kd.R_new' ho0 (Kd.R_lt HO589.out)) (below_size HB.out))
          replace HO589 := Aside0.mk (Kd.R_elder' HO589.out (Kd.R_base ho0) hb)
          replace BK567 := bk1 BK567 hb
          replace BK568 := bk1 BK568 hb
          replace BK570 := bk1 BK570 hb
          replace BK571 := bk1 BK571 hb
          replace BK572 := bk1 BK572 hb
          replace BK573 := bk1 BK573 hb
          replace HB := hb1 HB hb
          (try clear hb)
          (try clear ho0)
          obtain ⟨Ao116, co116, eo116⟩ := Kd.R_slice HO589.out
          (subst eo116)
          obtain ⟨Ao117, co117, eo117⟩ := Kd.R_slice HO592.out
          (subst eo117)
          refine hK.out _ _ (c3 BK567 (d3 BK568)) (fun hHeld => ?_)
          clear hK K
          refine nA ?_
          refine oA 7 (some 62) (tb 10 255) HT_ (fun K hK => ?_)
          refine gA Tryd.func31 #[.slice Ao116 t587.length co116, .int .i64 ji109, .slice Ao117 t590.length co117] ?_
          with_reducible refine (maskref1_Placed.calls kj80 _ _ t587 ji109 _ _ t590 t593 _ ?side1 ?side2 ?side3 ?side4 A111.out).mono ?_
          (case side1 => repeat (exact (Kd.R_reads' HO589.out).2.2))
          (case side2 => exact (Kd.R_reads' HO589.out).2.1)
          (case side3 => repeat (exact (Kd.R_reads' HO592.out).2.2))
          (case side4 => exact (Kd.R_reads' HO592.out).2.1)
          rintro e w118 ⟨v594, rfl, ho0, hb⟩
          refine ⟨_, rfl, ?_⟩
          have HO595 := Aside0.mk (Kd.R_lower (Kd.R_new' (Kd.R_new' ho0 (Kd.R_lt HO589.out)) (Kd.R_lt HO592.out)) (below_size HB.out))
          replace HO589 := Aside0.mk (Kd.R_elder' HO589.out (Kd.R_base ho0) hb)
          replace HO592 := Aside0.mk (Kd.R_elder' HO592.out (Kd.R_base ho0) hb)
          replace BK567 := bk1 BK567 hb
          replace BK568 := bk1 BK568 hb
          replace BK570 := bk1 BK570 hb
          replace BK571 := bk1 BK571 hb
          replace BK572 := bk1 BK572 hb
          replace BK573 := bk1 BK573 hb
          replace HB := hb1 HB hb
          (try clear hb)
          (try clear ho0)
          obtain ⟨Ao119, co119, eo119⟩ := Kd.R_slice HO595.out
          (subst eo119)
          refine hK.out _ _ (c3 BK567 (d3 BK568)) (fun hHeld => ?_)
          clear hK K
          refine nA ?_
          refine oA 8 (some 63) (tb 10 511) HT_ (fun K hK => ?_)
          refine gA Tryd.func26 #[.slice Ao119 t593.length co119] ?_
          with_reducible refine (maskref1_B.calls kj80 _ _ t593 t596 t597 t598 _ ?side1 ?side2 A112.out).mono ?_
          (case side1 => repeat (exact (Kd.R_reads' HO595.out).2.2))
          (case side2 => exact (Kd.R_reads' HO595.out).2.1)
          rintro e w120 ⟨rfl, hb⟩
          refine ⟨_, rfl, ?_⟩
          replace HO589 := Kd.rb1 HO589 hb
          replace HO592 := Kd.rb1 HO592 hb
          replace HO595 := Kd.rb1 HO595 hb
          replace BK567 := bk1 BK567 hb
          replace BK568 := bk1 BK568 hb
          replace BK570 := bk1 BK570 hb
          replace BK571 := bk1 BK571 hb
          replace BK572 := bk1 BK572 hb
          replace BK573 := bk1 BK573 hb
          replace HB := hb1 HB hb
          (try clear hb)
          refine hK.out _ _ (c3 BK567 (d3 BK568)) (fun hHeld => ?_)
          clear hK K
          refine nA ?_
          refine oA 9 (none) (tb 10 1023) HT_ (fun K hK => ?_)
          have hs121 : w120.cell? ⟨gb572, 0, none⟩ = some (.int .i64 0) := (blk_cell BK572.out 0).trans rfl
          have hfs121 := blk_frozen BK572.out 0
          have hns121_0 := NB567_572.out
          have hns121_1 := NB568_572.out
          have hns121_2 := NB570_572.out
          have hns121_3 := NB571_572.out
          have hns121_5 := NB573_572.out
          have hms121_0 := NB572_567.out
          have hms121_1 := NB572_568.out
          have hms121_2 := NB572_570.out
          have hms121_3 := NB572_571.out
          have hms121_5 := NB572_573.out
          have hs122 : w120.cell? ⟨gb572, 1, none⟩ = some (.int .u64 0) := (blk_cell BK572.out 1).trans rfl
          have hfs122 := blk_frozen BK572.out 1
          have hns122_0 := NB567_572.out
          have hns122_1 := NB568_572.out
          have hns122_2 := NB570_572.out
          have hns122_3 := NB571_572.out
          have hns122_5 := NB573_572.out
          have hms122_0 := NB572_567.out
          have hms122_1 := NB572_568.out
          have hms122_2 := NB572_570.out
          have hms122_3 := NB572_571.out
          have hms122_5 := NB572_573.out
          have hs123 : w120.cell? ⟨gb572, 2, none⟩ = some (.int .u64 0) := (blk_cell BK572.out 2).trans rfl
          have hfs123 := blk_frozen BK572.out 2
          have hns123_0 := NB567_572.out
          have hns123_1 := NB568_572.out
          have hns123_2 := NB570_572.out
          have hns123_3 := NB571_572.out
          have hns123_5 := NB573_572.out
          have hms123_0 := NB572_567.out
          have hms123_1 := NB572_568.out
          have hms123_2 := NB572_570.out
          have hms123_3 := NB572_571.out
          have hms123_5 := NB572_573.out
          refine skip_ (w1 := ?_) (by rfl) rfl ?_ ?_
          rotate_left
          ·go_simp
           rfl
          refine hK.out _ _ ⟨((cell_far (p := ⟨gb572, _, none⟩) NB567_572.out _).trans (((cell_far (p := ⟨gb572, _, none⟩) NB567_572.out _).trans (((cell_far (p := ⟨gb572, _, none⟩) NB567_572.out _).trans (hHeld.1)))))), ((cell_far (p := ⟨gb572, _, none⟩) NB567_572.out _).trans (((cell_far (p := ⟨gb572, _, none⟩) NB567_572.out _).trans (((cell_far (p := ⟨gb572, _, none⟩) NB567_572.out _).trans (hHeld.2.1)))))), ((cell_far (p := ⟨gb572, _, none⟩) NB567_572.out _).trans (((cell_far (p := ⟨gb572, _, none⟩) NB567_572.out _).trans (((cell_far (p := ⟨gb572, _, none⟩) NB567_572.out _).trans (hHeld.2.2.1)))))), ((cell_far (p := ⟨gb572, _, none⟩) NB568_572.out _).trans (((cell_far (p := ⟨gb572, _, none⟩) NB568_572.out _).trans (((cell_far (p := ⟨gb572, _, none⟩) NB568_572.out _).trans (hHeld.2.2.2.1)))))), ((cell_far (p := ⟨gb572, _, none⟩) NB568_572.out _).trans (((cell_far (p := ⟨gb572, _, none⟩) NB568_572.out _).trans (((cell_far (p := ⟨gb572, _, none⟩) NB568_572.out _).trans (hHeld.2.2.2.2.1)))))), ((cell_far (p := ⟨gb572, _, none⟩) NB568_572.out _).trans (((cell_far (p := ⟨gb572, _, none⟩) NB568_572.out _).trans (((cell_far (p := ⟨gb572, _, none⟩) NB568_572.out _).trans (hHeld.2.2.2.2.2))))))⟩ (fun hHeld => ?_)
          clear hK K
          refine done_ (done_of HT_.out (by kernel_rfl)) ?_
          try go_wp2
          go_meet
          case rel => exact ⟨_, (t596), (t597), (t598), H', ⟨by have := HJ7.out; have := HJ58.out; have := HJ80.out; omega⟩, ⟨by refine blk_far ?_ NB567_572.out _; refine blk_far ?_ NB567_572.out _; refine blk_far ?_ NB567_572.out _; exact BK567.out⟩, ⟨by refine blk_far ?_ NB568_572.out _; refine blk_far ?_ NB568_572.out _; refine blk_far ?_ NB568_572.out _; exact BK568.out⟩, ⟨by refine blk_far ?_ NB570_572.out _; refine blk_far ?_ NB570_572.out _; refine blk_far ?_ NB570_572.out _; exact BK570.out⟩, ⟨by refine blk_far ?_ NB571_572.out _; refine blk_far ?_ NB571_572.out _; refine blk_far ?_ NB571_572.out _; exact BK571.out⟩, ⟨by refine blk_put (cs := #[.int .i64 t596, .int .u64 t597, .int .u64 0]) ?_ 2 _ rfl; refine blk_put (cs := #[.int .i64 t596, .int .u64 0, .int .u64 0]) ?_ 1 _ rfl; refine blk_put (cs := #[.int .i64 0, .int .u64 0, .int .u64 0]) ?_ 0 _ rfl; exact BK572.out⟩, ⟨by refine blk_far ?_ NB573_572.out _; refine blk_far ?_ NB573_572.out _; refine blk_far ?_ NB573_572.out _; exact BK573.out⟩, ⟨by repeat (with_reducible first | exact HB.out | refine below_set ?_ GE572.out)⟩⟩
         ·replace c106 := Bool.eq_false_iff.mpr c106
          subst c106
          have H1 : (masklaw1_BitsParts.j3 kj80 a2 a3 a4 a0_0 a0_1 a0_2 a1_0 a1_1 a1_2 x571000_58 x571001_58 x571002_58 0 0 0 0 0 0 0 0 0) = some r := by rw [if_neg (show ¬ (false = true) by decide)] at H; exact H
          clear H
          have H := H1
          clear H1
          have H' := Aside0.mk H
          clear H
          go_wp2
          go_meet
          case rel => exact ⟨_, (0), (0), (0), H', ⟨by have := HJ7.out; have := HJ58.out; have := HJ80.out; omega⟩, ⟨by exact BK567.out⟩, ⟨by exact BK568.out⟩, ⟨by exact BK570.out⟩, ⟨by exact BK571.out⟩, ⟨by exact BK572.out⟩, ⟨by exact BK573.out⟩, ⟨by repeat (with_reducible exact HB.out)⟩⟩
        case rest =>
         clear HC105
         obtain ⟨kq, x573000_104, x573001_104, x573002_104, HA, HJ104, BK567, BK568, BK570, BK571, BK572, BK573, HB⟩ := hcut
         cases kq with
         | zero => exact absurd HA.out (by simp [masklaw1_BitsParts.j3])
         | succ kj104 =>
          have H := HA.out
          clear HA
          simp only [masklaw1_BitsParts.j3] at H
          have HC124 := Aside0.mk H
          clear H
          go_upto_region 8 with (fail)
          go_cut [73] (fun v73 wc => ∃ (kq : Nat) (x73_123 : Bool), v73 = .bool x73_123 ∧ Aside0 (masklaw1_BitsParts.j4 kq a2 a3 a4 x73_123 a0_0 a0_1 a0_2 a1_0 a1_1 a1_2 x571000_58 x571001_58 x571002_58 0 0 0 x573000_104 x573001_104 x573002_104 0 0 0 = some r) ∧ Aside0 (kq ≤ kj104) ∧ Aside0 (wc.heap[gb567]? = some (.cells #[.int .i64 a0_0, .int .u64 a0_1, .int .u64 a0_2] 24 (0, 0))) ∧ Aside0 (wc.heap[gb568]? = some (.cells #[.int .i64 a1_0, .int .u64 a1_1, .int .u64 a1_2] 24 (0, 0))) ∧ Aside0 (wc.heap[gb570]? = some (.cells #[.int .i64 x571000_58, .int .u64 x571001_58, .int .u64 x571002_58] 24 (0, 0))) ∧ Aside0 (wc.heap[gb571]? = some (.cells #[.int .i64 0, .int .u64 0, .int .u64 0] 24 (0, 0))) ∧ Aside0 (wc.heap[gb572]? = some (.cells #[.int .i64 x573000_104, .int .u64 x573001_104, .int .u64 x573002_104] 24 (0, 0))) ∧ Aside0 (wc.heap[gb573]? = some (.cells #[.int .i64 0, .int .u64 0, .int .u64 0] 24 (0, 0))) ∧ Aside0 (Below w.heap.size w wc))
          case first =>
           have H := HC124.out
           clear HC124
           replace H := Option.bind_eq_some_iff.mp H
           obtain ⟨t599, A1250, H⟩ := H
           replace H : (if t599 = true then (if a3 ≥ 1 then (masklaw1_BitsParts.j4 kj104 a2 a3 a4 (decide (a3 ≤ 64)) a0_0 a0_1 a0_2 a1_0 a1_1 a1_2 x571000_58 x571001_58 x571002_58 0 0 0 x573000_104 x573001_104 x573002_104 0 0 0) else (masklaw1_BitsParts.j4 kj104 a2 a3 a4 false a0_0 a0_1 a0_2 a1_0 a1_1 a1_2 x571000_58 x571001_58 x571002_58 0 0 0 x573000_104 x573001_104 x573002_104 0 0 0)) else (masklaw1_BitsParts.j4 kj104 a2 a3 a4 false a0_0 a0_1 a0_2 a1_0 a1_1 a1_2 x571000_58 x571001_58 x571002_58 0 0 0 x573000_104 x573001_104 x573002_104 0 0 0)) = some r := H
           have A125 := Aside0.mk A1250
           clear A1250
           by_cases c126 : t599 = true
           ·subst c126
            have H1 : (if a3 ≥ 1 then (masklaw1_BitsParts.j4 kj104 a2 a3 a4 (decide (a3 ≤ 64)) a0_0 a0_1 a0_2 a1_0 a1_1 a1_2 x571000_58 x571001_58 x571002_58 0 0 0 x573000_104 x573001_104 x573002_104 0 0 0) else (masklaw1_BitsParts.j4 kj104 a2 a3 a4 false a0_0 a0_1 a0_2 a1_0 a1_1 a1_2 x571000_58 x571001_58 x571002_58 0 0 0 x573000_104 x573001_104 x573002_104 0 0 0)) = some r := by rw [if_pos rfl] at H; exact H
            clear H
            have H := H1
            clear H1
            by_cases c127 : a3 ≥ 1
            ·rw [if_pos c127] at H
             have c127b0 : decide (1 ≤ a3) = true := decide_eq_true c127
             clear c127
             (skip)
             have H' := Aside0.mk H
             clear H
             have hnb128 := NB567_568.out
             have hnc128 := NB568_567.out
             have hnb129 := NB567_570.out
             have hnc129 := NB570_567.out
             have hnb130 := NB567_571.out
             have hnc130 := NB571_567.out
             have hnb131 := NB567_572.out
             have hnc131 := NB572_567.out
             have hnb132 := NB567_573.out
             have hnc132 := NB573_567.out
             obtain ⟨hcz133_0, hcz133_1, hcz133_2⟩ := sq_cells3 (W := wc) (g := gb567) BK567.out; obtain ⟨hfz133_0, hfz133_1, hfz133_2⟩ := sq_frozen3 BK567.out
             go_wp2_with (((with_reducible refine gate_callee (f := 14) rfl ?_); refine goesL_ (some 65) rfl rfl Tryd.func14 (by kernel_rfl) rfl #[.agg #[.int .i64 a0_0, .int .u64 a0_1, .int .u64 a0_2]] rfl (by (try simp only [List.map_toArray, List.map_cons, List.map_nil]); rfl) ?_; (with_reducible refine (maskref1_Valid.calls kj104 a0_0 a0_1 a0_2 true _ A125.out).mono ?_); rintro e w134 ⟨rfl, hb⟩; refine ⟨_, rfl, ?_⟩; replace BK567 := bk1 BK567 hb; replace BK568 := bk1 BK568 hb; replace BK570 := bk1 BK570 hb; replace BK571 := bk1 BK571 hb; replace BK572 := bk1 BK572 hb; replace BK573 := bk1 BK573 hb; replace HB := hb1 HB hb; (try clear hb)))
             go_meet
             case rel => exact ⟨_, (decide (a3 ≤ 64)), (by rfl), H', ⟨by have := HJ7.out; have := HJ58.out; have := HJ80.out; have := HJ104.out; omega⟩, ⟨by exact BK567.out⟩, ⟨by exact BK568.out⟩, ⟨by exact BK570.out⟩, ⟨by exact BK571.out⟩, ⟨by exact BK572.out⟩, ⟨by exact BK573.out⟩, ⟨by repeat (with_reducible exact HB.out)⟩⟩
            ·rw [if_neg c127] at H
             have c127b0 : decide (1 ≤ a3) = false := decide_eq_false c127
             clear c127
             (skip)
             have H' := Aside0.mk H
             clear H
             have hnb135 := NB567_568.out
             have hnc135 := NB568_567.out
             have hnb136 := NB567_570.out
             have hnc136 := NB570_567.out
             have hnb137 := NB567_571.out
             have hnc137 := NB571_567.out
             have hnb138 := NB567_572.out
             have hnc138 := NB572_567.out
             have hnb139 := NB567_573.out
             have hnc139 := NB573_567.out
             obtain ⟨hcz140_0, hcz140_1, hcz140_2⟩ := sq_cells3 (W := wc) (g := gb567) BK567.out; obtain ⟨hfz140_0, hfz140_1, hfz140_2⟩ := sq_frozen3 BK567.out
             go_wp2_with (((with_reducible refine gate_callee (f := 14) rfl ?_); refine goesL_ (some 65) rfl rfl Tryd.func14 (by kernel_rfl) rfl #[.agg #[.int .i64 a0_0, .int .u64 a0_1, .int .u64 a0_2]] rfl (by (try simp only [List.map_toArray, List.map_cons, List.map_nil]); rfl) ?_; (with_reducible refine (maskref1_Valid.calls kj104 a0_0 a0_1 a0_2 true _ A125.out).mono ?_); rintro e w141 ⟨rfl, hb⟩; refine ⟨_, rfl, ?_⟩; replace BK567 := bk1 BK567 hb; replace BK568 := bk1 BK568 hb; replace BK570 := bk1 BK570 hb; replace BK571 := bk1 BK571 hb; replace BK572 := bk1 BK572 hb; replace BK573 := bk1 BK573 hb; replace HB := hb1 HB hb; (try clear hb)))
             go_meet
             case rel => exact ⟨_, (false), (by rfl), H', ⟨by have := HJ7.out; have := HJ58.out; have := HJ80.out; have := HJ104.out; omega⟩, ⟨by exact BK567.out⟩, ⟨by exact BK568.out⟩, ⟨by exact BK570.out⟩, ⟨by exact BK571.out⟩, ⟨by exact BK572.out⟩, ⟨by exact BK573.out⟩, ⟨by repeat (with_reducible exact HB.out)⟩⟩
           ·replace c126 := Bool.eq_false_iff.mpr c126
            subst c126
            have H1 : (masklaw1_BitsParts.j4 kj104 a2 a3 a4 false a0_0 a0_1 a0_2 a1_0 a1_1 a1_2 x571000_58 x571001_58 x571002_58 0 0 0 x573000_104 x573001_104 x573002_104 0 0 0) = some r := by rw [if_neg (show ¬ (false = true) by decide)] at H; exact H
            clear H
            have H := H1
            clear H1
            have H' := Aside0.mk H
            clear H
            have hnb142 := NB567_568.out
            have hnc142 := NB568_567.out
            have hnb143 := NB567_570.out
            have hnc143 := NB570_567.out
            have hnb144 := NB567_571.out
            have hnc144 := NB571_567.out
            have hnb145 := NB567_572.out
            have hnc145 := NB572_567.out
            have hnb146 := NB567_573.out
            have hnc146 := NB573_567.out
            obtain ⟨hcz147_0, hcz147_1, hcz147_2⟩ := sq_cells3 (W := wc) (g := gb567) BK567.out; obtain ⟨hfz147_0, hfz147_1, hfz147_2⟩ := sq_frozen3 BK567.out
            go_wp2_with (((with_reducible refine gate_callee (f := 14) rfl ?_); refine goesL_ (some 65) rfl rfl Tryd.func14 (by kernel_rfl) rfl #[.agg #[.int .i64 a0_0, .int .u64 a0_1, .int .u64 a0_2]] rfl (by (try simp only [List.map_toArray, List.map_cons, List.map_nil]); rfl) ?_; (with_reducible refine (maskref1_Valid.calls kj104 a0_0 a0_1 a0_2 false _ A125.out).mono ?_); rintro e w148 ⟨rfl, hb⟩; refine ⟨_, rfl, ?_⟩; replace BK567 := bk1 BK567 hb; replace BK568 := bk1 BK568 hb; replace BK570 := bk1 BK570 hb; replace BK571 := bk1 BK571 hb; replace BK572 := bk1 BK572 hb; replace BK573 := bk1 BK573 hb; replace HB := hb1 HB hb; (try clear hb)))
            go_meet
            case rel => exact ⟨_, (false), (by rfl), H', ⟨by have := HJ7.out; have := HJ58.out; have := HJ80.out; have := HJ104.out; omega⟩, ⟨by exact BK567.out⟩, ⟨by exact BK568.out⟩, ⟨by exact BK570.out⟩, ⟨by exact BK571.out⟩, ⟨by exact BK572.out⟩, ⟨by exact BK573.out⟩, ⟨by repeat (with_reducible exact HB.out)⟩⟩
          case rest =>
           clear HC124
           obtain ⟨kq, x73_123, rfl, HA, HJ123, BK567, BK568, BK570, BK571, BK572, BK573, HB⟩ := hcut
           cases kq with
           | zero => exact absurd HA.out (by simp [masklaw1_BitsParts.j4])
           | succ kj123 =>
            have H := HA.out
            clear HA
            simp only [masklaw1_BitsParts.j4] at H
            have HC149 := Aside0.mk H
            clear H
            go_upto_if 73 with (fail)
            go_cut [] (fun wc => ∃ (kq : Nat) (x572000_148 : Int) (x572001_148 : Int) (x572002_148 : Int) (x574000_148 : Int) (x574001_148 : Int) (x574002_148 : Int), Aside0 (masklaw1_BitsParts.j5 kq a2 a3 a4 a0_0 a0_1 a0_2 a1_0 a1_1 a1_2 x571000_58 x571001_58 x571002_58 x572000_148 x572001_148 x572002_148 x573000_104 x573001_104 x573002_104 x574000_148 x574001_148 x574002_148 = some r) ∧ Aside0 (kq ≤ kj123) ∧ Aside0 (wc.heap[gb567]? = some (.cells #[.int .i64 a0_0, .int .u64 a0_1, .int .u64 a0_2] 24 (0, 0))) ∧ Aside0 (wc.heap[gb568]? = some (.cells #[.int .i64 a1_0, .int .u64 a1_1, .int .u64 a1_2] 24 (0, 0))) ∧ Aside0 (wc.heap[gb570]? = some (.cells #[.int .i64 x571000_58, .int .u64 x571001_58, .int .u64 x571002_58] 24 (0, 0))) ∧ Aside0 (wc.heap[gb571]? = some (.cells #[.int .i64 x572000_148, .int .u64 x572001_148, .int .u64 x572002_148] 24 (0, 0))) ∧ Aside0 (wc.heap[gb572]? = some (.cells #[.int .i64 x573000_104, .int .u64 x573001_104, .int .u64 x573002_104] 24 (0, 0))) ∧ Aside0 (wc.heap[gb573]? = some (.cells #[.int .i64 x574000_148, .int .u64 x574001_148, .int .u64 x574002_148] 24 (0, 0))) ∧ Aside0 (Below w.heap.size w wc))
            case first =>
             have H := HC149.out
             clear HC149
             by_cases c150 : x73_123 = true
             ·subst c150
              have H1 : ((maskref1_V.f kj123 a0_0 a0_1 a0_2).bind fun t600 => ((maskref1_Stretched.f kj123 t600 a3 a4).bind fun t603 => ((maskref1_B.f kj123 t603).bind fun bt606 => ((maskref1_Valid.f kj123 a1_0 a1_1 a1_2).bind fun t609 => (if t609 = true then ((maskref1_Fill.f kj123 a3 120).bind fun t610 => ((maskref1_B.f kj123 t610).bind fun bt613 => ((maskref1_V.f kj123 a1_0 a1_1 a1_2).bind fun t616 => ((maskref1_Known.f kj123 t616).bind fun t619 => (if t619 = true then ((maskref1_V.f kj123 a0_0 a0_1 a0_2).bind fun t620 => ((maskref1_V.f kj123 a1_0 a1_1 a1_2).bind fun t623 => ((maskref1_Offset.f kj123 t623 a4).bind fun t626 => ((maskref1_Window.f kj123 t620 t626 a3).bind fun t627 => ((maskref1_B.f kj123 t627).bind fun bt630 => (masklaw1_BitsParts.j5 kj123 a2 a3 a4 a0_0 a0_1 a0_2 a1_0 a1_1 a1_2 x571000_58 x571001_58 x571002_58 bt630.1 bt630.2.1 bt630.2.2 x573000_104 x573001_104 x573002_104 bt606.1 bt606.2.1 bt606.2.2)))))) else (masklaw1_BitsParts.j5 kj123 a2 a3 a4 a0_0 a0_1 a0_2 a1_0 a1_1 a1_2 x571000_58 x571001_58 x571002_58 bt613.1 bt613.2.1 bt613.2.2 x573000_104 x573001_104 x573002_104 bt606.1 bt606.2.1 bt606.2.2)))))) else (masklaw1_BitsParts.j5 kj123 a2 a3 a4 a0_0 a0_1 a0_2 a1_0 a1_1 a1_2 x571000_58 x571001_58 x571002_58 0 0 0 x573000_104 x573001_104 x573002_104 bt606.1 bt606.2.1 bt606.2.2)))))) = some r := by rw [if_pos rfl] at H; exact H
              clear H
              have H := H1
              clear H1
              replace H := Option.bind_eq_some_iff.mp H
              obtain ⟨t600, A1510, H⟩ := H
              replace H : ((maskref1_Stretched.f kj123 t600 a3 a4).bind fun t603 => ((maskref1_B.f kj123 t603).bind fun bt606 => ((maskref1_Valid.f kj123 a1_0 a1_1 a1_2).bind fun t609 => (if t609 = true then ((maskref1_Fill.f kj123 a3 120).bind fun t610 => ((maskref1_B.f kj123 t610).bind fun bt613 => ((maskref1_V.f kj123 a1_0 a1_1 a1_2).bind fun t616 => ((maskref1_Known.f kj123 t616).bind fun t619 => (if t619 = true then ((maskref1_V.f kj123 a0_0 a0_1 a0_2).bind fun t620 => ((maskref1_V.f kj123 a1_0 a1_1 a1_2).bind fun t623 => ((maskref1_Offset.f kj123 t623 a4).bind fun t626 => ((maskref1_Window.f kj123 t620 t626 a3).bind fun t627 => ((maskref1_B.f kj123 t627).bind fun bt630 => (masklaw1_BitsParts.j5 kj123 a2 a3 a4 a0_0 a0_1 a0_2 a1_0 a1_1 a1_2 x571000_58 x571001_58 x571002_58 bt630.1 bt630.2.1 bt630.2.2 x573000_104 x573001_104 x573002_104 bt606.1 bt606.2.1 bt606.2.2)))))) else (masklaw1_BitsParts.j5 kj123 a2 a3 a4 a0_0 a0_1 a0_2 a1_0 a1_1 a1_2 x571000_58 x571001_58 x571002_58 bt613.1 bt613.2.1 bt613.2.2 x573000_104 x573001_104 x573002_104 bt606.1 bt606.2.1 bt606.2.2)))))) else (masklaw1_BitsParts.j5 kj123 a2 a3 a4 a0_0 a0_1 a0_2 a1_0 a1_1 a1_2 x571000_58 x571001_58 x571002_58 0 0 0 x573000_104 x573001_104 x573002_104 bt606.1 bt606.2.1 bt606.2.2))))) = some r := H
              have A151 := Aside0.mk A1510
              clear A1510
              replace H := Option.bind_eq_some_iff.mp H
              obtain ⟨t603, A1520, H⟩ := H
              replace H : ((maskref1_B.f kj123 t603).bind fun bt606 => ((maskref1_Valid.f kj123 a1_0 a1_1 a1_2).bind fun t609 => (if t609 = true then ((maskref1_Fill.f kj123 a3 120).bind fun t610 => ((maskref1_B.f kj123 t610).bind fun bt613 => ((maskref1_V.f kj123 a1_0 a1_1 a1_2).bind fun t616 => ((maskref1_Known.f kj123 t616).bind fun t619 => (if t619 = true then ((maskref1_V.f kj123 a0_0 a0_1 a0_2).bind fun t620 => ((maskref1_V.f kj123 a1_0 a1_1 a1_2).bind fun t623 => ((maskref1_Offset.f kj123 t623 a4).bind fun t626 => ((maskref1_Window.f kj123 t620 t626 a3).bind fun t627 => ((maskref1_B.f kj123 t627).bind fun bt630 => (masklaw1_BitsParts.j5 kj123 a2 a3 a4 a0_0 a0_1 a0_2 a1_0 a1_1 a1_2 x571000_58 x571001_58 x571002_58 bt630.1 bt630.2.1 bt630.2.2 x573000_104 x573001_104 x573002_104 bt606.1 bt606.2.1 bt606.2.2)))))) else (masklaw1_BitsParts.j5 kj123 a2 a3 a4 a0_0 a0_1 a0_2 a1_0 a1_1 a1_2 x571000_58 x571001_58 x571002_58 bt613.1 bt613.2.1 bt613.2.2 x573000_104 x573001_104 x573002_104 bt606.1 bt606.2.1 bt606.2.2)))))) else (masklaw1_BitsParts.j5 kj123 a2 a3 a4 a0_0 a0_1 a0_2 a1_0 a1_1 a1_2 x571000_58 x571001_58 x571002_58 0 0 0 x573000_104 x573001_104 x573002_104 bt606.1 bt606.2.1 bt606.2.2)))) = some r := H
              have A152 := Aside0.mk A1520
              clear A1520
              replace H := Option.bind_eq_some_iff.mp H
              obtain ⟨⟨t606, t607, t608⟩, A1530, H⟩ := H
              replace H : ((maskref1_Valid.f kj123 a1_0 a1_1 a1_2).bind fun t609 => (if t609 = true then ((maskref1_Fill.f kj123 a3 120).bind fun t610 => ((maskref1_B.f kj123 t610).bind fun bt613 => ((maskref1_V.f kj123 a1_0 a1_1 a1_2).bind fun t616 => ((maskref1_Known.f kj123 t616).bind fun t619 => (if t619 = true then ((maskref1_V.f kj123 a0_0 a0_1 a0_2).bind fun t620 => ((maskref1_V.f kj123 a1_0 a1_1 a1_2).bind fun t623 => ((maskref1_Offset.f kj123 t623 a4).bind fun t626 => ((maskref1_Window.f kj123 t620 t626 a3).bind fun t627 => ((maskref1_B.f kj123 t627).bind fun bt630 => (masklaw1_BitsParts.j5 kj123 a2 a3 a4 a0_0 a0_1 a0_2 a1_0 a1_1 a1_2 x571000_58 x571001_58 x571002_58 bt630.1 bt630.2.1 bt630.2.2 x573000_104 x573001_104 x573002_104 t606 t607 t608)))))) else (masklaw1_BitsParts.j5 kj123 a2 a3 a4 a0_0 a0_1 a0_2 a1_0 a1_1 a1_2 x571000_58 x571001_58 x571002_58 bt613.1 bt613.2.1 bt613.2.2 x573000_104 x573001_104 x573002_104 t606 t607 t608)))))) else (masklaw1_BitsParts.j5 kj123 a2 a3 a4 a0_0 a0_1 a0_2 a1_0 a1_1 a1_2 x571000_58 x571001_58 x571002_58 0 0 0 x573000_104 x573001_104 x573002_104 t606 t607 t608))) = some r := H
              have A153 := Aside0.mk A1530
              clear A1530
              replace H := Option.bind_eq_some_iff.mp H
              obtain ⟨t609, A1540, H⟩ := H
              replace H : (if t609 = true then ((maskref1_Fill.f kj123 a3 120).bind fun t610 => ((maskref1_B.f kj123 t610).bind fun bt613 => ((maskref1_V.f kj123 a1_0 a1_1 a1_2).bind fun t616 => ((maskref1_Known.f kj123 t616).bind fun t619 => (if t619 = true then ((maskref1_V.f kj123 a0_0 a0_1 a0_2).bind fun t620 => ((maskref1_V.f kj123 a1_0 a1_1 a1_2).bind fun t623 => ((maskref1_Offset.f kj123 t623 a4).bind fun t626 => ((maskref1_Window.f kj123 t620 t626 a3).bind fun t627 => ((maskref1_B.f kj123 t627).bind fun bt630 => (masklaw1_BitsParts.j5 kj123 a2 a3 a4 a0_0 a0_1 a0_2 a1_0 a1_1 a1_2 x571000_58 x571001_58 x571002_58 bt630.1 bt630.2.1 bt630.2.2 x573000_104 x573001_104 x573002_104 t606 t607 t608)))))) else (masklaw1_BitsParts.j5 kj123 a2 a3 a4 a0_0 a0_1 a0_2 a1_0 a1_1 a1_2 x571000_58 x571001_58 x571002_58 bt613.1 bt613.2.1 bt613.2.2 x573000_104 x573001_104 x573002_104 t606 t607 t608)))))) else (masklaw1_BitsParts.j5 kj123 a2 a3 a4 a0_0 a0_1 a0_2 a1_0 a1_1 a1_2 x571000_58 x571001_58 x571002_58 0 0 0 x573000_104 x573001_104 x573002_104 t606 t607 t608)) = some r := H
              have A154 := Aside0.mk A1540
              clear A1540
              by_cases c155 : t609 = true
              ·subst c155
               have H1 : ((maskref1_Fill.f kj123 a3 120).bind fun t610 => ((maskref1_B.f kj123 t610).bind fun bt613 => ((maskref1_V.f kj123 a1_0 a1_1 a1_2).bind fun t616 => ((maskref1_Known.f kj123 t616).bind fun t619 => (if t619 = true then ((maskref1_V.f kj123 a0_0 a0_1 a0_2).bind fun t620 => ((maskref1_V.f kj123 a1_0 a1_1 a1_2).bind fun t623 => ((maskref1_Offset.f kj123 t623 a4).bind fun t626 => ((maskref1_Window.f kj123 t620 t626 a3).bind fun t627 => ((maskref1_B.f kj123 t627).bind fun bt630 => (masklaw1_BitsParts.j5 kj123 a2 a3 a4 a0_0 a0_1 a0_2 a1_0 a1_1 a1_2 x571000_58 x571001_58 x571002_58 bt630.1 bt630.2.1 bt630.2.2 x573000_104 x573001_104 x573002_104 t606 t607 t608)))))) else (masklaw1_BitsParts.j5 kj123 a2 a3 a4 a0_0 a0_1 a0_2 a1_0 a1_1 a1_2 x571000_58 x571001_58 x571002_58 bt613.1 bt613.2.1 bt613.2.2 x573000_104 x573001_104 x573002_104 t606 t607 t608)))))) = some r := by rw [if_pos rfl] at H; exact H
               clear H
               have H := H1
               clear H1
               replace H := Option.bind_eq_some_iff.mp H
               obtain ⟨t610, A1560, H⟩ := H
               replace H : ((maskref1_B.f kj123 t610).bind fun bt613 => ((maskref1_V.f kj123 a1_0 a1_1 a1_2).bind fun t616 => ((maskref1_Known.f kj123 t616).bind fun t619 => (if t619 = true then ((maskref1_V.f kj123 a0_0 a0_1 a0_2).bind fun t620 => ((maskref1_V.f kj123 a1_0 a1_1 a1_2).bind fun t623 => ((maskref1_Offset.f kj123 t623 a4).bind fun t626 => ((maskref1_Window.f kj123 t620 t626 a3).bind fun t627 => ((maskref1_B.f kj123 t627).bind fun bt630 => (masklaw1_BitsParts.j5 kj123 a2 a3 a4 a0_0 a0_1 a0_2 a1_0 a1_1 a1_2 x571000_58 x571001_58 x571002_58 bt630.1 bt630.2.1 bt630.2.2 x573000_104 x573001_104 x573002_104 t606 t607 t608)))))) else (masklaw1_BitsParts.j5 kj123 a2 a3 a4 a0_0 a0_1 a0_2 a1_0 a1_1 a1_2 x571000_58 x571001_58 x571002_58 bt613.1 bt613.2.1 bt613.2.2 x573000_104 x573001_104 x573002_104 t606 t607 t608))))) = some r := H
               have A156 := Aside0.mk A1560
               clear A1560
               replace H := Option.bind_eq_some_iff.mp H
               obtain ⟨⟨t613, t614, t615⟩, A1570, H⟩ := H
               replace H : ((maskref1_V.f kj123 a1_0 a1_1 a1_2).bind fun t616 => ((maskref1_Known.f kj123 t616).bind fun t619 => (if t619 = true then ((maskref1_V.f kj123 a0_0 a0_1 a0_2).bind fun t620 => ((maskref1_V.f kj123 a1_0 a1_1 a1_2).bind fun t623 => ((maskref1_Offset.f kj123 t623 a4).bind fun t626 => ((maskref1_Window.f kj123 t620 t626 a3).bind fun t627 => ((maskref1_B.f kj123 t627).bind fun bt630 => (masklaw1_BitsParts.j5 kj123 a2 a3 a4 a0_0 a0_1 a0_2 a1_0 a1_1 a1_2 x571000_58 x571001_58 x571002_58 bt630.1 bt630.2.1 bt630.2.2 x573000_104 x573001_104 x573002_104 t606 t607 t608)))))) else (masklaw1_BitsParts.j5 kj123 a2 a3 a4 a0_0 a0_1 a0_2 a1_0 a1_1 a1_2 x571000_58 x571001_58 x571002_58 t613 t614 t615 x573000_104 x573001_104 x573002_104 t606 t607 t608)))) = some r := H
               have A157 := Aside0.mk A1570
               clear A1570
               replace H := Option.bind_eq_some_iff.mp H
               obtain ⟨t616, A1580, H⟩ := H
               replace H : ((maskref1_Known.f kj123 t616).bind fun t619 => (if t619 = true then ((maskref1_V.f kj123 a0_0 a0_1 a0_2).bind fun t620 => ((maskref1_V.f kj123 a1_0 a1_1 a1_2).bind fun t623 => ((maskref1_Offset.f kj123 t623 a4).bind fun t626 => ((maskref1_Window.f kj123 t620 t626 a3).bind fun t627 => ((maskref1_B.f kj123 t627).bind fun bt630 => (masklaw1_BitsParts.j5 kj123 a2 a3 a4 a0_0 a0_1 a0_2 a1_0 a1_1 a1_2 x571000_58 x571001_58 x571002_58 bt630.1 bt630.2.1 bt630.2.2 x573000_104 x573001_104 x573002_104 t606 t607 t608)))))) else (masklaw1_BitsParts.j5 kj123 a2 a3 a4 a0_0 a0_1 a0_2 a1_0 a1_1 a1_2 x571000_58 x571001_58 x571002_58 t613 t614 t615 x573000_104 x573001_104 x573002_104 t606 t607 t608))) = some r := H
               have A158 := Aside0.mk A1580
               clear A1580
               replace H := Option.bind_eq_some_iff.mp H
               obtain ⟨t619, A1590, H⟩ := H
               replace H : (if t619 = true then ((maskref1_V.f kj123 a0_0 a0_1 a0_2).bind fun t620 => ((maskref1_V.f kj123 a1_0 a1_1 a1_2).bind fun t623 => ((maskref1_Offset.f kj123 t623 a4).bind fun t626 => ((maskref1_Window.f kj123 t620 t626 a3).bind fun t627 => ((maskref1_B.f kj123 t627).bind fun bt630 => (masklaw1_BitsParts.j5 kj123 a2 a3 a4 a0_0 a0_1 a0_2 a1_0 a1_1 a1_2 x571000_58 x571001_58 x571002_58 bt630.1 bt630.2.1 bt630.2.2 x573000_104 x573001_104 x573002_104 t606 t607 t608)))))) else (masklaw1_BitsParts.j5 kj123 a2 a3 a4 a0_0 a0_1 a0_2 a1_0 a1_1 a1_2 x571000_58 x571001_58 x571002_58 t613 t614 t615 x573000_104 x573001_104 x573002_104 t606 t607 t608)) = some r := H
               have A159 := Aside0.mk A1590
               clear A1590
               by_cases c160 : t619 = true
               ·subst c160
                have H1 : ((maskref1_V.f kj123 a0_0 a0_1 a0_2).bind fun t620 => ((maskref1_V.f kj123 a1_0 a1_1 a1_2).bind fun t623 => ((maskref1_Offset.f kj123 t623 a4).bind fun t626 => ((maskref1_Window.f kj123 t620 t626 a3).bind fun t627 => ((maskref1_B.f kj123 t627).bind fun bt630 => (masklaw1_BitsParts.j5 kj123 a2 a3 a4 a0_0 a0_1 a0_2 a1_0 a1_1 a1_2 x571000_58 x571001_58 x571002_58 bt630.1 bt630.2.1 bt630.2.2 x573000_104 x573001_104 x573002_104 t606 t607 t608)))))) = some r := by rw [if_pos rfl] at H; exact H
                clear H
                have H := H1
                clear H1
                replace H := Option.bind_eq_some_iff.mp H
                obtain ⟨t620, A1610, H⟩ := H
                replace H : ((maskref1_V.f kj123 a1_0 a1_1 a1_2).bind fun t623 => ((maskref1_Offset.f kj123 t623 a4).bind fun t626 => ((maskref1_Window.f kj123 t620 t626 a3).bind fun t627 => ((maskref1_B.f kj123 t627).bind fun bt630 => (masklaw1_BitsParts.j5 kj123 a2 a3 a4 a0_0 a0_1 a0_2 a1_0 a1_1 a1_2 x571000_58 x571001_58 x571002_58 bt630.1 bt630.2.1 bt630.2.2 x573000_104 x573001_104 x573002_104 t606 t607 t608))))) = some r := H
                have A161 := Aside0.mk A1610
                clear A1610
                replace H := Option.bind_eq_some_iff.mp H
                obtain ⟨t623, A1620, H⟩ := H
                replace H : ((maskref1_Offset.f kj123 t623 a4).bind fun t626 => ((maskref1_Window.f kj123 t620 t626 a3).bind fun t627 => ((maskref1_B.f kj123 t627).bind fun bt630 => (masklaw1_BitsParts.j5 kj123 a2 a3 a4 a0_0 a0_1 a0_2 a1_0 a1_1 a1_2 x571000_58 x571001_58 x571002_58 bt630.1 bt630.2.1 bt630.2.2 x573000_104 x573001_104 x573002_104 t606 t607 t608)))) = some r := H
                have A162 := Aside0.mk A1620
                clear A1620
                replace H := Option.bind_eq_some_iff.mp H
                obtain ⟨t626, A1630, H⟩ := H
                replace H : ((maskref1_Window.f kj123 t620 t626 a3).bind fun t627 => ((maskref1_B.f kj123 t627).bind fun bt630 => (masklaw1_BitsParts.j5 kj123 a2 a3 a4 a0_0 a0_1 a0_2 a1_0 a1_1 a1_2 x571000_58 x571001_58 x571002_58 bt630.1 bt630.2.1 bt630.2.2 x573000_104 x573001_104 x573002_104 t606 t607 t608))) = some r := H
                have A163 := Aside0.mk A1630
                clear A1630
                replace H := Option.bind_eq_some_iff.mp H
                obtain ⟨t627, A1640, H⟩ := H
                replace H : ((maskref1_B.f kj123 t627).bind fun bt630 => (masklaw1_BitsParts.j5 kj123 a2 a3 a4 a0_0 a0_1 a0_2 a1_0 a1_1 a1_2 x571000_58 x571001_58 x571002_58 bt630.1 bt630.2.1 bt630.2.2 x573000_104 x573001_104 x573002_104 t606 t607 t608)) = some r := H
                have A164 := Aside0.mk A1640
                clear A1640
                replace H := Option.bind_eq_some_iff.mp H
                obtain ⟨⟨t630, t631, t632⟩, A1650, H⟩ := H
                replace H : (masklaw1_BitsParts.j5 kj123 a2 a3 a4 a0_0 a0_1 a0_2 a1_0 a1_1 a1_2 x571000_58 x571001_58 x571002_58 t630 t631 t632 x573000_104 x573001_104 x573002_104 t606 t607 t608) = some r := H
                have A165 := Aside0.mk A1650
                clear A1650
                have H' := Aside0.mk H
                clear H
                have hnb166 := NB567_568.out
                have hnc166 := NB568_567.out
                have hnb167 := NB567_570.out
                have hnc167 := NB570_567.out
                have hnb168 := NB567_571.out
                have hnc168 := NB571_567.out
                have hnb169 := NB567_572.out
                have hnc169 := NB572_567.out
                have hnb170 := NB567_573.out
                have hnc170 := NB573_567.out
                obtain ⟨hcz171_0, hcz171_1, hcz171_2⟩ := sq_cells3 (W := wc) (g := gb567) BK567.out; obtain ⟨hfz171_0, hfz171_1, hfz171_2⟩ := sq_frozen3 BK567.out
                try go_wp2_with (first | ((with_reducible refine gate_callee (f := 28) rfl ?_); refine goesL_ (some 75) rfl rfl Tryd.func28 (by kernel_rfl) rfl #[.agg #[.int .i64 a0_0, .int .u64 a0_1, .int .u64 a0_2]] rfl (by (try simp only [List.map_toArray, List.map_cons, List.map_nil]); rfl) ?_; (with_reducible refine (maskref1_V.calls kj123 a0_0 a0_1 a0_2 t600 _ A151.out).mono ?_); rintro e w172 ⟨v601, rfl, ho0, hb⟩; refine ⟨_, rfl, ?_⟩; have HO602 := Aside0.mk (Kd.R_lower ho0 (below_size HB.out)); replace BK567 := bk1 BK567 hb; replace BK568 := bk1 BK568 hb; replace BK570 := bk1 BK570 hb; replace BK571 := bk1 BK571 hb; replace BK572 := bk1 BK572 hb; replace BK573 := bk1 BK573 hb; replace HB := hb1 HB hb; (try clear hb); (try clear ho0); obtain ⟨Ao173, co173, eo173⟩ := Kd.R_slice HO602.out; subst eo173) | ((with_reducible refine gate_callee (f := 32) rfl ?_); refine goesL_ (some 78) rfl rfl Tryd.func32 (by kernel_rfl) rfl #[.slice Ao173 t600.length co173, .int .i64 a3, .bool a4] rfl (by (try simp only [List.map_toArray, List.map_cons, List.map_nil]); rfl) ?_; (with_reducible refine (maskref1_Stretched.calls kj123 _ _ t600 a3 a4 t603 _ ?side1 ?side2 A152.out).mono ?_); (case side1 => repeat (exact (Kd.R_reads' HO602.out).2.2)); (case side2 => exact (Kd.R_reads' HO602.out).2.1); rintro e w174 ⟨v604, rfl, ho0, hb⟩; refine ⟨_, rfl, ?_⟩; have HO605 := Aside0.mk (Kd.R_lower (Kd.R_new' ho0 (Kd.R_lt HO602.out)) (below_size HB.out)); replace HO602 := Aside0.mk (Kd.R_elder' HO602.out (Kd.R_base ho0) hb); replace BK567 := bk1 BK567 hb; replace BK568 := bk1 BK568 hb; replace BK570 := bk1 BK570 hb; replace BK571 := bk1 BK571 hb; replace BK572 := bk1 BK572 hb; replace BK573 := bk1 BK573 hb; replace HB := hb1 HB hb; (try clear hb); (try clear ho0); obtain ⟨Ao175, co175, eo175⟩ := Kd.R_slice HO605.out; subst eo175) | ((with_reducible refine gate_callee (f := 26) rfl ?_); refine goesL_ (some 79) rfl rfl Tryd.func26 (by kernel_rfl) rfl #[.slice Ao175 t603.length co175] rfl (by (try simp only [List.map_toArray, List.map_cons, List.map_nil]); rfl) ?_; (with_reducible refine (maskref1_B.calls kj123 _ _ t603 t606 t607 t608 _ ?side1 ?side2 A153.out).mono ?_); (case side1 => repeat (exact (Kd.R_reads' HO605.out).2.2)); (case side2 => exact (Kd.R_reads' HO605.out).2.1); rintro e w176 ⟨rfl, hb⟩; refine ⟨_, rfl, ?_⟩; replace HO602 := Kd.rb1 HO602 hb; replace HO605 := Kd.rb1 HO605 hb; replace BK567 := bk1 BK567 hb; replace BK568 := bk1 BK568 hb; replace BK570 := bk1 BK570 hb; replace BK571 := bk1 BK571 hb; replace BK572 := bk1 BK572 hb; replace BK573 := bk1 BK573 hb; replace HB := hb1 HB hb; (try clear hb); have hnb177 := NB573_568.out; have hnc177 := NB568_573.out; have hnb178 := NB573_570.out; have hnc178 := NB570_573.out; have hnb179 := NB573_571.out; have hnc179 := NB571_573.out; have hnb180 := NB573_572.out; have hnc180 := NB572_573.out; have hcz181_0 : w176.cell? ⟨gb573, 0, none⟩ = some (.int .i64 0) := (blk_cell BK573.out 0).trans rfl; have hcz181_1 : w176.cell? ⟨gb573, 1, none⟩ = some (.int .u64 0) := (blk_cell BK573.out 1).trans rfl; have hcz181_2 : w176.cell? ⟨gb573, 2, none⟩ = some (.int .u64 0) := (blk_cell BK573.out 2).trans rfl; have hfz181_0 := blk_frozen BK573.out 0; have hfz181_1 := blk_frozen BK573.out 1; have hfz181_2 := blk_frozen BK573.out 2; have hnb182 := NB568_570.out; have hnc182 := NB570_568.out; have hnb183 := NB568_571.out; have hnc183 := NB571_568.out; have hnb184 := NB568_572.out; have hnc184 := NB572_568.out; have hcz185_0 : w176.cell? ⟨gb568, 0, none⟩ = some (.int .i64 a1_0) := (blk_cell BK568.out 0).trans rfl; have hcz185_1 : w176.cell? ⟨gb568, 1, none⟩ = some (.int .u64 a1_1) := (blk_cell BK568.out 1).trans rfl; have hcz185_2 : w176.cell? ⟨gb568, 2, none⟩ = some (.int .u64 a1_2) := (blk_cell BK568.out 2).trans rfl; have hfz185_0 := blk_frozen BK568.out 0; have hfz185_1 := blk_frozen BK568.out 1; have hfz185_2 := blk_frozen BK568.out 2) | ((with_reducible refine gate_callee (f := 14) rfl ?_); refine goesL_ (some 81) rfl rfl Tryd.func14 (by kernel_rfl) rfl #[.agg #[.int .i64 a1_0, .int .u64 a1_1, .int .u64 a1_2]] rfl (by (try simp only [List.map_toArray, List.map_cons, List.map_nil]); rfl) ?_; (with_reducible refine (maskref1_Valid.calls kj123 a1_0 a1_1 a1_2 true _ A154.out).mono ?_); rintro e w186 ⟨rfl, hb⟩; refine ⟨_, rfl, ?_⟩; replace HO602 := Aside0.mk (Kd.R_below (by exact (Kd.R_mono (Kd.R_far (p := ⟨gb573, 2, none⟩) (Kd.R_far (p := ⟨gb573, 1, none⟩) (Kd.R_far (p := ⟨gb573, 0, none⟩) (Kd.R_types HO602.out BK573.out (by decide)) (fun _ hk => hk.2) (.int .i64 t606)) (fun _ hk => hk.2) (.int .u64 t607)) (fun _ hk => hk.2) (.int .u64 t608)) (fun _ h_ => h_.1))) hb); replace HO605 := Aside0.mk (Kd.R_below (by exact (Kd.R_mono (Kd.R_far (p := ⟨gb573, 2, none⟩) (Kd.R_far (p := ⟨gb573, 1, none⟩) (Kd.R_far (p := ⟨gb573, 0, none⟩) (Kd.R_types HO605.out BK573.out (by decide)) (fun _ hk => hk.2) (.int .i64 t606)) (fun _ hk => hk.2) (.int .u64 t607)) (fun _ hk => hk.2) (.int .u64 t608)) (fun _ h_ => h_.1))) hb); replace BK567 := Aside0.mk (blk_below (g := gb567) (o := .cells #[.int .i64 a0_0, .int .u64 a0_1, .int .u64 a0_2] 24 (0, 0)) (by refine blk_far ?_ NB567_573.out _; refine blk_far ?_ NB567_573.out _; refine blk_far ?_ NB567_573.out _; exact BK567.out) hb); replace BK568 := Aside0.mk (blk_below (g := gb568) (o := .cells #[.int .i64 a1_0, .int .u64 a1_1, .int .u64 a1_2] 24 (0, 0)) (by refine blk_far ?_ NB568_573.out _; refine blk_far ?_ NB568_573.out _; refine blk_far ?_ NB568_573.out _; exact BK568.out) hb); replace BK570 := Aside0.mk (blk_below (g := gb570) (o := .cells #[.int .i64 x571000_58, .int .u64 x571001_58, .int .u64 x571002_58] 24 (0, 0)) (by refine blk_far ?_ NB570_573.out _; refine blk_far ?_ NB570_573.out _; refine blk_far ?_ NB570_573.out _; exact BK570.out) hb); replace BK571 := Aside0.mk (blk_below (g := gb571) (o := .cells #[.int .i64 0, .int .u64 0, .int .u64 0] 24 (0, 0)) (by refine blk_far ?_ NB571_573.out _; refine blk_far ?_ NB571_573.out _; refine blk_far ?_ NB571_573.out _; exact BK571.out) hb); replace BK572 := Aside0.mk (blk_below (g := gb572) (o := .cells #[.int .i64 x573000_104, .int .u64 x573001_104, .int .u64 x573002_104] 24 (0, 0)) (by refine blk_far ?_ NB572_573.out _; refine blk_far ?_ NB572_573.out _; refine blk_far ?_ NB572_573.out _; exact BK572.out) hb); replace BK573 := Aside0.mk (blk_below (g := gb573) (o := .cells #[.int .i64 t606, .int .u64 t607, .int .u64 t608] 24 (0, 0)) (by refine blk_put (cs := #[.int .i64 t606, .int .u64 t607, .int .u64 0]) ?_ 2 _ rfl; refine blk_put (cs := #[.int .i64 t606, .int .u64 0, .int .u64 0]) ?_ 1 _ rfl; refine blk_put (cs := #[.int .i64 0, .int .u64 0, .int .u64 0]) ?_ 0 _ rfl; exact BK573.out) hb); replace HB := hb1 HB hb; (try clear hb)) | ((with_reducible refine gate_callee (f := 27) rfl ?_); refine goesL_ (some 83) rfl rfl Tryd.func27 (by kernel_rfl) rfl #[.int .i64 a3, .int .u8 120] rfl (by (try simp only [List.map_toArray, List.map_cons, List.map_nil]); rfl) ?_; (with_reducible refine (maskref1_Fill.calls kj123 a3 120 t610 _ A156.out).mono ?_); rintro e w187 ⟨v611, rfl, ho0, hb⟩; refine ⟨_, rfl, ?_⟩; have HO612 := Aside0.mk (Kd.R_lower (Kd.R_new' (Kd.R_new' ho0 (Kd.R_lt HO602.out)) (Kd.R_lt HO605.out)) (below_size HB.out)); replace HO602 := Aside0.mk (Kd.R_elder' HO602.out (Kd.R_base ho0) hb); replace HO605 := Aside0.mk (Kd.R_elder' HO605.out (Kd.R_base ho0) hb); replace BK567 := bk1 BK567 hb; replace BK568 := bk1 BK568 hb; replace BK570 := bk1 BK570 hb; replace BK571 := bk1 BK571 hb; replace BK572 := bk1 BK572 hb; replace BK573 := bk1 BK573 hb; replace HB := hb1 HB hb; (try clear hb); (try clear ho0); obtain ⟨Ao188, co188, eo188⟩ := Kd.R_slice HO612.out; subst eo188) | ((with_reducible refine gate_callee (f := 26) rfl ?_); refine goesL_ (some 84) rfl rfl Tryd.func26 (by kernel_rfl) rfl #[.slice Ao188 t610.length co188] rfl (by (try simp only [List.map_toArray, List.map_cons, List.map_nil]); rfl) ?_; (with_reducible refine (maskref1_B.calls kj123 _ _ t610 t613 t614 t615 _ ?side1 ?side2 A157.out).mono ?_); (case side1 => repeat (exact (Kd.R_reads' HO612.out).2.2)); (case side2 => exact (Kd.R_reads' HO612.out).2.1); rintro e w189 ⟨rfl, hb⟩; refine ⟨_, rfl, ?_⟩; replace HO602 := Kd.rb1 HO602 hb; replace HO605 := Kd.rb1 HO605 hb; replace HO612 := Kd.rb1 HO612 hb; replace BK567 := bk1 BK567 hb; replace BK568 := bk1 BK568 hb; replace BK570 := bk1 BK570 hb; replace BK571 := bk1 BK571 hb; replace BK572 := bk1 BK572 hb; replace BK573 := bk1 BK573 hb; replace HB := hb1 HB hb; (try clear hb); have hnb190 := NB571_570.out; have hnc190 := NB570_571.out; have hnb191 := NB571_572.out; have hnc191 := NB572_571.out; have hcz192_0 : w189.cell? ⟨gb571, 0, none⟩ = some (.int .i64 0) := (blk_cell BK571.out 0).trans rfl; have hcz192_1 : w189.cell? ⟨gb571, 1, none⟩ = some (.int .u64 0) := (blk_cell BK571.out 1).trans rfl; have hcz192_2 : w189.cell? ⟨gb571, 2, none⟩ = some (.int .u64 0) := (blk_cell BK571.out 2).trans rfl; have hfz192_0 := blk_frozen BK571.out 0; have hfz192_1 := blk_frozen BK571.out 1; have hfz192_2 := blk_frozen BK571.out 2; have hcz193_0 : w189.cell? ⟨gb568, 0, none⟩ = some (.int .i64 a1_0) := (blk_cell BK568.out 0).trans rfl; have hcz193_1 : w189.cell? ⟨gb568, 1, none⟩ = some (.int .u64 a1_1) := (blk_cell BK568.out 1).trans rfl; have hcz193_2 : w189.cell? ⟨gb568, 2, none⟩ = some (.int .u64 a1_2) := (blk_cell BK568.out 2).trans rfl; have hfz193_0 := blk_frozen BK568.out 0; have hfz193_1 := blk_frozen BK568.out 1; have hfz193_2 := blk_frozen BK568.out 2) | ((with_reducible refine gate_callee (f := 28) rfl ?_); refine goesL_ (some 86) rfl rfl Tryd.func28 (by kernel_rfl) rfl #[.agg #[.int .i64 a1_0, .int .u64 a1_1, .int .u64 a1_2]] rfl (by (try simp only [List.map_toArray, List.map_cons, List.map_nil]); rfl) ?_; (with_reducible refine (maskref1_V.calls kj123 a1_0 a1_1 a1_2 t616 _ A158.out).mono ?_); rintro e w194 ⟨v617, rfl, ho0, hb⟩; refine ⟨_, rfl, ?_⟩; have HO618 := Aside0.mk (Kd.R_lower (Kd.R_new' (Kd.R_new' (Kd.R_new' ho0 (Kd.R_lt (by exact (Kd.R_mono (Kd.R_far (p := ⟨gb571, 2, none⟩) (Kd.R_far (p := ⟨gb571, 1, none⟩) (Kd.R_far (p := ⟨gb571, 0, none⟩) (Kd.R_types HO602.out BK571.out (by decide)) (fun _ hk => hk.2) (.int .i64 t613)) (fun _ hk => hk.2) (.int .u64 t614)) (fun _ hk => hk.2) (.int .u64 t615)) (fun _ h_ => h_.1))))) (Kd.R_lt (by exact (Kd.R_mono (Kd.R_far (p := ⟨gb571, 2, none⟩) (Kd.R_far (p := ⟨gb571, 1, none⟩) (Kd.R_far (p := ⟨gb571, 0, none⟩) (Kd.R_types HO605.out BK571.out (by decide)) (fun _ hk => hk.2) (.int .i64 t613)) (fun _ hk => hk.2) (.int .u64 t614)) (fun _ hk => hk.2) (.int .u64 t615)) (fun _ h_ => h_.1))))) (Kd.R_lt (by exact (Kd.R_mono (Kd.R_far (p := ⟨gb571, 2, none⟩) (Kd.R_far (p := ⟨gb571, 1, none⟩) (Kd.R_far (p := ⟨gb571, 0, none⟩) (Kd.R_types HO612.out BK571.out (by decide)) (fun _ hk => hk.2) (.int .i64 t613)) (fun _ hk => hk.2) (.int .u64 t614)) (fun _ hk => hk.2) (.int .u64 t615)) (fun _ h_ => h_.1))))) (below_size (by repeat (with_reducible first | exact HB.out | refine below_set ?_ GE571.out)))); replace HO602 := Aside0.mk (Kd.R_elder' (by exact (Kd.R_mono (Kd.R_far (p := ⟨gb571, 2, none⟩) (Kd.R_far (p := ⟨gb571, 1, none⟩) (Kd.R_far (p := ⟨gb571, 0, none⟩) (Kd.R_types HO602.out BK571.out (by decide)) (fun _ hk => hk.2) (.int .i64 t613)) (fun _ hk => hk.2) (.int .u64 t614)) (fun _ hk => hk.2) (.int .u64 t615)) (fun _ h_ => h_.1))) (Kd.R_base ho0) hb); replace HO605 := Aside0.mk (Kd.R_elder' (by exact (Kd.R_mono (Kd.R_far (p := ⟨gb571, 2, none⟩) (Kd.R_far (p := ⟨gb571, 1, none⟩) (Kd.R_far (p := ⟨gb571, 0, none⟩) (Kd.R_types HO605.out BK571.out (by decide)) (fun _ hk => hk.2) (.int .i64 t613)) (fun _ hk => hk.2) (.int .u64 t614)) (fun _ hk => hk.2) (.int .u64 t615)) (fun _ h_ => h_.1))) (Kd.R_base ho0) hb); replace HO612 := Aside0.mk (Kd.R_elder' (by exact (Kd.R_mono (Kd.R_far (p := ⟨gb571, 2, none⟩) (Kd.R_far (p := ⟨gb571, 1, none⟩) (Kd.R_far (p := ⟨gb571, 0, none⟩) (Kd.R_types HO612.out BK571.out (by decide)) (fun _ hk => hk.2) (.int .i64 t613)) (fun _ hk => hk.2) (.int .u64 t614)) (fun _ hk => hk.2) (.int .u64 t615)) (fun _ h_ => h_.1))) (Kd.R_base ho0) hb); replace BK567 := Aside0.mk (blk_below (g := gb567) (o := .cells #[.int .i64 a0_0, .int .u64 a0_1, .int .u64 a0_2] 24 (0, 0)) (by refine blk_far ?_ NB567_571.out _; refine blk_far ?_ NB567_571.out _; refine blk_far ?_ NB567_571.out _; exact BK567.out) hb); replace BK568 := Aside0.mk (blk_below (g := gb568) (o := .cells #[.int .i64 a1_0, .int .u64 a1_1, .int .u64 a1_2] 24 (0, 0)) (by refine blk_far ?_ NB568_571.out _; refine blk_far ?_ NB568_571.out _; refine blk_far ?_ NB568_571.out _; exact BK568.out) hb); replace BK570 := Aside0.mk (blk_below (g := gb570) (o := .cells #[.int .i64 x571000_58, .int .u64 x571001_58, .int .u64 x571002_58] 24 (0, 0)) (by refine blk_far ?_ NB570_571.out _; refine blk_far ?_ NB570_571.out _; refine blk_far ?_ NB570_571.out _; exact BK570.out) hb); replace BK571 := Aside0.mk (blk_below (g := gb571) (o := .cells #[.int .i64 t613, .int .u64 t614, .int .u64 t615] 24 (0, 0)) (by refine blk_put (cs := #[.int .i64 t613, .int .u64 t614, .int .u64 0]) ?_ 2 _ rfl; refine blk_put (cs := #[.int .i64 t613, .int .u64 0, .int .u64 0]) ?_ 1 _ rfl; refine blk_put (cs := #[.int .i64 0, .int .u64 0, .int .u64 0]) ?_ 0 _ rfl; exact BK571.out) hb); replace BK572 := Aside0.mk (blk_below (g := gb572) (o := .cells #[.int .i64 x573000_104, .int .u64 x573001_104, .int .u64 x573002_104] 24 (0, 0)) (by refine blk_far ?_ NB572_571.out _; refine blk_far ?_ NB572_571.out _; refine blk_far ?_ NB572_571.out _; exact BK572.out) hb); replace BK573 := Aside0.mk (blk_below (g := gb573) (o := .cells #[.int .i64 t606, .int .u64 t607, .int .u64 t608] 24 (0, 0)) (by refine blk_far ?_ NB573_571.out _; refine blk_far ?_ NB573_571.out _; refine blk_far ?_ NB573_571.out _; exact BK573.out) hb); replace HB := hb1 HB hb; (try clear hb); (try clear ho0); obtain ⟨Ao195, co195, eo195⟩ := Kd.R_slice HO618.out; subst eo195) | ((with_reducible refine gate_callee (f := 33) rfl ?_); refine goesL_ (some 87) rfl rfl Tryd.func33 (by kernel_rfl) rfl #[.slice Ao195 t616.length co195] rfl (by (try simp only [List.map_toArray, List.map_cons, List.map_nil]); rfl) ?_; (with_reducible refine (maskref1_Known.calls kj123 _ _ t616 true _ ?side1 ?side2 A159.out).mono ?_); (case side1 => repeat (exact (Kd.R_reads' HO618.out).2.2)); (case side2 => exact (Kd.R_reads' HO618.out).2.1); rintro e w' ⟨rfl, ⟨nd, rfl⟩⟩; refine ⟨_, rfl, ?_⟩; (try (rw [drewN_self w194]; generalize hq_ : World.drewN w194 _ = w194; have n0_ : Aside0 (Kd.R (Kd.int .u8) 5 w194 w.heap.size (fun k_ => some k_ ≠ (.slice Ao175 t603.length co175 : Value).ownBlock ∧ some k_ ≠ (.slice Ao188 t610.length co188 : Value).ownBlock ∧ some k_ ≠ (.slice Ao195 t616.length co195 : Value).ownBlock) (.slice Ao173 t600.length co173) t600) := ⟨by rw [← hq_]; exact (by (with_reducible repeat (apply Kd.R_drewN)); exact Kd.R_mono HO602.out (fun _ hk => ⟨hk.1.1.2, ⟨hk.1.2, hk.2⟩⟩))⟩; have n1_ : Aside0 (Kd.R (Kd.int .u8) 5 w194 w.heap.size (fun k_ => some k_ ≠ (.slice Ao173 t600.length co173 : Value).ownBlock ∧ some k_ ≠ (.slice Ao188 t610.length co188 : Value).ownBlock ∧ some k_ ≠ (.slice Ao195 t616.length co195 : Value).ownBlock) (.slice Ao175 t603.length co175) t603) := ⟨by rw [← hq_]; exact (by (with_reducible repeat (apply Kd.R_drewN)); exact Kd.R_mono HO605.out (fun _ hk => ⟨hk.1.1.2, ⟨hk.1.2, hk.2⟩⟩))⟩; have n2_ : Aside0 (Kd.R (Kd.int .u8) 5 w194 w.heap.size (fun k_ => some k_ ≠ (.slice Ao173 t600.length co173 : Value).ownBlock ∧ some k_ ≠ (.slice Ao175 t603.length co175 : Value).ownBlock ∧ some k_ ≠ (.slice Ao195 t616.length co195 : Value).ownBlock) (.slice Ao188 t610.length co188) t610) := ⟨by rw [← hq_]; exact (by (with_reducible repeat (apply Kd.R_drewN)); exact Kd.R_mono HO612.out (fun _ hk => ⟨hk.1.1.2, ⟨hk.1.2, hk.2⟩⟩))⟩; have n3_ : Aside0 (Kd.R (Kd.int .u8) 5 w194 w.heap.size (fun k_ => some k_ ≠ (.slice Ao173 t600.length co173 : Value).ownBlock ∧ some k_ ≠ (.slice Ao175 t603.length co175 : Value).ownBlock ∧ some k_ ≠ (.slice Ao188 t610.length co188 : Value).ownBlock) (.slice Ao195 t616.length co195) t616) := ⟨by rw [← hq_]; exact (by (with_reducible repeat (apply Kd.R_drewN)); exact Kd.R_mono HO618.out (fun _ hk => ⟨hk.1.1.2, ⟨hk.1.2, hk.2⟩⟩))⟩; have n4_ : Aside0 (w194.heap[gb567]? = some (.cells #[.int .i64 a0_0, .int .u64 a0_1, .int .u64 a0_2] 24 (0, 0))) := ⟨by rw [← hq_]; exact (by (with_reducible repeat (refine blk_drewN ?_ _)); exact BK567.out)⟩; have n5_ : Aside0 (w194.heap[gb568]? = some (.cells #[.int .i64 a1_0, .int .u64 a1_1, .int .u64 a1_2] 24 (0, 0))) := ⟨by rw [← hq_]; exact (by (with_reducible repeat (refine blk_drewN ?_ _)); exact BK568.out)⟩; have n6_ : Aside0 (w194.heap[gb570]? = some (.cells #[.int .i64 x571000_58, .int .u64 x571001_58, .int .u64 x571002_58] 24 (0, 0))) := ⟨by rw [← hq_]; exact (by (with_reducible repeat (refine blk_drewN ?_ _)); exact BK570.out)⟩; have n7_ : Aside0 (w194.heap[gb571]? = some (.cells #[.int .i64 t613, .int .u64 t614, .int .u64 t615] 24 (0, 0))) := ⟨by rw [← hq_]; exact (by (with_reducible repeat (refine blk_drewN ?_ _)); exact BK571.out)⟩; have n8_ : Aside0 (w194.heap[gb572]? = some (.cells #[.int .i64 x573000_104, .int .u64 x573001_104, .int .u64 x573002_104] 24 (0, 0))) := ⟨by rw [← hq_]; exact (by (with_reducible repeat (refine blk_drewN ?_ _)); exact BK572.out)⟩; have n9_ : Aside0 (w194.heap[gb573]? = some (.cells #[.int .i64 t606, .int .u64 t607, .int .u64 t608] 24 (0, 0))) := ⟨by rw [← hq_]; exact (by (with_reducible repeat (refine blk_drewN ?_ _)); exact BK573.out)⟩; have n10_ : Aside0 (Below w.heap.size w w194) := ⟨by rw [← hq_]; exact (by repeat (with_reducible first | exact HB.out | apply pw_below_drewN))⟩; clear HO602 HO605 HO612 HO618 BK567 BK568 BK570 BK571 BK572 BK573 HB hq_; have HO602 := n0_; have HO605 := n1_; have HO612 := n2_; have HO618 := n3_; have BK567 := n4_; have BK568 := n5_; have BK570 := n6_; have BK571 := n7_; have BK572 := n8_; have BK573 := n9_; have HB := n10_; clear n0_ n1_ n2_ n3_ n4_ n5_ n6_ n7_ n8_ n9_ n10_))))
                replace HO602 := Aside0.mk (Kd.R_drew HO602.out)
                replace HO605 := Aside0.mk (Kd.R_drew HO605.out)
                replace HO612 := Aside0.mk (Kd.R_drew HO612.out)
                replace HO618 := Aside0.mk (Kd.R_drew HO618.out)
                replace BK567 := bkd BK567
                replace BK568 := bkd BK568
                replace BK570 := bkd BK570
                replace BK571 := bkd BK571
                replace BK572 := bkd BK572
                replace BK573 := bkd BK573
                replace HB := hbd HB
                refine start_ (n := 10) (S := fun w' => w'.cell? ⟨gb567, 0, none⟩ = some (.int .i64 a0_0) ∧ w'.cell? ⟨gb567, 1, none⟩ = some (.int .u64 a0_1) ∧ w'.cell? ⟨gb567, 2, none⟩ = some (.int .u64 a0_2) ∧ w'.cell? ⟨gb568, 0, none⟩ = some (.int .i64 a1_0) ∧ w'.cell? ⟨gb568, 1, none⟩ = some (.int .u64 a1_1) ∧ w'.cell? ⟨gb568, 2, none⟩ = some (.int .u64 a1_2)) (ds := []) (tb 10 0) (by kernel_rfl) rfl (by kernel_rfl) (c3 BK567 (d3 BK568)) (fun hHeld => ?_); refine with_tabW masklaw1_BitsParts.tab13 masklaw1_BitsParts.bits13 (fun HT_ HW_ => ?_)
                generalize w194.drew = w196 at HO602 HO605 HO612 HO618 BK567 BK568 BK570 BK571 BK572 BK573 HB hHeld ⊢
                refine pA 4 92 (tb 10 16) HT_ ?_
                refine pA 6 94 (tb 10 80) HT_ ?_
                refine tA 0 88 (tb 10 81) HT_ HW_ hHeld ?_
                refine tA 2 90 (tb 10 85) HT_ HW_ hHeld ?_
                refine oA 1 (some 89) (tb 10 87) HT_ (fun K hK => ?_)
                refine gA Tryd.func28 #[.agg #[.int .i64 a0_0, .int .u64 a0_1, .int .u64 a0_2]] ?_
                with_reducible refine (maskref1_V.calls kj123 a0_0 a0_1 a0_2 t620 _ A161.out).mono ?_
                rintro e w197 ⟨v621, rfl, ho0, hb⟩
                refine ⟨_, rfl, ?_⟩
                have HO622 := Aside0.mk (Kd.R_lower (Kd.R_new' (Kd.R_new' (Kd.R_new' (Kd.R_new' ho0 (Kd.R_lt HO602.out)) (Kd.R_lt HO605.out)) (Kd.R_lt HO612.out)) (Kd.R_lt HO618.out)) (below_size HB.out))
                replace HO602 := Aside0.mk (Kd.R_elder' HO602.out (Kd.R_base ho0) hb)
                replace HO605 := Aside0.mk (Kd.R_elder' HO605.out (Kd.R_base ho0) hb)
                replace HO612 := Aside0.mk (Kd.R_elder' HO612.out (Kd.R_base ho0) hb)
                replace HO618 := Aside0.mk (Kd.R_elder' HO618.out (Kd.R_base ho0) hb)
                replace BK567 := bk1 BK567 hb
                replace BK568 := bk1 BK568 hb
                replace BK570 := bk1 BK570 hb
                replace BK571 := bk1 BK571 hb
                replace BK572 := bk1 BK572 hb
                replace BK573 := bk1 BK573 hb
                replace HB := hb1 HB hb
                (try clear hb)
                (try clear ho0)
                refine hK.out _ _ (c3 BK567 (d3 BK568)) (fun hHeld => ?_)
                clear hK K
                refine nA ?_
                refine oA 3 (some 91) (tb 10 95) HT_ (fun K hK => ?_)
                refine gA Tryd.func28 #[.agg #[.int .i64 a1_0, .int .u64 a1_1, .int .u64 a1_2]] ?_
                with_reducible refine (maskref1_V.calls kj123 a1_0 a1_1 a1_2 t623 _ A162.out).mono ?_
                rintro e w198 ⟨v624, rfl, ho0, hb⟩
                refine ⟨_, rfl, ?_⟩
                have HO625 := Aside0.mk (Kd.R_lower (Kd.R_new' (Kd.R_new' (Kd.R_new' (Kd.R_new' (Kd.R_new' ho0 (Kd.R_lt HO602.out)) (Kd.R_lt HO605.out)) (Kd.R_lt HO612.out)) (Kd.R_lt HO618.out)) (Kd.R_lt HO622.out)) (below_size HB.out))
                replace HO602 := Aside0.mk (Kd.R_elder' HO602.out (Kd.R_base ho0) hb)
                replace HO605 := Aside0.mk (Kd.R_elder' HO605.out (Kd.R_base ho0) hb)
                replace HO612 := Aside0.mk (Kd.R_elder' HO612.out (Kd.R_base ho0) hb)
                replace HO618 := Aside0.mk (Kd.R_elder' HO618.out (Kd.R_base ho0) hb)
                replace HO622 := Aside0.mk (Kd.R_elder' HO622.out (Kd.R_base ho0) hb)
                replace BK567 := bk1 BK567 hb
                replace BK568 := bk1 BK568 hb
                replace BK570 := bk1 BK570 hb
                replace BK571 := bk1 BK571 hb
                replace BK572 := bk1 BK572 hb
                replace BK573 := bk1 BK573 hb
                replace HB := hb1 HB hb
                (try clear hb)
                (try clear ho0)
                obtain ⟨Ao199, co199, eo199⟩ := Kd.R_slice HO625.out
                (subst eo199)
                refine hK.out _ _ (c3 BK567 (d3 BK568)) (fun hHeld => ?_)
                clear hK K
                refine nA ?_
                refine oA 5 (some 93) (tb 10 127) HT_ (fun K hK => ?_)
                refine gA Tryd.func35 #[.slice Ao199 t623.length co199, .bool a4] ?_
                with_reducible refine (maskref1_Offset.calls kj123 _ _ t623 a4 t626 _ ?side1 ?side2 A163.out).mono ?_
                (case side1 => repeat (exact (Kd.R_reads' HO625.out).2.2))
                (case side2 => exact (Kd.R_reads' HO625.out).2.1)
                rintro e w200 ⟨rfl, hb⟩
                refine ⟨_, rfl, ?_⟩
                replace HO602 := Kd.rb1 HO602 hb
                replace HO605 := Kd.rb1 HO605 hb
                replace HO612 := Kd.rb1 HO612 hb
                replace HO618 := Kd.rb1 HO618 hb
                replace HO622 := Kd.rb1 HO622 hb
                replace HO625 := Kd.rb1 HO625 hb
                replace BK567 := bk1 BK567 hb
                replace BK568 := bk1 BK568 hb
                replace BK570 := bk1 BK570 hb
                replace BK571 := bk1 BK571 hb
                replace BK572 := bk1 BK572 hb
                replace BK573 := bk1 BK573 hb
                replace HB := hb1 HB hb
                (try clear hb)
                obtain ⟨Ao201, co201, eo201⟩ := Kd.R_slice HO622.out
                (subst eo201)
                refine hK.out _ _ (c3 BK567 (d3 BK568)) (fun hHeld => ?_)
                clear hK K
                refine nA ?_
                refine oA 7 (some 95) (tb 10 255) HT_ (fun K hK => ?_)
                refine gA Tryd.func34 #[.slice Ao201 t620.length co201, .int .i64 t626, .int .i64 a3] ?_
                with_reducible refine (maskref1_Window.calls kj123 _ _ t620 t626 a3 t627 _ ?side1 ?side2 A164.out).mono ?_
                (case side1 => repeat (exact (Kd.R_reads' HO622.out).2.2))
                (case side2 => exact (Kd.R_reads' HO622.out).2.1)
                rintro e w202 ⟨v628, rfl, ho0, hb⟩
                refine ⟨_, rfl, ?_⟩
                have HO629 := Aside0.mk (Kd.R_lower (Kd.R_new' (Kd.R_new' (Kd.R_new' (Kd.R_new' (Kd.R_new' (Kd.R_new' ho0 (Kd.R_lt HO602.out)) (Kd.R_lt HO605.out)) (Kd.R_lt HO612.out)) (Kd.R_lt HO618.out)) (Kd.R_lt HO622.out)) (Kd.R_lt HO625.out)) (below_size HB.out))
                replace HO602 := Aside0.mk (Kd.R_elder' HO602.out (Kd.R_base ho0) hb)
                replace HO605 := Aside0.mk (Kd.R_elder' HO605.out (Kd.R_base ho0) hb)
                replace HO612 := Aside0.mk (Kd.R_elder' HO612.out (Kd.R_base ho0) hb)
                replace HO618 := Aside0.mk (Kd.R_elder' HO618.out (Kd.R_base ho0) hb)
                replace HO622 := Aside0.mk (Kd.R_elder' HO622.out (Kd.R_base ho0) hb)
                replace HO625 := Aside0.mk (Kd.R_elder' HO625.out (Kd.R_base ho0) hb)
                replace BK567 := bk1 BK567 hb
                replace BK568 := bk1 BK568 hb
                replace BK570 := bk1 BK570 hb
                replace BK571 := bk1 BK571 hb
                replace BK572 := bk1 BK572 hb
                replace BK573 := bk1 BK573 hb
                replace HB := hb1 HB hb
                (try clear hb)
                (try clear ho0)
                obtain ⟨Ao203, co203, eo203⟩ := Kd.R_slice HO629.out
                (subst eo203)
                refine hK.out _ _ (c3 BK567 (d3 BK568)) (fun hHeld => ?_)
                clear hK K
                refine nA ?_
                refine oA 8 (some 96) (tb 10 511) HT_ (fun K hK => ?_)
                refine gA Tryd.func26 #[.slice Ao203 t627.length co203] ?_
                with_reducible refine (maskref1_B.calls kj123 _ _ t627 t630 t631 t632 _ ?side1 ?side2 A165.out).mono ?_
                (case side1 => repeat (exact (Kd.R_reads' HO629.out).2.2))
                (case side2 => exact (Kd.R_reads' HO629.out).2.1)
                rintro e w204 ⟨rfl, hb⟩
                refine ⟨_, rfl, ?_⟩
                replace HO602 := Kd.rb1 HO602 hb
                replace HO605 := Kd.rb1 HO605 hb
                replace HO612 := Kd.rb1 HO612 hb
                replace HO618 := Kd.rb1 HO618 hb
                replace HO622 := Kd.rb1 HO622 hb
                replace HO625 := Kd.rb1 HO625 hb
                replace HO629 := Kd.rb1 HO629 hb
                replace BK567 := bk1 BK567 hb
                replace BK568 := bk1 BK568 hb
                replace BK570 := bk1 BK570 hb
                replace BK571 := bk1 BK571 hb
                replace BK572 := bk1 BK572 hb
                replace BK573 := bk1 BK573 hb
                replace HB := hb1 HB hb
                (try clear hb)
                refine hK.out _ _ (c3 BK567 (d3 BK568)) (fun hHeld => ?_)
                clear hK K
                refine nA ?_
                refine oA 9 (none) (tb 10 1023) HT_ (fun K hK => ?_)
                have hs205 : w204.cell? ⟨gb571, 0, none⟩ = some (.int .i64 t613) := (blk_cell BK571.out 0).trans rfl
                have hfs205 := blk_frozen BK571.out 0
                have hns205_0 := NB567_571.out
                have hns205_1 := NB568_571.out
                have hns205_2 := NB570_571.out
                have hns205_4 := NB572_571.out
                have hns205_5 := NB573_571.out
                have hms205_0 := NB571_567.out
                have hms205_1 := NB571_568.out
                have hms205_2 := NB571_570.out
                have hms205_4 := NB571_572.out
                have hms205_5 := NB571_573.out
                have hs206 : w204.cell? ⟨gb571, 1, none⟩ = some (.int .u64 t614) := (blk_cell BK571.out 1).trans rfl
                have hfs206 := blk_frozen BK571.out 1
                have hns206_0 := NB567_571.out
                have hns206_1 := NB568_571.out
                have hns206_2 := NB570_571.out
                have hns206_4 := NB572_571.out
                have hns206_5 := NB573_571.out
                have hms206_0 := NB571_567.out
                have hms206_1 := NB571_568.out
                have hms206_2 := NB571_570.out
                have hms206_4 := NB571_572.out
                have hms206_5 := NB571_573.out
                have hs207 : w204.cell? ⟨gb571, 2, none⟩ = some (.int .u64 t615) := (blk_cell BK571.out 2).trans rfl
                have hfs207 := blk_frozen BK571.out 2
                have hns207_0 := NB567_571.out
                have hns207_1 := NB568_571.out
                have hns207_2 := NB570_571.out
                have hns207_4 := NB572_571.out
                have hns207_5 := NB573_571.out
                have hms207_0 := NB571_567.out
                have hms207_1 := NB571_568.out
                have hms207_2 := NB571_570.out
                have hms207_4 := NB571_572.out
                have hms207_5 := NB571_573.out
                refine skip_ (w1 := ?_) (by rfl) rfl ?_ ?_
                rotate_left
                ·go_simp
                 rfl
                refine hK.out _ _ ⟨((cell_far (p := ⟨gb571, _, none⟩) NB567_571.out _).trans (((cell_far (p := ⟨gb571, _, none⟩) NB567_571.out _).trans (((cell_far (p := ⟨gb571, _, none⟩) NB567_571.out _).trans (hHeld.1)))))), ((cell_far (p := ⟨gb571, _, none⟩) NB567_571.out _).trans (((cell_far (p := ⟨gb571, _, none⟩) NB567_571.out _).trans (((cell_far (p := ⟨gb571, _, none⟩) NB567_571.out _).trans (hHeld.2.1)))))), ((cell_far (p := ⟨gb571, _, none⟩) NB567_571.out _).trans (((cell_far (p := ⟨gb571, _, none⟩) NB567_571.out _).trans (((cell_far (p := ⟨gb571, _, none⟩) NB567_571.out _).trans (hHeld.2.2.1)))))), ((cell_far (p := ⟨gb571, _, none⟩) NB568_571.out _).trans (((cell_far (p := ⟨gb571, _, none⟩) NB568_571.out _).trans (((cell_far (p := ⟨gb571, _, none⟩) NB568_571.out _).trans (hHeld.2.2.2.1)))))), ((cell_far (p := ⟨gb571, _, none⟩) NB568_571.out _).trans (((cell_far (p := ⟨gb571, _, none⟩) NB568_571.out _).trans (((cell_far (p := ⟨gb571, _, none⟩) NB568_571.out _).trans (hHeld.2.2.2.2.1)))))), ((cell_far (p := ⟨gb571, _, none⟩) NB568_571.out _).trans (((cell_far (p := ⟨gb571, _, none⟩) NB568_571.out _).trans (((cell_far (p := ⟨gb571, _, none⟩) NB568_571.out _).trans (hHeld.2.2.2.2.2))))))⟩ (fun hHeld => ?_)
                clear hK K
                refine done_ (done_of HT_.out (by kernel_rfl)) ?_
                try go_wp2
                go_meet
                case rel => exact ⟨_, (t630), (t631), (t632), (t606), (t607), (t608), H', ⟨by have := HJ7.out; have := HJ58.out; have := HJ80.out; have := HJ104.out; have := HJ123.out; omega⟩, ⟨by refine blk_far ?_ NB567_571.out _; refine blk_far ?_ NB567_571.out _; refine blk_far ?_ NB567_571.out _; exact BK567.out⟩, ⟨by refine blk_far ?_ NB568_571.out _; refine blk_far ?_ NB568_571.out _; refine blk_far ?_ NB568_571.out _; exact BK568.out⟩, ⟨by refine blk_far ?_ NB570_571.out _; refine blk_far ?_ NB570_571.out _; refine blk_far ?_ NB570_571.out _; exact BK570.out⟩, ⟨by refine blk_put (cs := #[.int .i64 t630, .int .u64 t631, .int .u64 t615]) ?_ 2 _ rfl; refine blk_put (cs := #[.int .i64 t630, .int .u64 t614, .int .u64 t615]) ?_ 1 _ rfl; refine blk_put (cs := #[.int .i64 t613, .int .u64 t614, .int .u64 t615]) ?_ 0 _ rfl; exact BK571.out⟩, ⟨by refine blk_far ?_ NB572_571.out _; refine blk_far ?_ NB572_571.out _; refine blk_far ?_ NB572_571.out _; exact BK572.out⟩, ⟨by refine blk_far ?_ NB573_571.out _; refine blk_far ?_ NB573_571.out _; refine blk_far ?_ NB573_571.out _; exact BK573.out⟩, ⟨by repeat (with_reducible first | exact HB.out | refine below_set ?_ GE571.out)⟩⟩
               ·replace c160 := Bool.eq_false_iff.mpr c160
                subst c160
                have H1 : (masklaw1_BitsParts.j5 kj123 a2 a3 a4 a0_0 a0_1 a0_2 a1_0 a1_1 a1_2 x571000_58 x571001_58 x571002_58 t613 t614 t615 x573000_104 x573001_104 x573002_104 t606 t607 t608) = some r := by rw [if_neg (show ¬ (false = true) by decide)] at H; exact H
                clear H
                have H := H1
                clear H1
                have H' := Aside0.mk H
                clear H
                have hnb208 := NB567_568.out
                have hnc208 := NB568_567.out
                have hnb209 := NB567_570.out
                have hnc209 := NB570_567.out
                have hnb210 := NB567_571.out
                have hnc210 := NB571_567.out
                have hnb211 := NB567_572.out
                have hnc211 := NB572_567.out
                have hnb212 := NB567_573.out
                have hnc212 := NB573_567.out
                obtain ⟨hcz213_0, hcz213_1, hcz213_2⟩ := sq_cells3 (W := wc) (g := gb567) BK567.out; obtain ⟨hfz213_0, hfz213_1, hfz213_2⟩ := sq_frozen3 BK567.out
                go_wp2_with (first | ((with_reducible refine gate_callee (f := 28) rfl ?_); refine goesL_ (some 75) rfl rfl Tryd.func28 (by kernel_rfl) rfl #[.agg #[.int .i64 a0_0, .int .u64 a0_1, .int .u64 a0_2]] rfl (by (try simp only [List.map_toArray, List.map_cons, List.map_nil]); rfl) ?_; (with_reducible refine (maskref1_V.calls kj123 a0_0 a0_1 a0_2 t600 _ A151.out).mono ?_); rintro e w214 ⟨v601, rfl, ho0, hb⟩; refine ⟨_, rfl, ?_⟩; have HO602 := Aside0.mk (Kd.R_lower ho0 (below_size HB.out)); replace BK567 := bk1 BK567 hb; replace BK568 := bk1 BK568 hb; replace BK570 := bk1 BK570 hb; replace BK571 := bk1 BK571 hb; replace BK572 := bk1 BK572 hb; replace BK573 := bk1 BK573 hb; replace HB := hb1 HB hb; (try clear hb); (try clear ho0); obtain ⟨Ao215, co215, eo215⟩ := Kd.R_slice HO602.out; subst eo215) | ((with_reducible refine gate_callee (f := 32) rfl ?_); refine goesL_ (some 78) rfl rfl Tryd.func32 (by kernel_rfl) rfl #[.slice Ao215 t600.length co215, .int .i64 a3, .bool a4] rfl (by (try simp only [List.map_toArray, List.map_cons, List.map_nil]); rfl) ?_; (with_reducible refine (maskref1_Stretched.calls kj123 _ _ t600 a3 a4 t603 _ ?side1 ?side2 A152.out).mono ?_); (case side1 => repeat (exact (Kd.R_reads' HO602.out).2.2)); (case side2 => exact (Kd.R_reads' HO602.out).2.1); rintro e w216 ⟨v604, rfl, ho0, hb⟩; refine ⟨_, rfl, ?_⟩; have HO605 := Aside0.mk (Kd.R_lower (Kd.R_new' ho0 (Kd.R_lt HO602.out)) (below_size HB.out)); replace HO602 := Aside0.mk (Kd.R_elder' HO602.out (Kd.R_base ho0) hb); replace BK567 := bk1 BK567 hb; replace BK568 := bk1 BK568 hb; replace BK570 := bk1 BK570 hb; replace BK571 := bk1 BK571 hb; replace BK572 := bk1 BK572 hb; replace BK573 := bk1 BK573 hb; replace HB := hb1 HB hb; (try clear hb); (try clear ho0); obtain ⟨Ao217, co217, eo217⟩ := Kd.R_slice HO605.out; subst eo217) | ((with_reducible refine gate_callee (f := 26) rfl ?_); refine goesL_ (some 79) rfl rfl Tryd.func26 (by kernel_rfl) rfl #[.slice Ao217 t603.length co217] rfl (by (try simp only [List.map_toArray, List.map_cons, List.map_nil]); rfl) ?_; (with_reducible refine (maskref1_B.calls kj123 _ _ t603 t606 t607 t608 _ ?side1 ?side2 A153.out).mono ?_); (case side1 => repeat (exact (Kd.R_reads' HO605.out).2.2)); (case side2 => exact (Kd.R_reads' HO605.out).2.1); rintro e w218 ⟨rfl, hb⟩; refine ⟨_, rfl, ?_⟩; replace HO602 := Kd.rb1 HO602 hb; replace HO605 := Kd.rb1 HO605 hb; replace BK567 := bk1 BK567 hb; replace BK568 := bk1 BK568 hb; replace BK570 := bk1 BK570 hb; replace BK571 := bk1 BK571 hb; replace BK572 := bk1 BK572 hb; replace BK573 := bk1 BK573 hb; replace HB := hb1 HB hb; (try clear hb); have hnb219 := NB573_568.out; have hnc219 := NB568_573.out; have hnb220 := NB573_570.out; have hnc220 := NB570_573.out; have hnb221 := NB573_571.out; have hnc221 := NB571_573.out; have hnb222 := NB573_572.out; have hnc222 := NB572_573.out; have hcz223_0 : w218.cell? ⟨gb573, 0, none⟩ = some (.int .i64 0) := (blk_cell BK573.out 0).trans rfl; have hcz223_1 : w218.cell? ⟨gb573, 1, none⟩ = some (.int .u64 0) := (blk_cell BK573.out 1).trans rfl; have hcz223_2 : w218.cell? ⟨gb573, 2, none⟩ = some (.int .u64 0) := (blk_cell BK573.out 2).trans rfl; have hfz223_0 := blk_frozen BK573.out 0; have hfz223_1 := blk_frozen BK573.out 1; have hfz223_2 := blk_frozen BK573.out 2; have hnb224 := NB568_570.out; have hnc224 := NB570_568.out; have hnb225 := NB568_571.out; have hnc225 := NB571_568.out; have hnb226 := NB568_572.out; have hnc226 := NB572_568.out; have hcz227_0 : w218.cell? ⟨gb568, 0, none⟩ = some (.int .i64 a1_0) := (blk_cell BK568.out 0).trans rfl; have hcz227_1 : w218.cell? ⟨gb568, 1, none⟩ = some (.int .u64 a1_1) := (blk_cell BK568.out 1).trans rfl; have hcz227_2 : w218.cell? ⟨gb568, 2, none⟩ = some (.int .u64 a1_2) := (blk_cell BK568.out 2).trans rfl; have hfz227_0 := blk_frozen BK568.out 0; have hfz227_1 := blk_frozen BK568.out 1; have hfz227_2 := blk_frozen BK568.out 2) | ((with_reducible refine gate_callee (f := 14) rfl ?_); refine goesL_ (some 81) rfl rfl Tryd.func14 (by kernel_rfl) rfl #[.agg #[.int .i64 a1_0, .int .u64 a1_1, .int .u64 a1_2]] rfl (by (try simp only [List.map_toArray, List.map_cons, List.map_nil]); rfl) ?_; (with_reducible refine (maskref1_Valid.calls kj123 a1_0 a1_1 a1_2 true _ A154.out).mono ?_); rintro e w228 ⟨rfl, hb⟩; refine ⟨_, rfl, ?_⟩; replace HO602 := Aside0.mk (Kd.R_below (by exact (Kd.R_mono (Kd.R_far (p := ⟨gb573, 2, none⟩) (Kd.R_far (p := ⟨gb573, 1, none⟩) (Kd.R_far (p := ⟨gb573, 0, none⟩) (Kd.R_types HO602.out BK573.out (by decide)) (fun _ hk => hk.2) (.int .i64 t606)) (fun _ hk => hk.2) (.int .u64 t607)) (fun _ hk => hk.2) (.int .u64 t608)) (fun _ h_ => h_.1))) hb); replace HO605 := Aside0.mk (Kd.R_below (by exact (Kd.R_mono (Kd.R_far (p := ⟨gb573, 2, none⟩) (Kd.R_far (p := ⟨gb573, 1, none⟩) (Kd.R_far (p := ⟨gb573, 0, none⟩) (Kd.R_types HO605.out BK573.out (by decide)) (fun _ hk => hk.2) (.int .i64 t606)) (fun _ hk => hk.2) (.int .u64 t607)) (fun _ hk => hk.2) (.int .u64 t608)) (fun _ h_ => h_.1))) hb); replace BK567 := Aside0.mk (blk_below (g := gb567) (o := .cells #[.int .i64 a0_0, .int .u64 a0_1, .int .u64 a0_2] 24 (0, 0)) (by refine blk_far ?_ NB567_573.out _; refine blk_far ?_ NB567_573.out _; refine blk_far ?_ NB567_573.out _; exact BK567.out) hb); replace BK568 := Aside0.mk (blk_below (g := gb568) (o := .cells #[.int .i64 a1_0, .int .u64 a1_1, .int .u64 a1_2] 24 (0, 0)) (by refine blk_far ?_ NB568_573.out _; refine blk_far ?_ NB568_573.out _; refine blk_far ?_ NB568_573.out _; exact BK568.out) hb); replace BK570 := Aside0.mk (blk_below (g := gb570) (o := .cells #[.int .i64 x571000_58, .int .u64 x571001_58, .int .u64 x571002_58] 24 (0, 0)) (by refine blk_far ?_ NB570_573.out _; refine blk_far ?_ NB570_573.out _; refine blk_far ?_ NB570_573.out _; exact BK570.out) hb); replace BK571 := Aside0.mk (blk_below (g := gb571) (o := .cells #[.int .i64 0, .int .u64 0, .int .u64 0] 24 (0, 0)) (by refine blk_far ?_ NB571_573.out _; refine blk_far ?_ NB571_573.out _; refine blk_far ?_ NB571_573.out _; exact BK571.out) hb); replace BK572 := Aside0.mk (blk_below (g := gb572) (o := .cells #[.int .i64 x573000_104, .int .u64 x573001_104, .int .u64 x573002_104] 24 (0, 0)) (by refine blk_far ?_ NB572_573.out _; refine blk_far ?_ NB572_573.out _; refine blk_far ?_ NB572_573.out _; exact BK572.out) hb); replace BK573 := Aside0.mk (blk_below (g := gb573) (o := .cells #[.int .i64 t606, .int .u64 t607, .int .u64 t608] 24 (0, 0)) (by refine blk_put (cs := #[.int .i64 t606, .int .u64 t607, .int .u64 0]) ?_ 2 _ rfl; refine blk_put (cs := #[.int .i64 t606, .int .u64 0, .int .u64 0]) ?_ 1 _ rfl; refine blk_put (cs := #[.int .i64 0, .int .u64 0, .int .u64 0]) ?_ 0 _ rfl; exact BK573.out) hb); replace HB := hb1 HB hb; (try clear hb)) | ((with_reducible refine gate_callee (f := 27) rfl ?_); refine goesL_ (some 83) rfl rfl Tryd.func27 (by kernel_rfl) rfl #[.int .i64 a3, .int .u8 120] rfl (by (try simp only [List.map_toArray, List.map_cons, List.map_nil]); rfl) ?_; (with_reducible refine (maskref1_Fill.calls kj123 a3 120 t610 _ A156.out).mono ?_); rintro e w229 ⟨v611, rfl, ho0, hb⟩; refine ⟨_, rfl, ?_⟩; have HO612 := Aside0.mk (Kd.R_lower (Kd.R_new' (Kd.R_new' ho0 (Kd.R_lt HO602.out)) (Kd.R_lt HO605.out)) (below_size HB.out)); replace HO602 := Aside0.mk (Kd.R_elder' HO602.out (Kd.R_base ho0) hb); replace HO605 := Aside0.mk (Kd.R_elder' HO605.out (Kd.R_base ho0) hb); replace BK567 := bk1 BK567 hb; replace BK568 := bk1 BK568 hb; replace BK570 := bk1 BK570 hb; replace BK571 := bk1 BK571 hb; replace BK572 := bk1 BK572 hb; replace BK573 := bk1 BK573 hb; replace HB := hb1 HB hb; (try clear hb); (try clear ho0); obtain ⟨Ao230, co230, eo230⟩ := Kd.R_slice HO612.out; subst eo230) | ((with_reducible refine gate_callee (f := 26) rfl ?_); refine goesL_ (some 84) rfl rfl Tryd.func26 (by kernel_rfl) rfl #[.slice Ao230 t610.length co230] rfl (by (try simp only [List.map_toArray, List.map_cons, List.map_nil]); rfl) ?_; (with_reducible refine (maskref1_B.calls kj123 _ _ t610 t613 t614 t615 _ ?side1 ?side2 A157.out).mono ?_); (case side1 => repeat (exact (Kd.R_reads' HO612.out).2.2)); (case side2 => exact (Kd.R_reads' HO612.out).2.1); rintro e w231 ⟨rfl, hb⟩; refine ⟨_, rfl, ?_⟩; replace HO602 := Kd.rb1 HO602 hb; replace HO605 := Kd.rb1 HO605 hb; replace HO612 := Kd.rb1 HO612 hb; replace BK567 := bk1 BK567 hb; replace BK568 := bk1 BK568 hb; replace BK570 := bk1 BK570 hb; replace BK571 := bk1 BK571 hb; replace BK572 := bk1 BK572 hb; replace BK573 := bk1 BK573 hb; replace HB := hb1 HB hb; (try clear hb); have hnb232 := NB571_570.out; have hnc232 := NB570_571.out; have hnb233 := NB571_572.out; have hnc233 := NB572_571.out; have hcz234_0 : w231.cell? ⟨gb571, 0, none⟩ = some (.int .i64 0) := (blk_cell BK571.out 0).trans rfl; have hcz234_1 : w231.cell? ⟨gb571, 1, none⟩ = some (.int .u64 0) := (blk_cell BK571.out 1).trans rfl; have hcz234_2 : w231.cell? ⟨gb571, 2, none⟩ = some (.int .u64 0) := (blk_cell BK571.out 2).trans rfl; have hfz234_0 := blk_frozen BK571.out 0; have hfz234_1 := blk_frozen BK571.out 1; have hfz234_2 := blk_frozen BK571.out 2; have hcz235_0 : w231.cell? ⟨gb568, 0, none⟩ = some (.int .i64 a1_0) := (blk_cell BK568.out 0).trans rfl; have hcz235_1 : w231.cell? ⟨gb568, 1, none⟩ = some (.int .u64 a1_1) := (blk_cell BK568.out 1).trans rfl; have hcz235_2 : w231.cell? ⟨gb568, 2, none⟩ = some (.int .u64 a1_2) := (blk_cell BK568.out 2).trans rfl; have hfz235_0 := blk_frozen BK568.out 0; have hfz235_1 := blk_frozen BK568.out 1; have hfz235_2 := blk_frozen BK568.out 2) | ((with_reducible refine gate_callee (f := 28) rfl ?_); refine goesL_ (some 86) rfl rfl Tryd.func28 (by kernel_rfl) rfl #[.agg #[.int .i64 a1_0, .int .u64 a1_1, .int .u64 a1_2]] rfl (by (try simp only [List.map_toArray, List.map_cons, List.map_nil]); rfl) ?_; (with_reducible refine (maskref1_V.calls kj123 a1_0 a1_1 a1_2 t616 _ A158.out).mono ?_); rintro e w236 ⟨v617, rfl, ho0, hb⟩; refine ⟨_, rfl, ?_⟩; have HO618 := Aside0.mk (Kd.R_lower (Kd.R_new' (Kd.R_new' (Kd.R_new' ho0 (Kd.R_lt (by exact (Kd.R_mono (Kd.R_far (p := ⟨gb571, 2, none⟩) (Kd.R_far (p := ⟨gb571, 1, none⟩) (Kd.R_far (p := ⟨gb571, 0, none⟩) (Kd.R_types HO602.out BK571.out (by decide)) (fun _ hk => hk.2) (.int .i64 t613)) (fun _ hk => hk.2) (.int .u64 t614)) (fun _ hk => hk.2) (.int .u64 t615)) (fun _ h_ => h_.1))))) (Kd.R_lt (by exact (Kd.R_mono (Kd.R_far (p := ⟨gb571, 2, none⟩) (Kd.R_far (p := ⟨gb571, 1, none⟩) (Kd.R_far (p := ⟨gb571, 0, none⟩) (Kd.R_types HO605.out BK571.out (by decide)) (fun _ hk => hk.2) (.int .i64 t613)) (fun _ hk => hk.2) (.int .u64 t614)) (fun _ hk => hk.2) (.int .u64 t615)) (fun _ h_ => h_.1))))) (Kd.R_lt (by exact (Kd.R_mono (Kd.R_far (p := ⟨gb571, 2, none⟩) (Kd.R_far (p := ⟨gb571, 1, none⟩) (Kd.R_far (p := ⟨gb571, 0, none⟩) (Kd.R_types HO612.out BK571.out (by decide)) (fun _ hk => hk.2) (.int .i64 t613)) (fun _ hk => hk.2) (.int .u64 t614)) (fun _ hk => hk.2) (.int .u64 t615)) (fun _ h_ => h_.1))))) (below_size (by repeat (with_reducible first | exact HB.out | refine below_set ?_ GE571.out)))); replace HO602 := Aside0.mk (Kd.R_elder' (by exact (Kd.R_mono (Kd.R_far (p := ⟨gb571, 2, none⟩) (Kd.R_far (p := ⟨gb571, 1, none⟩) (Kd.R_far (p := ⟨gb571, 0, none⟩) (Kd.R_types HO602.out BK571.out (by decide)) (fun _ hk => hk.2) (.int .i64 t613)) (fun _ hk => hk.2) (.int .u64 t614)) (fun _ hk => hk.2) (.int .u64 t615)) (fun _ h_ => h_.1))) (Kd.R_base ho0) hb); replace HO605 := Aside0.mk (Kd.R_elder' (by exact (Kd.R_mono (Kd.R_far (p := ⟨gb571, 2, none⟩) (Kd.R_far (p := ⟨gb571, 1, none⟩) (Kd.R_far (p := ⟨gb571, 0, none⟩) (Kd.R_types HO605.out BK571.out (by decide)) (fun _ hk => hk.2) (.int .i64 t613)) (fun _ hk => hk.2) (.int .u64 t614)) (fun _ hk => hk.2) (.int .u64 t615)) (fun _ h_ => h_.1))) (Kd.R_base ho0) hb); replace HO612 := Aside0.mk (Kd.R_elder' (by exact (Kd.R_mono (Kd.R_far (p := ⟨gb571, 2, none⟩) (Kd.R_far (p := ⟨gb571, 1, none⟩) (Kd.R_far (p := ⟨gb571, 0, none⟩) (Kd.R_types HO612.out BK571.out (by decide)) (fun _ hk => hk.2) (.int .i64 t613)) (fun _ hk => hk.2) (.int .u64 t614)) (fun _ hk => hk.2) (.int .u64 t615)) (fun _ h_ => h_.1))) (Kd.R_base ho0) hb); replace BK567 := Aside0.mk (blk_below (g := gb567) (o := .cells #[.int .i64 a0_0, .int .u64 a0_1, .int .u64 a0_2] 24 (0, 0)) (by refine blk_far ?_ NB567_571.out _; refine blk_far ?_ NB567_571.out _; refine blk_far ?_ NB567_571.out _; exact BK567.out) hb); replace BK568 := Aside0.mk (blk_below (g := gb568) (o := .cells #[.int .i64 a1_0, .int .u64 a1_1, .int .u64 a1_2] 24 (0, 0)) (by refine blk_far ?_ NB568_571.out _; refine blk_far ?_ NB568_571.out _; refine blk_far ?_ NB568_571.out _; exact BK568.out) hb); replace BK570 := Aside0.mk (blk_below (g := gb570) (o := .cells #[.int .i64 x571000_58, .int .u64 x571001_58, .int .u64 x571002_58] 24 (0, 0)) (by refine blk_far ?_ NB570_571.out _; refine blk_far ?_ NB570_571.out _; refine blk_far ?_ NB570_571.out _; exact BK570.out) hb); replace BK571 := Aside0.mk (blk_below (g := gb571) (o := .cells #[.int .i64 t613, .int .u64 t614, .int .u64 t615] 24 (0, 0)) (by refine blk_put (cs := #[.int .i64 t613, .int .u64 t614, .int .u64 0]) ?_ 2 _ rfl; refine blk_put (cs := #[.int .i64 t613, .int .u64 0, .int .u64 0]) ?_ 1 _ rfl; refine blk_put (cs := #[.int .i64 0, .int .u64 0, .int .u64 0]) ?_ 0 _ rfl; exact BK571.out) hb); replace BK572 := Aside0.mk (blk_below (g := gb572) (o := .cells #[.int .i64 x573000_104, .int .u64 x573001_104, .int .u64 x573002_104] 24 (0, 0)) (by refine blk_far ?_ NB572_571.out _; refine blk_far ?_ NB572_571.out _; refine blk_far ?_ NB572_571.out _; exact BK572.out) hb); replace BK573 := Aside0.mk (blk_below (g := gb573) (o := .cells #[.int .i64 t606, .int .u64 t607, .int .u64 t608] 24 (0, 0)) (by refine blk_far ?_ NB573_571.out _; refine blk_far ?_ NB573_571.out _; refine blk_far ?_ NB573_571.out _; exact BK573.out) hb); replace HB := hb1 HB hb; (try clear hb); (try clear ho0); obtain ⟨Ao237, co237, eo237⟩ := Kd.R_slice HO618.out; subst eo237) | ((with_reducible refine gate_callee (f := 33) rfl ?_); refine goesL_ (some 87) rfl rfl Tryd.func33 (by kernel_rfl) rfl #[.slice Ao237 t616.length co237] rfl (by (try simp only [List.map_toArray, List.map_cons, List.map_nil]); rfl) ?_; (with_reducible refine (maskref1_Known.calls kj123 _ _ t616 false _ ?side1 ?side2 A159.out).mono ?_); (case side1 => repeat (exact (Kd.R_reads' HO618.out).2.2)); (case side2 => exact (Kd.R_reads' HO618.out).2.1); rintro e w' ⟨rfl, ⟨nd, rfl⟩⟩; refine ⟨_, rfl, ?_⟩))
                go_meet
                case rel => exact ⟨_, (t613), (t614), (t615), (t606), (t607), (t608), H', ⟨by have := HJ7.out; have := HJ58.out; have := HJ80.out; have := HJ104.out; have := HJ123.out; omega⟩, ⟨by (with_reducible repeat (refine blk_drewN ?_ _)); exact BK567.out⟩, ⟨by (with_reducible repeat (refine blk_drewN ?_ _)); exact BK568.out⟩, ⟨by (with_reducible repeat (refine blk_drewN ?_ _)); exact BK570.out⟩, ⟨by (with_reducible repeat (refine blk_drewN ?_ _)); exact BK571.out⟩, ⟨by (with_reducible repeat (refine blk_drewN ?_ _)); exact BK572.out⟩, ⟨by (with_reducible repeat (refine blk_drewN ?_ _)); exact BK573.out⟩, ⟨by repeat (with_reducible first | exact HB.out | apply pw_below_drewN)⟩⟩
              ·replace c155 := Bool.eq_false_iff.mpr c155
               subst c155
               have H1 : (masklaw1_BitsParts.j5 kj123 a2 a3 a4 a0_0 a0_1 a0_2 a1_0 a1_1 a1_2 x571000_58 x571001_58 x571002_58 0 0 0 x573000_104 x573001_104 x573002_104 t606 t607 t608) = some r := by rw [if_neg (show ¬ (false = true) by decide)] at H; exact H
               clear H
               have H := H1
               clear H1
               have H' := Aside0.mk H
               clear H
               have hnb238 := NB567_568.out
               have hnc238 := NB568_567.out
               have hnb239 := NB567_570.out
               have hnc239 := NB570_567.out
               have hnb240 := NB567_571.out
               have hnc240 := NB571_567.out
               have hnb241 := NB567_572.out
               have hnc241 := NB572_567.out
               have hnb242 := NB567_573.out
               have hnc242 := NB573_567.out
               obtain ⟨hcz243_0, hcz243_1, hcz243_2⟩ := sq_cells3 (W := wc) (g := gb567) BK567.out; obtain ⟨hfz243_0, hfz243_1, hfz243_2⟩ := sq_frozen3 BK567.out
               go_wp2_with (first | ((with_reducible refine gate_callee (f := 28) rfl ?_); refine goesL_ (some 75) rfl rfl Tryd.func28 (by kernel_rfl) rfl #[.agg #[.int .i64 a0_0, .int .u64 a0_1, .int .u64 a0_2]] rfl (by (try simp only [List.map_toArray, List.map_cons, List.map_nil]); rfl) ?_; (with_reducible refine (maskref1_V.calls kj123 a0_0 a0_1 a0_2 t600 _ A151.out).mono ?_); rintro e w244 ⟨v601, rfl, ho0, hb⟩; refine ⟨_, rfl, ?_⟩; have HO602 := Aside0.mk (Kd.R_lower ho0 (below_size HB.out)); replace BK567 := bk1 BK567 hb; replace BK568 := bk1 BK568 hb; replace BK570 := bk1 BK570 hb; replace BK571 := bk1 BK571 hb; replace BK572 := bk1 BK572 hb; replace BK573 := bk1 BK573 hb; replace HB := hb1 HB hb; (try clear hb); (try clear ho0); obtain ⟨Ao245, co245, eo245⟩ := Kd.R_slice HO602.out; subst eo245) | ((with_reducible refine gate_callee (f := 32) rfl ?_); refine goesL_ (some 78) rfl rfl Tryd.func32 (by kernel_rfl) rfl #[.slice Ao245 t600.length co245, .int .i64 a3, .bool a4] rfl (by (try simp only [List.map_toArray, List.map_cons, List.map_nil]); rfl) ?_; (with_reducible refine (maskref1_Stretched.calls kj123 _ _ t600 a3 a4 t603 _ ?side1 ?side2 A152.out).mono ?_); (case side1 => repeat (exact (Kd.R_reads' HO602.out).2.2)); (case side2 => exact (Kd.R_reads' HO602.out).2.1); rintro e w246 ⟨v604, rfl, ho0, hb⟩; refine ⟨_, rfl, ?_⟩; have HO605 := Aside0.mk (Kd.R_lower (Kd.R_new' ho0 (Kd.R_lt HO602.out)) (below_size HB.out)); replace HO602 := Aside0.mk (Kd.R_elder' HO602.out (Kd.R_base ho0) hb); replace BK567 := bk1 BK567 hb; replace BK568 := bk1 BK568 hb; replace BK570 := bk1 BK570 hb; replace BK571 := bk1 BK571 hb; replace BK572 := bk1 BK572 hb; replace BK573 := bk1 BK573 hb; replace HB := hb1 HB hb; (try clear hb); (try clear ho0); obtain ⟨Ao247, co247, eo247⟩ := Kd.R_slice HO605.out; subst eo247) | ((with_reducible refine gate_callee (f := 26) rfl ?_); refine goesL_ (some 79) rfl rfl Tryd.func26 (by kernel_rfl) rfl #[.slice Ao247 t603.length co247] rfl (by (try simp only [List.map_toArray, List.map_cons, List.map_nil]); rfl) ?_; (with_reducible refine (maskref1_B.calls kj123 _ _ t603 t606 t607 t608 _ ?side1 ?side2 A153.out).mono ?_); (case side1 => repeat (exact (Kd.R_reads' HO605.out).2.2)); (case side2 => exact (Kd.R_reads' HO605.out).2.1); rintro e w248 ⟨rfl, hb⟩; refine ⟨_, rfl, ?_⟩; replace HO602 := Kd.rb1 HO602 hb; replace HO605 := Kd.rb1 HO605 hb; replace BK567 := bk1 BK567 hb; replace BK568 := bk1 BK568 hb; replace BK570 := bk1 BK570 hb; replace BK571 := bk1 BK571 hb; replace BK572 := bk1 BK572 hb; replace BK573 := bk1 BK573 hb; replace HB := hb1 HB hb; (try clear hb); have hnb249 := NB573_568.out; have hnc249 := NB568_573.out; have hnb250 := NB573_570.out; have hnc250 := NB570_573.out; have hnb251 := NB573_571.out; have hnc251 := NB571_573.out; have hnb252 := NB573_572.out; have hnc252 := NB572_573.out; have hcz253_0 : w248.cell? ⟨gb573, 0, none⟩ = some (.int .i64 0) := (blk_cell BK573.out 0).trans rfl; have hcz253_1 : w248.cell? ⟨gb573, 1, none⟩ = some (.int .u64 0) := (blk_cell BK573.out 1).trans rfl; have hcz253_2 : w248.cell? ⟨gb573, 2, none⟩ = some (.int .u64 0) := (blk_cell BK573.out 2).trans rfl; have hfz253_0 := blk_frozen BK573.out 0; have hfz253_1 := blk_frozen BK573.out 1; have hfz253_2 := blk_frozen BK573.out 2; have hnb254 := NB568_570.out; have hnc254 := NB570_568.out; have hnb255 := NB568_571.out; have hnc255 := NB571_568.out; have hnb256 := NB568_572.out; have hnc256 := NB572_568.out; have hcz257_0 : w248.cell? ⟨gb568, 0, none⟩ = some (.int .i64 a1_0) := (blk_cell BK568.out 0).trans rfl; have hcz257_1 : w248.cell? ⟨gb568, 1, none⟩ = some (.int .u64 a1_1) := (blk_cell BK568.out 1).trans rfl; have hcz257_2 : w248.cell? ⟨gb568, 2, none⟩ = some (.int .u64 a1_2) := (blk_cell BK568.out 2).trans rfl; have hfz257_0 := blk_frozen BK568.out 0; have hfz257_1 := blk_frozen BK568.out 1; have hfz257_2 := blk_frozen BK568.out 2) | ((with_reducible refine gate_callee (f := 14) rfl ?_); refine goesL_ (some 81) rfl rfl Tryd.func14 (by kernel_rfl) rfl #[.agg #[.int .i64 a1_0, .int .u64 a1_1, .int .u64 a1_2]] rfl (by (try simp only [List.map_toArray, List.map_cons, List.map_nil]); rfl) ?_; (with_reducible refine (maskref1_Valid.calls kj123 a1_0 a1_1 a1_2 false _ A154.out).mono ?_); rintro e w258 ⟨rfl, hb⟩; refine ⟨_, rfl, ?_⟩; replace HO602 := Aside0.mk (Kd.R_below (by exact (Kd.R_mono (Kd.R_far (p := ⟨gb573, 2, none⟩) (Kd.R_far (p := ⟨gb573, 1, none⟩) (Kd.R_far (p := ⟨gb573, 0, none⟩) (Kd.R_types HO602.out BK573.out (by decide)) (fun _ hk => hk.2) (.int .i64 t606)) (fun _ hk => hk.2) (.int .u64 t607)) (fun _ hk => hk.2) (.int .u64 t608)) (fun _ h_ => h_.1))) hb); replace HO605 := Aside0.mk (Kd.R_below (by exact (Kd.R_mono (Kd.R_far (p := ⟨gb573, 2, none⟩) (Kd.R_far (p := ⟨gb573, 1, none⟩) (Kd.R_far (p := ⟨gb573, 0, none⟩) (Kd.R_types HO605.out BK573.out (by decide)) (fun _ hk => hk.2) (.int .i64 t606)) (fun _ hk => hk.2) (.int .u64 t607)) (fun _ hk => hk.2) (.int .u64 t608)) (fun _ h_ => h_.1))) hb); replace BK567 := Aside0.mk (blk_below (g := gb567) (o := .cells #[.int .i64 a0_0, .int .u64 a0_1, .int .u64 a0_2] 24 (0, 0)) (by refine blk_far ?_ NB567_573.out _; refine blk_far ?_ NB567_573.out _; refine blk_far ?_ NB567_573.out _; exact BK567.out) hb); replace BK568 := Aside0.mk (blk_below (g := gb568) (o := .cells #[.int .i64 a1_0, .int .u64 a1_1, .int .u64 a1_2] 24 (0, 0)) (by refine blk_far ?_ NB568_573.out _; refine blk_far ?_ NB568_573.out _; refine blk_far ?_ NB568_573.out _; exact BK568.out) hb); replace BK570 := Aside0.mk (blk_below (g := gb570) (o := .cells #[.int .i64 x571000_58, .int .u64 x571001_58, .int .u64 x571002_58] 24 (0, 0)) (by refine blk_far ?_ NB570_573.out _; refine blk_far ?_ NB570_573.out _; refine blk_far ?_ NB570_573.out _; exact BK570.out) hb); replace BK571 := Aside0.mk (blk_below (g := gb571) (o := .cells #[.int .i64 0, .int .u64 0, .int .u64 0] 24 (0, 0)) (by refine blk_far ?_ NB571_573.out _; refine blk_far ?_ NB571_573.out _; refine blk_far ?_ NB571_573.out _; exact BK571.out) hb); replace BK572 := Aside0.mk (blk_below (g := gb572) (o := .cells #[.int .i64 x573000_104, .int .u64 x573001_104, .int .u64 x573002_104] 24 (0, 0)) (by refine blk_far ?_ NB572_573.out _; refine blk_far ?_ NB572_573.out _; refine blk_far ?_ NB572_573.out _; exact BK572.out) hb); replace BK573 := Aside0.mk (blk_below (g := gb573) (o := .cells #[.int .i64 t606, .int .u64 t607, .int .u64 t608] 24 (0, 0)) (by refine blk_put (cs := #[.int .i64 t606, .int .u64 t607, .int .u64 0]) ?_ 2 _ rfl; refine blk_put (cs := #[.int .i64 t606, .int .u64 0, .int .u64 0]) ?_ 1 _ rfl; refine blk_put (cs := #[.int .i64 0, .int .u64 0, .int .u64 0]) ?_ 0 _ rfl; exact BK573.out) hb); replace HB := hb1 HB hb; (try clear hb)))
               go_meet
               case rel => exact ⟨_, (0), (0), (0), (t606), (t607), (t608), H', ⟨by have := HJ7.out; have := HJ58.out; have := HJ80.out; have := HJ104.out; have := HJ123.out; omega⟩, ⟨by exact BK567.out⟩, ⟨by exact BK568.out⟩, ⟨by exact BK570.out⟩, ⟨by exact BK571.out⟩, ⟨by exact BK572.out⟩, ⟨by exact BK573.out⟩, ⟨by repeat (with_reducible exact HB.out)⟩⟩
             ·replace c150 := Bool.eq_false_iff.mpr c150
              subst c150
              have H1 : (masklaw1_BitsParts.j5 kj123 a2 a3 a4 a0_0 a0_1 a0_2 a1_0 a1_1 a1_2 x571000_58 x571001_58 x571002_58 0 0 0 x573000_104 x573001_104 x573002_104 0 0 0) = some r := by rw [if_neg (show ¬ (false = true) by decide)] at H; exact H
              clear H
              have H := H1
              clear H1
              have H' := Aside0.mk H
              clear H
              go_wp2
              go_meet
              case rel => exact ⟨_, (0), (0), (0), (0), (0), (0), H', ⟨by have := HJ7.out; have := HJ58.out; have := HJ80.out; have := HJ104.out; have := HJ123.out; omega⟩, ⟨by exact BK567.out⟩, ⟨by exact BK568.out⟩, ⟨by exact BK570.out⟩, ⟨by exact BK571.out⟩, ⟨by exact BK572.out⟩, ⟨by exact BK573.out⟩, ⟨by repeat (with_reducible exact HB.out)⟩⟩
            case rest =>
             clear HC149
             obtain ⟨kq, x572000_148, x572001_148, x572002_148, x574000_148, x574001_148, x574002_148, HA, HJ148, BK567, BK568, BK570, BK571, BK572, BK573, HB⟩ := hcut
             cases kq with
             | zero => exact absurd HA.out (by simp [masklaw1_BitsParts.j5])
             | succ kj148 =>
              have H := HA.out
              clear HA
              simp only [masklaw1_BitsParts.j5] at H
              replace H := Option.bind_eq_some_iff.mp H
              obtain ⟨⟨t633, t634, t635⟩, A2590, H⟩ := H
              replace H : (if (t633 == x571000_58 && (t634 == x571001_58 && (t635 == x571002_58))) = true then ((bits_Part.f kj148 a0_0 a0_1 a0_2 a1_0 a1_1 a1_2 a4 a3).bind fun bt636 => (if (bt636.1 == x572000_148 && (bt636.2.1 == x572001_148 && (bt636.2.2 == x572002_148))) = true then ((bits_Put.f kj148 a0_0 a0_1 a0_2 a2 a1_0 a1_1 a1_2).bind fun bt639 => (if (bt639.1 == x573000_104 && (bt639.2.1 == x573001_104 && (bt639.2.2 == x573002_104))) = true then ((bits_Resize.f kj148 a0_0 a0_1 a0_2 a3 a4).bind fun bt642 => (some (bt642.1 == x574000_148 && (bt642.2.1 == x574001_148 && (bt642.2.2 == x574002_148))))) else (some false))) else (some false))) else (some false)) = some r := H
              have A259 := Aside0.mk A2590
              clear A2590
              by_cases c260 : (t633 == x571000_58 && (t634 == x571001_58 && (t635 == x571002_58))) = true
              ·rw [if_pos c260] at H
               have c260b0 : (t633 == x571000_58 && (t634 == x571001_58 && (t635 == x571002_58))) = true := c260
               (try (have c260b1 : decide (t633 = x571000_58 && (t634 == x571001_58 && (t635 == x571002_58))) = true := by simpa using c260))
               (try (have c260b2 : (t633 == x571000_58 && (t634 == x571001_58 && (t635 == x571002_58))) = true := by simpa using c260))
               clear c260
               replace H := Option.bind_eq_some_iff.mp H
               obtain ⟨⟨t636, t637, t638⟩, A2610, H⟩ := H
               replace H : (if (t636 == x572000_148 && (t637 == x572001_148 && (t638 == x572002_148))) = true then ((bits_Put.f kj148 a0_0 a0_1 a0_2 a2 a1_0 a1_1 a1_2).bind fun bt639 => (if (bt639.1 == x573000_104 && (bt639.2.1 == x573001_104 && (bt639.2.2 == x573002_104))) = true then ((bits_Resize.f kj148 a0_0 a0_1 a0_2 a3 a4).bind fun bt642 => (some (bt642.1 == x574000_148 && (bt642.2.1 == x574001_148 && (bt642.2.2 == x574002_148))))) else (some false))) else (some false)) = some r := H
               have A261 := Aside0.mk A2610
               clear A2610
               by_cases c262 : (t636 == x572000_148 && (t637 == x572001_148 && (t638 == x572002_148))) = true
               ·rw [if_pos c262] at H
                have c262b0 : (t636 == x572000_148 && (t637 == x572001_148 && (t638 == x572002_148))) = true := c262
                (try (have c262b1 : decide (t636 = x572000_148 && (t637 == x572001_148 && (t638 == x572002_148))) = true := by simpa using c262))
                (try (have c262b2 : (t636 == x572000_148 && (t637 == x572001_148 && (t638 == x572002_148))) = true := by simpa using c262))
                clear c262
                replace H := Option.bind_eq_some_iff.mp H
                obtain ⟨⟨t639, t640, t641⟩, A2630, H⟩ := H
                replace H : (if (t639 == x573000_104 && (t640 == x573001_104 && (t641 == x573002_104))) = true then ((bits_Resize.f kj148 a0_0 a0_1 a0_2 a3 a4).bind fun bt642 => (some (bt642.1 == x574000_148 && (bt642.2.1 == x574001_148 && (bt642.2.2 == x574002_148))))) else (some false)) = some r := H
                have A263 := Aside0.mk A2630
                clear A2630
                by_cases c264 : (t639 == x573000_104 && (t640 == x573001_104 && (t641 == x573002_104))) = true
                ·rw [if_pos c264] at H
                 have c264b0 : (t639 == x573000_104 && (t640 == x573001_104 && (t641 == x573002_104))) = true := c264
                 (try (have c264b1 : decide (t639 = x573000_104 && (t640 == x573001_104 && (t641 == x573002_104))) = true := by simpa using c264))
                 (try (have c264b2 : (t639 == x573000_104 && (t640 == x573001_104 && (t641 == x573002_104))) = true := by simpa using c264))
                 clear c264
                 replace H := Option.bind_eq_some_iff.mp H
                 obtain ⟨⟨t642, t643, t644⟩, A2650, H⟩ := H
                 replace H : (some (t642 == x574000_148 && (t643 == x574001_148 && (t644 == x574002_148)))) = some r := H
                 have A265 := Aside0.mk A2650
                 clear A2650
                 obtain rfl := Option.some.inj H
                 try go_wp2
                 replace BK567 := bkd BK567
                 replace BK568 := bkd BK568
                 replace BK570 := bkd BK570
                 replace BK571 := bkd BK571
                 replace BK572 := bkd BK572
                 replace BK573 := bkd BK573
                 replace HB := hbd HB
                 refine start_ (n := 32) (S := fun w' => w'.cell? ⟨gb567, 0, none⟩ = some (.int .i64 a0_0) ∧ w'.cell? ⟨gb567, 1, none⟩ = some (.int .u64 a0_1) ∧ w'.cell? ⟨gb567, 2, none⟩ = some (.int .u64 a0_2) ∧ w'.cell? ⟨gb570, 0, none⟩ = some (.int .i64 x571000_58) ∧ w'.cell? ⟨gb570, 1, none⟩ = some (.int .u64 x571001_58) ∧ w'.cell? ⟨gb570, 2, none⟩ = some (.int .u64 x571002_58) ∧ w'.cell? ⟨gb568, 0, none⟩ = some (.int .i64 a1_0) ∧ w'.cell? ⟨gb568, 1, none⟩ = some (.int .u64 a1_1) ∧ w'.cell? ⟨gb568, 2, none⟩ = some (.int .u64 a1_2) ∧ w'.cell? ⟨gb571, 0, none⟩ = some (.int .i64 x572000_148) ∧ w'.cell? ⟨gb571, 1, none⟩ = some (.int .u64 x572001_148) ∧ w'.cell? ⟨gb571, 2, none⟩ = some (.int .u64 x572002_148) ∧ w'.cell? ⟨gb572, 0, none⟩ = some (.int .i64 x573000_104) ∧ w'.cell? ⟨gb572, 1, none⟩ = some (.int .u64 x573001_104) ∧ w'.cell? ⟨gb572, 2, none⟩ = some (.int .u64 x573002_104) ∧ w'.cell? ⟨gb573, 0, none⟩ = some (.int .i64 x574000_148) ∧ w'.cell? ⟨gb573, 1, none⟩ = some (.int .u64 x574001_148) ∧ w'.cell? ⟨gb573, 2, none⟩ = some (.int .u64 x574002_148)) (ds := []) (tb 32 0) (by kernel_rfl) rfl (by kernel_rfl) (c3 BK567 (c3 BK570 (c3 BK568 (c3 BK571 (c3 BK572 (d3 BK573)))))) (fun hHeld => ?_); refine with_tabW masklaw1_BitsParts.tab14 masklaw1_BitsParts.bits14 (fun HT_ HW_ => ?_)
                 generalize wc.drew = w266 at BK567 BK568 BK570 BK571 BK572 BK573 HB hHeld ⊢
                 refine pA 1 98 (tb 32 2) HT_ ?_
                 refine pA 2 99 (tb 32 6) HT_ ?_
                 refine tA 0 97 (tb 32 7) HT_ HW_ hHeld ?_
                 refine tA 4 101 (tb 32 23) HT_ HW_ hHeld ?_
                 refine oA 3 (some 100) (tb 32 31) HT_ (fun K hK => ?_)
                 refine gA Tryd.func36 #[.agg #[.int .i64 a0_0, .int .u64 a0_1, .int .u64 a0_2], .int .i64 a2, .int .i64 a3] ?_
                 with_reducible refine (bits_Slice.calls kj148 a0_0 a0_1 a0_2 a2 a3 t633 t634 t635 _ A259.out).mono ?_
                 rintro e w267 ⟨rfl, hb⟩
                 refine ⟨_, rfl, ?_⟩
                 replace BK567 := bk1 BK567 hb
                 replace BK568 := bk1 BK568 hb
                 replace BK570 := bk1 BK570 hb
                 replace BK571 := bk1 BK571 hb
                 replace BK572 := bk1 BK572 hb
                 replace BK573 := bk1 BK573 hb
                 replace HB := hb1 HB hb
                 (try clear hb)
                 refine hK.out _ _ (c3 BK567 (c3 BK570 (c3 BK568 (c3 BK571 (c3 BK572 (d3 BK573)))))) (fun hHeld => ?_)
                 clear hK K
                 refine nA ?_
                 refine pA 5 102 (tb 32 63) HT_ ?_
                 refine pA 6 103 (tb 32 127) HT_ ?_
                 refine pA 9 106 (tb 32 639) HT_ ?_
                 refine pA 10 107 (tb 32 1663) HT_ ?_
                 refine tA 7 104 (tb 32 1791) HT_ HW_ hHeld ?_
                 refine tA 8 105 (tb 32 2047) HT_ HW_ hHeld ?_
                 refine tA 12 109 (tb 32 6143) HT_ HW_ hHeld ?_
                 refine oA 11 (some 108) (tb 32 8191) HT_ (fun K hK => ?_)
                 refine gA Tryd.func37 #[.agg #[.int .i64 a0_0, .int .u64 a0_1, .int .u64 a0_2], .agg #[.int .i64 a1_0, .int .u64 a1_1, .int .u64 a1_2], .bool a4, .int .i64 a3] ?_
                 with_reducible refine (bits_Part.calls kj148 a0_0 a0_1 a0_2 a1_0 a1_1 a1_2 a4 a3 t636 t637 t638 _ A261.out).mono ?_
                 rintro e w268 ⟨rfl, hb⟩
                 refine ⟨_, rfl, ?_⟩
                 replace BK567 := bk1 BK567 hb
                 replace BK568 := bk1 BK568 hb
                 replace BK570 := bk1 BK570 hb
                 replace BK571 := bk1 BK571 hb
                 replace BK572 := bk1 BK572 hb
                 replace BK573 := bk1 BK573 hb
                 replace HB := hb1 HB hb
                 (try clear hb)
                 refine hK.out _ _ (c3 BK567 (c3 BK570 (c3 BK568 (c3 BK571 (c3 BK572 (d3 BK573)))))) (fun hHeld => ?_)
                 clear hK K
                 refine nA ?_
                 refine pA 13 110 (tb 32 16383) HT_ ?_
                 refine pA 14 111 (tb 32 32767) HT_ ?_
                 refine pA 15 112 (tb 32 65535) HT_ ?_
                 refine pA 17 114 (tb 32 196607) HT_ ?_
                 refine tA 16 113 (tb 32 262143) HT_ HW_ hHeld ?_
                 refine tA 18 115 (tb 32 524287) HT_ HW_ hHeld ?_
                 refine tA 20 117 (tb 32 1572863) HT_ HW_ hHeld ?_
                 refine oA 19 (some 116) (tb 32 2097151) HT_ (fun K hK => ?_)
                 refine gA Tryd.func38 #[.agg #[.int .i64 a0_0, .int .u64 a0_1, .int .u64 a0_2], .int .i64 a2, .agg #[.int .i64 a1_0, .int .u64 a1_1, .int .u64 a1_2]] ?_
                 with_reducible refine (bits_Put.calls kj148 a0_0 a0_1 a0_2 a2 a1_0 a1_1 a1_2 t639 t640 t641 _ A263.out).mono ?_
                 rintro e w269 ⟨rfl, hb⟩
                 refine ⟨_, rfl, ?_⟩
                 replace BK567 := bk1 BK567 hb
                 replace BK568 := bk1 BK568 hb
                 replace BK570 := bk1 BK570 hb
                 replace BK571 := bk1 BK571 hb
                 replace BK572 := bk1 BK572 hb
                 replace BK573 := bk1 BK573 hb
                 replace HB := hb1 HB hb
                 (try clear hb)
                 refine hK.out _ _ (c3 BK567 (c3 BK570 (c3 BK568 (c3 BK571 (c3 BK572 (d3 BK573)))))) (fun hHeld => ?_)
                 clear hK K
                 refine nA ?_
                 refine pA 21 118 (tb 32 4194303) HT_ ?_
                 refine pA 22 119 (tb 32 8388607) HT_ ?_
                 refine pA 23 120 (tb 32 16777215) HT_ ?_
                 refine pA 25 122 (tb 32 50331647) HT_ ?_
                 refine pA 26 123 (tb 32 117440511) HT_ ?_
                 refine tA 24 121 (tb 32 134217727) HT_ HW_ hHeld ?_
                 refine tA 28 125 (tb 32 402653183) HT_ HW_ hHeld ?_
                 refine oA 27 (some 124) (tb 32 536870911) HT_ (fun K hK => ?_)
                 refine gA Tryd.func39 #[.agg #[.int .i64 a0_0, .int .u64 a0_1, .int .u64 a0_2], .int .i64 a3, .bool a4] ?_
                 with_reducible refine (bits_Resize.calls kj148 a0_0 a0_1 a0_2 a3 a4 t642 t643 t644 _ A265.out).mono ?_
                 rintro e w270 ⟨rfl, hb⟩
                 refine ⟨_, rfl, ?_⟩
                 replace BK567 := bk1 BK567 hb
                 replace BK568 := bk1 BK568 hb
                 replace BK570 := bk1 BK570 hb
                 replace BK571 := bk1 BK571 hb
                 replace BK572 := bk1 BK572 hb
                 replace BK573 := bk1 BK573 hb
                 replace HB := hb1 HB hb
                 (try clear hb)
                 refine hK.out _ _ (c3 BK567 (c3 BK570 (c3 BK568 (c3 BK571 (c3 BK572 (d3 BK573)))))) (fun hHeld => ?_)
                 clear hK K
                 refine nA ?_
                 refine pA 29 126 (tb 32 1073741823) HT_ ?_
                 refine pA 30 127 (tb 32 2147483647) HT_ ?_
                 refine pA 31 10 (tb 32 4294967295) HT_ ?_
                 refine done_ (done_of HT_.out (by kernel_rfl)) ?_
                 try go_wp2
                 go_ret
                 exact ⟨by rfl, by repeat (with_reducible exact HB.out)⟩
                ·rw [if_neg c264] at H
                 have c264b0 : (t639 == x573000_104 && (t640 == x573001_104 && (t641 == x573002_104))) = false := by simpa using c264
                 (try (have c264b1 : decide (t639 = x573000_104 && (t640 == x573001_104 && (t641 == x573002_104))) = false := by simpa using c264))
                 (try (have c264b2 : (t639 == x573000_104 && (t640 == x573001_104 && (t641 == x573002_104))) = false := by simpa using c264))
                 (try (have c264b3 : ¬ (t639 = x573000_104 && (t640 == x573001_104 && (t641 == x573002_104))) := by simpa using c264))
                 clear c264
                 obtain rfl := Option.some.inj H
                 try go_wp2
                 replace BK567 := bkd BK567
                 replace BK568 := bkd BK568
                 replace BK570 := bkd BK570
                 replace BK571 := bkd BK571
                 replace BK572 := bkd BK572
                 replace BK573 := bkd BK573
                 replace HB := hbd HB
                 refine start_ (n := 32) (S := fun w' => w'.cell? ⟨gb567, 0, none⟩ = some (.int .i64 a0_0) ∧ w'.cell? ⟨gb567, 1, none⟩ = some (.int .u64 a0_1) ∧ w'.cell? ⟨gb567, 2, none⟩ = some (.int .u64 a0_2) ∧ w'.cell? ⟨gb570, 0, none⟩ = some (.int .i64 x571000_58) ∧ w'.cell? ⟨gb570, 1, none⟩ = some (.int .u64 x571001_58) ∧ w'.cell? ⟨gb570, 2, none⟩ = some (.int .u64 x571002_58) ∧ w'.cell? ⟨gb568, 0, none⟩ = some (.int .i64 a1_0) ∧ w'.cell? ⟨gb568, 1, none⟩ = some (.int .u64 a1_1) ∧ w'.cell? ⟨gb568, 2, none⟩ = some (.int .u64 a1_2) ∧ w'.cell? ⟨gb571, 0, none⟩ = some (.int .i64 x572000_148) ∧ w'.cell? ⟨gb571, 1, none⟩ = some (.int .u64 x572001_148) ∧ w'.cell? ⟨gb571, 2, none⟩ = some (.int .u64 x572002_148) ∧ w'.cell? ⟨gb572, 0, none⟩ = some (.int .i64 x573000_104) ∧ w'.cell? ⟨gb572, 1, none⟩ = some (.int .u64 x573001_104) ∧ w'.cell? ⟨gb572, 2, none⟩ = some (.int .u64 x573002_104)) (ds := []) (tb 32 0) (by kernel_rfl) rfl (by kernel_rfl) (c3 BK567 (c3 BK570 (c3 BK568 (c3 BK571 (d3 BK572))))) (fun hHeld => ?_); refine with_tabW masklaw1_BitsParts.tab14 masklaw1_BitsParts.bits14 (fun HT_ HW_ => ?_)
                 generalize wc.drew = w271 at BK567 BK568 BK570 BK571 BK572 BK573 HB hHeld ⊢
                 refine pA 1 98 (tb 32 2) HT_ ?_
                 refine pA 2 99 (tb 32 6) HT_ ?_
                 refine tA 0 97 (tb 32 7) HT_ HW_ hHeld ?_
                 refine tA 4 101 (tb 32 23) HT_ HW_ hHeld ?_
                 refine oA 3 (some 100) (tb 32 31) HT_ (fun K hK => ?_)
                 refine gA Tryd.func36 #[.agg #[.int .i64 a0_0, .int .u64 a0_1, .int .u64 a0_2], .int .i64 a2, .int .i64 a3] ?_
                 with_reducible refine (bits_Slice.calls kj148 a0_0 a0_1 a0_2 a2 a3 t633 t634 t635 _ A259.out).mono ?_
                 rintro e w272 ⟨rfl, hb⟩
                 refine ⟨_, rfl, ?_⟩
                 replace BK567 := bk1 BK567 hb
                 replace BK568 := bk1 BK568 hb
                 replace BK570 := bk1 BK570 hb
                 replace BK571 := bk1 BK571 hb
                 replace BK572 := bk1 BK572 hb
                 replace BK573 := bk1 BK573 hb
                 replace HB := hb1 HB hb
                 (try clear hb)
                 refine hK.out _ _ (c3 BK567 (c3 BK570 (c3 BK568 (c3 BK571 (d3 BK572))))) (fun hHeld => ?_)
                 clear hK K
                 refine nA ?_
                 refine pA 5 102 (tb 32 63) HT_ ?_
                 refine pA 6 103 (tb 32 127) HT_ ?_
                 refine pA 9 106 (tb 32 639) HT_ ?_
                 refine pA 10 107 (tb 32 1663) HT_ ?_
                 refine tA 7 104 (tb 32 1791) HT_ HW_ hHeld ?_
                 refine tA 8 105 (tb 32 2047) HT_ HW_ hHeld ?_
                 refine tA 12 109 (tb 32 6143) HT_ HW_ hHeld ?_
                 refine oA 11 (some 108) (tb 32 8191) HT_ (fun K hK => ?_)
                 refine gA Tryd.func37 #[.agg #[.int .i64 a0_0, .int .u64 a0_1, .int .u64 a0_2], .agg #[.int .i64 a1_0, .int .u64 a1_1, .int .u64 a1_2], .bool a4, .int .i64 a3] ?_
                 with_reducible refine (bits_Part.calls kj148 a0_0 a0_1 a0_2 a1_0 a1_1 a1_2 a4 a3 t636 t637 t638 _ A261.out).mono ?_
                 rintro e w273 ⟨rfl, hb⟩
                 refine ⟨_, rfl, ?_⟩
                 replace BK567 := bk1 BK567 hb
                 replace BK568 := bk1 BK568 hb
                 replace BK570 := bk1 BK570 hb
                 replace BK571 := bk1 BK571 hb
                 replace BK572 := bk1 BK572 hb
                 replace BK573 := bk1 BK573 hb
                 replace HB := hb1 HB hb
                 (try clear hb)
                 refine hK.out _ _ (c3 BK567 (c3 BK570 (c3 BK568 (c3 BK571 (d3 BK572))))) (fun hHeld => ?_)
                 clear hK K
                 refine nA ?_
                 refine pA 13 110 (tb 32 16383) HT_ ?_
                 refine pA 14 111 (tb 32 32767) HT_ ?_
                 refine pA 15 112 (tb 32 65535) HT_ ?_
                 refine pA 17 114 (tb 32 196607) HT_ ?_
                 refine tA 16 113 (tb 32 262143) HT_ HW_ hHeld ?_
                 refine tA 18 115 (tb 32 524287) HT_ HW_ hHeld ?_
                 refine tA 20 117 (tb 32 1572863) HT_ HW_ hHeld ?_
                 refine oA 19 (some 116) (tb 32 2097151) HT_ (fun K hK => ?_)
                 refine gA Tryd.func38 #[.agg #[.int .i64 a0_0, .int .u64 a0_1, .int .u64 a0_2], .int .i64 a2, .agg #[.int .i64 a1_0, .int .u64 a1_1, .int .u64 a1_2]] ?_
                 with_reducible refine (bits_Put.calls kj148 a0_0 a0_1 a0_2 a2 a1_0 a1_1 a1_2 t639 t640 t641 _ A263.out).mono ?_
                 rintro e w274 ⟨rfl, hb⟩
                 refine ⟨_, rfl, ?_⟩
                 replace BK567 := bk1 BK567 hb
                 replace BK568 := bk1 BK568 hb
                 replace BK570 := bk1 BK570 hb
                 replace BK571 := bk1 BK571 hb
                 replace BK572 := bk1 BK572 hb
                 replace BK573 := bk1 BK573 hb
                 replace HB := hb1 HB hb
                 (try clear hb)
                 refine hK.out _ _ (c3 BK567 (c3 BK570 (c3 BK568 (c3 BK571 (d3 BK572))))) (fun hHeld => ?_)
                 clear hK K
                 refine nA ?_
                 refine pA 21 118 (tb 32 4194303) HT_ ?_
                 refine pA 22 119 (tb 32 8388607) HT_ ?_
                 refine pA 23 120 (tb 32 16777215) HT_ ?_
                 refine pU 24 121 (tb 32 33554431) HT_ ?_
                 refine pU 25 122 (tb 32 67108863) HT_ ?_
                 refine pU 26 123 (tb 32 134217727) HT_ ?_
                 refine pU 27 124 (tb 32 268435455) HT_ ?_
                 refine pU 28 125 (tb 32 536870911) HT_ ?_
                 refine pU 29 126 (tb 32 1073741823) HT_ ?_
                 refine pA 30 127 (tb 32 2147483647) HT_ ?_
                 refine pA 31 10 (tb 32 4294967295) HT_ ?_
                 refine done_ (done_of HT_.out (by kernel_rfl)) ?_
                 try go_wp2
                 go_ret
                 exact ⟨by rfl, by repeat (with_reducible exact HB.out)⟩
               ·rw [if_neg c262] at H
                have c262b0 : (t636 == x572000_148 && (t637 == x572001_148 && (t638 == x572002_148))) = false := by simpa using c262
                (try (have c262b1 : decide (t636 = x572000_148 && (t637 == x572001_148 && (t638 == x572002_148))) = false := by simpa using c262))
                (try (have c262b2 : (t636 == x572000_148 && (t637 == x572001_148 && (t638 == x572002_148))) = false := by simpa using c262))
                (try (have c262b3 : ¬ (t636 = x572000_148 && (t637 == x572001_148 && (t638 == x572002_148))) := by simpa using c262))
                clear c262
                obtain rfl := Option.some.inj H
                try go_wp2
                replace BK567 := bkd BK567
                replace BK568 := bkd BK568
                replace BK570 := bkd BK570
                replace BK571 := bkd BK571
                replace BK572 := bkd BK572
                replace BK573 := bkd BK573
                replace HB := hbd HB
                refine start_ (n := 32) (S := fun w' => w'.cell? ⟨gb567, 0, none⟩ = some (.int .i64 a0_0) ∧ w'.cell? ⟨gb567, 1, none⟩ = some (.int .u64 a0_1) ∧ w'.cell? ⟨gb567, 2, none⟩ = some (.int .u64 a0_2) ∧ w'.cell? ⟨gb570, 0, none⟩ = some (.int .i64 x571000_58) ∧ w'.cell? ⟨gb570, 1, none⟩ = some (.int .u64 x571001_58) ∧ w'.cell? ⟨gb570, 2, none⟩ = some (.int .u64 x571002_58) ∧ w'.cell? ⟨gb568, 0, none⟩ = some (.int .i64 a1_0) ∧ w'.cell? ⟨gb568, 1, none⟩ = some (.int .u64 a1_1) ∧ w'.cell? ⟨gb568, 2, none⟩ = some (.int .u64 a1_2) ∧ w'.cell? ⟨gb571, 0, none⟩ = some (.int .i64 x572000_148) ∧ w'.cell? ⟨gb571, 1, none⟩ = some (.int .u64 x572001_148) ∧ w'.cell? ⟨gb571, 2, none⟩ = some (.int .u64 x572002_148)) (ds := []) (tb 32 0) (by kernel_rfl) rfl (by kernel_rfl) (c3 BK567 (c3 BK570 (c3 BK568 (d3 BK571)))) (fun hHeld => ?_); refine with_tabW masklaw1_BitsParts.tab14 masklaw1_BitsParts.bits14 (fun HT_ HW_ => ?_)
                generalize wc.drew = w275 at BK567 BK568 BK570 BK571 BK572 BK573 HB hHeld ⊢
                refine pA 1 98 (tb 32 2) HT_ ?_
                refine pA 2 99 (tb 32 6) HT_ ?_
                refine tA 0 97 (tb 32 7) HT_ HW_ hHeld ?_
                refine tA 4 101 (tb 32 23) HT_ HW_ hHeld ?_
                refine oA 3 (some 100) (tb 32 31) HT_ (fun K hK => ?_)
                refine gA Tryd.func36 #[.agg #[.int .i64 a0_0, .int .u64 a0_1, .int .u64 a0_2], .int .i64 a2, .int .i64 a3] ?_
                with_reducible refine (bits_Slice.calls kj148 a0_0 a0_1 a0_2 a2 a3 t633 t634 t635 _ A259.out).mono ?_
                rintro e w276 ⟨rfl, hb⟩
                refine ⟨_, rfl, ?_⟩
                replace BK567 := bk1 BK567 hb
                replace BK568 := bk1 BK568 hb
                replace BK570 := bk1 BK570 hb
                replace BK571 := bk1 BK571 hb
                replace BK572 := bk1 BK572 hb
                replace BK573 := bk1 BK573 hb
                replace HB := hb1 HB hb
                (try clear hb)
                refine hK.out _ _ (c3 BK567 (c3 BK570 (c3 BK568 (d3 BK571)))) (fun hHeld => ?_)
                clear hK K
                refine nA ?_
                refine pA 5 102 (tb 32 63) HT_ ?_
                refine pA 6 103 (tb 32 127) HT_ ?_
                refine pA 9 106 (tb 32 639) HT_ ?_
                refine pA 10 107 (tb 32 1663) HT_ ?_
                refine tA 7 104 (tb 32 1791) HT_ HW_ hHeld ?_
                refine tA 8 105 (tb 32 2047) HT_ HW_ hHeld ?_
                refine tA 12 109 (tb 32 6143) HT_ HW_ hHeld ?_
                refine oA 11 (some 108) (tb 32 8191) HT_ (fun K hK => ?_)
                refine gA Tryd.func37 #[.agg #[.int .i64 a0_0, .int .u64 a0_1, .int .u64 a0_2], .agg #[.int .i64 a1_0, .int .u64 a1_1, .int .u64 a1_2], .bool a4, .int .i64 a3] ?_
                with_reducible refine (bits_Part.calls kj148 a0_0 a0_1 a0_2 a1_0 a1_1 a1_2 a4 a3 t636 t637 t638 _ A261.out).mono ?_
                rintro e w277 ⟨rfl, hb⟩
                refine ⟨_, rfl, ?_⟩
                replace BK567 := bk1 BK567 hb
                replace BK568 := bk1 BK568 hb
                replace BK570 := bk1 BK570 hb
                replace BK571 := bk1 BK571 hb
                replace BK572 := bk1 BK572 hb
                replace BK573 := bk1 BK573 hb
                replace HB := hb1 HB hb
                (try clear hb)
                refine hK.out _ _ (c3 BK567 (c3 BK570 (c3 BK568 (d3 BK571)))) (fun hHeld => ?_)
                clear hK K
                refine nA ?_
                refine pA 13 110 (tb 32 16383) HT_ ?_
                refine pA 14 111 (tb 32 32767) HT_ ?_
                refine pA 15 112 (tb 32 65535) HT_ ?_
                refine pU 16 113 (tb 32 131071) HT_ ?_
                refine pU 17 114 (tb 32 262143) HT_ ?_
                refine pU 18 115 (tb 32 524287) HT_ ?_
                refine pU 19 116 (tb 32 1048575) HT_ ?_
                refine pU 20 117 (tb 32 2097151) HT_ ?_
                refine pU 21 118 (tb 32 4194303) HT_ ?_
                refine pA 22 119 (tb 32 8388607) HT_ ?_
                refine pA 23 120 (tb 32 16777215) HT_ ?_
                refine pU 24 121 (tb 32 33554431) HT_ ?_
                refine pU 25 122 (tb 32 67108863) HT_ ?_
                refine pU 26 123 (tb 32 134217727) HT_ ?_
                refine pU 27 124 (tb 32 268435455) HT_ ?_
                refine pU 28 125 (tb 32 536870911) HT_ ?_
                refine pU 29 126 (tb 32 1073741823) HT_ ?_
                refine pA 30 127 (tb 32 2147483647) HT_ ?_
                refine pA 31 10 (tb 32 4294967295) HT_ ?_
                refine done_ (done_of HT_.out (by kernel_rfl)) ?_
                try go_wp2
                go_ret
                exact ⟨by rfl, by repeat (with_reducible exact HB.out)⟩
              ·rw [if_neg c260] at H
               have c260b0 : (t633 == x571000_58 && (t634 == x571001_58 && (t635 == x571002_58))) = false := by simpa using c260
               (try (have c260b1 : decide (t633 = x571000_58 && (t634 == x571001_58 && (t635 == x571002_58))) = false := by simpa using c260))
               (try (have c260b2 : (t633 == x571000_58 && (t634 == x571001_58 && (t635 == x571002_58))) = false := by simpa using c260))
               (try (have c260b3 : ¬ (t633 = x571000_58 && (t634 == x571001_58 && (t635 == x571002_58))) := by simpa using c260))
               clear c260
               obtain rfl := Option.some.inj H
               try go_wp2
               replace BK567 := bkd BK567
               replace BK568 := bkd BK568
               replace BK570 := bkd BK570
               replace BK571 := bkd BK571
               replace BK572 := bkd BK572
               replace BK573 := bkd BK573
               replace HB := hbd HB
               refine start_ (n := 32) (S := fun w' => w'.cell? ⟨gb567, 0, none⟩ = some (.int .i64 a0_0) ∧ w'.cell? ⟨gb567, 1, none⟩ = some (.int .u64 a0_1) ∧ w'.cell? ⟨gb567, 2, none⟩ = some (.int .u64 a0_2) ∧ w'.cell? ⟨gb570, 0, none⟩ = some (.int .i64 x571000_58) ∧ w'.cell? ⟨gb570, 1, none⟩ = some (.int .u64 x571001_58) ∧ w'.cell? ⟨gb570, 2, none⟩ = some (.int .u64 x571002_58)) (ds := []) (tb 32 0) (by kernel_rfl) rfl (by kernel_rfl) (c3 BK567 (d3 BK570)) (fun hHeld => ?_); refine with_tabW masklaw1_BitsParts.tab14 masklaw1_BitsParts.bits14 (fun HT_ HW_ => ?_)
               generalize wc.drew = w278 at BK567 BK568 BK570 BK571 BK572 BK573 HB hHeld ⊢
               refine pA 1 98 (tb 32 2) HT_ ?_
               refine pA 2 99 (tb 32 6) HT_ ?_
               refine tA 0 97 (tb 32 7) HT_ HW_ hHeld ?_
               refine tA 4 101 (tb 32 23) HT_ HW_ hHeld ?_
               refine oA 3 (some 100) (tb 32 31) HT_ (fun K hK => ?_)
               refine gA Tryd.func36 #[.agg #[.int .i64 a0_0, .int .u64 a0_1, .int .u64 a0_2], .int .i64 a2, .int .i64 a3] ?_
               with_reducible refine (bits_Slice.calls kj148 a0_0 a0_1 a0_2 a2 a3 t633 t634 t635 _ A259.out).mono ?_
               rintro e w279 ⟨rfl, hb⟩
               refine ⟨_, rfl, ?_⟩
               replace BK567 := bk1 BK567 hb
               replace BK568 := bk1 BK568 hb
               replace BK570 := bk1 BK570 hb
               replace BK571 := bk1 BK571 hb
               replace BK572 := bk1 BK572 hb
               replace BK573 := bk1 BK573 hb
               replace HB := hb1 HB hb
               (try clear hb)
               refine hK.out _ _ (c3 BK567 (d3 BK570)) (fun hHeld => ?_)
               clear hK K
               refine nA ?_
               refine pA 5 102 (tb 32 63) HT_ ?_
               refine pA 6 103 (tb 32 127) HT_ ?_
               refine pU 7 104 (tb 32 255) HT_ ?_
               refine pU 8 105 (tb 32 511) HT_ ?_
               refine pU 9 106 (tb 32 1023) HT_ ?_
               refine pU 10 107 (tb 32 2047) HT_ ?_
               refine pU 11 108 (tb 32 4095) HT_ ?_
               refine pU 12 109 (tb 32 8191) HT_ ?_
               refine pU 13 110 (tb 32 16383) HT_ ?_
               refine pA 14 111 (tb 32 32767) HT_ ?_
               refine pA 15 112 (tb 32 65535) HT_ ?_
               refine pU 16 113 (tb 32 131071) HT_ ?_
               refine pU 17 114 (tb 32 262143) HT_ ?_
               refine pU 18 115 (tb 32 524287) HT_ ?_
               refine pU 19 116 (tb 32 1048575) HT_ ?_
               refine pU 20 117 (tb 32 2097151) HT_ ?_
               refine pU 21 118 (tb 32 4194303) HT_ ?_
               refine pA 22 119 (tb 32 8388607) HT_ ?_
               refine pA 23 120 (tb 32 16777215) HT_ ?_
               refine pU 24 121 (tb 32 33554431) HT_ ?_
               refine pU 25 122 (tb 32 67108863) HT_ ?_
               refine pU 26 123 (tb 32 134217727) HT_ ?_
               refine pU 27 124 (tb 32 268435455) HT_ ?_
               refine pU 28 125 (tb 32 536870911) HT_ ?_
               refine pU 29 126 (tb 32 1073741823) HT_ ?_
               refine pA 30 127 (tb 32 2147483647) HT_ ?_
               refine pA 31 10 (tb 32 4294967295) HT_ ?_
               refine done_ (done_of HT_.out (by kernel_rfl)) ?_
               try go_wp2
               go_ret
               exact ⟨by rfl, by repeat (with_reducible exact HB.out)⟩
 ·replace c7 := Bool.eq_false_iff.mpr c7
  subst c7
  have H1 : (some false) = some r := by rw [if_neg (show ¬ (false = true) by decide)] at H; exact H
  clear H
  have H := H1
  clear H1
  obtain rfl := Option.some.inj H
  go_enter Tryd.func6, Tryd.ntmps6
  go_wp2_with (first | ((with_reducible refine gate_dst (N := 5) rfl ?_); refine box_event ?hg (N := 5) ?hd (cs := #[.int .i64 a0_0, .int .u64 a0_1, .int .u64 a0_2]) (t := 24) ?hr ?_; (case hd => rfl); (case hg => rfl); (case hr => (go_simp; done)); intro gb567 hg w280 hbox hb; have BK567 := Aside0.mk (hbox); have GW567 := ge1 HB hg; have GE567 := ge1 HB hg; replace HB := hb1 HB hb; clear hb hbox hg) | ((with_reducible refine gate_dst (N := 6) rfl ?_); refine box_event ?hg (N := 6) ?hd (cs := #[.int .i64 a1_0, .int .u64 a1_1, .int .u64 a1_2]) (t := 24) ?hr ?_; (case hd => rfl); (case hg => rfl); (case hr => (go_simp; done)); intro gb568 hg w281 hbox hb; have BK568 := Aside0.mk (hbox); have GW568 := ge1 HB hg; have GE568 := ge1 HB hg; replace HB := hb1 HB hb; have NB567_568 := Aside0.mk ((by rw [hg]; exact Nat.ne_of_lt (blk_lt BK567.out) : gb567 ≠ gb568)); have NB568_567 := Aside0.mk ((by rw [hg]; exact Nat.ne_of_gt (blk_lt BK567.out) : gb568 ≠ gb567)); replace BK567 := bk1 BK567 hb; clear hb hbox hg) | ((with_reducible refine gate_callee (f := 11) rfl ?_); refine goesL_ (some 15) rfl rfl Tryd.func11 (by kernel_rfl) rfl #[] rfl (by (try simp only [List.map_toArray, List.map_cons, List.map_nil]); done) ?_; (with_reducible refine (masklaw1_vectors.calls k  false _ A6.out).mono ?_); rintro e w282 ⟨rfl, hb⟩; refine ⟨_, rfl, ?_⟩; replace BK567 := bk1 BK567 hb; replace BK568 := bk1 BK568 hb; replace HB := hb1 HB hb; (try clear hb)))
  go_ret
  exact ⟨by rfl, by repeat (with_reducible exact HB.out)⟩
end Go.Proofs.YtfigblfjogpojaaDoor.PBits
end
