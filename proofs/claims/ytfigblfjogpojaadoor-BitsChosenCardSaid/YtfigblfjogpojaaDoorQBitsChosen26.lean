/- Part 27 of the proof of BitsChosenCardSaid: The law BitsChosen: for all arguments it returns true; each argument reads behind the call as it read before. Out of the plain theorem of YtfigblfjogpojaaDoorPureBitsChosen and the printed contract. -/
import Derived.Test.YtfigblfjogpojaaDoorQBitsChosen13
import Derived.Test.YtfigblfjogpojaaDoorQBitsChosen20
import Derived.Test.YtfigblfjogpojaaDoorQBitsChosen24
import Derived.Test.YtfigblfjogpojaaDoorQBitsChosen15
import Derived.Test.YtfigblfjogpojaaDoorQBitsChosen17
import Derived.Test.YtfigblfjogpojaaDoorQBitsChosen14
section
namespace Go.Proofs.YtfigblfjogpojaaDoor.PBits
open Go.RowKit Go.Proofs.YtfigblfjogpojaaDoorW.PrintWords Go.Proofs.YtfigblfjogpojaaDoorW.PrintLast Go.Proofs.YtfigblfjogpojaaDoorW.PrintMore
attribute [local go_sem] max2_int min2_int max_two min_two max_three min_three max_four min_four
set_option linter.unusedVariables false
set_option linter.unusedSimpArgs false
attribute [local go_sem high] eqA24
mutual
def masklaw1_BitsChosen.j0 : Nat → Int → Bool → Int → Int → Int → Int → Int → Int → Int → Int → Int → Option (Bool)
 | 0, _, _, _, _, _, _, _, _, _, _, _ => none
 | k + 1, x3, x9, x698000, x698001, x698002, x699000, x699001, x699002, x700000, x700001, x700002 => if x9 = true then ((maskref1_V.f k x699000 x699001 x699002).bind fun t704 => ((maskref1_V.f k x700000 x700001 x700002).bind fun t707 => ((maskref1_Resolved.f k t704 t707).bind fun t710 => ((maskref1_B.f k t710).bind fun bt713 => (masklaw1_BitsChosen.j1 k x3 x9 x698000 x698001 x698002 x699000 x699001 x699002 x700000 x700001 x700002 0 0 0 bt713.1 bt713.2.1 bt713.2.2))))) else (masklaw1_BitsChosen.j1 k x3 x9 x698000 x698001 x698002 x699000 x699001 x699002 x700000 x700001 x700002 0 0 0 0 0 0)
def masklaw1_BitsChosen.j1 : Nat → Int → Bool → Int → Int → Int → Int → Int → Int → Int → Int → Int → Int → Int → Int → Int → Int → Int → Option (Bool)
 | 0, _, _, _, _, _, _, _, _, _, _, _, _, _, _, _, _, _ => none
 | k + 1, x3, x9, x698000, x698001, x698002, x699000, x699001, x699002, x700000, x700001, x700002, x703000, x703001, x703002, x704000, x704001, x704002 => if x9 = true then ((maskref1_Valid.f k x698000 x698001 x698002).bind fun t716 => (masklaw1_BitsChosen.j2 k x3 x9 t716 x698000 x698001 x698002 x699000 x699001 x699002 x700000 x700001 x700002 x703000 x703001 x703002 x704000 x704001 x704002)) else (masklaw1_BitsChosen.j2 k x3 x9 false x698000 x698001 x698002 x699000 x699001 x699002 x700000 x700001 x700002 x703000 x703001 x703002 x704000 x704001 x704002)
def masklaw1_BitsChosen.j2 : Nat → Int → Bool → Bool → Int → Int → Int → Int → Int → Int → Int → Int → Int → Int → Int → Int → Int → Int → Int → Option (Bool)
 | 0, _, _, _, _, _, _, _, _, _, _, _, _, _, _, _, _, _, _ => none
 | k + 1, x3, x9, x36, x698000, x698001, x698002, x699000, x699001, x699002, x700000, x700001, x700002, x703000, x703001, x703002, x704000, x704001, x704002 => if x36 = true then ((maskref1_V.f k x698000 x698001 x698002).bind fun t717 => ((maskref1_V.f k x699000 x699001 x699002).bind fun t720 => ((maskref1_V.f k x700000 x700001 x700002).bind fun t723 => ((maskref1_Chosen.f k t717 t720 t723).bind fun t726 => ((maskref1_B.f k t726).bind fun bt729 => (masklaw1_BitsChosen.j3 k x3 x9 x698000 x698001 x698002 x699000 x699001 x699002 x700000 x700001 x700002 bt729.1 bt729.2.1 bt729.2.2 x704000 x704001 x704002)))))) else (masklaw1_BitsChosen.j3 k x3 x9 x698000 x698001 x698002 x699000 x699001 x699002 x700000 x700001 x700002 x703000 x703001 x703002 x704000 x704001 x704002)
def masklaw1_BitsChosen.j3 : Nat → Int → Bool → Int → Int → Int → Int → Int → Int → Int → Int → Int → Int → Int → Int → Int → Int → Int → Option (Bool)
 | 0, _, _, _, _, _, _, _, _, _, _, _, _, _, _, _, _, _ => none
 | k + 1, x3, x9, x698000, x698001, x698002, x699000, x699001, x699002, x700000, x700001, x700002, x703000, x703001, x703002, x704000, x704001, x704002 => (masklaw1_vectors.f k).bind fun t732 => (if t732 = true then ((bits_Fits.f k x699000 x699001 x699002 x700000 x700001 x700002 x3).bind fun t733 => (if x9 = true then ((maskref1_V.f k x699000 x699001 x699002).bind fun t734 => ((maskref1_V.f k x700000 x700001 x700002).bind fun t737 => ((maskref1_Fit.f k t734 t737 x3).bind fun t740 => (if (t733 == t740) = true then ((bits_Resolve.f k x699000 x699001 x699002 x700000 x700001 x700002).bind fun bt741 => (if (bt741.1 == x704000 && (bt741.2.1 == x704001 && (bt741.2.2 == x704002))) = true then ((bits_Cond.f k x698000 x698001 x698002 x699000 x699001 x699002 x700000 x700001 x700002).bind fun bt744 => (some (bt744.1 == x703000 && (bt744.2.1 == x703001 && (bt744.2.2 == x703002))))) else (some false))) else (some false))))) else (if (t733 == false) = true then ((bits_Resolve.f k x699000 x699001 x699002 x700000 x700001 x700002).bind fun bt747 => (if (bt747.1 == x704000 && (bt747.2.1 == x704001 && (bt747.2.2 == x704002))) = true then ((bits_Cond.f k x698000 x698001 x698002 x699000 x699001 x699002 x700000 x700001 x700002).bind fun bt750 => (some (bt750.1 == x703000 && (bt750.2.1 == x703001 && (bt750.2.2 == x703002))))) else (some false))) else (some false)))) else (some false))
end
def masklaw1_BitsChosen.f (k : Nat) (a0_0 : Int) (a0_1 : Int) (a0_2 : Int) (a1_0 : Int) (a1_1 : Int) (a1_2 : Int) (a2_0 : Int) (a2_1 : Int) (a2_2 : Int) (a3 : Int) : Option (Bool) := (maskref1_Valid.f k a1_0 a1_1 a1_2).bind fun t700 => (if t700 = true then ((maskref1_Valid.f k a2_0 a2_1 a2_2).bind fun t701 => (if t701 = true then (masklaw1_BitsChosen.j0 k a3 (a1_0 == a2_0) a0_0 a0_1 a0_2 a1_0 a1_1 a1_2 a2_0 a2_1 a2_2) else (masklaw1_BitsChosen.j0 k a3 false a0_0 a0_1 a0_2 a1_0 a1_1 a1_2 a2_0 a2_1 a2_2))) else (masklaw1_BitsChosen.j0 k a3 false a0_0 a0_1 a0_2 a1_0 a1_1 a1_2 a2_0 a2_1 a2_2))
def masklaw1_BitsChosen.T6 : Bool × List (List Nat × List Nat) := (true, [([], []), ([0], [0]), ([], []), ([2, 1], [2]), ([], []), ([4, 3], [4]), ([1, 3, 5, 5], [1, 3, 5]), ([6, 6], [6]), ([7, 7, 0, 1, 2, 3, 4, 5, 6, 7], [7])])
def masklaw1_BitsChosen.B6 : List Nat := [0, 1, 0, 7, 0, 31, 63, 127, 255]
theorem masklaw1_BitsChosen.tab6 : rtab .any (opsOf Tryd.f7 6) = masklaw1_BitsChosen.T6 := by kernel_rfl
theorem masklaw1_BitsChosen.bits6 : waitsOk masklaw1_BitsChosen.T6.2 masklaw1_BitsChosen.B6 = true := by kernel_rfl
def masklaw1_BitsChosen.T7 : Bool × List (List Nat × List Nat) := (true, [([], []), ([0, 0], [0]), ([1], [1]), ([1], [1]), ([1], [1]), ([2, 3, 4, 1, 1], [1, 2, 3, 4]), ([1], [1]), ([6, 5, 1], [1, 6]), ([7], [7]), ([8, 7, 7], [7, 8]), ([7], [7]), ([10, 9, 7], [7, 10]), ([7], [7]), ([9, 11, 12, 11, 7], [7, 9, 11, 12]), ([7, 13, 1], [1, 7, 13]), ([5, 14, 1], [1, 5, 14]), ([1, 15], [1, 15]), ([16, 13], [16]), ([17], [17]), ([17], [17]), ([18, 19, 17, 17], [17, 18, 19]), ([17], [17]), ([20, 21, 17], [17, 20, 21]), ([17, 22], [17, 22]), ([23, 20], [23]), ([24], [24]), ([24], [24]), ([24], [24]), ([25, 26, 27, 24, 24], [24, 25, 26, 27]), ([24], [24]), ([28, 29, 24], [24, 28, 29]), ([24, 30], [24, 30]), ([31, 28, 0, 1, 2, 3, 4, 5, 6, 7, 8, 9, 10, 11, 12, 13, 14, 15, 16, 17, 18, 19, 20, 21, 22, 23, 24, 25, 26, 27, 28, 29, 30, 31], [31])])
def masklaw1_BitsChosen.B7 : List Nat := [0, 1, 3, 3, 3, 31, 3, 127, 255, 511, 255, 2047, 255, 8191, 16383, 32767, 65535, 131071, 262143, 262143, 1048575, 262143, 4194303, 8388607, 16777215, 33554431, 33554431, 33554431, 268435455, 33554431, 1073741823, 2147483647, 4294967295]
theorem masklaw1_BitsChosen.tab7 : rtab .any (opsOf Tryd.f7 7) = masklaw1_BitsChosen.T7 := by kernel_rfl
theorem masklaw1_BitsChosen.bits7 : waitsOk masklaw1_BitsChosen.T7.2 masklaw1_BitsChosen.B7 = true := by kernel_rfl
set_option maxHeartbeats 8000000 in
set_option maxRecDepth 100000 in
theorem masklaw1_BitsChosen.calls (k : Nat) (a0_0 : Int) (a0_1 : Int) (a0_2 : Int) (a1_0 : Int) (a1_1 : Int) (a1_2 : Int) (a2_0 : Int) (a2_1 : Int) (a2_2 : Int) (a3 : Int) (r : Bool) (w : World) (h : masklaw1_BitsChosen.f k a0_0 a0_1 a0_2 a1_0 a1_1 a1_2 a2_0 a2_1 a2_2 a3 = some r) :
  Calls Tryd.prog 7 #[.agg #[.int .i64 a0_0, .int .u64 a0_1, .int .u64 a0_2], .agg #[.int .i64 a1_0, .int .u64 a1_1, .int .u64 a1_2], .agg #[.int .i64 a2_0, .int .u64 a2_1, .int .u64 a2_2], .int .i64 a3] w fun e w' => e = .returned (.bool r) ∧ Below w.heap.size w w' := by
 have hu24 := Tryd.underlying24
 have HB := Aside0.mk (Below.refl w.heap.size w)
 have H : ((maskref1_Valid.f k a1_0 a1_1 a1_2).bind fun t700 => (if t700 = true then ((maskref1_Valid.f k a2_0 a2_1 a2_2).bind fun t701 => (if t701 = true then (masklaw1_BitsChosen.j0 k a3 (a1_0 == a2_0) a0_0 a0_1 a0_2 a1_0 a1_1 a1_2 a2_0 a2_1 a2_2) else (masklaw1_BitsChosen.j0 k a3 false a0_0 a0_1 a0_2 a1_0 a1_1 a1_2 a2_0 a2_1 a2_2))) else (masklaw1_BitsChosen.j0 k a3 false a0_0 a0_1 a0_2 a1_0 a1_1 a1_2 a2_0 a2_1 a2_2))) = some r := h
 clear h
 have HC5 := Aside0.mk H
 clear H
 go_enter Tryd.func7, Tryd.ntmps7
 go_upto_region 1 with (first | ((with_reducible refine gate_dst (N := 4) rfl ?_); refine box_event ?hg (N := 4) ?hd (cs := #[.int .i64 a0_0, .int .u64 a0_1, .int .u64 a0_2]) (t := 24) ?hr ?_; (case hd => rfl); (case hg => rfl); (case hr => (go_simp; done)); intro gb697 hg w6 hbox hb; have BK697 := Aside0.mk (hbox); have GW697 := ge1 HB hg; have GE697 := ge1 HB hg; replace HB := hb1 HB hb; clear hb hbox hg) | ((with_reducible refine gate_dst (N := 5) rfl ?_); refine box_event ?hg (N := 5) ?hd (cs := #[.int .i64 a1_0, .int .u64 a1_1, .int .u64 a1_2]) (t := 24) ?hr ?_; (case hd => rfl); (case hg => rfl); (case hr => (go_simp; done)); intro gb698 hg w7 hbox hb; have BK698 := Aside0.mk (hbox); have GW698 := ge1 HB hg; have GE698 := ge1 HB hg; replace HB := hb1 HB hb; have NB697_698 := Aside0.mk ((by rw [hg]; exact Nat.ne_of_lt (blk_lt BK697.out) : gb697 ≠ gb698)); have NB698_697 := Aside0.mk ((by rw [hg]; exact Nat.ne_of_gt (blk_lt BK697.out) : gb698 ≠ gb697)); replace BK697 := bk1 BK697 hb; clear hb hbox hg) | ((with_reducible refine gate_dst (N := 6) rfl ?_); refine box_event ?hg (N := 6) ?hd (cs := #[.int .i64 a2_0, .int .u64 a2_1, .int .u64 a2_2]) (t := 24) ?hr ?_; (case hd => rfl); (case hg => rfl); (case hr => (go_simp; done)); intro gb699 hg w8 hbox hb; have BK699 := Aside0.mk (hbox); have GW699 := ge1 HB hg; have GE699 := ge1 HB hg; replace HB := hb1 HB hb; have NB697_699 := Aside0.mk ((by rw [hg]; exact Nat.ne_of_lt (blk_lt BK697.out) : gb697 ≠ gb699)); have NB699_697 := Aside0.mk ((by rw [hg]; exact Nat.ne_of_gt (blk_lt BK697.out) : gb699 ≠ gb697)); replace BK697 := bk1 BK697 hb; have NB698_699 := Aside0.mk ((by rw [hg]; exact Nat.ne_of_lt (blk_lt BK698.out) : gb698 ≠ gb699)); have NB699_698 := Aside0.mk ((by rw [hg]; exact Nat.ne_of_gt (blk_lt BK698.out) : gb699 ≠ gb698)); replace BK698 := bk1 BK698 hb; clear hb hbox hg))
 go_cut [9] (fun v9 wc => ∃ (kq : Nat) (x9_4 : Bool), v9 = .bool x9_4 ∧ Aside0 (masklaw1_BitsChosen.j0 kq a3 x9_4 a0_0 a0_1 a0_2 a1_0 a1_1 a1_2 a2_0 a2_1 a2_2 = some r) ∧ Aside0 (kq ≤ k) ∧ Aside0 (wc.heap[gb697]? = some (.cells #[.int .i64 a0_0, .int .u64 a0_1, .int .u64 a0_2] 24 (0, 0))) ∧ Aside0 (wc.heap[gb698]? = some (.cells #[.int .i64 a1_0, .int .u64 a1_1, .int .u64 a1_2] 24 (0, 0))) ∧ Aside0 (wc.heap[gb699]? = some (.cells #[.int .i64 a2_0, .int .u64 a2_1, .int .u64 a2_2] 24 (0, 0))) ∧ Aside0 (Below w.heap.size w wc))
 case first =>
  have H := HC5.out
  clear HC5
  replace H := Option.bind_eq_some_iff.mp H
  obtain ⟨t700, A90, H⟩ := H
  replace H : (if t700 = true then ((maskref1_Valid.f k a2_0 a2_1 a2_2).bind fun t701 => (if t701 = true then (masklaw1_BitsChosen.j0 k a3 (a1_0 == a2_0) a0_0 a0_1 a0_2 a1_0 a1_1 a1_2 a2_0 a2_1 a2_2) else (masklaw1_BitsChosen.j0 k a3 false a0_0 a0_1 a0_2 a1_0 a1_1 a1_2 a2_0 a2_1 a2_2))) else (masklaw1_BitsChosen.j0 k a3 false a0_0 a0_1 a0_2 a1_0 a1_1 a1_2 a2_0 a2_1 a2_2)) = some r := H
  have A9 := Aside0.mk A90
  clear A90
  by_cases c10 : t700 = true
  ·subst c10
   have H1 : ((maskref1_Valid.f k a2_0 a2_1 a2_2).bind fun t701 => (if t701 = true then (masklaw1_BitsChosen.j0 k a3 (a1_0 == a2_0) a0_0 a0_1 a0_2 a1_0 a1_1 a1_2 a2_0 a2_1 a2_2) else (masklaw1_BitsChosen.j0 k a3 false a0_0 a0_1 a0_2 a1_0 a1_1 a1_2 a2_0 a2_1 a2_2))) = some r := by rw [if_pos rfl] at H; exact H
   clear H
   have H := H1
   clear H1
   replace H := Option.bind_eq_some_iff.mp H
   obtain ⟨t701, A110, H⟩ := H
   replace H : (if t701 = true then (masklaw1_BitsChosen.j0 k a3 (a1_0 == a2_0) a0_0 a0_1 a0_2 a1_0 a1_1 a1_2 a2_0 a2_1 a2_2) else (masklaw1_BitsChosen.j0 k a3 false a0_0 a0_1 a0_2 a1_0 a1_1 a1_2 a2_0 a2_1 a2_2)) = some r := H
   have A11 := Aside0.mk A110
   clear A110
   by_cases c12 : t701 = true
   ·subst c12
    have H1 : (masklaw1_BitsChosen.j0 k a3 (a1_0 == a2_0) a0_0 a0_1 a0_2 a1_0 a1_1 a1_2 a2_0 a2_1 a2_2) = some r := by rw [if_pos rfl] at H; exact H
    clear H
    have H := H1
    clear H1
    have H' := Aside0.mk H
    clear H
    have hnb13 := NB698_697.out
    have hnc13 := NB697_698.out
    have hnb14 := NB698_699.out
    have hnc14 := NB699_698.out
    obtain ⟨hcz15_0, hcz15_1, hcz15_2⟩ := sq_cells3 (W := w8) (g := gb698) BK698.out; obtain ⟨hfz15_0, hfz15_1, hfz15_2⟩ := sq_frozen3 BK698.out
    go_wp2_with (first | ((with_reducible refine gate_callee (f := 14) rfl ?_); refine goesL_ (some 13) rfl rfl Tryd.func14 (by kernel_rfl) rfl #[.agg #[.int .i64 a1_0, .int .u64 a1_1, .int .u64 a1_2]] rfl (by (try simp only [List.map_toArray, List.map_cons, List.map_nil]); rfl) ?_; (with_reducible refine (maskref1_Valid.calls k a1_0 a1_1 a1_2 true _ A9.out).mono ?_); rintro e w16 ⟨rfl, hb⟩; refine ⟨_, rfl, ?_⟩; replace BK697 := bk1 BK697 hb; replace BK698 := bk1 BK698 hb; replace BK699 := bk1 BK699 hb; replace HB := hb1 HB hb; (try clear hb); have hnb17 := NB699_697.out; have hnc17 := NB697_699.out; have hcz18_0 : w16.cell? ⟨gb699, 0, none⟩ = some (.int .i64 a2_0) := (blk_cell BK699.out 0).trans rfl; have hcz18_1 : w16.cell? ⟨gb699, 1, none⟩ = some (.int .u64 a2_1) := (blk_cell BK699.out 1).trans rfl; have hcz18_2 : w16.cell? ⟨gb699, 2, none⟩ = some (.int .u64 a2_2) := (blk_cell BK699.out 2).trans rfl; have hfz18_0 := blk_frozen BK699.out 0; have hfz18_1 := blk_frozen BK699.out 1; have hfz18_2 := blk_frozen BK699.out 2) | (go_at_call 14; (with_reducible refine (maskref1_Valid.calls k a2_0 a2_1 a2_2 true _ A11.out).mono ?_); rintro e w19 ⟨rfl, hb⟩; replace BK697 := bk1 BK697 hb; replace BK698 := bk1 BK698 hb; replace BK699 := bk1 BK699 hb; replace HB := hb1 HB hb; (try clear hb); have hcz20_0 : w19.cell? ⟨gb698, 0, none⟩ = some (.int .i64 a1_0) := (blk_cell BK698.out 0).trans rfl; have hcz20_1 : w19.cell? ⟨gb698, 1, none⟩ = some (.int .u64 a1_1) := (blk_cell BK698.out 1).trans rfl; have hcz20_2 : w19.cell? ⟨gb698, 2, none⟩ = some (.int .u64 a1_2) := (blk_cell BK698.out 2).trans rfl; have hfz20_0 := blk_frozen BK698.out 0; have hfz20_1 := blk_frozen BK698.out 1; have hfz20_2 := blk_frozen BK698.out 2; have hcz21_0 : w19.cell? ⟨gb699, 0, none⟩ = some (.int .i64 a2_0) := (blk_cell BK699.out 0).trans rfl; have hcz21_1 : w19.cell? ⟨gb699, 1, none⟩ = some (.int .u64 a2_1) := (blk_cell BK699.out 1).trans rfl; have hcz21_2 : w19.cell? ⟨gb699, 2, none⟩ = some (.int .u64 a2_2) := (blk_cell BK699.out 2).trans rfl; have hfz21_0 := blk_frozen BK699.out 0; have hfz21_1 := blk_frozen BK699.out 1; have hfz21_2 := blk_frozen BK699.out 2))
    go_meet
    case rel => exact ⟨_, (a1_0 == a2_0), (by rfl), H', ⟨by omega⟩, ⟨by exact BK697.out⟩, ⟨by exact BK698.out⟩, ⟨by exact BK699.out⟩, ⟨by repeat (with_reducible exact HB.out)⟩⟩
   ·replace c12 := Bool.eq_false_iff.mpr c12
    subst c12
    have H1 : (masklaw1_BitsChosen.j0 k a3 false a0_0 a0_1 a0_2 a1_0 a1_1 a1_2 a2_0 a2_1 a2_2) = some r := by rw [if_neg (show ¬ (false = true) by decide)] at H; exact H
    clear H
    have H := H1
    clear H1
    have H' := Aside0.mk H
    clear H
    have hnb22 := NB698_697.out
    have hnc22 := NB697_698.out
    have hnb23 := NB698_699.out
    have hnc23 := NB699_698.out
    obtain ⟨hcz24_0, hcz24_1, hcz24_2⟩ := sq_cells3 (W := w8) (g := gb698) BK698.out; obtain ⟨hfz24_0, hfz24_1, hfz24_2⟩ := sq_frozen3 BK698.out
    go_wp2_with (first | ((with_reducible refine gate_callee (f := 14) rfl ?_); refine goesL_ (some 13) rfl rfl Tryd.func14 (by kernel_rfl) rfl #[.agg #[.int .i64 a1_0, .int .u64 a1_1, .int .u64 a1_2]] rfl (by (try simp only [List.map_toArray, List.map_cons, List.map_nil]); rfl) ?_; (with_reducible refine (maskref1_Valid.calls k a1_0 a1_1 a1_2 true _ A9.out).mono ?_); rintro e w25 ⟨rfl, hb⟩; refine ⟨_, rfl, ?_⟩; replace BK697 := bk1 BK697 hb; replace BK698 := bk1 BK698 hb; replace BK699 := bk1 BK699 hb; replace HB := hb1 HB hb; (try clear hb); have hnb26 := NB699_697.out; have hnc26 := NB697_699.out; have hcz27_0 : w25.cell? ⟨gb699, 0, none⟩ = some (.int .i64 a2_0) := (blk_cell BK699.out 0).trans rfl; have hcz27_1 : w25.cell? ⟨gb699, 1, none⟩ = some (.int .u64 a2_1) := (blk_cell BK699.out 1).trans rfl; have hcz27_2 : w25.cell? ⟨gb699, 2, none⟩ = some (.int .u64 a2_2) := (blk_cell BK699.out 2).trans rfl; have hfz27_0 := blk_frozen BK699.out 0; have hfz27_1 := blk_frozen BK699.out 1; have hfz27_2 := blk_frozen BK699.out 2) | (go_at_call 14; (with_reducible refine (maskref1_Valid.calls k a2_0 a2_1 a2_2 false _ A11.out).mono ?_); rintro e w28 ⟨rfl, hb⟩; replace BK697 := bk1 BK697 hb; replace BK698 := bk1 BK698 hb; replace BK699 := bk1 BK699 hb; replace HB := hb1 HB hb; (try clear hb)))
    go_meet
    case rel => exact ⟨_, (false), (by rfl), H', ⟨by omega⟩, ⟨by exact BK697.out⟩, ⟨by exact BK698.out⟩, ⟨by exact BK699.out⟩, ⟨by repeat (with_reducible exact HB.out)⟩⟩
  ·replace c10 := Bool.eq_false_iff.mpr c10
   subst c10
   have H1 : (masklaw1_BitsChosen.j0 k a3 false a0_0 a0_1 a0_2 a1_0 a1_1 a1_2 a2_0 a2_1 a2_2) = some r := by rw [if_neg (show ¬ (false = true) by decide)] at H; exact H
   clear H
   have H := H1
   clear H1
   have H' := Aside0.mk H
   clear H
   have hnb29 := NB698_697.out
   have hnc29 := NB697_698.out
   have hnb30 := NB698_699.out
   have hnc30 := NB699_698.out
   obtain ⟨hcz31_0, hcz31_1, hcz31_2⟩ := sq_cells3 (W := w8) (g := gb698) BK698.out; obtain ⟨hfz31_0, hfz31_1, hfz31_2⟩ := sq_frozen3 BK698.out
   go_wp2_with (((with_reducible refine gate_callee (f := 14) rfl ?_); refine goesL_ (some 13) rfl rfl Tryd.func14 (by kernel_rfl) rfl #[.agg #[.int .i64 a1_0, .int .u64 a1_1, .int .u64 a1_2]] rfl (by (try simp only [List.map_toArray, List.map_cons, List.map_nil]); rfl) ?_; (with_reducible refine (maskref1_Valid.calls k a1_0 a1_1 a1_2 false _ A9.out).mono ?_); rintro e w32 ⟨rfl, hb⟩; refine ⟨_, rfl, ?_⟩; replace BK697 := bk1 BK697 hb; replace BK698 := bk1 BK698 hb; replace BK699 := bk1 BK699 hb; replace HB := hb1 HB hb; (try clear hb)))
   go_meet
   case rel => exact ⟨_, (false), (by rfl), H', ⟨by omega⟩, ⟨by exact BK697.out⟩, ⟨by exact BK698.out⟩, ⟨by exact BK699.out⟩, ⟨by repeat (with_reducible exact HB.out)⟩⟩
 case rest =>
  clear HC5
  obtain ⟨kq, x9_4, rfl, HA, HJ4, BK697, BK698, BK699, HB⟩ := hcut
  cases kq with
  | zero => exact absurd HA.out (by simp [masklaw1_BitsChosen.j0])
  | succ kj4 =>
   have H := HA.out
   clear HA
   simp only [masklaw1_BitsChosen.j0] at H
   have HC33 := Aside0.mk H
   clear H
   go_upto_if 25 with (first | ((with_reducible refine gate_dst (N := 10) rfl ?_); refine box_event ?hg (N := 10) ?hd (cs := #[.int .i64 0, .int .u64 0, .int .u64 0]) (t := 24) ?hr ?_; (case hd => rfl); (case hg => rfl); (case hr => (go_simp; done)); intro gb702 hg w34 hbox hb; have BK702 := Aside0.mk (hbox); have GW702 := ge1 HB hg; have GE702 := ge1 HB hg; replace HB := hb1 HB hb; have NB697_702 := Aside0.mk ((by rw [hg]; exact Nat.ne_of_lt (blk_lt BK697.out) : gb697 ≠ gb702)); have NB702_697 := Aside0.mk ((by rw [hg]; exact Nat.ne_of_gt (blk_lt BK697.out) : gb702 ≠ gb697)); replace BK697 := bk1 BK697 hb; have NB698_702 := Aside0.mk ((by rw [hg]; exact Nat.ne_of_lt (blk_lt BK698.out) : gb698 ≠ gb702)); have NB702_698 := Aside0.mk ((by rw [hg]; exact Nat.ne_of_gt (blk_lt BK698.out) : gb702 ≠ gb698)); replace BK698 := bk1 BK698 hb; have NB699_702 := Aside0.mk ((by rw [hg]; exact Nat.ne_of_lt (blk_lt BK699.out) : gb699 ≠ gb702)); have NB702_699 := Aside0.mk ((by rw [hg]; exact Nat.ne_of_gt (blk_lt BK699.out) : gb702 ≠ gb699)); replace BK699 := bk1 BK699 hb; clear hb hbox hg) | ((with_reducible refine gate_dst (N := 11) rfl ?_); refine box_event ?hg (N := 11) ?hd (cs := #[.int .i64 0, .int .u64 0, .int .u64 0]) (t := 24) ?hr ?_; (case hd => rfl); (case hg => rfl); (case hr => (go_simp; done)); intro gb703 hg w35 hbox hb; have BK703 := Aside0.mk (hbox); have GW703 := ge1 HB hg; have GE703 := ge1 HB hg; replace HB := hb1 HB hb; have NB697_703 := Aside0.mk ((by rw [hg]; exact Nat.ne_of_lt (blk_lt BK697.out) : gb697 ≠ gb703)); have NB703_697 := Aside0.mk ((by rw [hg]; exact Nat.ne_of_gt (blk_lt BK697.out) : gb703 ≠ gb697)); replace BK697 := bk1 BK697 hb; have NB698_703 := Aside0.mk ((by rw [hg]; exact Nat.ne_of_lt (blk_lt BK698.out) : gb698 ≠ gb703)); have NB703_698 := Aside0.mk ((by rw [hg]; exact Nat.ne_of_gt (blk_lt BK698.out) : gb703 ≠ gb698)); replace BK698 := bk1 BK698 hb; have NB699_703 := Aside0.mk ((by rw [hg]; exact Nat.ne_of_lt (blk_lt BK699.out) : gb699 ≠ gb703)); have NB703_699 := Aside0.mk ((by rw [hg]; exact Nat.ne_of_gt (blk_lt BK699.out) : gb703 ≠ gb699)); replace BK699 := bk1 BK699 hb; have NB702_703 := Aside0.mk ((by rw [hg]; exact Nat.ne_of_lt (blk_lt BK702.out) : gb702 ≠ gb703)); have NB703_702 := Aside0.mk ((by rw [hg]; exact Nat.ne_of_gt (blk_lt BK702.out) : gb703 ≠ gb702)); replace BK702 := bk1 BK702 hb; clear hb hbox hg))
   go_cut [] (fun wc => ∃ (kq : Nat) (x704000_32 : Int) (x704001_32 : Int) (x704002_32 : Int), Aside0 (masklaw1_BitsChosen.j1 kq a3 x9_4 a0_0 a0_1 a0_2 a1_0 a1_1 a1_2 a2_0 a2_1 a2_2 0 0 0 x704000_32 x704001_32 x704002_32 = some r) ∧ Aside0 (kq ≤ kj4) ∧ Aside0 (wc.heap[gb697]? = some (.cells #[.int .i64 a0_0, .int .u64 a0_1, .int .u64 a0_2] 24 (0, 0))) ∧ Aside0 (wc.heap[gb698]? = some (.cells #[.int .i64 a1_0, .int .u64 a1_1, .int .u64 a1_2] 24 (0, 0))) ∧ Aside0 (wc.heap[gb699]? = some (.cells #[.int .i64 a2_0, .int .u64 a2_1, .int .u64 a2_2] 24 (0, 0))) ∧ Aside0 (wc.heap[gb702]? = some (.cells #[.int .i64 0, .int .u64 0, .int .u64 0] 24 (0, 0))) ∧ Aside0 (wc.heap[gb703]? = some (.cells #[.int .i64 x704000_32, .int .u64 x704001_32, .int .u64 x704002_32] 24 (0, 0))) ∧ Aside0 (Below w.heap.size w wc))
   case first =>
    have H := HC33.out
    clear HC33
    by_cases c36 : x9_4 = true
    ·subst c36
     have H1 : ((maskref1_V.f kj4 a1_0 a1_1 a1_2).bind fun t704 => ((maskref1_V.f kj4 a2_0 a2_1 a2_2).bind fun t707 => ((maskref1_Resolved.f kj4 t704 t707).bind fun t710 => ((maskref1_B.f kj4 t710).bind fun bt713 => (masklaw1_BitsChosen.j1 kj4 a3 true a0_0 a0_1 a0_2 a1_0 a1_1 a1_2 a2_0 a2_1 a2_2 0 0 0 bt713.1 bt713.2.1 bt713.2.2))))) = some r := by rw [if_pos rfl] at H; exact H
     clear H
     have H := H1
     clear H1
     replace H := Option.bind_eq_some_iff.mp H
     obtain ⟨t704, A370, H⟩ := H
     replace H : ((maskref1_V.f kj4 a2_0 a2_1 a2_2).bind fun t707 => ((maskref1_Resolved.f kj4 t704 t707).bind fun t710 => ((maskref1_B.f kj4 t710).bind fun bt713 => (masklaw1_BitsChosen.j1 kj4 a3 true a0_0 a0_1 a0_2 a1_0 a1_1 a1_2 a2_0 a2_1 a2_2 0 0 0 bt713.1 bt713.2.1 bt713.2.2)))) = some r := H
     have A37 := Aside0.mk A370
     clear A370
     replace H := Option.bind_eq_some_iff.mp H
     obtain ⟨t707, A380, H⟩ := H
     replace H : ((maskref1_Resolved.f kj4 t704 t707).bind fun t710 => ((maskref1_B.f kj4 t710).bind fun bt713 => (masklaw1_BitsChosen.j1 kj4 a3 true a0_0 a0_1 a0_2 a1_0 a1_1 a1_2 a2_0 a2_1 a2_2 0 0 0 bt713.1 bt713.2.1 bt713.2.2))) = some r := H
     have A38 := Aside0.mk A380
     clear A380
     replace H := Option.bind_eq_some_iff.mp H
     obtain ⟨t710, A390, H⟩ := H
     replace H : ((maskref1_B.f kj4 t710).bind fun bt713 => (masklaw1_BitsChosen.j1 kj4 a3 true a0_0 a0_1 a0_2 a1_0 a1_1 a1_2 a2_0 a2_1 a2_2 0 0 0 bt713.1 bt713.2.1 bt713.2.2)) = some r := H
     have A39 := Aside0.mk A390
     clear A390
     replace H := Option.bind_eq_some_iff.mp H
     obtain ⟨⟨t713, t714, t715⟩, A400, H⟩ := H
     replace H : (masklaw1_BitsChosen.j1 kj4 a3 true a0_0 a0_1 a0_2 a1_0 a1_1 a1_2 a2_0 a2_1 a2_2 0 0 0 t713 t714 t715) = some r := H
     have A40 := Aside0.mk A400
     clear A400
     have H' := Aside0.mk H
     clear H
     try go_wp2
     replace BK697 := bkd BK697
     replace BK698 := bkd BK698
     replace BK699 := bkd BK699
     replace BK702 := bkd BK702
     replace BK703 := bkd BK703
     replace HB := hbd HB
     refine start_ (n := 7) (S := fun w' => w'.cell? ⟨gb698, 0, none⟩ = some (.int .i64 a1_0) ∧ w'.cell? ⟨gb698, 1, none⟩ = some (.int .u64 a1_1) ∧ w'.cell? ⟨gb698, 2, none⟩ = some (.int .u64 a1_2) ∧ w'.cell? ⟨gb699, 0, none⟩ = some (.int .i64 a2_0) ∧ w'.cell? ⟨gb699, 1, none⟩ = some (.int .u64 a2_1) ∧ w'.cell? ⟨gb699, 2, none⟩ = some (.int .u64 a2_2)) (ds := []) (tb 7 0) (by kernel_rfl) rfl (by kernel_rfl) (c3 BK698 (d3 BK699)) (fun hHeld => ?_)
     generalize w35.drew = w41 at BK697 BK698 BK699 BK702 BK703 HB hHeld ⊢
     refine take_ (i := 0) (N := some 26) (v := ?_) (a' := ?_) #[true, false, false, false, false, false, false] rfl rfl (by kernel_rfl) (fun _ _ _ h => h) (Or.inl ⟨by rfl, ?_⟩) hHeld ?_ ?_
     rotate_left
     ·rintro w' ⟨s0, s1, s2, s3, s4, s5⟩
      go_simp
      with_reducible rfl
     rotate_left
     ·simp only [Act.put, List.setIfInBounds_toArray, List.set_cons_zero, List.set_cons_succ, i64_w, i32_w]
      rfl
     refine take_ (i := 2) (N := some 28) (v := ?_) (a' := ?_) #[true, false, true, false, false, false, false] rfl rfl (by kernel_rfl) (fun _ _ _ h => h) (Or.inl ⟨by rfl, ?_⟩) hHeld ?_ ?_
     rotate_left
     ·rintro w' ⟨s0, s1, s2, s3, s4, s5⟩
      go_simp
      with_reducible rfl
     rotate_left
     ·simp only [Act.put, List.setIfInBounds_toArray, List.set_cons_zero, List.set_cons_succ, i64_w, i32_w]
      rfl
     refine one_ (i := 1) (N := some 27) #[true, true, true, false, false, false, false] rfl rfl (by kernel_rfl) (by decide) (fun K hK => ?_)
     refine gA Tryd.func28 #[.agg #[.int .i64 a1_0, .int .u64 a1_1, .int .u64 a1_2]] ?_
     with_reducible refine (maskref1_V.calls kj4 a1_0 a1_1 a1_2 t704 _ A37.out).mono ?_
     rintro e w42 ⟨v705, rfl, ho0, hb⟩
     refine ⟨_, rfl, ?_⟩
     have HO706 := Aside0.mk (Kd.R_lower ho0 (below_size HB.out))
     replace BK697 := bk1 BK697 hb
     replace BK698 := bk1 BK698 hb
     replace BK699 := bk1 BK699 hb
     replace BK702 := bk1 BK702 hb
     replace BK703 := bk1 BK703 hb
     replace HB := hb1 HB hb
     (try clear hb)
     (try clear ho0)
     refine hK.out _ _ (c3 BK698 (d3 BK699)) (fun hHeld => ?_)
     clear hK K
     refine nA ?_
     refine one_ (i := 3) (N := some 29) #[true, true, true, true, false, false, false] rfl rfl (by kernel_rfl) (by decide) (fun K hK => ?_)
     refine gA Tryd.func28 #[.agg #[.int .i64 a2_0, .int .u64 a2_1, .int .u64 a2_2]] ?_
     with_reducible refine (maskref1_V.calls kj4 a2_0 a2_1 a2_2 t707 _ A38.out).mono ?_
     rintro e w43 ⟨v708, rfl, ho0, hb⟩
     refine ⟨_, rfl, ?_⟩
     have HO709 := Aside0.mk (Kd.R_lower (Kd.R_new' ho0 (Kd.R_lt HO706.out)) (below_size HB.out))
     replace HO706 := Aside0.mk (Kd.R_elder' HO706.out (Kd.R_base ho0) hb)
     replace BK697 := bk1 BK697 hb
     replace BK698 := bk1 BK698 hb
     replace BK699 := bk1 BK699 hb
     replace BK702 := bk1 BK702 hb
     replace BK703 := bk1 BK703 hb
     replace HB := hb1 HB hb
     (try clear hb)
     (try clear ho0)
     obtain ⟨Ao44, co44, eo44⟩ := Kd.R_slice HO706.out
     (subst eo44)
     obtain ⟨Ao45, co45, eo45⟩ := Kd.R_slice HO709.out
     (subst eo45)
     refine hK.out _ _ (c3 BK698 (d3 BK699)) (fun hHeld => ?_)
     clear hK K
     refine nA ?_
     refine one_ (i := 4) (N := some 30) #[true, true, true, true, true, false, false] rfl rfl (by kernel_rfl) (by decide) (fun K hK => ?_)
     refine gA Tryd.func40 #[.slice Ao44 t704.length co44, .slice Ao45 t707.length co45] ?_
     with_reducible refine (maskref1_Resolved.calls kj4 _ _ t704 _ _ t707 t710 _ ?side1 ?side2 ?side3 ?side4 A39.out).mono ?_
     (case side1 => repeat (exact (Kd.R_reads' HO706.out).2.2))
     (case side2 => exact (Kd.R_reads' HO706.out).2.1)
     (case side3 => repeat (exact (Kd.R_reads' HO709.out).2.2))
     (case side4 => exact (Kd.R_reads' HO709.out).2.1)
     rintro e w46 ⟨v711, rfl, ho0, hb⟩
     refine ⟨_, rfl, ?_⟩
     have HO712 := Aside0.mk (Kd.R_lower (Kd.R_new' (Kd.R_new' ho0 (Kd.R_lt HO706.out)) (Kd.R_lt HO709.out)) (below_size HB.out))
     replace HO706 := Aside0.mk (Kd.R_elder' HO706.out (Kd.R_base ho0) hb)
     replace HO709 := Aside0.mk (Kd.R_elder' HO709.out (Kd.R_base ho0) hb)
     replace BK697 := bk1 BK697 hb
     replace BK698 := bk1 BK698 hb
     replace BK699 := bk1 BK699 hb
     replace BK702 := bk1 BK702 hb
     replace BK703 := bk1 BK703 hb
     replace HB := hb1 HB hb
     (try clear hb)
     (try clear ho0)
     obtain ⟨Ao47, co47, eo47⟩ := Kd.R_slice HO712.out
     (subst eo47)
     refine hK.out _ _ (c3 BK698 (d3 BK699)) (fun hHeld => ?_)
     clear hK K
     refine nA ?_
     refine one_ (i := 5) (N := some 31) #[true, true, true, true, true, true, false] rfl rfl (by kernel_rfl) (by decide) (fun K hK => ?_)
     refine gA Tryd.func26 #[.slice Ao47 t710.length co47] ?_
     with_reducible refine (maskref1_B.calls kj4 _ _ t710 t713 t714 t715 _ ?side1 ?side2 A40.out).mono ?_
     (case side1 => repeat (exact (Kd.R_reads' HO712.out).2.2))
     (case side2 => exact (Kd.R_reads' HO712.out).2.1)
     rintro e w48 ⟨rfl, hb⟩
     refine ⟨_, rfl, ?_⟩
     replace HO706 := Kd.rb1 HO706 hb
     replace HO709 := Kd.rb1 HO709 hb
     replace HO712 := Kd.rb1 HO712 hb
     replace BK697 := bk1 BK697 hb
     replace BK698 := bk1 BK698 hb
     replace BK699 := bk1 BK699 hb
     replace BK702 := bk1 BK702 hb
     replace BK703 := bk1 BK703 hb
     replace HB := hb1 HB hb
     (try clear hb)
     refine hK.out _ _ (c3 BK698 (d3 BK699)) (fun hHeld => ?_)
     clear hK K
     refine nA ?_
     refine one_ (i := 6) (N := none) #[true, true, true, true, true, true, true] rfl rfl (by kernel_rfl) (by decide) (fun K hK => ?_)
     have hs49 : w48.cell? ⟨gb703, 0, none⟩ = some (.int .i64 0) := (blk_cell BK703.out 0).trans rfl
     have hfs49 := blk_frozen BK703.out 0
     have hns49_0 := NB697_703.out
     have hns49_1 := NB698_703.out
     have hns49_2 := NB699_703.out
     have hns49_3 := NB702_703.out
     have hms49_0 := NB703_697.out
     have hms49_1 := NB703_698.out
     have hms49_2 := NB703_699.out
     have hms49_3 := NB703_702.out
     have hs50 : w48.cell? ⟨gb703, 1, none⟩ = some (.int .u64 0) := (blk_cell BK703.out 1).trans rfl
     have hfs50 := blk_frozen BK703.out 1
     have hns50_0 := NB697_703.out
     have hns50_1 := NB698_703.out
     have hns50_2 := NB699_703.out
     have hns50_3 := NB702_703.out
     have hms50_0 := NB703_697.out
     have hms50_1 := NB703_698.out
     have hms50_2 := NB703_699.out
     have hms50_3 := NB703_702.out
     have hs51 : w48.cell? ⟨gb703, 2, none⟩ = some (.int .u64 0) := (blk_cell BK703.out 2).trans rfl
     have hfs51 := blk_frozen BK703.out 2
     have hns51_0 := NB697_703.out
     have hns51_1 := NB698_703.out
     have hns51_2 := NB699_703.out
     have hns51_3 := NB702_703.out
     have hms51_0 := NB703_697.out
     have hms51_1 := NB703_698.out
     have hms51_2 := NB703_699.out
     have hms51_3 := NB703_702.out
     refine skip_ (w1 := ?_) (by rfl) rfl ?_ ?_
     rotate_left
     ·go_simp
      rfl
     refine hK.out _ _ ⟨((cell_far (p := ⟨gb703, _, none⟩) NB698_703.out _).trans (((cell_far (p := ⟨gb703, _, none⟩) NB698_703.out _).trans (((cell_far (p := ⟨gb703, _, none⟩) NB698_703.out _).trans (hHeld.1)))))), ((cell_far (p := ⟨gb703, _, none⟩) NB698_703.out _).trans (((cell_far (p := ⟨gb703, _, none⟩) NB698_703.out _).trans (((cell_far (p := ⟨gb703, _, none⟩) NB698_703.out _).trans (hHeld.2.1)))))), ((cell_far (p := ⟨gb703, _, none⟩) NB698_703.out _).trans (((cell_far (p := ⟨gb703, _, none⟩) NB698_703.out _).trans (((cell_far (p := ⟨gb703, _, none⟩) NB698_703.out _).trans (hHeld.2.2.1)))))), ((cell_far (p := ⟨gb703, _, none⟩) NB699_703.out _).trans (((cell_far (p := ⟨gb703, _, none⟩) NB699_703.out _).trans (((cell_far (p := ⟨gb703, _, none⟩) NB699_703.out _).trans (hHeld.2.2.2.1)))))), ((cell_far (p := ⟨gb703, _, none⟩) NB699_703.out _).trans (((cell_far (p := ⟨gb703, _, none⟩) NB699_703.out _).trans (((cell_far (p := ⟨gb703, _, none⟩) NB699_703.out _).trans (hHeld.2.2.2.2.1)))))), ((cell_far (p := ⟨gb703, _, none⟩) NB699_703.out _).trans (((cell_far (p := ⟨gb703, _, none⟩) NB699_703.out _).trans (((cell_far (p := ⟨gb703, _, none⟩) NB699_703.out _).trans (hHeld.2.2.2.2.2))))))⟩ (fun hHeld => ?_)
     clear hK K
     refine done_ (by kernel_rfl) ?_
     try go_wp2
     go_meet
     case rel => exact ⟨_, (t713), (t714), (t715), H', ⟨by have := HJ4.out; omega⟩, ⟨by refine blk_far ?_ NB697_703.out _; refine blk_far ?_ NB697_703.out _; refine blk_far ?_ NB697_703.out _; exact BK697.out⟩, ⟨by refine blk_far ?_ NB698_703.out _; refine blk_far ?_ NB698_703.out _; refine blk_far ?_ NB698_703.out _; exact BK698.out⟩, ⟨by refine blk_far ?_ NB699_703.out _; refine blk_far ?_ NB699_703.out _; refine blk_far ?_ NB699_703.out _; exact BK699.out⟩, ⟨by refine blk_far ?_ NB702_703.out _; refine blk_far ?_ NB702_703.out _; refine blk_far ?_ NB702_703.out _; exact BK702.out⟩, ⟨by refine blk_put (cs := #[.int .i64 t713, .int .u64 t714, .int .u64 0]) ?_ 2 _ rfl; refine blk_put (cs := #[.int .i64 t713, .int .u64 0, .int .u64 0]) ?_ 1 _ rfl; refine blk_put (cs := #[.int .i64 0, .int .u64 0, .int .u64 0]) ?_ 0 _ rfl; exact BK703.out⟩, ⟨by repeat (with_reducible first | exact HB.out | refine below_set ?_ GE703.out)⟩⟩
    ·replace c36 := Bool.eq_false_iff.mpr c36
     subst c36
     have H1 : (masklaw1_BitsChosen.j1 kj4 a3 false a0_0 a0_1 a0_2 a1_0 a1_1 a1_2 a2_0 a2_1 a2_2 0 0 0 0 0 0) = some r := by rw [if_neg (show ¬ (false = true) by decide)] at H; exact H
     clear H
     have H := H1
     clear H1
     have H' := Aside0.mk H
     clear H
     go_wp2
     go_meet
     case rel => exact ⟨_, (0), (0), (0), H', ⟨by have := HJ4.out; omega⟩, ⟨by exact BK697.out⟩, ⟨by exact BK698.out⟩, ⟨by exact BK699.out⟩, ⟨by exact BK702.out⟩, ⟨by exact BK703.out⟩, ⟨by repeat (with_reducible exact HB.out)⟩⟩
   case rest =>
    clear HC33
    obtain ⟨kq, x704000_32, x704001_32, x704002_32, HA, HJ32, BK697, BK698, BK699, BK702, BK703, HB⟩ := hcut
    cases kq with
    | zero => exact absurd HA.out (by simp [masklaw1_BitsChosen.j1])
    | succ kj32 =>
     have H := HA.out
     clear HA
     simp only [masklaw1_BitsChosen.j1] at H
     have HC52 := Aside0.mk H
     clear H
     go_upto_region 5 with (fail)
     go_cut [36] (fun v36 wc => ∃ (kq : Nat) (x36_51 : Bool), v36 = .bool x36_51 ∧ Aside0 (masklaw1_BitsChosen.j2 kq a3 x9_4 x36_51 a0_0 a0_1 a0_2 a1_0 a1_1 a1_2 a2_0 a2_1 a2_2 0 0 0 x704000_32 x704001_32 x704002_32 = some r) ∧ Aside0 (kq ≤ kj32) ∧ Aside0 (wc.heap[gb697]? = some (.cells #[.int .i64 a0_0, .int .u64 a0_1, .int .u64 a0_2] 24 (0, 0))) ∧ Aside0 (wc.heap[gb698]? = some (.cells #[.int .i64 a1_0, .int .u64 a1_1, .int .u64 a1_2] 24 (0, 0))) ∧ Aside0 (wc.heap[gb699]? = some (.cells #[.int .i64 a2_0, .int .u64 a2_1, .int .u64 a2_2] 24 (0, 0))) ∧ Aside0 (wc.heap[gb702]? = some (.cells #[.int .i64 0, .int .u64 0, .int .u64 0] 24 (0, 0))) ∧ Aside0 (wc.heap[gb703]? = some (.cells #[.int .i64 x704000_32, .int .u64 x704001_32, .int .u64 x704002_32] 24 (0, 0))) ∧ Aside0 (Below w.heap.size w wc))
     case first =>
      have H := HC52.out
      clear HC52
      by_cases c53 : x9_4 = true
      ·subst c53
       have H1 : ((maskref1_Valid.f kj32 a0_0 a0_1 a0_2).bind fun t716 => (masklaw1_BitsChosen.j2 kj32 a3 true t716 a0_0 a0_1 a0_2 a1_0 a1_1 a1_2 a2_0 a2_1 a2_2 0 0 0 x704000_32 x704001_32 x704002_32)) = some r := by rw [if_pos rfl] at H; exact H
       clear H
       have H := H1
       clear H1
       replace H := Option.bind_eq_some_iff.mp H
       obtain ⟨t716, A540, H⟩ := H
       replace H : (masklaw1_BitsChosen.j2 kj32 a3 true t716 a0_0 a0_1 a0_2 a1_0 a1_1 a1_2 a2_0 a2_1 a2_2 0 0 0 x704000_32 x704001_32 x704002_32) = some r := H
       have A54 := Aside0.mk A540
       clear A540
       have H' := Aside0.mk H
       clear H
       have hnb55 := NB697_698.out
       have hnc55 := NB698_697.out
       have hnb56 := NB697_699.out
       have hnc56 := NB699_697.out
       have hnb57 := NB697_702.out
       have hnc57 := NB702_697.out
       have hnb58 := NB697_703.out
       have hnc58 := NB703_697.out
       obtain ⟨hcz59_0, hcz59_1, hcz59_2⟩ := sq_cells3 (W := wc) (g := gb697) BK697.out; obtain ⟨hfz59_0, hfz59_1, hfz59_2⟩ := sq_frozen3 BK697.out
       go_wp2_with ((go_at_call 14; (with_reducible refine (maskref1_Valid.calls kj32 a0_0 a0_1 a0_2 t716 _ A54.out).mono ?_); rintro e w60 ⟨rfl, hb⟩; replace BK697 := bk1 BK697 hb; replace BK698 := bk1 BK698 hb; replace BK699 := bk1 BK699 hb; replace BK702 := bk1 BK702 hb; replace BK703 := bk1 BK703 hb; replace HB := hb1 HB hb; (try clear hb)))
       go_meet
       case rel => exact ⟨_, (t716), (by rfl), H', ⟨by have := HJ4.out; have := HJ32.out; omega⟩, ⟨by exact BK697.out⟩, ⟨by exact BK698.out⟩, ⟨by exact BK699.out⟩, ⟨by exact BK702.out⟩, ⟨by exact BK703.out⟩, ⟨by repeat (with_reducible exact HB.out)⟩⟩
      ·replace c53 := Bool.eq_false_iff.mpr c53
       subst c53
       have H1 : (masklaw1_BitsChosen.j2 kj32 a3 false false a0_0 a0_1 a0_2 a1_0 a1_1 a1_2 a2_0 a2_1 a2_2 0 0 0 x704000_32 x704001_32 x704002_32) = some r := by rw [if_neg (show ¬ (false = true) by decide)] at H; exact H
       clear H
       have H := H1
       clear H1
       have H' := Aside0.mk H
       clear H
       go_wp2
       go_meet
       case rel => exact ⟨_, (false), (by rfl), H', ⟨by have := HJ4.out; have := HJ32.out; omega⟩, ⟨by exact BK697.out⟩, ⟨by exact BK698.out⟩, ⟨by exact BK699.out⟩, ⟨by exact BK702.out⟩, ⟨by exact BK703.out⟩, ⟨by repeat (with_reducible exact HB.out)⟩⟩
     case rest =>
      clear HC52
      obtain ⟨kq, x36_51, rfl, HA, HJ51, BK697, BK698, BK699, BK702, BK703, HB⟩ := hcut
      cases kq with
      | zero => exact absurd HA.out (by simp [masklaw1_BitsChosen.j2])
      | succ kj51 =>
       have H := HA.out
       clear HA
       simp only [masklaw1_BitsChosen.j2] at H
       have HC61 := Aside0.mk H
       clear H
       go_upto_if 36 with (fail)
       go_cut [] (fun wc => ∃ (kq : Nat) (x703000_60 : Int) (x703001_60 : Int) (x703002_60 : Int), Aside0 (masklaw1_BitsChosen.j3 kq a3 x9_4 a0_0 a0_1 a0_2 a1_0 a1_1 a1_2 a2_0 a2_1 a2_2 x703000_60 x703001_60 x703002_60 x704000_32 x704001_32 x704002_32 = some r) ∧ Aside0 (kq ≤ kj51) ∧ Aside0 (wc.heap[gb697]? = some (.cells #[.int .i64 a0_0, .int .u64 a0_1, .int .u64 a0_2] 24 (0, 0))) ∧ Aside0 (wc.heap[gb698]? = some (.cells #[.int .i64 a1_0, .int .u64 a1_1, .int .u64 a1_2] 24 (0, 0))) ∧ Aside0 (wc.heap[gb699]? = some (.cells #[.int .i64 a2_0, .int .u64 a2_1, .int .u64 a2_2] 24 (0, 0))) ∧ Aside0 (wc.heap[gb702]? = some (.cells #[.int .i64 x703000_60, .int .u64 x703001_60, .int .u64 x703002_60] 24 (0, 0))) ∧ Aside0 (wc.heap[gb703]? = some (.cells #[.int .i64 x704000_32, .int .u64 x704001_32, .int .u64 x704002_32] 24 (0, 0))) ∧ Aside0 (Below w.heap.size w wc))
       case first =>
        have H := HC61.out
        clear HC61
        by_cases c62 : x36_51 = true
        ·subst c62
         have H1 : ((maskref1_V.f kj51 a0_0 a0_1 a0_2).bind fun t717 => ((maskref1_V.f kj51 a1_0 a1_1 a1_2).bind fun t720 => ((maskref1_V.f kj51 a2_0 a2_1 a2_2).bind fun t723 => ((maskref1_Chosen.f kj51 t717 t720 t723).bind fun t726 => ((maskref1_B.f kj51 t726).bind fun bt729 => (masklaw1_BitsChosen.j3 kj51 a3 x9_4 a0_0 a0_1 a0_2 a1_0 a1_1 a1_2 a2_0 a2_1 a2_2 bt729.1 bt729.2.1 bt729.2.2 x704000_32 x704001_32 x704002_32)))))) = some r := by rw [if_pos rfl] at H; exact H
         clear H
         have H := H1
         clear H1
         replace H := Option.bind_eq_some_iff.mp H
         obtain ⟨t717, A630, H⟩ := H
         replace H : ((maskref1_V.f kj51 a1_0 a1_1 a1_2).bind fun t720 => ((maskref1_V.f kj51 a2_0 a2_1 a2_2).bind fun t723 => ((maskref1_Chosen.f kj51 t717 t720 t723).bind fun t726 => ((maskref1_B.f kj51 t726).bind fun bt729 => (masklaw1_BitsChosen.j3 kj51 a3 x9_4 a0_0 a0_1 a0_2 a1_0 a1_1 a1_2 a2_0 a2_1 a2_2 bt729.1 bt729.2.1 bt729.2.2 x704000_32 x704001_32 x704002_32))))) = some r := H
         have A63 := Aside0.mk A630
         clear A630
         replace H := Option.bind_eq_some_iff.mp H
         obtain ⟨t720, A640, H⟩ := H
         replace H : ((maskref1_V.f kj51 a2_0 a2_1 a2_2).bind fun t723 => ((maskref1_Chosen.f kj51 t717 t720 t723).bind fun t726 => ((maskref1_B.f kj51 t726).bind fun bt729 => (masklaw1_BitsChosen.j3 kj51 a3 x9_4 a0_0 a0_1 a0_2 a1_0 a1_1 a1_2 a2_0 a2_1 a2_2 bt729.1 bt729.2.1 bt729.2.2 x704000_32 x704001_32 x704002_32)))) = some r := H
         have A64 := Aside0.mk A640
         clear A640
         replace H := Option.bind_eq_some_iff.mp H
         obtain ⟨t723, A650, H⟩ := H
         replace H : ((maskref1_Chosen.f kj51 t717 t720 t723).bind fun t726 => ((maskref1_B.f kj51 t726).bind fun bt729 => (masklaw1_BitsChosen.j3 kj51 a3 x9_4 a0_0 a0_1 a0_2 a1_0 a1_1 a1_2 a2_0 a2_1 a2_2 bt729.1 bt729.2.1 bt729.2.2 x704000_32 x704001_32 x704002_32))) = some r := H
         have A65 := Aside0.mk A650
         clear A650
         replace H := Option.bind_eq_some_iff.mp H
         obtain ⟨t726, A660, H⟩ := H
         replace H : ((maskref1_B.f kj51 t726).bind fun bt729 => (masklaw1_BitsChosen.j3 kj51 a3 x9_4 a0_0 a0_1 a0_2 a1_0 a1_1 a1_2 a2_0 a2_1 a2_2 bt729.1 bt729.2.1 bt729.2.2 x704000_32 x704001_32 x704002_32)) = some r := H
         have A66 := Aside0.mk A660
         clear A660
         replace H := Option.bind_eq_some_iff.mp H
         obtain ⟨⟨t729, t730, t731⟩, A670, H⟩ := H
         replace H : (masklaw1_BitsChosen.j3 kj51 a3 x9_4 a0_0 a0_1 a0_2 a1_0 a1_1 a1_2 a2_0 a2_1 a2_2 t729 t730 t731 x704000_32 x704001_32 x704002_32) = some r := H
         have A67 := Aside0.mk A670
         clear A670
         have H' := Aside0.mk H
         clear H
         try go_wp2
         replace BK697 := bkd BK697
         replace BK698 := bkd BK698
         replace BK699 := bkd BK699
         replace BK702 := bkd BK702
         replace BK703 := bkd BK703
         replace HB := hbd HB
         refine start_ (n := 9) (S := fun w' => w'.cell? ⟨gb697, 0, none⟩ = some (.int .i64 a0_0) ∧ w'.cell? ⟨gb697, 1, none⟩ = some (.int .u64 a0_1) ∧ w'.cell? ⟨gb697, 2, none⟩ = some (.int .u64 a0_2) ∧ w'.cell? ⟨gb698, 0, none⟩ = some (.int .i64 a1_0) ∧ w'.cell? ⟨gb698, 1, none⟩ = some (.int .u64 a1_1) ∧ w'.cell? ⟨gb698, 2, none⟩ = some (.int .u64 a1_2) ∧ w'.cell? ⟨gb699, 0, none⟩ = some (.int .i64 a2_0) ∧ w'.cell? ⟨gb699, 1, none⟩ = some (.int .u64 a2_1) ∧ w'.cell? ⟨gb699, 2, none⟩ = some (.int .u64 a2_2)) (ds := []) (tb 9 0) (by kernel_rfl) rfl (by kernel_rfl) (c3 BK697 (c3 BK698 (d3 BK699))) (fun hHeld => ?_); refine with_tabW masklaw1_BitsChosen.tab6 masklaw1_BitsChosen.bits6 (fun HT_ HW_ => ?_)
         generalize wc.drew = w68 at BK697 BK698 BK699 BK702 BK703 HB hHeld ⊢
         refine tA 0 37 (tb 9 1) HT_ HW_ hHeld ?_
         refine tA 2 39 (tb 9 5) HT_ HW_ hHeld ?_
         refine tA 4 41 (tb 9 21) HT_ HW_ hHeld ?_
         refine oA 1 (some 38) (tb 9 23) HT_ (fun K hK => ?_)
         refine gA Tryd.func28 #[.agg #[.int .i64 a0_0, .int .u64 a0_1, .int .u64 a0_2]] ?_
         with_reducible refine (maskref1_V.calls kj51 a0_0 a0_1 a0_2 t717 _ A63.out).mono ?_
         rintro e w69 ⟨v718, rfl, ho0, hb⟩
         refine ⟨_, rfl, ?_⟩
         have HO719 := Aside0.mk (Kd.R_lower ho0 (below_size HB.out))
         replace BK697 := bk1 BK697 hb
         replace BK698 := bk1 BK698 hb
         replace BK699 := bk1 BK699 hb
         replace BK702 := bk1 BK702 hb
         replace BK703 := bk1 BK703 hb
         replace HB := hb1 HB hb
         (try clear hb)
         (try clear ho0)
         refine hK.out _ _ (c3 BK697 (c3 BK698 (d3 BK699))) (fun hHeld => ?_)
         clear hK K
         refine nA ?_
         refine oA 3 (some 40) (tb 9 31) HT_ (fun K hK => ?_)
         refine gA Tryd.func28 #[.agg #[.int .i64 a1_0, .int .u64 a1_1, .int .u64 a1_2]] ?_
         with_reducible refine (maskref1_V.calls kj51 a1_0 a1_1 a1_2 t720 _ A64.out).mono ?_
         rintro e w70 ⟨v721, rfl, ho0, hb⟩
         refine ⟨_, rfl, ?_⟩
         have HO722 := Aside0.mk (Kd.R_lower (Kd.R_new' ho0 (Kd.R_lt HO719.out)) (below_size HB.out))
         replace HO719 := Aside0.mk (Kd.R_elder' HO719.out (Kd.R_base ho0) hb)
         replace BK697 := bk1 BK697 hb
         replace BK698 := bk1 BK698 hb
         replace BK699 := bk1 BK699 hb
         replace BK702 := bk1 BK702 hb
         replace BK703 := bk1 BK703 hb
         replace HB := hb1 HB hb
         (try clear hb)
         (try clear ho0)
         refine hK.out _ _ (c3 BK697 (c3 BK698 (d3 BK699))) (fun hHeld => ?_)
         clear hK K
         refine nA ?_
         refine oA 5 (some 42) (tb 9 63) HT_ (fun K hK => ?_)
         refine gA Tryd.func28 #[.agg #[.int .i64 a2_0, .int .u64 a2_1, .int .u64 a2_2]] ?_
         with_reducible refine (maskref1_V.calls kj51 a2_0 a2_1 a2_2 t723 _ A65.out).mono ?_
         rintro e w71 ⟨v724, rfl, ho0, hb⟩
         refine ⟨_, rfl, ?_⟩
         have HO725 := Aside0.mk (Kd.R_lower (Kd.R_new' (Kd.R_new' ho0 (Kd.R_lt HO719.out)) (Kd.R_lt HO722.out)) (below_size HB.out))
         replace HO719 := Aside0.mk (Kd.R_elder' HO719.out (Kd.R_base ho0) hb)
         replace HO722 := Aside0.mk (Kd.R_elder' HO722.out (Kd.R_base ho0) hb)
         replace BK697 := bk1 BK697 hb
         replace BK698 := bk1 BK698 hb
         replace BK699 := bk1 BK699 hb
         replace BK702 := bk1 BK702 hb
         replace BK703 := bk1 BK703 hb
         replace HB := hb1 HB hb
         (try clear hb)
         (try clear ho0)
         obtain ⟨Ao72, co72, eo72⟩ := Kd.R_slice HO719.out
         (subst eo72)
         obtain ⟨Ao73, co73, eo73⟩ := Kd.R_slice HO722.out
         (subst eo73)
         obtain ⟨Ao74, co74, eo74⟩ := Kd.R_slice HO725.out
         (subst eo74)
         refine hK.out _ _ (c3 BK697 (c3 BK698 (d3 BK699))) (fun hHeld => ?_)
         clear hK K
         refine nA ?_
         refine oA 6 (some 43) (tb 9 127) HT_ (fun K hK => ?_)
         refine gA Tryd.func41 #[.slice Ao72 t717.length co72, .slice Ao73 t720.length co73, .slice Ao74 t723.length co74] ?_
         with_reducible refine (maskref1_Chosen.calls kj51 _ _ t717 (fun k_ => some k_ = (.slice Ao73 t720.length co73 : Value).ownBlock) (.slice Ao73 t720.length co73) t720 (fun k_ => some k_ = (.slice Ao74 t723.length co74 : Value).ownBlock) (.slice Ao74 t723.length co74) t723 t726 w _ ?side1 ?side2 ?side3 ?side4 ?side5 ?side6 ?side7 A66.out).mono ?_
         (case side1 => repeat (with_reducible exact HB.out))
         (case side2 => exact Kd.C_kept_own (HO719.out) (fun k_ hk_ hs_ => Or.elim hs_ (fun e_ => (hk_.1.2) e_) (fun e_ => (hk_.2) e_)))
         (case side3 => exact (Kd.R_reads' HO719.out).2.1)
         (case side4 => exact Kd.R_tight rfl HO722.out)
         (case side5 => exact fun k_ e_ => (HO722.out.1 k_ e_.symm).2)
         (case side6 => exact Kd.R_tight rfl HO725.out)
         (case side7 => exact fun k_ e_ => (HO725.out.1 k_ e_.symm).2)
         rintro e w75 ⟨v727, rfl, ho0, hb, hkp⟩
         refine ⟨_, rfl, ?_⟩
         replace BK697 := Aside0.mk (blk_kept BK697.out hkp (fun hs_ => Or.elim hs_ (fun e_ => (fun e_ => (Kd.R_ne HO722.out BK697.out (by decide)) e_) e_) (fun e_ => (fun e_ => (Kd.R_ne HO725.out BK697.out (by decide)) e_) e_)))
         replace BK698 := Aside0.mk (blk_kept BK698.out hkp (fun hs_ => Or.elim hs_ (fun e_ => (fun e_ => (Kd.R_ne HO722.out BK698.out (by decide)) e_) e_) (fun e_ => (fun e_ => (Kd.R_ne HO725.out BK698.out (by decide)) e_) e_)))
         replace BK699 := Aside0.mk (blk_kept BK699.out hkp (fun hs_ => Or.elim hs_ (fun e_ => (fun e_ => (Kd.R_ne HO722.out BK699.out (by decide)) e_) e_) (fun e_ => (fun e_ => (Kd.R_ne HO725.out BK699.out (by decide)) e_) e_)))
         replace BK702 := Aside0.mk (blk_kept BK702.out hkp (fun hs_ => Or.elim hs_ (fun e_ => (fun e_ => (Kd.R_ne HO722.out BK702.out (by decide)) e_) e_) (fun e_ => (fun e_ => (Kd.R_ne HO725.out BK702.out (by decide)) e_) e_)))
         replace BK703 := Aside0.mk (blk_kept BK703.out hkp (fun hs_ => Or.elim hs_ (fun e_ => (fun e_ => (Kd.R_ne HO722.out BK703.out (by decide)) e_) e_) (fun e_ => (fun e_ => (Kd.R_ne HO725.out BK703.out (by decide)) e_) e_)))
         have HO728 := Aside0.mk (Kd.R_mono (ok' := fun k_ => some k_ ≠ (.slice Ao72 t717.length co72 : Value).ownBlock) ho0 (fun k_ hk_ => Or.elim hk_ (fun hs_ => Or.elim hs_ (fun hs_ => fun e_ => (((HO719.out).1 k_ e_.symm).1.2) hs_) (fun hs_ => fun e_ => (((HO719.out).1 k_ e_.symm).2) hs_)) (fun hn_ => (Kd.fresh' (Kd.R_lt HO719.out) k_ hn_))))
         replace HO719 := Aside0.mk (Kd.R_mono (ok' := fun k_ => some k_ ≠ (v727 : Value).ownBlock) (Kd.R_keptB (HO719.out) hkp (fun k_ hk_ hs_ => Or.elim hs_ (fun e_ => (hk_.1.2) e_) (fun e_ => (hk_.2) e_))) (fun k_ hk_ => fun e_ => Or.elim (ho0.1 k_ e_.symm) (fun hs_ => hk_.2.1 hs_) (fun hn_ => Nat.not_le.2 hk_.2.2 hn_)))
         replace HB := Aside0.mk (hb)
         clear HO722 HO725
         (try clear hb)
         (try clear hkp)
         (try clear ho0)
         obtain ⟨Ao76, co76, eo76⟩ := Kd.R_slice HO728.out
         (subst eo76)
         refine hK.out _ _ (c3 BK697 (c3 BK698 (d3 BK699))) (fun hHeld => ?_)
         clear hK K
         refine nA ?_
         refine oA 7 (some 44) (tb 9 255) HT_ (fun K hK => ?_)
         refine gA Tryd.func26 #[.slice Ao76 t726.length co76] ?_
         with_reducible refine (maskref1_B.calls kj51 _ _ t726 t729 t730 t731 _ ?side1 ?side2 A67.out).mono ?_
         (case side1 => repeat (exact (Kd.R_reads' HO728.out).2.2))
         (case side2 => exact (Kd.R_reads' HO728.out).2.1)
         rintro e w77 ⟨rfl, hb⟩
         refine ⟨_, rfl, ?_⟩
         replace HO719 := Kd.rb1 HO719 hb
         replace HO728 := Kd.rb1 HO728 hb
         replace BK697 := bk1 BK697 hb
         replace BK698 := bk1 BK698 hb
         replace BK699 := bk1 BK699 hb
         replace BK702 := bk1 BK702 hb
         replace BK703 := bk1 BK703 hb
         replace HB := hb1 HB hb
         (try clear hb)
         refine hK.out _ _ (c3 BK697 (c3 BK698 (d3 BK699))) (fun hHeld => ?_)
         clear hK K
         refine nA ?_
         refine oA 8 (none) (tb 9 511) HT_ (fun K hK => ?_)
         have hs78 : w77.cell? ⟨gb702, 0, none⟩ = some (.int .i64 0) := (blk_cell BK702.out 0).trans rfl
         have hfs78 := blk_frozen BK702.out 0
         have hns78_0 := NB697_702.out
         have hns78_1 := NB698_702.out
         have hns78_2 := NB699_702.out
         have hns78_4 := NB703_702.out
         have hms78_0 := NB702_697.out
         have hms78_1 := NB702_698.out
         have hms78_2 := NB702_699.out
         have hms78_4 := NB702_703.out
         have hs79 : w77.cell? ⟨gb702, 1, none⟩ = some (.int .u64 0) := (blk_cell BK702.out 1).trans rfl
         have hfs79 := blk_frozen BK702.out 1
         have hns79_0 := NB697_702.out
         have hns79_1 := NB698_702.out
         have hns79_2 := NB699_702.out
         have hns79_4 := NB703_702.out
         have hms79_0 := NB702_697.out
         have hms79_1 := NB702_698.out
         have hms79_2 := NB702_699.out
         have hms79_4 := NB702_703.out
         have hs80 : w77.cell? ⟨gb702, 2, none⟩ = some (.int .u64 0) := (blk_cell BK702.out 2).trans rfl
         have hfs80 := blk_frozen BK702.out 2
         have hns80_0 := NB697_702.out
         have hns80_1 := NB698_702.out
         have hns80_2 := NB699_702.out
         have hns80_4 := NB703_702.out
         have hms80_0 := NB702_697.out
         have hms80_1 := NB702_698.out
         have hms80_2 := NB702_699.out
         have hms80_4 := NB702_703.out
         refine skip_ (w1 := ?_) (by rfl) rfl ?_ ?_
         rotate_left
         ·go_simp
          rfl
         refine hK.out _ _ ⟨((cell_far (p := ⟨gb702, _, none⟩) NB697_702.out _).trans (((cell_far (p := ⟨gb702, _, none⟩) NB697_702.out _).trans (((cell_far (p := ⟨gb702, _, none⟩) NB697_702.out _).trans (hHeld.1)))))), ((cell_far (p := ⟨gb702, _, none⟩) NB697_702.out _).trans (((cell_far (p := ⟨gb702, _, none⟩) NB697_702.out _).trans (((cell_far (p := ⟨gb702, _, none⟩) NB697_702.out _).trans (hHeld.2.1)))))), ((cell_far (p := ⟨gb702, _, none⟩) NB697_702.out _).trans (((cell_far (p := ⟨gb702, _, none⟩) NB697_702.out _).trans (((cell_far (p := ⟨gb702, _, none⟩) NB697_702.out _).trans (hHeld.2.2.1)))))), ((cell_far (p := ⟨gb702, _, none⟩) NB698_702.out _).trans (((cell_far (p := ⟨gb702, _, none⟩) NB698_702.out _).trans (((cell_far (p := ⟨gb702, _, none⟩) NB698_702.out _).trans (hHeld.2.2.2.1)))))), ((cell_far (p := ⟨gb702, _, none⟩) NB698_702.out _).trans (((cell_far (p := ⟨gb702, _, none⟩) NB698_702.out _).trans (((cell_far (p := ⟨gb702, _, none⟩) NB698_702.out _).trans (hHeld.2.2.2.2.1)))))), ((cell_far (p := ⟨gb702, _, none⟩) NB698_702.out _).trans (((cell_far (p := ⟨gb702, _, none⟩) NB698_702.out _).trans (((cell_far (p := ⟨gb702, _, none⟩) NB698_702.out _).trans (hHeld.2.2.2.2.2.1)))))), ((cell_far (p := ⟨gb702, _, none⟩) NB699_702.out _).trans (((cell_far (p := ⟨gb702, _, none⟩) NB699_702.out _).trans (((cell_far (p := ⟨gb702, _, none⟩) NB699_702.out _).trans (hHeld.2.2.2.2.2.2.1)))))), ((cell_far (p := ⟨gb702, _, none⟩) NB699_702.out _).trans (((cell_far (p := ⟨gb702, _, none⟩) NB699_702.out _).trans (((cell_far (p := ⟨gb702, _, none⟩) NB699_702.out _).trans (hHeld.2.2.2.2.2.2.2.1)))))), ((cell_far (p := ⟨gb702, _, none⟩) NB699_702.out _).trans (((cell_far (p := ⟨gb702, _, none⟩) NB699_702.out _).trans (((cell_far (p := ⟨gb702, _, none⟩) NB699_702.out _).trans (hHeld.2.2.2.2.2.2.2.2))))))⟩ (fun hHeld => ?_)
         clear hK K
         refine done_ (done_of HT_.out (by kernel_rfl)) ?_
         try go_wp2
         go_meet
         case rel => exact ⟨_, (t729), (t730), (t731), H', ⟨by have := HJ4.out; have := HJ32.out; have := HJ51.out; omega⟩, ⟨by refine blk_far ?_ NB697_702.out _; refine blk_far ?_ NB697_702.out _; refine blk_far ?_ NB697_702.out _; exact BK697.out⟩, ⟨by refine blk_far ?_ NB698_702.out _; refine blk_far ?_ NB698_702.out _; refine blk_far ?_ NB698_702.out _; exact BK698.out⟩, ⟨by refine blk_far ?_ NB699_702.out _; refine blk_far ?_ NB699_702.out _; refine blk_far ?_ NB699_702.out _; exact BK699.out⟩, ⟨by refine blk_put (cs := #[.int .i64 t729, .int .u64 t730, .int .u64 0]) ?_ 2 _ rfl; refine blk_put (cs := #[.int .i64 t729, .int .u64 0, .int .u64 0]) ?_ 1 _ rfl; refine blk_put (cs := #[.int .i64 0, .int .u64 0, .int .u64 0]) ?_ 0 _ rfl; exact BK702.out⟩, ⟨by refine blk_far ?_ NB703_702.out _; refine blk_far ?_ NB703_702.out _; refine blk_far ?_ NB703_702.out _; exact BK703.out⟩, ⟨by repeat (with_reducible first | exact HB.out | refine below_set ?_ GE702.out)⟩⟩
        ·replace c62 := Bool.eq_false_iff.mpr c62
         subst c62
         have H1 : (masklaw1_BitsChosen.j3 kj51 a3 x9_4 a0_0 a0_1 a0_2 a1_0 a1_1 a1_2 a2_0 a2_1 a2_2 0 0 0 x704000_32 x704001_32 x704002_32) = some r := by rw [if_neg (show ¬ (false = true) by decide)] at H; exact H
         clear H
         have H := H1
         clear H1
         have H' := Aside0.mk H
         clear H
         go_wp2
         go_meet
         case rel => exact ⟨_, (0), (0), (0), H', ⟨by have := HJ4.out; have := HJ32.out; have := HJ51.out; omega⟩, ⟨by exact BK697.out⟩, ⟨by exact BK698.out⟩, ⟨by exact BK699.out⟩, ⟨by exact BK702.out⟩, ⟨by exact BK703.out⟩, ⟨by repeat (with_reducible exact HB.out)⟩⟩
       case rest =>
        clear HC61
        obtain ⟨kq, x703000_60, x703001_60, x703002_60, HA, HJ60, BK697, BK698, BK699, BK702, BK703, HB⟩ := hcut
        cases kq with
        | zero => exact absurd HA.out (by simp [masklaw1_BitsChosen.j3])
        | succ kj60 =>
         have H := HA.out
         clear HA
         simp only [masklaw1_BitsChosen.j3] at H
         replace H := Option.bind_eq_some_iff.mp H
         obtain ⟨t732, A810, H⟩ := H
         replace H : (if t732 = true then ((bits_Fits.f kj60 a1_0 a1_1 a1_2 a2_0 a2_1 a2_2 a3).bind fun t733 => (if x9_4 = true then ((maskref1_V.f kj60 a1_0 a1_1 a1_2).bind fun t734 => ((maskref1_V.f kj60 a2_0 a2_1 a2_2).bind fun t737 => ((maskref1_Fit.f kj60 t734 t737 a3).bind fun t740 => (if (t733 == t740) = true then ((bits_Resolve.f kj60 a1_0 a1_1 a1_2 a2_0 a2_1 a2_2).bind fun bt741 => (if (bt741.1 == x704000_32 && (bt741.2.1 == x704001_32 && (bt741.2.2 == x704002_32))) = true then ((bits_Cond.f kj60 a0_0 a0_1 a0_2 a1_0 a1_1 a1_2 a2_0 a2_1 a2_2).bind fun bt744 => (some (bt744.1 == x703000_60 && (bt744.2.1 == x703001_60 && (bt744.2.2 == x703002_60))))) else (some false))) else (some false))))) else (if (t733 == false) = true then ((bits_Resolve.f kj60 a1_0 a1_1 a1_2 a2_0 a2_1 a2_2).bind fun bt747 => (if (bt747.1 == x704000_32 && (bt747.2.1 == x704001_32 && (bt747.2.2 == x704002_32))) = true then ((bits_Cond.f kj60 a0_0 a0_1 a0_2 a1_0 a1_1 a1_2 a2_0 a2_1 a2_2).bind fun bt750 => (some (bt750.1 == x703000_60 && (bt750.2.1 == x703001_60 && (bt750.2.2 == x703002_60))))) else (some false))) else (some false)))) else (some false)) = some r := H
         have A81 := Aside0.mk A810
         clear A810
         by_cases c82 : t732 = true
         ·subst c82
          have H1 : ((bits_Fits.f kj60 a1_0 a1_1 a1_2 a2_0 a2_1 a2_2 a3).bind fun t733 => (if x9_4 = true then ((maskref1_V.f kj60 a1_0 a1_1 a1_2).bind fun t734 => ((maskref1_V.f kj60 a2_0 a2_1 a2_2).bind fun t737 => ((maskref1_Fit.f kj60 t734 t737 a3).bind fun t740 => (if (t733 == t740) = true then ((bits_Resolve.f kj60 a1_0 a1_1 a1_2 a2_0 a2_1 a2_2).bind fun bt741 => (if (bt741.1 == x704000_32 && (bt741.2.1 == x704001_32 && (bt741.2.2 == x704002_32))) = true then ((bits_Cond.f kj60 a0_0 a0_1 a0_2 a1_0 a1_1 a1_2 a2_0 a2_1 a2_2).bind fun bt744 => (some (bt744.1 == x703000_60 && (bt744.2.1 == x703001_60 && (bt744.2.2 == x703002_60))))) else (some false))) else (some false))))) else (if (t733 == false) = true then ((bits_Resolve.f kj60 a1_0 a1_1 a1_2 a2_0 a2_1 a2_2).bind fun bt747 => (if (bt747.1 == x704000_32 && (bt747.2.1 == x704001_32 && (bt747.2.2 == x704002_32))) = true then ((bits_Cond.f kj60 a0_0 a0_1 a0_2 a1_0 a1_1 a1_2 a2_0 a2_1 a2_2).bind fun bt750 => (some (bt750.1 == x703000_60 && (bt750.2.1 == x703001_60 && (bt750.2.2 == x703002_60))))) else (some false))) else (some false)))) = some r := by rw [if_pos rfl] at H; exact H
          clear H
          have H := H1
          clear H1
          replace H := Option.bind_eq_some_iff.mp H
          obtain ⟨t733, A830, H⟩ := H
          replace H : (if x9_4 = true then ((maskref1_V.f kj60 a1_0 a1_1 a1_2).bind fun t734 => ((maskref1_V.f kj60 a2_0 a2_1 a2_2).bind fun t737 => ((maskref1_Fit.f kj60 t734 t737 a3).bind fun t740 => (if (t733 == t740) = true then ((bits_Resolve.f kj60 a1_0 a1_1 a1_2 a2_0 a2_1 a2_2).bind fun bt741 => (if (bt741.1 == x704000_32 && (bt741.2.1 == x704001_32 && (bt741.2.2 == x704002_32))) = true then ((bits_Cond.f kj60 a0_0 a0_1 a0_2 a1_0 a1_1 a1_2 a2_0 a2_1 a2_2).bind fun bt744 => (some (bt744.1 == x703000_60 && (bt744.2.1 == x703001_60 && (bt744.2.2 == x703002_60))))) else (some false))) else (some false))))) else (if (t733 == false) = true then ((bits_Resolve.f kj60 a1_0 a1_1 a1_2 a2_0 a2_1 a2_2).bind fun bt747 => (if (bt747.1 == x704000_32 && (bt747.2.1 == x704001_32 && (bt747.2.2 == x704002_32))) = true then ((bits_Cond.f kj60 a0_0 a0_1 a0_2 a1_0 a1_1 a1_2 a2_0 a2_1 a2_2).bind fun bt750 => (some (bt750.1 == x703000_60 && (bt750.2.1 == x703001_60 && (bt750.2.2 == x703002_60))))) else (some false))) else (some false))) = some r := H
          have A83 := Aside0.mk A830
          clear A830
          by_cases c84 : x9_4 = true
          ·subst c84
           have H1 : ((maskref1_V.f kj60 a1_0 a1_1 a1_2).bind fun t734 => ((maskref1_V.f kj60 a2_0 a2_1 a2_2).bind fun t737 => ((maskref1_Fit.f kj60 t734 t737 a3).bind fun t740 => (if (t733 == t740) = true then ((bits_Resolve.f kj60 a1_0 a1_1 a1_2 a2_0 a2_1 a2_2).bind fun bt741 => (if (bt741.1 == x704000_32 && (bt741.2.1 == x704001_32 && (bt741.2.2 == x704002_32))) = true then ((bits_Cond.f kj60 a0_0 a0_1 a0_2 a1_0 a1_1 a1_2 a2_0 a2_1 a2_2).bind fun bt744 => (some (bt744.1 == x703000_60 && (bt744.2.1 == x703001_60 && (bt744.2.2 == x703002_60))))) else (some false))) else (some false))))) = some r := by rw [if_pos rfl] at H; exact H
           clear H
           have H := H1
           clear H1
           replace H := Option.bind_eq_some_iff.mp H
           obtain ⟨t734, A850, H⟩ := H
           replace H : ((maskref1_V.f kj60 a2_0 a2_1 a2_2).bind fun t737 => ((maskref1_Fit.f kj60 t734 t737 a3).bind fun t740 => (if (t733 == t740) = true then ((bits_Resolve.f kj60 a1_0 a1_1 a1_2 a2_0 a2_1 a2_2).bind fun bt741 => (if (bt741.1 == x704000_32 && (bt741.2.1 == x704001_32 && (bt741.2.2 == x704002_32))) = true then ((bits_Cond.f kj60 a0_0 a0_1 a0_2 a1_0 a1_1 a1_2 a2_0 a2_1 a2_2).bind fun bt744 => (some (bt744.1 == x703000_60 && (bt744.2.1 == x703001_60 && (bt744.2.2 == x703002_60))))) else (some false))) else (some false)))) = some r := H
           have A85 := Aside0.mk A850
           clear A850
           replace H := Option.bind_eq_some_iff.mp H
           obtain ⟨t737, A860, H⟩ := H
           replace H : ((maskref1_Fit.f kj60 t734 t737 a3).bind fun t740 => (if (t733 == t740) = true then ((bits_Resolve.f kj60 a1_0 a1_1 a1_2 a2_0 a2_1 a2_2).bind fun bt741 => (if (bt741.1 == x704000_32 && (bt741.2.1 == x704001_32 && (bt741.2.2 == x704002_32))) = true then ((bits_Cond.f kj60 a0_0 a0_1 a0_2 a1_0 a1_1 a1_2 a2_0 a2_1 a2_2).bind fun bt744 => (some (bt744.1 == x703000_60 && (bt744.2.1 == x703001_60 && (bt744.2.2 == x703002_60))))) else (some false))) else (some false))) = some r := H
           have A86 := Aside0.mk A860
           clear A860
           replace H := Option.bind_eq_some_iff.mp H
           obtain ⟨t740, A870, H⟩ := H
           replace H : (if (t733 == t740) = true then ((bits_Resolve.f kj60 a1_0 a1_1 a1_2 a2_0 a2_1 a2_2).bind fun bt741 => (if (bt741.1 == x704000_32 && (bt741.2.1 == x704001_32 && (bt741.2.2 == x704002_32))) = true then ((bits_Cond.f kj60 a0_0 a0_1 a0_2 a1_0 a1_1 a1_2 a2_0 a2_1 a2_2).bind fun bt744 => (some (bt744.1 == x703000_60 && (bt744.2.1 == x703001_60 && (bt744.2.2 == x703002_60))))) else (some false))) else (some false)) = some r := H
           have A87 := Aside0.mk A870
           clear A870
           by_cases c88 : (t733 == t740) = true
           ·rw [if_pos c88] at H
            have c88b0 : (t733 == t740) = true := c88
            (try (have c88b1 : decide (t733 = t740) = true := by simpa using c88))
            (try (have c88b2 : (t733 == t740) = true := by simpa using c88))
            clear c88
            replace H := Option.bind_eq_some_iff.mp H
            obtain ⟨⟨t741, t742, t743⟩, A890, H⟩ := H
            replace H : (if (t741 == x704000_32 && (t742 == x704001_32 && (t743 == x704002_32))) = true then ((bits_Cond.f kj60 a0_0 a0_1 a0_2 a1_0 a1_1 a1_2 a2_0 a2_1 a2_2).bind fun bt744 => (some (bt744.1 == x703000_60 && (bt744.2.1 == x703001_60 && (bt744.2.2 == x703002_60))))) else (some false)) = some r := H
            have A89 := Aside0.mk A890
            clear A890
            by_cases c90 : (t741 == x704000_32 && (t742 == x704001_32 && (t743 == x704002_32))) = true
            ·rw [if_pos c90] at H
             have c90b0 : (t741 == x704000_32 && (t742 == x704001_32 && (t743 == x704002_32))) = true := c90
             (try (have c90b1 : decide (t741 = x704000_32 && (t742 == x704001_32 && (t743 == x704002_32))) = true := by simpa using c90))
             (try (have c90b2 : (t741 == x704000_32 && (t742 == x704001_32 && (t743 == x704002_32))) = true := by simpa using c90))
             clear c90
             replace H := Option.bind_eq_some_iff.mp H
             obtain ⟨⟨t744, t745, t746⟩, A910, H⟩ := H
             replace H : (some (t744 == x703000_60 && (t745 == x703001_60 && (t746 == x703002_60)))) = some r := H
             have A91 := Aside0.mk A910
             clear A910
             obtain rfl := Option.some.inj H
             try go_wp2
             replace BK697 := bkd BK697
             replace BK698 := bkd BK698
             replace BK699 := bkd BK699
             replace BK702 := bkd BK702
             replace BK703 := bkd BK703
             replace HB := hbd HB
             refine start_ (n := 33) (S := fun w' => w'.cell? ⟨gb698, 0, none⟩ = some (.int .i64 a1_0) ∧ w'.cell? ⟨gb698, 1, none⟩ = some (.int .u64 a1_1) ∧ w'.cell? ⟨gb698, 2, none⟩ = some (.int .u64 a1_2) ∧ w'.cell? ⟨gb699, 0, none⟩ = some (.int .i64 a2_0) ∧ w'.cell? ⟨gb699, 1, none⟩ = some (.int .u64 a2_1) ∧ w'.cell? ⟨gb699, 2, none⟩ = some (.int .u64 a2_2) ∧ w'.cell? ⟨gb703, 0, none⟩ = some (.int .i64 x704000_32) ∧ w'.cell? ⟨gb703, 1, none⟩ = some (.int .u64 x704001_32) ∧ w'.cell? ⟨gb703, 2, none⟩ = some (.int .u64 x704002_32) ∧ w'.cell? ⟨gb697, 0, none⟩ = some (.int .i64 a0_0) ∧ w'.cell? ⟨gb697, 1, none⟩ = some (.int .u64 a0_1) ∧ w'.cell? ⟨gb697, 2, none⟩ = some (.int .u64 a0_2) ∧ w'.cell? ⟨gb702, 0, none⟩ = some (.int .i64 x703000_60) ∧ w'.cell? ⟨gb702, 1, none⟩ = some (.int .u64 x703001_60) ∧ w'.cell? ⟨gb702, 2, none⟩ = some (.int .u64 x703002_60)) (ds := []) (tb 33 0) (by kernel_rfl) rfl (by kernel_rfl) (c3 BK698 (c3 BK699 (c3 BK703 (c3 BK697 (d3 BK702))))) (fun hHeld => ?_); refine with_tabW masklaw1_BitsChosen.tab7 masklaw1_BitsChosen.bits7 (fun HT_ HW_ => ?_)
             generalize wc.drew = w92 at BK697 BK698 BK699 BK702 BK703 HB hHeld ⊢
             refine oA 0 (some 45) (tb 33 1) HT_ (fun K hK => ?_)
             refine gA Tryd.func11 #[] ?_
             with_reducible refine (masklaw1_vectors.calls kj60  true _ A81.out).mono ?_
             rintro e w93 ⟨rfl, hb⟩
             refine ⟨_, rfl, ?_⟩
             replace BK697 := bk1 BK697 hb
             replace BK698 := bk1 BK698 hb
             replace BK699 := bk1 BK699 hb
             replace BK702 := bk1 BK702 hb
             replace BK703 := bk1 BK703 hb
             replace HB := hb1 HB hb
             (try clear hb)
             refine hK.out _ _ (c3 BK698 (c3 BK699 (c3 BK703 (c3 BK697 (d3 BK702))))) (fun hHeld => ?_)
             clear hK K
             refine nA ?_
             refine pA 1 46 (tb 33 3) HT_ ?_
             refine pA 4 49 (tb 33 19) HT_ ?_
             refine pA 6 51 (tb 33 83) HT_ ?_
             refine tA 2 47 (tb 33 87) HT_ HW_ hHeld ?_
             refine tA 3 48 (tb 33 95) HT_ HW_ hHeld ?_
             refine oA 5 (some 50) (tb 33 127) HT_ (fun K hK => ?_)
             refine gA Tryd.func42 #[.agg #[.int .i64 a1_0, .int .u64 a1_1, .int .u64 a1_2], .agg #[.int .i64 a2_0, .int .u64 a2_1, .int .u64 a2_2], .int .i64 a3] ?_
             with_reducible refine (bits_Fits.calls kj60 a1_0 a1_1 a1_2 a2_0 a2_1 a2_2 a3 t733 _ A83.out).mono ?_
             rintro e w94 ⟨rfl, hb⟩
             refine ⟨_, rfl, ?_⟩
             replace BK697 := bk1 BK697 hb
             replace BK698 := bk1 BK698 hb
             replace BK699 := bk1 BK699 hb
             replace BK702 := bk1 BK702 hb
             replace BK703 := bk1 BK703 hb
             replace HB := hb1 HB hb
             (try clear hb)
             refine hK.out _ _ (c3 BK698 (c3 BK699 (c3 BK703 (c3 BK697 (d3 BK702))))) (fun hHeld => ?_)
             clear hK K
             refine nA ?_
             refine pA 7 52 (tb 33 255) HT_ ?_
             refine pA 12 57 (tb 33 4351) HT_ ?_
             refine tA 8 53 (tb 33 4607) HT_ HW_ hHeld ?_
             refine tA 10 55 (tb 33 5631) HT_ HW_ hHeld ?_
             refine oA 9 (some 54) (tb 33 6143) HT_ (fun K hK => ?_)
             refine gA Tryd.func28 #[.agg #[.int .i64 a1_0, .int .u64 a1_1, .int .u64 a1_2]] ?_
             with_reducible refine (maskref1_V.calls kj60 a1_0 a1_1 a1_2 t734 _ A85.out).mono ?_
             rintro e w95 ⟨v735, rfl, ho0, hb⟩
             refine ⟨_, rfl, ?_⟩
             have HO736 := Aside0.mk (Kd.R_lower ho0 (below_size HB.out))
             replace BK697 := bk1 BK697 hb
             replace BK698 := bk1 BK698 hb
             replace BK699 := bk1 BK699 hb
             replace BK702 := bk1 BK702 hb
             replace BK703 := bk1 BK703 hb
             replace HB := hb1 HB hb
             (try clear hb)
             (try clear ho0)
             refine hK.out _ _ (c3 BK698 (c3 BK699 (c3 BK703 (c3 BK697 (d3 BK702))))) (fun hHeld => ?_)
             clear hK K
             refine nA ?_
             refine oA 11 (some 56) (tb 33 8191) HT_ (fun K hK => ?_)
             refine gA Tryd.func28 #[.agg #[.int .i64 a2_0, .int .u64 a2_1, .int .u64 a2_2]] ?_
             with_reducible refine (maskref1_V.calls kj60 a2_0 a2_1 a2_2 t737 _ A86.out).mono ?_
             rintro e w96 ⟨v738, rfl, ho0, hb⟩
             refine ⟨_, rfl, ?_⟩
             have HO739 := Aside0.mk (Kd.R_lower (Kd.R_new' ho0 (Kd.R_lt HO736.out)) (below_size HB.out))
             replace HO736 := Aside0.mk (Kd.R_elder' HO736.out (Kd.R_base ho0) hb)
             replace BK697 := bk1 BK697 hb
             replace BK698 := bk1 BK698 hb
             replace BK699 := bk1 BK699 hb
             replace BK702 := bk1 BK702 hb
             replace BK703 := bk1 BK703 hb
             replace HB := hb1 HB hb
             (try clear hb)
             (try clear ho0)
             obtain ⟨Ao97, co97, eo97⟩ := Kd.R_slice HO736.out
             (subst eo97)
             obtain ⟨Ao98, co98, eo98⟩ := Kd.R_slice HO739.out
             (subst eo98)
             refine hK.out _ _ (c3 BK698 (c3 BK699 (c3 BK703 (c3 BK697 (d3 BK702))))) (fun hHeld => ?_)
             clear hK K
             refine nA ?_
             refine oA 13 (some 58) (tb 33 16383) HT_ (fun K hK => ?_)
             refine gA Tryd.func43 #[.slice Ao97 t734.length co97, .slice Ao98 t737.length co98, .int .i64 a3] ?_
             with_reducible refine (maskref1_Fit.calls kj60 _ _ t734 _ _ t737 a3 t740 _ ?side1 ?side2 ?side3 ?side4 A87.out).mono ?_
             (case side1 => repeat (exact (Kd.R_reads' HO736.out).2.2))
             (case side2 => exact (Kd.R_reads' HO736.out).2.1)
             (case side3 => repeat (exact (Kd.R_reads' HO739.out).2.2))
             (case side4 => exact (Kd.R_reads' HO739.out).2.1)
             rintro e w' ⟨rfl, ⟨nd, rfl⟩⟩
             refine ⟨_, rfl, ?_⟩
             refine hK.out _ _ (c3 BK698 (c3 BK699 (c3 BK703 (c3 BK697 (d3 BK702))))) (fun hHeld => ?_)
             clear hK K
             refine nA ?_
             refine pA 14 59 (tb 33 32767) HT_ ?_
             refine pA 15 60 (tb 33 65535) HT_ ?_
             refine pA 16 61 (tb 33 131071) HT_ ?_
             refine pA 17 62 (tb 33 262143) HT_ ?_
             refine tA 18 63 (tb 33 524287) HT_ HW_ hHeld ?_
             refine tA 19 64 (tb 33 1048575) HT_ HW_ hHeld ?_
             refine tA 21 66 (tb 33 3145727) HT_ HW_ hHeld ?_
             refine oA 20 (some 65) (tb 33 4194303) HT_ (fun K hK => ?_)
             refine gA Tryd.func44 #[.agg #[.int .i64 a1_0, .int .u64 a1_1, .int .u64 a1_2], .agg #[.int .i64 a2_0, .int .u64 a2_1, .int .u64 a2_2]] ?_
             with_reducible refine (bits_Resolve.calls kj60 a1_0 a1_1 a1_2 a2_0 a2_1 a2_2 t741 t742 t743 _ A89.out).mono ?_
             rintro e w99 ⟨rfl, hb⟩
             refine ⟨_, rfl, ?_⟩
             replace HO736 := Kd.rb1 HO736 hb
             replace HO739 := Kd.rb1 HO739 hb
             replace BK697 := bk1 BK697 hb
             replace BK698 := bk1 BK698 hb
             replace BK699 := bk1 BK699 hb
             replace BK702 := bk1 BK702 hb
             replace BK703 := bk1 BK703 hb
             replace HB := hb1 HB hb
             (try clear hb)
             refine hK.out _ _ (c3 BK698 (c3 BK699 (c3 BK703 (c3 BK697 (d3 BK702))))) (fun hHeld => ?_)
             clear hK K
             refine nA ?_
             refine pA 22 67 (tb 33 8388607) HT_ ?_
             refine pA 23 68 (tb 33 16777215) HT_ ?_
             refine pA 24 69 (tb 33 33554431) HT_ ?_
             refine tA 25 70 (tb 33 67108863) HT_ HW_ hHeld ?_
             refine tA 26 71 (tb 33 134217727) HT_ HW_ hHeld ?_
             refine tA 27 72 (tb 33 268435455) HT_ HW_ hHeld ?_
             refine tA 29 74 (tb 33 805306367) HT_ HW_ hHeld ?_
             refine oA 28 (some 73) (tb 33 1073741823) HT_ (fun K hK => ?_)
             refine gA Tryd.func45 #[.agg #[.int .i64 a0_0, .int .u64 a0_1, .int .u64 a0_2], .agg #[.int .i64 a1_0, .int .u64 a1_1, .int .u64 a1_2], .agg #[.int .i64 a2_0, .int .u64 a2_1, .int .u64 a2_2]] ?_
             with_reducible refine (bits_Cond.calls kj60 a0_0 a0_1 a0_2 a1_0 a1_1 a1_2 a2_0 a2_1 a2_2 t744 t745 t746 _ A91.out).mono ?_
             rintro e w100 ⟨rfl, hb⟩
             refine ⟨_, rfl, ?_⟩
             replace HO736 := Kd.rb1 HO736 hb
             replace HO739 := Kd.rb1 HO739 hb
             replace BK697 := bk1 BK697 hb
             replace BK698 := bk1 BK698 hb
             replace BK699 := bk1 BK699 hb
             replace BK702 := bk1 BK702 hb
             replace BK703 := bk1 BK703 hb
             replace HB := hb1 HB hb
             (try clear hb)
             refine hK.out _ _ (c3 BK698 (c3 BK699 (c3 BK703 (c3 BK697 (d3 BK702))))) (fun hHeld => ?_)
             clear hK K
             refine nA ?_
             refine pA 30 75 (tb 33 2147483647) HT_ ?_
             refine pA 31 76 (tb 33 4294967295) HT_ ?_
             refine pA 32 8 (tb 33 8589934591) HT_ ?_
             refine done_ (done_of HT_.out (by kernel_rfl)) ?_
             try go_wp2
             go_ret
             exact ⟨by rfl, by repeat (with_reducible exact HB.out)⟩
            ·rw [if_neg c90] at H
             have c90b0 : (t741 == x704000_32 && (t742 == x704001_32 && (t743 == x704002_32))) = false := by simpa using c90
             (try (have c90b1 : decide (t741 = x704000_32 && (t742 == x704001_32 && (t743 == x704002_32))) = false := by simpa using c90))
             (try (have c90b2 : (t741 == x704000_32 && (t742 == x704001_32 && (t743 == x704002_32))) = false := by simpa using c90))
             (try (have c90b3 : ¬ (t741 = x704000_32 && (t742 == x704001_32 && (t743 == x704002_32))) := by simpa using c90))
             clear c90
             obtain rfl := Option.some.inj H
             try go_wp2
             replace BK697 := bkd BK697
             replace BK698 := bkd BK698
             replace BK699 := bkd BK699
             replace BK702 := bkd BK702
             replace BK703 := bkd BK703
             replace HB := hbd HB
             refine start_ (n := 33) (S := fun w' => w'.cell? ⟨gb698, 0, none⟩ = some (.int .i64 a1_0) ∧ w'.cell? ⟨gb698, 1, none⟩ = some (.int .u64 a1_1) ∧ w'.cell? ⟨gb698, 2, none⟩ = some (.int .u64 a1_2) ∧ w'.cell? ⟨gb699, 0, none⟩ = some (.int .i64 a2_0) ∧ w'.cell? ⟨gb699, 1, none⟩ = some (.int .u64 a2_1) ∧ w'.cell? ⟨gb699, 2, none⟩ = some (.int .u64 a2_2) ∧ w'.cell? ⟨gb703, 0, none⟩ = some (.int .i64 x704000_32) ∧ w'.cell? ⟨gb703, 1, none⟩ = some (.int .u64 x704001_32) ∧ w'.cell? ⟨gb703, 2, none⟩ = some (.int .u64 x704002_32)) (ds := []) (tb 33 0) (by kernel_rfl) rfl (by kernel_rfl) (c3 BK698 (c3 BK699 (d3 BK703))) (fun hHeld => ?_); refine with_tabW masklaw1_BitsChosen.tab7 masklaw1_BitsChosen.bits7 (fun HT_ HW_ => ?_)
             generalize wc.drew = w101 at BK697 BK698 BK699 BK702 BK703 HB hHeld ⊢
             refine oA 0 (some 45) (tb 33 1) HT_ (fun K hK => ?_)
             refine gA Tryd.func11 #[] ?_
             with_reducible refine (masklaw1_vectors.calls kj60  true _ A81.out).mono ?_
             rintro e w102 ⟨rfl, hb⟩
             refine ⟨_, rfl, ?_⟩
             replace BK697 := bk1 BK697 hb
             replace BK698 := bk1 BK698 hb
             replace BK699 := bk1 BK699 hb
             replace BK702 := bk1 BK702 hb
             replace BK703 := bk1 BK703 hb
             replace HB := hb1 HB hb
             (try clear hb)
             refine hK.out _ _ (c3 BK698 (c3 BK699 (d3 BK703))) (fun hHeld => ?_)
             clear hK K
             refine nA ?_
             refine pA 1 46 (tb 33 3) HT_ ?_
             refine pA 4 49 (tb 33 19) HT_ ?_
             refine pA 6 51 (tb 33 83) HT_ ?_
             refine tA 2 47 (tb 33 87) HT_ HW_ hHeld ?_
             refine tA 3 48 (tb 33 95) HT_ HW_ hHeld ?_
             refine oA 5 (some 50) (tb 33 127) HT_ (fun K hK => ?_)
             refine gA Tryd.func42 #[.agg #[.int .i64 a1_0, .int .u64 a1_1, .int .u64 a1_2], .agg #[.int .i64 a2_0, .int .u64 a2_1, .int .u64 a2_2], .int .i64 a3] ?_
             with_reducible refine (bits_Fits.calls kj60 a1_0 a1_1 a1_2 a2_0 a2_1 a2_2 a3 t733 _ A83.out).mono ?_
             rintro e w103 ⟨rfl, hb⟩
             refine ⟨_, rfl, ?_⟩
             replace BK697 := bk1 BK697 hb
             replace BK698 := bk1 BK698 hb
             replace BK699 := bk1 BK699 hb
             replace BK702 := bk1 BK702 hb
             replace BK703 := bk1 BK703 hb
             replace HB := hb1 HB hb
             (try clear hb)
             refine hK.out _ _ (c3 BK698 (c3 BK699 (d3 BK703))) (fun hHeld => ?_)
             clear hK K
             refine nA ?_
             refine pA 7 52 (tb 33 255) HT_ ?_
             refine pA 12 57 (tb 33 4351) HT_ ?_
             refine tA 8 53 (tb 33 4607) HT_ HW_ hHeld ?_
             refine tA 10 55 (tb 33 5631) HT_ HW_ hHeld ?_
             refine oA 9 (some 54) (tb 33 6143) HT_ (fun K hK => ?_)
             refine gA Tryd.func28 #[.agg #[.int .i64 a1_0, .int .u64 a1_1, .int .u64 a1_2]] ?_
             with_reducible refine (maskref1_V.calls kj60 a1_0 a1_1 a1_2 t734 _ A85.out).mono ?_
             rintro e w104 ⟨v735, rfl, ho0, hb⟩
             refine ⟨_, rfl, ?_⟩
             have HO736 := Aside0.mk (Kd.R_lower ho0 (below_size HB.out))
             replace BK697 := bk1 BK697 hb
             replace BK698 := bk1 BK698 hb
             replace BK699 := bk1 BK699 hb
             replace BK702 := bk1 BK702 hb
             replace BK703 := bk1 BK703 hb
             replace HB := hb1 HB hb
             (try clear hb)
             (try clear ho0)
             refine hK.out _ _ (c3 BK698 (c3 BK699 (d3 BK703))) (fun hHeld => ?_)
             clear hK K
             refine nA ?_
             refine oA 11 (some 56) (tb 33 8191) HT_ (fun K hK => ?_)
             refine gA Tryd.func28 #[.agg #[.int .i64 a2_0, .int .u64 a2_1, .int .u64 a2_2]] ?_
             with_reducible refine (maskref1_V.calls kj60 a2_0 a2_1 a2_2 t737 _ A86.out).mono ?_
             rintro e w105 ⟨v738, rfl, ho0, hb⟩
             refine ⟨_, rfl, ?_⟩
             have HO739 := Aside0.mk (Kd.R_lower (Kd.R_new' ho0 (Kd.R_lt HO736.out)) (below_size HB.out))
             replace HO736 := Aside0.mk (Kd.R_elder' HO736.out (Kd.R_base ho0) hb)
             replace BK697 := bk1 BK697 hb
             replace BK698 := bk1 BK698 hb
             replace BK699 := bk1 BK699 hb
             replace BK702 := bk1 BK702 hb
             replace BK703 := bk1 BK703 hb
             replace HB := hb1 HB hb
             (try clear hb)
             (try clear ho0)
             obtain ⟨Ao106, co106, eo106⟩ := Kd.R_slice HO736.out
             (subst eo106)
             obtain ⟨Ao107, co107, eo107⟩ := Kd.R_slice HO739.out
             (subst eo107)
             refine hK.out _ _ (c3 BK698 (c3 BK699 (d3 BK703))) (fun hHeld => ?_)
             clear hK K
             refine nA ?_
             refine oA 13 (some 58) (tb 33 16383) HT_ (fun K hK => ?_)
             refine gA Tryd.func43 #[.slice Ao106 t734.length co106, .slice Ao107 t737.length co107, .int .i64 a3] ?_
             with_reducible refine (maskref1_Fit.calls kj60 _ _ t734 _ _ t737 a3 t740 _ ?side1 ?side2 ?side3 ?side4 A87.out).mono ?_
             (case side1 => repeat (exact (Kd.R_reads' HO736.out).2.2))
             (case side2 => exact (Kd.R_reads' HO736.out).2.1)
             (case side3 => repeat (exact (Kd.R_reads' HO739.out).2.2))
             (case side4 => exact (Kd.R_reads' HO739.out).2.1)
             rintro e w' ⟨rfl, ⟨nd, rfl⟩⟩
             refine ⟨_, rfl, ?_⟩
             refine hK.out _ _ (c3 BK698 (c3 BK699 (d3 BK703))) (fun hHeld => ?_)
             clear hK K
             refine nA ?_
             refine pA 14 59 (tb 33 32767) HT_ ?_
             refine pA 15 60 (tb 33 65535) HT_ ?_
             refine pA 16 61 (tb 33 131071) HT_ ?_
             refine pA 17 62 (tb 33 262143) HT_ ?_
             refine tA 18 63 (tb 33 524287) HT_ HW_ hHeld ?_
             refine tA 19 64 (tb 33 1048575) HT_ HW_ hHeld ?_
             refine tA 21 66 (tb 33 3145727) HT_ HW_ hHeld ?_
             refine oA 20 (some 65) (tb 33 4194303) HT_ (fun K hK => ?_)
             refine gA Tryd.func44 #[.agg #[.int .i64 a1_0, .int .u64 a1_1, .int .u64 a1_2], .agg #[.int .i64 a2_0, .int .u64 a2_1, .int .u64 a2_2]] ?_
             with_reducible refine (bits_Resolve.calls kj60 a1_0 a1_1 a1_2 a2_0 a2_1 a2_2 t741 t742 t743 _ A89.out).mono ?_
             rintro e w108 ⟨rfl, hb⟩
             refine ⟨_, rfl, ?_⟩
             replace HO736 := Kd.rb1 HO736 hb
             replace HO739 := Kd.rb1 HO739 hb
             replace BK697 := bk1 BK697 hb
             replace BK698 := bk1 BK698 hb
             replace BK699 := bk1 BK699 hb
             replace BK702 := bk1 BK702 hb
             replace BK703 := bk1 BK703 hb
             replace HB := hb1 HB hb
             (try clear hb)
             refine hK.out _ _ (c3 BK698 (c3 BK699 (d3 BK703))) (fun hHeld => ?_)
             clear hK K
             refine nA ?_
             refine pA 22 67 (tb 33 8388607) HT_ ?_
             refine pA 23 68 (tb 33 16777215) HT_ ?_
             refine pA 24 69 (tb 33 33554431) HT_ ?_
             refine pU 25 70 (tb 33 67108863) HT_ ?_
             refine pU 26 71 (tb 33 134217727) HT_ ?_
             refine pU 27 72 (tb 33 268435455) HT_ ?_
             refine pU 28 73 (tb 33 536870911) HT_ ?_
             refine pU 29 74 (tb 33 1073741823) HT_ ?_
             refine pU 30 75 (tb 33 2147483647) HT_ ?_
             refine pA 31 76 (tb 33 4294967295) HT_ ?_
             refine pA 32 8 (tb 33 8589934591) HT_ ?_
             refine done_ (done_of HT_.out (by kernel_rfl)) ?_
             try go_wp2
             go_ret
             exact ⟨by rfl, by repeat (with_reducible exact HB.out)⟩
           ·rw [if_neg c88] at H
            have c88b0 : (t733 == t740) = false := by simpa using c88
            (try (have c88b1 : decide (t733 = t740) = false := by simpa using c88))
            (try (have c88b2 : (t733 == t740) = false := by simpa using c88))
            (try (have c88b3 : ¬ (t733 = t740) := by simpa using c88))
            clear c88
            obtain rfl := Option.some.inj H
            try go_wp2
            replace BK697 := bkd BK697
            replace BK698 := bkd BK698
            replace BK699 := bkd BK699
            replace BK702 := bkd BK702
            replace BK703 := bkd BK703
            replace HB := hbd HB
            refine start_ (n := 33) (S := fun w' => w'.cell? ⟨gb698, 0, none⟩ = some (.int .i64 a1_0) ∧ w'.cell? ⟨gb698, 1, none⟩ = some (.int .u64 a1_1) ∧ w'.cell? ⟨gb698, 2, none⟩ = some (.int .u64 a1_2) ∧ w'.cell? ⟨gb699, 0, none⟩ = some (.int .i64 a2_0) ∧ w'.cell? ⟨gb699, 1, none⟩ = some (.int .u64 a2_1) ∧ w'.cell? ⟨gb699, 2, none⟩ = some (.int .u64 a2_2)) (ds := []) (tb 33 0) (by kernel_rfl) rfl (by kernel_rfl) (c3 BK698 (d3 BK699)) (fun hHeld => ?_); refine with_tabW masklaw1_BitsChosen.tab7 masklaw1_BitsChosen.bits7 (fun HT_ HW_ => ?_)
            generalize wc.drew = w109 at BK697 BK698 BK699 BK702 BK703 HB hHeld ⊢
            refine oA 0 (some 45) (tb 33 1) HT_ (fun K hK => ?_)
            refine gA Tryd.func11 #[] ?_
            with_reducible refine (masklaw1_vectors.calls kj60  true _ A81.out).mono ?_
            rintro e w110 ⟨rfl, hb⟩
            refine ⟨_, rfl, ?_⟩
            replace BK697 := bk1 BK697 hb
            replace BK698 := bk1 BK698 hb
            replace BK699 := bk1 BK699 hb
            replace BK702 := bk1 BK702 hb
            replace BK703 := bk1 BK703 hb
            replace HB := hb1 HB hb
            (try clear hb)
            refine hK.out _ _ (c3 BK698 (d3 BK699)) (fun hHeld => ?_)
            clear hK K
            refine nA ?_
            refine pA 1 46 (tb 33 3) HT_ ?_
            refine pA 4 49 (tb 33 19) HT_ ?_
            refine pA 6 51 (tb 33 83) HT_ ?_
            refine tA 2 47 (tb 33 87) HT_ HW_ hHeld ?_
            refine tA 3 48 (tb 33 95) HT_ HW_ hHeld ?_
            refine oA 5 (some 50) (tb 33 127) HT_ (fun K hK => ?_)
            refine gA Tryd.func42 #[.agg #[.int .i64 a1_0, .int .u64 a1_1, .int .u64 a1_2], .agg #[.int .i64 a2_0, .int .u64 a2_1, .int .u64 a2_2], .int .i64 a3] ?_
            with_reducible refine (bits_Fits.calls kj60 a1_0 a1_1 a1_2 a2_0 a2_1 a2_2 a3 t733 _ A83.out).mono ?_
            rintro e w111 ⟨rfl, hb⟩
            refine ⟨_, rfl, ?_⟩
            replace BK697 := bk1 BK697 hb
            replace BK698 := bk1 BK698 hb
            replace BK699 := bk1 BK699 hb
            replace BK702 := bk1 BK702 hb
            replace BK703 := bk1 BK703 hb
            replace HB := hb1 HB hb
            (try clear hb)
            refine hK.out _ _ (c3 BK698 (d3 BK699)) (fun hHeld => ?_)
            clear hK K
            refine nA ?_
            refine pA 7 52 (tb 33 255) HT_ ?_
            refine pA 12 57 (tb 33 4351) HT_ ?_
            refine tA 8 53 (tb 33 4607) HT_ HW_ hHeld ?_
            refine tA 10 55 (tb 33 5631) HT_ HW_ hHeld ?_
            refine oA 9 (some 54) (tb 33 6143) HT_ (fun K hK => ?_)
            refine gA Tryd.func28 #[.agg #[.int .i64 a1_0, .int .u64 a1_1, .int .u64 a1_2]] ?_
            with_reducible refine (maskref1_V.calls kj60 a1_0 a1_1 a1_2 t734 _ A85.out).mono ?_
            rintro e w112 ⟨v735, rfl, ho0, hb⟩
            refine ⟨_, rfl, ?_⟩
            have HO736 := Aside0.mk (Kd.R_lower ho0 (below_size HB.out))
            replace BK697 := bk1 BK697 hb
            replace BK698 := bk1 BK698 hb
            replace BK699 := bk1 BK699 hb
            replace BK702 := bk1 BK702 hb
            replace BK703 := bk1 BK703 hb
            replace HB := hb1 HB hb
            (try clear hb)
            (try clear ho0)
            refine hK.out _ _ (c3 BK698 (d3 BK699)) (fun hHeld => ?_)
            clear hK K
            refine nA ?_
            refine oA 11 (some 56) (tb 33 8191) HT_ (fun K hK => ?_)
            refine gA Tryd.func28 #[.agg #[.int .i64 a2_0, .int .u64 a2_1, .int .u64 a2_2]] ?_
            with_reducible refine (maskref1_V.calls kj60 a2_0 a2_1 a2_2 t737 _ A86.out).mono ?_
            rintro e w113 ⟨v738, rfl, ho0, hb⟩
            refine ⟨_, rfl, ?_⟩
            have HO739 := Aside0.mk (Kd.R_lower (Kd.R_new' ho0 (Kd.R_lt HO736.out)) (below_size HB.out))
            replace HO736 := Aside0.mk (Kd.R_elder' HO736.out (Kd.R_base ho0) hb)
            replace BK697 := bk1 BK697 hb
            replace BK698 := bk1 BK698 hb
            replace BK699 := bk1 BK699 hb
            replace BK702 := bk1 BK702 hb
            replace BK703 := bk1 BK703 hb
            replace HB := hb1 HB hb
            (try clear hb)
            (try clear ho0)
            obtain ⟨Ao114, co114, eo114⟩ := Kd.R_slice HO736.out
            (subst eo114)
            obtain ⟨Ao115, co115, eo115⟩ := Kd.R_slice HO739.out
            (subst eo115)
            refine hK.out _ _ (c3 BK698 (d3 BK699)) (fun hHeld => ?_)
            clear hK K
            refine nA ?_
            refine oA 13 (some 58) (tb 33 16383) HT_ (fun K hK => ?_)
            refine gA Tryd.func43 #[.slice Ao114 t734.length co114, .slice Ao115 t737.length co115, .int .i64 a3] ?_
            with_reducible refine (maskref1_Fit.calls kj60 _ _ t734 _ _ t737 a3 t740 _ ?side1 ?side2 ?side3 ?side4 A87.out).mono ?_
            (case side1 => repeat (exact (Kd.R_reads' HO736.out).2.2))
            (case side2 => exact (Kd.R_reads' HO736.out).2.1)
            (case side3 => repeat (exact (Kd.R_reads' HO739.out).2.2))
            (case side4 => exact (Kd.R_reads' HO739.out).2.1)
            rintro e w' ⟨rfl, ⟨nd, rfl⟩⟩
            refine ⟨_, rfl, ?_⟩
            refine hK.out _ _ (c3 BK698 (d3 BK699)) (fun hHeld => ?_)
            clear hK K
            refine nA ?_
            refine pA 14 59 (tb 33 32767) HT_ ?_
            refine pA 15 60 (tb 33 65535) HT_ ?_
            refine pA 16 61 (tb 33 131071) HT_ ?_
            refine pA 17 62 (tb 33 262143) HT_ ?_
            refine pU 18 63 (tb 33 524287) HT_ ?_
            refine pU 19 64 (tb 33 1048575) HT_ ?_
            refine pU 20 65 (tb 33 2097151) HT_ ?_
            refine pU 21 66 (tb 33 4194303) HT_ ?_
            refine pU 22 67 (tb 33 8388607) HT_ ?_
            refine pA 23 68 (tb 33 16777215) HT_ ?_
            refine pA 24 69 (tb 33 33554431) HT_ ?_
            refine pU 25 70 (tb 33 67108863) HT_ ?_
            refine pU 26 71 (tb 33 134217727) HT_ ?_
            refine pU 27 72 (tb 33 268435455) HT_ ?_
            refine pU 28 73 (tb 33 536870911) HT_ ?_
            refine pU 29 74 (tb 33 1073741823) HT_ ?_
            refine pU 30 75 (tb 33 2147483647) HT_ ?_
            refine pA 31 76 (tb 33 4294967295) HT_ ?_
            refine pA 32 8 (tb 33 8589934591) HT_ ?_
            refine done_ (done_of HT_.out (by kernel_rfl)) ?_
            try go_wp2
            go_ret
            exact ⟨by rfl, by repeat (with_reducible first | exact HB.out | apply pw_below_drewN)⟩
          ·replace c84 := Bool.eq_false_iff.mpr c84
           subst c84
           have H1 : (if (t733 == false) = true then ((bits_Resolve.f kj60 a1_0 a1_1 a1_2 a2_0 a2_1 a2_2).bind fun bt747 => (if (bt747.1 == x704000_32 && (bt747.2.1 == x704001_32 && (bt747.2.2 == x704002_32))) = true then ((bits_Cond.f kj60 a0_0 a0_1 a0_2 a1_0 a1_1 a1_2 a2_0 a2_1 a2_2).bind fun bt750 => (some (bt750.1 == x703000_60 && (bt750.2.1 == x703001_60 && (bt750.2.2 == x703002_60))))) else (some false))) else (some false)) = some r := by rw [if_neg (show ¬ (false = true) by decide)] at H; exact H
           clear H
           have H := H1
           clear H1
           by_cases c116 : (t733 == false) = true
           ·rw [if_pos c116] at H
            have c116b0 : (t733 == false) = true := c116
            (try (have c116b1 : decide (t733 = false) = true := by simpa using c116))
            (try (have c116b2 : (t733 == false) = true := by simpa using c116))
            clear c116
            replace H := Option.bind_eq_some_iff.mp H
            obtain ⟨⟨t747, t748, t749⟩, A1170, H⟩ := H
            replace H : (if (t747 == x704000_32 && (t748 == x704001_32 && (t749 == x704002_32))) = true then ((bits_Cond.f kj60 a0_0 a0_1 a0_2 a1_0 a1_1 a1_2 a2_0 a2_1 a2_2).bind fun bt750 => (some (bt750.1 == x703000_60 && (bt750.2.1 == x703001_60 && (bt750.2.2 == x703002_60))))) else (some false)) = some r := H
            have A117 := Aside0.mk A1170
            clear A1170
            by_cases c118 : (t747 == x704000_32 && (t748 == x704001_32 && (t749 == x704002_32))) = true
            ·rw [if_pos c118] at H
             have c118b0 : (t747 == x704000_32 && (t748 == x704001_32 && (t749 == x704002_32))) = true := c118
             (try (have c118b1 : decide (t747 = x704000_32 && (t748 == x704001_32 && (t749 == x704002_32))) = true := by simpa using c118))
             (try (have c118b2 : (t747 == x704000_32 && (t748 == x704001_32 && (t749 == x704002_32))) = true := by simpa using c118))
             clear c118
             replace H := Option.bind_eq_some_iff.mp H
             obtain ⟨⟨t750, t751, t752⟩, A1190, H⟩ := H
             replace H : (some (t750 == x703000_60 && (t751 == x703001_60 && (t752 == x703002_60)))) = some r := H
             have A119 := Aside0.mk A1190
             clear A1190
             obtain rfl := Option.some.inj H
             try go_wp2
             replace BK697 := bkd BK697
             replace BK698 := bkd BK698
             replace BK699 := bkd BK699
             replace BK702 := bkd BK702
             replace BK703 := bkd BK703
             replace HB := hbd HB
             refine start_ (n := 33) (S := fun w' => w'.cell? ⟨gb698, 0, none⟩ = some (.int .i64 a1_0) ∧ w'.cell? ⟨gb698, 1, none⟩ = some (.int .u64 a1_1) ∧ w'.cell? ⟨gb698, 2, none⟩ = some (.int .u64 a1_2) ∧ w'.cell? ⟨gb699, 0, none⟩ = some (.int .i64 a2_0) ∧ w'.cell? ⟨gb699, 1, none⟩ = some (.int .u64 a2_1) ∧ w'.cell? ⟨gb699, 2, none⟩ = some (.int .u64 a2_2) ∧ w'.cell? ⟨gb703, 0, none⟩ = some (.int .i64 x704000_32) ∧ w'.cell? ⟨gb703, 1, none⟩ = some (.int .u64 x704001_32) ∧ w'.cell? ⟨gb703, 2, none⟩ = some (.int .u64 x704002_32) ∧ w'.cell? ⟨gb697, 0, none⟩ = some (.int .i64 a0_0) ∧ w'.cell? ⟨gb697, 1, none⟩ = some (.int .u64 a0_1) ∧ w'.cell? ⟨gb697, 2, none⟩ = some (.int .u64 a0_2) ∧ w'.cell? ⟨gb702, 0, none⟩ = some (.int .i64 x703000_60) ∧ w'.cell? ⟨gb702, 1, none⟩ = some (.int .u64 x703001_60) ∧ w'.cell? ⟨gb702, 2, none⟩ = some (.int .u64 x703002_60)) (ds := []) (tb 33 0) (by kernel_rfl) rfl (by kernel_rfl) (c3 BK698 (c3 BK699 (c3 BK703 (c3 BK697 (d3 BK702))))) (fun hHeld => ?_); refine with_tabW masklaw1_BitsChosen.tab7 masklaw1_BitsChosen.bits7 (fun HT_ HW_ => ?_)
             generalize wc.drew = w120 at BK697 BK698 BK699 BK702 BK703 HB hHeld ⊢
             refine oA 0 (some 45) (tb 33 1) HT_ (fun K hK => ?_)
             refine gA Tryd.func11 #[] ?_
             with_reducible refine (masklaw1_vectors.calls kj60  true _ A81.out).mono ?_
             rintro e w121 ⟨rfl, hb⟩
             refine ⟨_, rfl, ?_⟩
             replace BK697 := bk1 BK697 hb
             replace BK698 := bk1 BK698 hb
             replace BK699 := bk1 BK699 hb
             replace BK702 := bk1 BK702 hb
             replace BK703 := bk1 BK703 hb
             replace HB := hb1 HB hb
             (try clear hb)
             refine hK.out _ _ (c3 BK698 (c3 BK699 (c3 BK703 (c3 BK697 (d3 BK702))))) (fun hHeld => ?_)
             clear hK K
             refine nA ?_
             refine pA 1 46 (tb 33 3) HT_ ?_
             refine pA 4 49 (tb 33 19) HT_ ?_
             refine pA 6 51 (tb 33 83) HT_ ?_
             refine tA 2 47 (tb 33 87) HT_ HW_ hHeld ?_
             refine tA 3 48 (tb 33 95) HT_ HW_ hHeld ?_
             refine oA 5 (some 50) (tb 33 127) HT_ (fun K hK => ?_)
             refine gA Tryd.func42 #[.agg #[.int .i64 a1_0, .int .u64 a1_1, .int .u64 a1_2], .agg #[.int .i64 a2_0, .int .u64 a2_1, .int .u64 a2_2], .int .i64 a3] ?_
             with_reducible refine (bits_Fits.calls kj60 a1_0 a1_1 a1_2 a2_0 a2_1 a2_2 a3 t733 _ A83.out).mono ?_
             rintro e w122 ⟨rfl, hb⟩
             refine ⟨_, rfl, ?_⟩
             replace BK697 := bk1 BK697 hb
             replace BK698 := bk1 BK698 hb
             replace BK699 := bk1 BK699 hb
             replace BK702 := bk1 BK702 hb
             replace BK703 := bk1 BK703 hb
             replace HB := hb1 HB hb
             (try clear hb)
             refine hK.out _ _ (c3 BK698 (c3 BK699 (c3 BK703 (c3 BK697 (d3 BK702))))) (fun hHeld => ?_)
             clear hK K
             refine nA ?_
             refine pA 7 52 (tb 33 255) HT_ ?_
             refine pU 8 53 (tb 33 511) HT_ ?_
             refine pU 9 54 (tb 33 1023) HT_ ?_
             refine pU 10 55 (tb 33 2047) HT_ ?_
             refine pU 11 56 (tb 33 4095) HT_ ?_
             refine pU 12 57 (tb 33 8191) HT_ ?_
             refine pU 13 58 (tb 33 16383) HT_ ?_
             refine pA 14 59 (tb 33 32767) HT_ ?_
             refine pA 15 60 (tb 33 65535) HT_ ?_
             refine pA 16 61 (tb 33 131071) HT_ ?_
             refine pA 17 62 (tb 33 262143) HT_ ?_
             refine tA 18 63 (tb 33 524287) HT_ HW_ hHeld ?_
             refine tA 19 64 (tb 33 1048575) HT_ HW_ hHeld ?_
             refine tA 21 66 (tb 33 3145727) HT_ HW_ hHeld ?_
             refine oA 20 (some 65) (tb 33 4194303) HT_ (fun K hK => ?_)
             refine gA Tryd.func44 #[.agg #[.int .i64 a1_0, .int .u64 a1_1, .int .u64 a1_2], .agg #[.int .i64 a2_0, .int .u64 a2_1, .int .u64 a2_2]] ?_
             with_reducible refine (bits_Resolve.calls kj60 a1_0 a1_1 a1_2 a2_0 a2_1 a2_2 t747 t748 t749 _ A117.out).mono ?_
             rintro e w123 ⟨rfl, hb⟩
             refine ⟨_, rfl, ?_⟩
             replace BK697 := bk1 BK697 hb
             replace BK698 := bk1 BK698 hb
             replace BK699 := bk1 BK699 hb
             replace BK702 := bk1 BK702 hb
             replace BK703 := bk1 BK703 hb
             replace HB := hb1 HB hb
             (try clear hb)
             refine hK.out _ _ (c3 BK698 (c3 BK699 (c3 BK703 (c3 BK697 (d3 BK702))))) (fun hHeld => ?_)
             clear hK K
             refine nA ?_
             refine pA 22 67 (tb 33 8388607) HT_ ?_
             refine pA 23 68 (tb 33 16777215) HT_ ?_
             refine pA 24 69 (tb 33 33554431) HT_ ?_
             refine tA 25 70 (tb 33 67108863) HT_ HW_ hHeld ?_
             refine tA 26 71 (tb 33 134217727) HT_ HW_ hHeld ?_
             refine tA 27 72 (tb 33 268435455) HT_ HW_ hHeld ?_
             refine tA 29 74 (tb 33 805306367) HT_ HW_ hHeld ?_
             refine oA 28 (some 73) (tb 33 1073741823) HT_ (fun K hK => ?_)
             refine gA Tryd.func45 #[.agg #[.int .i64 a0_0, .int .u64 a0_1, .int .u64 a0_2], .agg #[.int .i64 a1_0, .int .u64 a1_1, .int .u64 a1_2], .agg #[.int .i64 a2_0, .int .u64 a2_1, .int .u64 a2_2]] ?_
             with_reducible refine (bits_Cond.calls kj60 a0_0 a0_1 a0_2 a1_0 a1_1 a1_2 a2_0 a2_1 a2_2 t750 t751 t752 _ A119.out).mono ?_
             rintro e w124 ⟨rfl, hb⟩
             refine ⟨_, rfl, ?_⟩
             replace BK697 := bk1 BK697 hb
             replace BK698 := bk1 BK698 hb
             replace BK699 := bk1 BK699 hb
             replace BK702 := bk1 BK702 hb
             replace BK703 := bk1 BK703 hb
             replace HB := hb1 HB hb
             (try clear hb)
             refine hK.out _ _ (c3 BK698 (c3 BK699 (c3 BK703 (c3 BK697 (d3 BK702))))) (fun hHeld => ?_)
             clear hK K
             refine nA ?_
             refine pA 30 75 (tb 33 2147483647) HT_ ?_
             refine pA 31 76 (tb 33 4294967295) HT_ ?_
             refine pA 32 8 (tb 33 8589934591) HT_ ?_
             refine done_ (done_of HT_.out (by kernel_rfl)) ?_
             try go_wp2
             go_ret
             exact ⟨by rfl, by repeat (with_reducible exact HB.out)⟩
            ·rw [if_neg c118] at H
             have c118b0 : (t747 == x704000_32 && (t748 == x704001_32 && (t749 == x704002_32))) = false := by simpa using c118
             (try (have c118b1 : decide (t747 = x704000_32 && (t748 == x704001_32 && (t749 == x704002_32))) = false := by simpa using c118))
             (try (have c118b2 : (t747 == x704000_32 && (t748 == x704001_32 && (t749 == x704002_32))) = false := by simpa using c118))
             (try (have c118b3 : ¬ (t747 = x704000_32 && (t748 == x704001_32 && (t749 == x704002_32))) := by simpa using c118))
             clear c118
             obtain rfl := Option.some.inj H
             try go_wp2
             replace BK697 := bkd BK697
             replace BK698 := bkd BK698
             replace BK699 := bkd BK699
             replace BK702 := bkd BK702
             replace BK703 := bkd BK703
             replace HB := hbd HB
             refine start_ (n := 33) (S := fun w' => w'.cell? ⟨gb698, 0, none⟩ = some (.int .i64 a1_0) ∧ w'.cell? ⟨gb698, 1, none⟩ = some (.int .u64 a1_1) ∧ w'.cell? ⟨gb698, 2, none⟩ = some (.int .u64 a1_2) ∧ w'.cell? ⟨gb699, 0, none⟩ = some (.int .i64 a2_0) ∧ w'.cell? ⟨gb699, 1, none⟩ = some (.int .u64 a2_1) ∧ w'.cell? ⟨gb699, 2, none⟩ = some (.int .u64 a2_2) ∧ w'.cell? ⟨gb703, 0, none⟩ = some (.int .i64 x704000_32) ∧ w'.cell? ⟨gb703, 1, none⟩ = some (.int .u64 x704001_32) ∧ w'.cell? ⟨gb703, 2, none⟩ = some (.int .u64 x704002_32)) (ds := []) (tb 33 0) (by kernel_rfl) rfl (by kernel_rfl) (c3 BK698 (c3 BK699 (d3 BK703))) (fun hHeld => ?_); refine with_tabW masklaw1_BitsChosen.tab7 masklaw1_BitsChosen.bits7 (fun HT_ HW_ => ?_)
             generalize wc.drew = w125 at BK697 BK698 BK699 BK702 BK703 HB hHeld ⊢
             refine oA 0 (some 45) (tb 33 1) HT_ (fun K hK => ?_)
             refine gA Tryd.func11 #[] ?_
             with_reducible refine (masklaw1_vectors.calls kj60  true _ A81.out).mono ?_
             rintro e w126 ⟨rfl, hb⟩
             refine ⟨_, rfl, ?_⟩
             replace BK697 := bk1 BK697 hb
             replace BK698 := bk1 BK698 hb
             replace BK699 := bk1 BK699 hb
             replace BK702 := bk1 BK702 hb
             replace BK703 := bk1 BK703 hb
             replace HB := hb1 HB hb
             (try clear hb)
             refine hK.out _ _ (c3 BK698 (c3 BK699 (d3 BK703))) (fun hHeld => ?_)
             clear hK K
             refine nA ?_
             refine pA 1 46 (tb 33 3) HT_ ?_
             refine pA 4 49 (tb 33 19) HT_ ?_
             refine pA 6 51 (tb 33 83) HT_ ?_
             refine tA 2 47 (tb 33 87) HT_ HW_ hHeld ?_
             refine tA 3 48 (tb 33 95) HT_ HW_ hHeld ?_
             refine oA 5 (some 50) (tb 33 127) HT_ (fun K hK => ?_)
             refine gA Tryd.func42 #[.agg #[.int .i64 a1_0, .int .u64 a1_1, .int .u64 a1_2], .agg #[.int .i64 a2_0, .int .u64 a2_1, .int .u64 a2_2], .int .i64 a3] ?_
             with_reducible refine (bits_Fits.calls kj60 a1_0 a1_1 a1_2 a2_0 a2_1 a2_2 a3 t733 _ A83.out).mono ?_
             rintro e w127 ⟨rfl, hb⟩
             refine ⟨_, rfl, ?_⟩
             replace BK697 := bk1 BK697 hb
             replace BK698 := bk1 BK698 hb
             replace BK699 := bk1 BK699 hb
             replace BK702 := bk1 BK702 hb
             replace BK703 := bk1 BK703 hb
             replace HB := hb1 HB hb
             (try clear hb)
             refine hK.out _ _ (c3 BK698 (c3 BK699 (d3 BK703))) (fun hHeld => ?_)
             clear hK K
             refine nA ?_
             refine pA 7 52 (tb 33 255) HT_ ?_
             refine pU 8 53 (tb 33 511) HT_ ?_
             refine pU 9 54 (tb 33 1023) HT_ ?_
             refine pU 10 55 (tb 33 2047) HT_ ?_
             refine pU 11 56 (tb 33 4095) HT_ ?_
             refine pU 12 57 (tb 33 8191) HT_ ?_
             refine pU 13 58 (tb 33 16383) HT_ ?_
             refine pA 14 59 (tb 33 32767) HT_ ?_
             refine pA 15 60 (tb 33 65535) HT_ ?_
             refine pA 16 61 (tb 33 131071) HT_ ?_
             refine pA 17 62 (tb 33 262143) HT_ ?_
             refine tA 18 63 (tb 33 524287) HT_ HW_ hHeld ?_
             refine tA 19 64 (tb 33 1048575) HT_ HW_ hHeld ?_
             refine tA 21 66 (tb 33 3145727) HT_ HW_ hHeld ?_
             refine oA 20 (some 65) (tb 33 4194303) HT_ (fun K hK => ?_)
             refine gA Tryd.func44 #[.agg #[.int .i64 a1_0, .int .u64 a1_1, .int .u64 a1_2], .agg #[.int .i64 a2_0, .int .u64 a2_1, .int .u64 a2_2]] ?_
             with_reducible refine (bits_Resolve.calls kj60 a1_0 a1_1 a1_2 a2_0 a2_1 a2_2 t747 t748 t749 _ A117.out).mono ?_
             rintro e w128 ⟨rfl, hb⟩
             refine ⟨_, rfl, ?_⟩
             replace BK697 := bk1 BK697 hb
             replace BK698 := bk1 BK698 hb
             replace BK699 := bk1 BK699 hb
             replace BK702 := bk1 BK702 hb
             replace BK703 := bk1 BK703 hb
             replace HB := hb1 HB hb
             (try clear hb)
             refine hK.out _ _ (c3 BK698 (c3 BK699 (d3 BK703))) (fun hHeld => ?_)
             clear hK K
             refine nA ?_
             refine pA 22 67 (tb 33 8388607) HT_ ?_
             refine pA 23 68 (tb 33 16777215) HT_ ?_
             refine pA 24 69 (tb 33 33554431) HT_ ?_
             refine pU 25 70 (tb 33 67108863) HT_ ?_
             refine pU 26 71 (tb 33 134217727) HT_ ?_
             refine pU 27 72 (tb 33 268435455) HT_ ?_
             refine pU 28 73 (tb 33 536870911) HT_ ?_
             refine pU 29 74 (tb 33 1073741823) HT_ ?_
             refine pU 30 75 (tb 33 2147483647) HT_ ?_
             refine pA 31 76 (tb 33 4294967295) HT_ ?_
             refine pA 32 8 (tb 33 8589934591) HT_ ?_
             refine done_ (done_of HT_.out (by kernel_rfl)) ?_
             try go_wp2
             go_ret
             exact ⟨by rfl, by repeat (with_reducible exact HB.out)⟩
           ·rw [if_neg c116] at H
            have c116b0 : (t733 == false) = false := by simpa using c116
            (try (have c116b1 : decide (t733 = false) = false := by simpa using c116))
            (try (have c116b2 : (t733 == false) = false := by simpa using c116))
            (try (have c116b3 : ¬ (t733 = false) := by simpa using c116))
            clear c116
            obtain rfl := Option.some.inj H
            try go_wp2
            replace BK697 := bkd BK697
            replace BK698 := bkd BK698
            replace BK699 := bkd BK699
            replace BK702 := bkd BK702
            replace BK703 := bkd BK703
            replace HB := hbd HB
            refine start_ (n := 33) (S := fun w' => w'.cell? ⟨gb698, 0, none⟩ = some (.int .i64 a1_0) ∧ w'.cell? ⟨gb698, 1, none⟩ = some (.int .u64 a1_1) ∧ w'.cell? ⟨gb698, 2, none⟩ = some (.int .u64 a1_2) ∧ w'.cell? ⟨gb699, 0, none⟩ = some (.int .i64 a2_0) ∧ w'.cell? ⟨gb699, 1, none⟩ = some (.int .u64 a2_1) ∧ w'.cell? ⟨gb699, 2, none⟩ = some (.int .u64 a2_2)) (ds := []) (tb 33 0) (by kernel_rfl) rfl (by kernel_rfl) (c3 BK698 (d3 BK699)) (fun hHeld => ?_); refine with_tabW masklaw1_BitsChosen.tab7 masklaw1_BitsChosen.bits7 (fun HT_ HW_ => ?_)
            generalize wc.drew = w129 at BK697 BK698 BK699 BK702 BK703 HB hHeld ⊢
            refine oA 0 (some 45) (tb 33 1) HT_ (fun K hK => ?_)
            refine gA Tryd.func11 #[] ?_
            with_reducible refine (masklaw1_vectors.calls kj60  true _ A81.out).mono ?_
            rintro e w130 ⟨rfl, hb⟩
            refine ⟨_, rfl, ?_⟩
            replace BK697 := bk1 BK697 hb
            replace BK698 := bk1 BK698 hb
            replace BK699 := bk1 BK699 hb
            replace BK702 := bk1 BK702 hb
            replace BK703 := bk1 BK703 hb
            replace HB := hb1 HB hb
            (try clear hb)
            refine hK.out _ _ (c3 BK698 (d3 BK699)) (fun hHeld => ?_)
            clear hK K
            refine nA ?_
            refine pA 1 46 (tb 33 3) HT_ ?_
            refine pA 4 49 (tb 33 19) HT_ ?_
            refine pA 6 51 (tb 33 83) HT_ ?_
            refine tA 2 47 (tb 33 87) HT_ HW_ hHeld ?_
            refine tA 3 48 (tb 33 95) HT_ HW_ hHeld ?_
            refine oA 5 (some 50) (tb 33 127) HT_ (fun K hK => ?_)
            refine gA Tryd.func42 #[.agg #[.int .i64 a1_0, .int .u64 a1_1, .int .u64 a1_2], .agg #[.int .i64 a2_0, .int .u64 a2_1, .int .u64 a2_2], .int .i64 a3] ?_
            with_reducible refine (bits_Fits.calls kj60 a1_0 a1_1 a1_2 a2_0 a2_1 a2_2 a3 t733 _ A83.out).mono ?_
            rintro e w131 ⟨rfl, hb⟩
            refine ⟨_, rfl, ?_⟩
            replace BK697 := bk1 BK697 hb
            replace BK698 := bk1 BK698 hb
            replace BK699 := bk1 BK699 hb
            replace BK702 := bk1 BK702 hb
            replace BK703 := bk1 BK703 hb
            replace HB := hb1 HB hb
            (try clear hb)
            refine hK.out _ _ (c3 BK698 (d3 BK699)) (fun hHeld => ?_)
            clear hK K
            refine nA ?_
            refine pA 7 52 (tb 33 255) HT_ ?_
            refine pU 8 53 (tb 33 511) HT_ ?_
            refine pU 9 54 (tb 33 1023) HT_ ?_
            refine pU 10 55 (tb 33 2047) HT_ ?_
            refine pU 11 56 (tb 33 4095) HT_ ?_
            refine pU 12 57 (tb 33 8191) HT_ ?_
            refine pU 13 58 (tb 33 16383) HT_ ?_
            refine pA 14 59 (tb 33 32767) HT_ ?_
            refine pA 15 60 (tb 33 65535) HT_ ?_
            refine pA 16 61 (tb 33 131071) HT_ ?_
            refine pA 17 62 (tb 33 262143) HT_ ?_
            refine pU 18 63 (tb 33 524287) HT_ ?_
            refine pU 19 64 (tb 33 1048575) HT_ ?_
            refine pU 20 65 (tb 33 2097151) HT_ ?_
            refine pU 21 66 (tb 33 4194303) HT_ ?_
            refine pU 22 67 (tb 33 8388607) HT_ ?_
            refine pA 23 68 (tb 33 16777215) HT_ ?_
            refine pA 24 69 (tb 33 33554431) HT_ ?_
            refine pU 25 70 (tb 33 67108863) HT_ ?_
            refine pU 26 71 (tb 33 134217727) HT_ ?_
            refine pU 27 72 (tb 33 268435455) HT_ ?_
            refine pU 28 73 (tb 33 536870911) HT_ ?_
            refine pU 29 74 (tb 33 1073741823) HT_ ?_
            refine pU 30 75 (tb 33 2147483647) HT_ ?_
            refine pA 31 76 (tb 33 4294967295) HT_ ?_
            refine pA 32 8 (tb 33 8589934591) HT_ ?_
            refine done_ (done_of HT_.out (by kernel_rfl)) ?_
            try go_wp2
            go_ret
            exact ⟨by rfl, by repeat (with_reducible exact HB.out)⟩
         ·replace c82 := Bool.eq_false_iff.mpr c82
          subst c82
          have H1 : (some false) = some r := by rw [if_neg (show ¬ (false = true) by decide)] at H; exact H
          clear H
          have H := H1
          clear H1
          obtain rfl := Option.some.inj H
          try go_wp2
          replace BK697 := bkd BK697
          replace BK698 := bkd BK698
          replace BK699 := bkd BK699
          replace BK702 := bkd BK702
          replace BK703 := bkd BK703
          replace HB := hbd HB
          refine start_ (n := 33) (S := fun w' => True) (ds := []) (tb 33 0) (by kernel_rfl) rfl (by kernel_rfl) trivial (fun hHeld => ?_); refine with_tabW masklaw1_BitsChosen.tab7 masklaw1_BitsChosen.bits7 (fun HT_ HW_ => ?_)
          generalize wc.drew = w132 at BK697 BK698 BK699 BK702 BK703 HB hHeld ⊢
          refine oA 0 (some 45) (tb 33 1) HT_ (fun K hK => ?_)
          refine gA Tryd.func11 #[] ?_
          with_reducible refine (masklaw1_vectors.calls kj60  false _ A81.out).mono ?_
          rintro e w133 ⟨rfl, hb⟩
          refine ⟨_, rfl, ?_⟩
          replace BK697 := bk1 BK697 hb
          replace BK698 := bk1 BK698 hb
          replace BK699 := bk1 BK699 hb
          replace BK702 := bk1 BK702 hb
          replace BK703 := bk1 BK703 hb
          replace HB := hb1 HB hb
          (try clear hb)
          refine hK.out _ _ trivial (fun hHeld => ?_)
          clear hK K
          refine nA ?_
          refine pA 1 46 (tb 33 3) HT_ ?_
          refine pU 2 47 (tb 33 7) HT_ ?_
          refine pU 3 48 (tb 33 15) HT_ ?_
          refine pU 4 49 (tb 33 31) HT_ ?_
          refine pU 5 50 (tb 33 63) HT_ ?_
          refine pU 6 51 (tb 33 127) HT_ ?_
          refine pU 7 52 (tb 33 255) HT_ ?_
          refine pU 8 53 (tb 33 511) HT_ ?_
          refine pU 9 54 (tb 33 1023) HT_ ?_
          refine pU 10 55 (tb 33 2047) HT_ ?_
          refine pU 11 56 (tb 33 4095) HT_ ?_
          refine pU 12 57 (tb 33 8191) HT_ ?_
          refine pU 13 58 (tb 33 16383) HT_ ?_
          refine pU 14 59 (tb 33 32767) HT_ ?_
          refine pU 15 60 (tb 33 65535) HT_ ?_
          refine pA 16 61 (tb 33 131071) HT_ ?_
          refine pA 17 62 (tb 33 262143) HT_ ?_
          refine pU 18 63 (tb 33 524287) HT_ ?_
          refine pU 19 64 (tb 33 1048575) HT_ ?_
          refine pU 20 65 (tb 33 2097151) HT_ ?_
          refine pU 21 66 (tb 33 4194303) HT_ ?_
          refine pU 22 67 (tb 33 8388607) HT_ ?_
          refine pA 23 68 (tb 33 16777215) HT_ ?_
          refine pA 24 69 (tb 33 33554431) HT_ ?_
          refine pU 25 70 (tb 33 67108863) HT_ ?_
          refine pU 26 71 (tb 33 134217727) HT_ ?_
          refine pU 27 72 (tb 33 268435455) HT_ ?_
          refine pU 28 73 (tb 33 536870911) HT_ ?_
          refine pU 29 74 (tb 33 1073741823) HT_ ?_
          refine pU 30 75 (tb 33 2147483647) HT_ ?_
          refine pA 31 76 (tb 33 4294967295) HT_ ?_
          refine pA 32 8 (tb 33 8589934591) HT_ ?_
          refine done_ (done_of HT_.out (by kernel_rfl)) ?_
          try go_wp2
          go_ret
          exact ⟨by rfl, by repeat (with_reducible exact HB.out)⟩
end Go.Proofs.YtfigblfjogpojaaDoor.PBits
end
