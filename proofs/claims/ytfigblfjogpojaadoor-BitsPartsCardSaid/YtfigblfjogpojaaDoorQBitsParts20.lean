/- Part 21 of the proof of BitsPartsCardSaid: The law BitsParts: for all arguments it returns true; each argument reads behind the call as it read before. Out of the plain theorem of YtfigblfjogpojaaDoorPureBitsParts and the printed contract. -/
import Derived.Test.YtfigblfjogpojaaDoorQBitsParts12
import Derived.Test.YtfigblfjogpojaaDoorQBitsParts14
import Derived.Test.YtfigblfjogpojaaDoorQBitsParts13
import Derived.Test.YtfigblfjogpojaaDoorQBitsParts18
section
namespace Go.Proofs.YtfigblfjogpojaaDoor.PBits
open Go.RowKit Go.Proofs.YtfigblfjogpojaaDoorW.PrintWords Go.Proofs.YtfigblfjogpojaaDoorW.PrintLast Go.Proofs.YtfigblfjogpojaaDoorW.PrintMore
attribute [local go_sem] max2_int min2_int max_two min_two max_three min_three max_four min_four
set_option linter.unusedVariables false
set_option linter.unusedSimpArgs false
def bits_All.j0 : Nat → Int → Int → Bool → Option (Int × Int × Int)
 | 0, _, _, _ => none
 | k + 1, x0, x1, x11 => if x11 = true then (some (0, 0, 0)) else ((bits_mask.f x0).bind fun t104 => (if x1 = 48 then (some (x0, 0, 0)) else (if x1 = 49 then (some (x0, t104, 0)) else (if x1 = 120 then (some (x0, t104, t104)) else (if x1 = 122 then (some (x0, 0, t104)) else (some (0, 0, 0)))))))
def bits_All.f (k : Nat) (a0 : Int) (a1 : Int) : Option (Int × Int × Int) := if a0 < 1 then (bits_All.j0 k a0 a1 true) else (bits_All.j0 k a0 a1 (decide (a0 > 64)))
theorem bits_All.mono_l : ∀ k, (∀ y0 y1 y2, LeO (bits_All.j0 k y0 y1 y2) (bits_All.j0 (k + 1) y0 y1 y2))
 | 0 => fun _ _ _ r h => by simp [bits_All.j0] at h
 | k + 1 => by
  have ih0 := bits_All.mono_l k
  ·intro y0 y1 y2
   unfold bits_All.j0
   repeat' first
   | (with_reducible exact ih0 _ _ _)
   | (with_reducible exact LeO.refl _)
   | (with_reducible exact LeO.none _)
   | (with_reducible refine LeO.ite ?_ ?_)
   | (with_reducible refine LeO.bind ?_ (fun _ => ?_))
   | exact ih0 _ _ _
   | exact LeO.none _
   | refine LeO.ite ?_ ?_
   | refine LeO.bind ?_ (fun _ => ?_)
theorem bits_All.mono : ∀ a0 a1 k, LeO (bits_All.f k a0 a1) (bits_All.f (k + 1) a0 a1) := by
 intro a0 a1 k
 have ih0 := bits_All.mono_l k
 unfold bits_All.f
 repeat' first
   | (with_reducible exact ih0 _ _ _)
   | (with_reducible exact LeO.refl _)
   | (with_reducible exact LeO.none _)
   | (with_reducible refine LeO.ite ?_ ?_)
   | (with_reducible refine LeO.bind ?_ (fun _ => ?_))
   | exact ih0 _ _ _
   | exact LeO.none _
   | refine LeO.ite ?_ ?_
   | refine LeO.bind ?_ (fun _ => ?_)
set_option maxHeartbeats 8000000 in
set_option maxRecDepth 100000 in
theorem bits_All.calls (k : Nat) (a0 : Int) (a1 : Int) (r1 : Int) (r2 : Int) (r3 : Int) (w : World) (h : bits_All.f k a0 a1 = some (r1, r2, r3)) :
  Calls Tryd.prog 25 #[.int .i64 a0, .int .u8 a1] w fun e w' => e = .returned (.agg #[.int .i64 r1, .int .u64 r2, .int .u64 r3]) ∧ Below w.heap.size w w' := by
 have hu24 := Tryd.underlying24
 have HB := Aside0.mk (Below.refl w.heap.size w)
 have H : (if a0 < 1 then (bits_All.j0 k a0 a1 true) else (bits_All.j0 k a0 a1 (decide (a0 > 64)))) = some (r1, r2, r3) := h
 clear h
 have HC3 := Aside0.mk H
 clear H
 go_enter Tryd.func25, Tryd.ntmps25
 go_upto_region 1 with (((with_reducible refine gate_dst (N := 4) rfl ?_); refine box_event ?hg (N := 4) ?hd (cs := #[.int .i64 0, .int .u64 0, .int .u64 0]) (t := 24) ?hr ?_; (case hd => rfl); (case hg => rfl); (case hr => (go_simp; done)); intro gb103 hg w4 hbox hb; have BK103 := Aside0.mk (hbox); have GW103 := ge1 HB hg; have GE103 := ge1 HB hg; replace HB := hb1 HB hb; clear hb hbox hg))
 (try simp only [Act.put, List.setIfInBounds_toArray, List.set_cons_zero, List.set_cons_succ])
 go_cut [11] (fun v11 wc => ∃ (kq : Nat) (x11_2 : Bool), v11 = .bool x11_2 ∧ Aside0 (bits_All.j0 kq a0 a1 x11_2 = some (r1, r2, r3)) ∧ Aside0 (kq ≤ k) ∧ Aside0 (wc.heap[gb103]? = some (.cells #[.int .i64 0, .int .u64 0, .int .u64 0] 24 (0, 0))) ∧ Aside0 (Below w.heap.size w wc))
 case first =>
  have H := HC3.out
  clear HC3
  by_cases c5 : a0 < 1
  ·rw [if_pos c5] at H
   have c5b0 : decide (a0 < 1) = true := decide_eq_true c5
   clear c5
   (skip)
   have H' := Aside0.mk H
   clear H
   go_wp2
   go_meet
   case rel => exact ⟨_, (true), (by rfl), H', ⟨by omega⟩, ⟨by exact BK103.out⟩, ⟨by repeat (with_reducible exact HB.out)⟩⟩
  ·rw [if_neg c5] at H
   have c5b0 : decide (a0 < 1) = false := decide_eq_false c5
   clear c5
   (skip)
   have H' := Aside0.mk H
   clear H
   go_wp2
   go_meet
   case rel => exact ⟨_, (decide (a0 > 64)), (by rfl), H', ⟨by omega⟩, ⟨by exact BK103.out⟩, ⟨by repeat (with_reducible exact HB.out)⟩⟩
 case rest =>
  clear HC3
  obtain ⟨kq, x11_2, rfl, HA, HJ2, BK103, HB⟩ := hcut
  cases kq with
  | zero => exact absurd HA.out (by simp [bits_All.j0])
  | succ kj2 =>
   have H := HA.out
   clear HA
   simp only [bits_All.j0] at H
   by_cases c6 : x11_2 = true
   ·subst c6
    have H1 : (some (0, 0, 0)) = some (r1, r2, r3) := by rw [if_pos rfl] at H; exact H
    clear H
    have H := H1
    clear H1
    simp only [Option.some.injEq, Prod.mk.injEq] at H
    obtain ⟨rfl, rfl, rfl⟩ := H
    obtain ⟨hcz7_0, hcz7_1, hcz7_2⟩ := sq_cells3 (W := wc) (g := gb103) BK103.out; obtain ⟨hfz7_0, hfz7_1, hfz7_2⟩ := sq_frozen3 BK103.out
    go_wp2
    refine bodyPost_ret (results_cell_row rfl _ _ gb103 24 #[.int .i64 0, .int .u64 0, .int .u64 0] (0, 0) _ rfl (by refine blk_put (cs := #[.int .i64 0, .int .u64 0, .int .u64 0]) ?_ 2 _ rfl; refine blk_put (cs := #[.int .i64 0, .int .u64 0, .int .u64 0]) ?_ 1 _ rfl; refine blk_put (cs := #[.int .i64 0, .int .u64 0, .int .u64 0]) ?_ 0 _ rfl; exact BK103.out) Tryd.underlying24 rfl (by kernel_rfl)) rfl ?_
    exact ⟨by rfl, by repeat (with_reducible first | exact HB.out | refine below_set ?_ GE103.out)⟩
   ·replace c6 := Bool.eq_false_iff.mpr c6
    subst c6
    have H1 : ((bits_mask.f a0).bind fun t104 => (if a1 = 48 then (some (a0, 0, 0)) else (if a1 = 49 then (some (a0, t104, 0)) else (if a1 = 120 then (some (a0, t104, t104)) else (if a1 = 122 then (some (a0, 0, t104)) else (some (0, 0, 0))))))) = some (r1, r2, r3) := by rw [if_neg (show ¬ (false = true) by decide)] at H; exact H
    clear H
    have H := H1
    clear H1
    replace H := Option.bind_eq_some_iff.mp H
    obtain ⟨t104, A80, H⟩ := H
    replace H : (if a1 = 48 then (some (a0, 0, 0)) else (if a1 = 49 then (some (a0, t104, 0)) else (if a1 = 120 then (some (a0, t104, t104)) else (if a1 = 122 then (some (a0, 0, t104)) else (some (0, 0, 0)))))) = some (r1, r2, r3) := H
    have A8 := Aside0.mk A80
    clear A80
    by_cases c9 : a1 = 48
    ·rw [if_pos c9] at H
     have c9b0 : (a1 == 48) = true := beq_iff_eq.mpr c9
     have c9b1 : (a1 != 48) = false := bne_eq_false_iff_eq.mpr c9
     clear c9
     simp only [Option.some.injEq, Prod.mk.injEq] at H
     obtain ⟨rfl, rfl, rfl⟩ := H
     go_wp2_with (((with_reducible refine gate_callee (f := 58) rfl ?_); refine goesL_ (some 14) rfl rfl Tryd.func58 (by kernel_rfl) rfl #[.int .i64 a0] rfl (by (try simp only [List.map_toArray, List.map_cons, List.map_nil]); rfl) ?_; (with_reducible refine (bits_mask.calls a0 t104 _ A8.out).mono ?_); rintro e w' ⟨rfl, ⟨nd, rfl⟩⟩; refine ⟨_, rfl, ?_⟩; (try (rw [drewN_self wc]; generalize hq_ : World.drewN wc _ = wc; have n0_ : Aside0 (wc.heap[gb103]? = some (.cells #[.int .i64 0, .int .u64 0, .int .u64 0] 24 (0, 0))) := ⟨by rw [← hq_]; exact (by (with_reducible repeat (refine blk_drewN ?_ _)); exact BK103.out)⟩; have n1_ : Aside0 (Below w.heap.size w wc) := ⟨by rw [← hq_]; exact (by repeat (with_reducible first | exact HB.out | apply pw_below_drewN))⟩; clear BK103 HB hq_; have BK103 := n0_; have HB := n1_; clear n0_ n1_)); have hcz10_0 : wc.cell? ⟨gb103, 0, none⟩ = some (.int .i64 0) := (blk_cell BK103.out 0).trans rfl; have hcz10_1 : wc.cell? ⟨gb103, 1, none⟩ = some (.int .u64 0) := (blk_cell BK103.out 1).trans rfl; have hcz10_2 : wc.cell? ⟨gb103, 2, none⟩ = some (.int .u64 0) := (blk_cell BK103.out 2).trans rfl; have hfz10_0 := blk_frozen BK103.out 0; have hfz10_1 := blk_frozen BK103.out 1; have hfz10_2 := blk_frozen BK103.out 2))
     refine bodyPost_ret (results_cell_row rfl _ _ gb103 24 #[.int .i64 a0, .int .u64 0, .int .u64 0] (0, 0) _ rfl (by refine blk_put (cs := #[.int .i64 a0, .int .u64 0, .int .u64 0]) ?_ 2 _ rfl; refine blk_put (cs := #[.int .i64 a0, .int .u64 0, .int .u64 0]) ?_ 1 _ rfl; refine blk_put (cs := #[.int .i64 0, .int .u64 0, .int .u64 0]) ?_ 0 _ rfl; exact BK103.out) Tryd.underlying24 rfl (by kernel_rfl)) rfl ?_
     exact ⟨by rfl, by repeat (with_reducible first | exact HB.out | refine below_set ?_ GE103.out)⟩
    ·rw [if_neg c9] at H
     have c9b0 : (a1 == 48) = false := beq_eq_false_iff_ne.mpr c9
     have c9b1 : (a1 != 48) = true := bne_iff_ne.mpr c9
     by_cases c11 : a1 = 49
     ·rw [if_pos c11] at H
      have c11b0 : (a1 == 49) = true := beq_iff_eq.mpr c11
      have c11b1 : (a1 != 49) = false := bne_eq_false_iff_eq.mpr c11
      clear c11
      simp only [Option.some.injEq, Prod.mk.injEq] at H
      obtain ⟨rfl, rfl, rfl⟩ := H
      go_wp2_with (((with_reducible refine gate_callee (f := 58) rfl ?_); refine goesL_ (some 14) rfl rfl Tryd.func58 (by kernel_rfl) rfl #[.int .i64 a0] rfl (by (try simp only [List.map_toArray, List.map_cons, List.map_nil]); rfl) ?_; (with_reducible refine (bits_mask.calls a0 t104 _ A8.out).mono ?_); rintro e w' ⟨rfl, ⟨nd, rfl⟩⟩; refine ⟨_, rfl, ?_⟩; (try (rw [drewN_self wc]; generalize hq_ : World.drewN wc _ = wc; have n0_ : Aside0 (wc.heap[gb103]? = some (.cells #[.int .i64 0, .int .u64 0, .int .u64 0] 24 (0, 0))) := ⟨by rw [← hq_]; exact (by (with_reducible repeat (refine blk_drewN ?_ _)); exact BK103.out)⟩; have n1_ : Aside0 (Below w.heap.size w wc) := ⟨by rw [← hq_]; exact (by repeat (with_reducible first | exact HB.out | apply pw_below_drewN))⟩; clear BK103 HB hq_; have BK103 := n0_; have HB := n1_; clear n0_ n1_)); have hcz12_0 : wc.cell? ⟨gb103, 0, none⟩ = some (.int .i64 0) := (blk_cell BK103.out 0).trans rfl; have hcz12_1 : wc.cell? ⟨gb103, 1, none⟩ = some (.int .u64 0) := (blk_cell BK103.out 1).trans rfl; have hcz12_2 : wc.cell? ⟨gb103, 2, none⟩ = some (.int .u64 0) := (blk_cell BK103.out 2).trans rfl; have hfz12_0 := blk_frozen BK103.out 0; have hfz12_1 := blk_frozen BK103.out 1; have hfz12_2 := blk_frozen BK103.out 2))
      refine bodyPost_ret (results_cell_row rfl _ _ gb103 24 #[.int .i64 a0, .int .u64 t104, .int .u64 0] (0, 0) _ rfl (by refine blk_put (cs := #[.int .i64 a0, .int .u64 t104, .int .u64 0]) ?_ 2 _ rfl; refine blk_put (cs := #[.int .i64 a0, .int .u64 0, .int .u64 0]) ?_ 1 _ rfl; refine blk_put (cs := #[.int .i64 0, .int .u64 0, .int .u64 0]) ?_ 0 _ rfl; exact BK103.out) Tryd.underlying24 rfl (by kernel_rfl)) rfl ?_
      exact ⟨by rfl, by repeat (with_reducible first | exact HB.out | refine below_set ?_ GE103.out)⟩
     ·rw [if_neg c11] at H
      have c11b0 : (a1 == 49) = false := beq_eq_false_iff_ne.mpr c11
      have c11b1 : (a1 != 49) = true := bne_iff_ne.mpr c11
      by_cases c13 : a1 = 120
      ·rw [if_pos c13] at H
       have c13b0 : (a1 == 120) = true := beq_iff_eq.mpr c13
       have c13b1 : (a1 != 120) = false := bne_eq_false_iff_eq.mpr c13
       clear c13
       simp only [Option.some.injEq, Prod.mk.injEq] at H
       obtain ⟨rfl, rfl, rfl⟩ := H
       go_wp2_with (((with_reducible refine gate_callee (f := 58) rfl ?_); refine goesL_ (some 14) rfl rfl Tryd.func58 (by kernel_rfl) rfl #[.int .i64 a0] rfl (by (try simp only [List.map_toArray, List.map_cons, List.map_nil]); rfl) ?_; (with_reducible refine (bits_mask.calls a0 t104 _ A8.out).mono ?_); rintro e w' ⟨rfl, ⟨nd, rfl⟩⟩; refine ⟨_, rfl, ?_⟩; (try (rw [drewN_self wc]; generalize hq_ : World.drewN wc _ = wc; have n0_ : Aside0 (wc.heap[gb103]? = some (.cells #[.int .i64 0, .int .u64 0, .int .u64 0] 24 (0, 0))) := ⟨by rw [← hq_]; exact (by (with_reducible repeat (refine blk_drewN ?_ _)); exact BK103.out)⟩; have n1_ : Aside0 (Below w.heap.size w wc) := ⟨by rw [← hq_]; exact (by repeat (with_reducible first | exact HB.out | apply pw_below_drewN))⟩; clear BK103 HB hq_; have BK103 := n0_; have HB := n1_; clear n0_ n1_)); have hcz14_0 : wc.cell? ⟨gb103, 0, none⟩ = some (.int .i64 0) := (blk_cell BK103.out 0).trans rfl; have hcz14_1 : wc.cell? ⟨gb103, 1, none⟩ = some (.int .u64 0) := (blk_cell BK103.out 1).trans rfl; have hcz14_2 : wc.cell? ⟨gb103, 2, none⟩ = some (.int .u64 0) := (blk_cell BK103.out 2).trans rfl; have hfz14_0 := blk_frozen BK103.out 0; have hfz14_1 := blk_frozen BK103.out 1; have hfz14_2 := blk_frozen BK103.out 2))
       refine bodyPost_ret (results_cell_row rfl _ _ gb103 24 #[.int .i64 a0, .int .u64 t104, .int .u64 t104] (0, 0) _ rfl (by refine blk_put (cs := #[.int .i64 a0, .int .u64 t104, .int .u64 0]) ?_ 2 _ rfl; refine blk_put (cs := #[.int .i64 a0, .int .u64 0, .int .u64 0]) ?_ 1 _ rfl; refine blk_put (cs := #[.int .i64 0, .int .u64 0, .int .u64 0]) ?_ 0 _ rfl; exact BK103.out) Tryd.underlying24 rfl (by kernel_rfl)) rfl ?_
       exact ⟨by rfl, by repeat (with_reducible first | exact HB.out | refine below_set ?_ GE103.out)⟩
      ·rw [if_neg c13] at H
       have c13b0 : (a1 == 120) = false := beq_eq_false_iff_ne.mpr c13
       have c13b1 : (a1 != 120) = true := bne_iff_ne.mpr c13
       by_cases c15 : a1 = 122
       ·rw [if_pos c15] at H
        have c15b0 : (a1 == 122) = true := beq_iff_eq.mpr c15
        have c15b1 : (a1 != 122) = false := bne_eq_false_iff_eq.mpr c15
        clear c15
        simp only [Option.some.injEq, Prod.mk.injEq] at H
        obtain ⟨rfl, rfl, rfl⟩ := H
        go_wp2_with (((with_reducible refine gate_callee (f := 58) rfl ?_); refine goesL_ (some 14) rfl rfl Tryd.func58 (by kernel_rfl) rfl #[.int .i64 a0] rfl (by (try simp only [List.map_toArray, List.map_cons, List.map_nil]); rfl) ?_; (with_reducible refine (bits_mask.calls a0 t104 _ A8.out).mono ?_); rintro e w' ⟨rfl, ⟨nd, rfl⟩⟩; refine ⟨_, rfl, ?_⟩; (try (rw [drewN_self wc]; generalize hq_ : World.drewN wc _ = wc; have n0_ : Aside0 (wc.heap[gb103]? = some (.cells #[.int .i64 0, .int .u64 0, .int .u64 0] 24 (0, 0))) := ⟨by rw [← hq_]; exact (by (with_reducible repeat (refine blk_drewN ?_ _)); exact BK103.out)⟩; have n1_ : Aside0 (Below w.heap.size w wc) := ⟨by rw [← hq_]; exact (by repeat (with_reducible first | exact HB.out | apply pw_below_drewN))⟩; clear BK103 HB hq_; have BK103 := n0_; have HB := n1_; clear n0_ n1_)); have hcz16_0 : wc.cell? ⟨gb103, 0, none⟩ = some (.int .i64 0) := (blk_cell BK103.out 0).trans rfl; have hcz16_1 : wc.cell? ⟨gb103, 1, none⟩ = some (.int .u64 0) := (blk_cell BK103.out 1).trans rfl; have hcz16_2 : wc.cell? ⟨gb103, 2, none⟩ = some (.int .u64 0) := (blk_cell BK103.out 2).trans rfl; have hfz16_0 := blk_frozen BK103.out 0; have hfz16_1 := blk_frozen BK103.out 1; have hfz16_2 := blk_frozen BK103.out 2))
        refine bodyPost_ret (results_cell_row rfl _ _ gb103 24 #[.int .i64 a0, .int .u64 0, .int .u64 t104] (0, 0) _ rfl (by refine blk_put (cs := #[.int .i64 a0, .int .u64 0, .int .u64 0]) ?_ 2 _ rfl; refine blk_put (cs := #[.int .i64 a0, .int .u64 0, .int .u64 0]) ?_ 1 _ rfl; refine blk_put (cs := #[.int .i64 0, .int .u64 0, .int .u64 0]) ?_ 0 _ rfl; exact BK103.out) Tryd.underlying24 rfl (by kernel_rfl)) rfl ?_
        exact ⟨by rfl, by repeat (with_reducible first | exact HB.out | refine below_set ?_ GE103.out)⟩
       ·rw [if_neg c15] at H
        have c15b0 : (a1 == 122) = false := beq_eq_false_iff_ne.mpr c15
        have c15b1 : (a1 != 122) = true := bne_iff_ne.mpr c15
        simp only [Option.some.injEq, Prod.mk.injEq] at H
        obtain ⟨rfl, rfl, rfl⟩ := H
        go_wp2_with (((with_reducible refine gate_callee (f := 58) rfl ?_); refine goesL_ (some 14) rfl rfl Tryd.func58 (by kernel_rfl) rfl #[.int .i64 a0] rfl (by (try simp only [List.map_toArray, List.map_cons, List.map_nil]); rfl) ?_; (with_reducible refine (bits_mask.calls a0 t104 _ A8.out).mono ?_); rintro e w' ⟨rfl, ⟨nd, rfl⟩⟩; refine ⟨_, rfl, ?_⟩; (try (rw [drewN_self wc]; generalize hq_ : World.drewN wc _ = wc; have n0_ : Aside0 (wc.heap[gb103]? = some (.cells #[.int .i64 0, .int .u64 0, .int .u64 0] 24 (0, 0))) := ⟨by rw [← hq_]; exact (by (with_reducible repeat (refine blk_drewN ?_ _)); exact BK103.out)⟩; have n1_ : Aside0 (Below w.heap.size w wc) := ⟨by rw [← hq_]; exact (by repeat (with_reducible first | exact HB.out | apply pw_below_drewN))⟩; clear BK103 HB hq_; have BK103 := n0_; have HB := n1_; clear n0_ n1_)); have hcz17_0 : wc.cell? ⟨gb103, 0, none⟩ = some (.int .i64 0) := (blk_cell BK103.out 0).trans rfl; have hcz17_1 : wc.cell? ⟨gb103, 1, none⟩ = some (.int .u64 0) := (blk_cell BK103.out 1).trans rfl; have hcz17_2 : wc.cell? ⟨gb103, 2, none⟩ = some (.int .u64 0) := (blk_cell BK103.out 2).trans rfl; have hfz17_0 := blk_frozen BK103.out 0; have hfz17_1 := blk_frozen BK103.out 1; have hfz17_2 := blk_frozen BK103.out 2))
        refine bodyPost_ret (results_cell_row rfl _ _ gb103 24 #[.int .i64 0, .int .u64 0, .int .u64 0] (0, 0) _ rfl (by refine blk_put (cs := #[.int .i64 0, .int .u64 0, .int .u64 0]) ?_ 2 _ rfl; refine blk_put (cs := #[.int .i64 0, .int .u64 0, .int .u64 0]) ?_ 1 _ rfl; refine blk_put (cs := #[.int .i64 0, .int .u64 0, .int .u64 0]) ?_ 0 _ rfl; exact BK103.out) Tryd.underlying24 rfl (by kernel_rfl)) rfl ?_
        exact ⟨by rfl, by repeat (with_reducible first | exact HB.out | refine below_set ?_ GE103.out)⟩
end Go.Proofs.YtfigblfjogpojaaDoor.PBits
end
section
namespace Go.Proofs.YtfigblfjogpojaaDoor.PBits
open Go.RowKit Go.Proofs.YtfigblfjogpojaaDoorW.PrintWords Go.Proofs.YtfigblfjogpojaaDoorW.PrintLast Go.Proofs.YtfigblfjogpojaaDoorW.PrintMore
attribute [local go_sem] max2_int min2_int max_two min_two max_three min_three max_four min_four
set_option linter.unusedVariables false
set_option linter.unusedSimpArgs false
def bits_Put.j0 : Nat → Int → Bool → Int → Int → Int → Int → Int → Int → Option (Int × Int × Int)
 | 0, _, _, _, _, _, _, _, _ => none
 | k + 1, x1, x27, x124000, x124001, x124002, x125000, x125001, x125002 => if x27 = true then ((bits_valid.f k (([(⟨x124000, x124001, x124002⟩ : S24), (⟨x125000, x125001, x125002⟩ : S24)] : List (S24)))).bind fun t133 => (if t133 = true then (some (x124000, x124001, x124002)) else (some (0, 0, 0)))) else ((bits_mask.f x125000).bind fun t134 => (if x1 < 0 then (if 0 ≤ (wrap64 (-x1)) then ((bits_mask.f x124000).bind fun t135 => (some (x124000, Go.bits .or .u64 (Go.bits .andNot .u64 x124001 (Go.bits .and .u64 (shr .u64 t134 (wrap64 (-x1))) t135)) (Go.bits .and .u64 (shr .u64 x125001 (wrap64 (-x1))) (Go.bits .and .u64 (shr .u64 t134 (wrap64 (-x1))) t135)), Go.bits .or .u64 (Go.bits .andNot .u64 x124002 (Go.bits .and .u64 (shr .u64 t134 (wrap64 (-x1))) t135)) (Go.bits .and .u64 (shr .u64 x125002 (wrap64 (-x1))) (Go.bits .and .u64 (shr .u64 t134 (wrap64 (-x1))) t135))))) else (none)) else (if 0 ≤ x1 then ((bits_mask.f x124000).bind fun t136 => (some (x124000, Go.bits .or .u64 (Go.bits .andNot .u64 x124001 (Go.bits .and .u64 (shl .u64 t134 x1) t136)) (Go.bits .and .u64 (shl .u64 x125001 x1) (Go.bits .and .u64 (shl .u64 t134 x1) t136)), Go.bits .or .u64 (Go.bits .andNot .u64 x124002 (Go.bits .and .u64 (shl .u64 t134 x1) t136)) (Go.bits .and .u64 (shl .u64 x125002 x1) (Go.bits .and .u64 (shl .u64 t134 x1) t136))))) else (none))))
def bits_Put.f (k : Nat) (a0_0 : Int) (a0_1 : Int) (a0_2 : Int) (a1 : Int) (a2_0 : Int) (a2_1 : Int) (a2_2 : Int) : Option (Int × Int × Int) := (bits_valid.f k (([(⟨a0_0, a0_1, a0_2⟩ : S24), (⟨a2_0, a2_1, a2_2⟩ : S24)] : List (S24)))).bind fun t129 => (if t129 = true then (if a1 ≤ (wrap64 (-a2_0)) then (bits_Put.j0 k a1 true a0_0 a0_1 a0_2 a2_0 a2_1 a2_2) else (bits_Put.j0 k a1 (decide (a1 ≥ a0_0)) a0_0 a0_1 a0_2 a2_0 a2_1 a2_2)) else (bits_Put.j0 k a1 true a0_0 a0_1 a0_2 a2_0 a2_1 a2_2))
theorem bits_Put.mono_l : ∀ k, (∀ y0 y1 y2 y3 y4 y5 y6 y7, LeO (bits_Put.j0 k y0 y1 y2 y3 y4 y5 y6 y7) (bits_Put.j0 (k + 1) y0 y1 y2 y3 y4 y5 y6 y7))
 | 0 => fun _ _ _ _ _ _ _ _ r h => by simp [bits_Put.j0] at h
 | k + 1 => by
  have ih0 := bits_Put.mono_l k
  ·intro y0 y1 y2 y3 y4 y5 y6 y7
   unfold bits_Put.j0
   repeat' first
   | (with_reducible exact ih0 _ _ _ _ _ _ _ _)
   | (with_reducible exact bits_valid.mono _ _)
   | (with_reducible exact LeO.refl _)
   | (with_reducible exact LeO.none _)
   | (with_reducible refine LeO.ite ?_ ?_)
   | (with_reducible refine LeO.bind ?_ (fun _ => ?_))
   | exact ih0 _ _ _ _ _ _ _ _
   | exact bits_valid.mono _ _
   | exact LeO.none _
   | refine LeO.ite ?_ ?_
   | refine LeO.bind ?_ (fun _ => ?_)
theorem bits_Put.mono : ∀ a0 a1 a2 a3 a4 a5 a6 k, LeO (bits_Put.f k a0 a1 a2 a3 a4 a5 a6) (bits_Put.f (k + 1) a0 a1 a2 a3 a4 a5 a6) := by
 intro a0 a1 a2 a3 a4 a5 a6 k
 have ih0 := bits_Put.mono_l k
 unfold bits_Put.f
 repeat' first
   | (with_reducible exact ih0 _ _ _ _ _ _ _ _)
   | (with_reducible exact bits_valid.mono _ _)
   | (with_reducible exact LeO.refl _)
   | (with_reducible exact LeO.none _)
   | (with_reducible refine LeO.ite ?_ ?_)
   | (with_reducible refine LeO.bind ?_ (fun _ => ?_))
   | exact ih0 _ _ _ _ _ _ _ _
   | exact bits_valid.mono _ _
   | exact LeO.none _
   | refine LeO.ite ?_ ?_
   | refine LeO.bind ?_ (fun _ => ?_)
set_option maxHeartbeats 8000000 in
set_option maxRecDepth 100000 in
theorem bits_Put.calls (k : Nat) (a0_0 : Int) (a0_1 : Int) (a0_2 : Int) (a1 : Int) (a2_0 : Int) (a2_1 : Int) (a2_2 : Int) (r1 : Int) (r2 : Int) (r3 : Int) (w : World) (h : bits_Put.f k a0_0 a0_1 a0_2 a1 a2_0 a2_1 a2_2 = some (r1, r2, r3)) :
  Calls Tryd.prog 38 #[.agg #[.int .i64 a0_0, .int .u64 a0_1, .int .u64 a0_2], .int .i64 a1, .agg #[.int .i64 a2_0, .int .u64 a2_1, .int .u64 a2_2]] w fun e w' => e = .returned (.agg #[.int .i64 r1, .int .u64 r2, .int .u64 r3]) ∧ Below w.heap.size w w' := by
 have hu24 := Tryd.underlying24
 have HB := Aside0.mk (Below.refl w.heap.size w)
 have H : ((bits_valid.f k ([(⟨a0_0, a0_1, a0_2⟩ : S24), (⟨a2_0, a2_1, a2_2⟩ : S24)] : List (S24))).bind fun t129 => (if t129 = true then (if a1 ≤ (wrap64 (-a2_0)) then (bits_Put.j0 k a1 true a0_0 a0_1 a0_2 a2_0 a2_1 a2_2) else (bits_Put.j0 k a1 (decide (a1 ≥ a0_0)) a0_0 a0_1 a0_2 a2_0 a2_1 a2_2)) else (bits_Put.j0 k a1 true a0_0 a0_1 a0_2 a2_0 a2_1 a2_2))) = some (r1, r2, r3) := h
 clear h
 have HC4 := Aside0.mk H
 clear H
 go_enter Tryd.func38, Tryd.ntmps38
 go_upto_region 1 with (first | ((with_reducible refine gate_dst (N := 3) rfl ?_); refine box_event ?hg (N := 3) ?hd (cs := #[.int .i64 a0_0, .int .u64 a0_1, .int .u64 a0_2]) (t := 24) ?hr ?_; (case hd => rfl); (case hg => rfl); (case hr => (go_simp; done)); intro gb123 hg w5 hbox hb; have BK123 := Aside0.mk (hbox); have GW123 := ge1 HB hg; have GE123 := ge1 HB hg; replace HB := hb1 HB hb; clear hb hbox hg) | ((with_reducible refine gate_dst (N := 5) rfl ?_); refine box_event ?hg (N := 5) ?hd (cs := #[.int .i64 a2_0, .int .u64 a2_1, .int .u64 a2_2]) (t := 24) ?hr ?_; (case hd => rfl); (case hg => rfl); (case hr => (go_simp; done)); intro gb124 hg w6 hbox hb; have BK124 := Aside0.mk (hbox); have GW124 := ge1 HB hg; have GE124 := ge1 HB hg; replace HB := hb1 HB hb; have NB123_124 := Aside0.mk ((by rw [hg]; exact Nat.ne_of_lt (blk_lt BK123.out) : gb123 ≠ gb124)); have NB124_123 := Aside0.mk ((by rw [hg]; exact Nat.ne_of_gt (blk_lt BK123.out) : gb124 ≠ gb123)); replace BK123 := bk1 BK123 hb; clear hb hbox hg) | ((with_reducible refine gate_dst (N := 6) rfl ?_); refine box_event ?hg (N := 6) ?hd (cs := #[.int .i64 0, .int .u64 0, .int .u64 0]) (t := 24) ?hr ?_; (case hd => rfl); (case hg => rfl); (case hr => (go_simp; done)); intro gb125 hg w7 hbox hb; have BK125 := Aside0.mk (hbox); have GW125 := ge1 HB hg; have GE125 := ge1 HB hg; replace HB := hb1 HB hb; have NB123_125 := Aside0.mk ((by rw [hg]; exact Nat.ne_of_lt (blk_lt BK123.out) : gb123 ≠ gb125)); have NB125_123 := Aside0.mk ((by rw [hg]; exact Nat.ne_of_gt (blk_lt BK123.out) : gb125 ≠ gb123)); replace BK123 := bk1 BK123 hb; have NB124_125 := Aside0.mk ((by rw [hg]; exact Nat.ne_of_lt (blk_lt BK124.out) : gb124 ≠ gb125)); have NB125_124 := Aside0.mk ((by rw [hg]; exact Nat.ne_of_gt (blk_lt BK124.out) : gb125 ≠ gb124)); replace BK124 := bk1 BK124 hb; clear hb hbox hg))
 (try simp only [Act.put, List.setIfInBounds_toArray, List.set_cons_zero, List.set_cons_succ])
 go_cut [27] (fun v27 wc => ∃ (kq : Nat) (x27_3 : Bool), v27 = .bool x27_3 ∧ Aside0 (bits_Put.j0 kq a1 x27_3 a0_0 a0_1 a0_2 a2_0 a2_1 a2_2 = some (r1, r2, r3)) ∧ Aside0 (kq ≤ k) ∧ Aside0 (wc.heap[gb123]? = some (.cells #[.int .i64 a0_0, .int .u64 a0_1, .int .u64 a0_2] 24 (0, 0))) ∧ Aside0 (wc.heap[gb124]? = some (.cells #[.int .i64 a2_0, .int .u64 a2_1, .int .u64 a2_2] 24 (0, 0))) ∧ Aside0 (wc.heap[gb125]? = some (.cells #[.int .i64 0, .int .u64 0, .int .u64 0] 24 (0, 0))) ∧ Aside0 (Below w.heap.size w wc))
 case first =>
  have H := HC4.out
  clear HC4
  obtain ⟨y126, hy126⟩ : ∃ y_ : List (S24), y_ = ([(⟨a0_0, a0_1, a0_2⟩ : S24), (⟨a2_0, a2_1, a2_2⟩ : S24)] : List (S24)) := ⟨_, rfl⟩
  replace H : ((bits_valid.f k y126).bind fun t129 => (if t129 = true then (if a1 ≤ (wrap64 (-a2_0)) then (bits_Put.j0 k a1 true a0_0 a0_1 a0_2 a2_0 a2_1 a2_2) else (bits_Put.j0 k a1 (decide (a1 ≥ a0_0)) a0_0 a0_1 a0_2 a2_0 a2_1 a2_2)) else (bits_Put.j0 k a1 true a0_0 a0_1 a0_2 a2_0 a2_1 a2_2))) = some (r1, r2, r3) := by (rw [hy126]; with_reducible exact H)
  have Ny126 := Aside0.mk hy126
  clear hy126
  replace H := Option.bind_eq_some_iff.mp H
  obtain ⟨t129, A80, H⟩ := H
  replace H : (if t129 = true then (if a1 ≤ (wrap64 (-a2_0)) then (bits_Put.j0 k a1 true a0_0 a0_1 a0_2 a2_0 a2_1 a2_2) else (bits_Put.j0 k a1 (decide (a1 ≥ a0_0)) a0_0 a0_1 a0_2 a2_0 a2_1 a2_2)) else (bits_Put.j0 k a1 true a0_0 a0_1 a0_2 a2_0 a2_1 a2_2)) = some (r1, r2, r3) := H
  have A8 := Aside0.mk A80
  clear A80
  by_cases c9 : t129 = true
  ·subst c9
   have H1 : (if a1 ≤ (wrap64 (-a2_0)) then (bits_Put.j0 k a1 true a0_0 a0_1 a0_2 a2_0 a2_1 a2_2) else (bits_Put.j0 k a1 (decide (a1 ≥ a0_0)) a0_0 a0_1 a0_2 a2_0 a2_1 a2_2)) = some (r1, r2, r3) := by rw [if_pos rfl] at H; exact H
   clear H
   have H := H1
   clear H1
   by_cases c10 : a1 ≤ (wrap64 (-a2_0))
   ·rw [if_pos c10] at H
    have c10b0 : decide (a1 ≤ (wrap64 (-a2_0))) = true := decide_eq_true c10
    clear c10
    (skip)
    have H' := Aside0.mk H
    clear H
    have hnb11 := NB123_124.out
    have hnc11 := NB124_123.out
    have hnb12 := NB123_125.out
    have hnc12 := NB125_123.out
    obtain ⟨hcz13_0, hcz13_1, hcz13_2⟩ := sq_cells3 (W := w7) (g := gb123) BK123.out; obtain ⟨hfz13_0, hfz13_1, hfz13_2⟩ := sq_frozen3 BK123.out
    have hnb14 := NB124_125.out
    have hnc14 := NB125_124.out
    obtain ⟨hcz15_0, hcz15_1, hcz15_2⟩ := sq_cells3 (W := w7) (g := gb124) BK124.out; obtain ⟨hfz15_0, hfz15_1, hfz15_2⟩ := sq_frozen3 BK124.out
    go_wp2_with (first | ((with_reducible refine gate_dst (N := 12) rfl ?_); refine Kd.R_lit k24 _ 24 ?hg (N := 12) ?hd (xs := ([(⟨a0_0, a0_1, a0_2⟩ : S24), (⟨a2_0, a2_1, a2_2⟩ : S24)] : List (S24))) (inner := [.int .i64 a0_0, .int .u64 a0_1, .int .u64 a0_2, .int .i64 a2_0, .int .u64 a2_1, .int .u64 a2_2]) (ok := fun _ => True) (okp := fun _ => True) ?hr ?hp (fun _ hk => hk) trivial (Below.refl _ _) (Nat.le_refl _) (by simp) ?_; (case hd => rfl); (case hg => rfl); (case hr => (go_simp; done)); (case hp => exact (Reps.c3 (show Kd.M k24 _ _ _ (⟨a0_0, a0_1, a0_2⟩ : S24) [.int .i64 a0_0, .int .u64 a0_1, .int .u64 a0_2] from (k24_mkM _ _ _ (⟨a0_0, a0_1, a0_2⟩ : S24) )) (Reps.c3 (show Kd.M k24 _ _ _ (⟨a2_0, a2_1, a2_2⟩ : S24) [.int .i64 a2_0, .int .u64 a2_1, .int .u64 a2_2] from (k24_mkM _ _ _ (⟨a2_0, a2_1, a2_2⟩ : S24) )) (Reps.none _ _)))); intro v127 w16 ho17 hb hg_ hnew_; clear hg_ hnew_; (rw [← Ny126.out] at ho17); have HO128 := Aside0.mk (Kd.R_lower (Kd.R_newB (Kd.R_newB (Kd.R_newB ho17 BK123.out) BK124.out) BK125.out) (below_size HB.out)); replace BK123 := bk1 BK123 hb; replace BK124 := bk1 BK124 hb; replace BK125 := bk1 BK125 hb; replace HB := hb1 HB hb; clear hb ho17; obtain ⟨Ao18, co18, eo18⟩ := Kd.R_slice HO128.out; subst eo18) | (go_at_call 56; (with_reducible refine (bits_valid.calls k _ _ y126 true _ ?side1 ?side2 A8.out).mono ?_); (case side1 => repeat (exact (Kd.R_reads' HO128.out).2.2)); (case side2 => exact (Kd.R_reads' HO128.out).2.1); rintro e w19 ⟨rfl, hb⟩; replace HO128 := Kd.rb1 HO128 hb; replace BK123 := bk1 BK123 hb; replace BK124 := bk1 BK124 hb; replace BK125 := bk1 BK125 hb; replace HB := hb1 HB hb; (try clear hb); have hcz20_0 : w19.cell? ⟨gb124, 0, none⟩ = some (.int .i64 a2_0) := (blk_cell BK124.out 0).trans rfl; have hcz20_1 : w19.cell? ⟨gb124, 1, none⟩ = some (.int .u64 a2_1) := (blk_cell BK124.out 1).trans rfl; have hcz20_2 : w19.cell? ⟨gb124, 2, none⟩ = some (.int .u64 a2_2) := (blk_cell BK124.out 2).trans rfl; have hfz20_0 := blk_frozen BK124.out 0; have hfz20_1 := blk_frozen BK124.out 1; have hfz20_2 := blk_frozen BK124.out 2))
    go_meet
    case rel => exact ⟨_, (true), (by rfl), H', ⟨by omega⟩, ⟨by exact BK123.out⟩, ⟨by exact BK124.out⟩, ⟨by exact BK125.out⟩, ⟨by repeat (with_reducible exact HB.out)⟩⟩
   ·rw [if_neg c10] at H
    have c10b0 : decide (a1 ≤ (wrap64 (-a2_0))) = false := decide_eq_false c10
    clear c10
    (skip)
    have H' := Aside0.mk H
    clear H
    have hnb21 := NB123_124.out
    have hnc21 := NB124_123.out
    have hnb22 := NB123_125.out
    have hnc22 := NB125_123.out
    obtain ⟨hcz23_0, hcz23_1, hcz23_2⟩ := sq_cells3 (W := w7) (g := gb123) BK123.out; obtain ⟨hfz23_0, hfz23_1, hfz23_2⟩ := sq_frozen3 BK123.out
    have hnb24 := NB124_125.out
    have hnc24 := NB125_124.out
    obtain ⟨hcz25_0, hcz25_1, hcz25_2⟩ := sq_cells3 (W := w7) (g := gb124) BK124.out; obtain ⟨hfz25_0, hfz25_1, hfz25_2⟩ := sq_frozen3 BK124.out
    go_wp2_with (first | ((with_reducible refine gate_dst (N := 12) rfl ?_); refine Kd.R_lit k24 _ 24 ?hg (N := 12) ?hd (xs := ([(⟨a0_0, a0_1, a0_2⟩ : S24), (⟨a2_0, a2_1, a2_2⟩ : S24)] : List (S24))) (inner := [.int .i64 a0_0, .int .u64 a0_1, .int .u64 a0_2, .int .i64 a2_0, .int .u64 a2_1, .int .u64 a2_2]) (ok := fun _ => True) (okp := fun _ => True) ?hr ?hp (fun _ hk => hk) trivial (Below.refl _ _) (Nat.le_refl _) (by simp) ?_; (case hd => rfl); (case hg => rfl); (case hr => (go_simp; done)); (case hp => exact (Reps.c3 (show Kd.M k24 _ _ _ (⟨a0_0, a0_1, a0_2⟩ : S24) [.int .i64 a0_0, .int .u64 a0_1, .int .u64 a0_2] from (k24_mkM _ _ _ (⟨a0_0, a0_1, a0_2⟩ : S24) )) (Reps.c3 (show Kd.M k24 _ _ _ (⟨a2_0, a2_1, a2_2⟩ : S24) [.int .i64 a2_0, .int .u64 a2_1, .int .u64 a2_2] from (k24_mkM _ _ _ (⟨a2_0, a2_1, a2_2⟩ : S24) )) (Reps.none _ _)))); intro v127 w26 ho27 hb hg_ hnew_; clear hg_ hnew_; (rw [← Ny126.out] at ho27); have HO128 := Aside0.mk (Kd.R_lower (Kd.R_newB (Kd.R_newB (Kd.R_newB ho27 BK123.out) BK124.out) BK125.out) (below_size HB.out)); replace BK123 := bk1 BK123 hb; replace BK124 := bk1 BK124 hb; replace BK125 := bk1 BK125 hb; replace HB := hb1 HB hb; clear hb ho27; obtain ⟨Ao28, co28, eo28⟩ := Kd.R_slice HO128.out; subst eo28) | (go_at_call 56; (with_reducible refine (bits_valid.calls k _ _ y126 true _ ?side1 ?side2 A8.out).mono ?_); (case side1 => repeat (exact (Kd.R_reads' HO128.out).2.2)); (case side2 => exact (Kd.R_reads' HO128.out).2.1); rintro e w29 ⟨rfl, hb⟩; replace HO128 := Kd.rb1 HO128 hb; replace BK123 := bk1 BK123 hb; replace BK124 := bk1 BK124 hb; replace BK125 := bk1 BK125 hb; replace HB := hb1 HB hb; (try clear hb); have hcz30_0 : w29.cell? ⟨gb124, 0, none⟩ = some (.int .i64 a2_0) := (blk_cell BK124.out 0).trans rfl; have hcz30_1 : w29.cell? ⟨gb124, 1, none⟩ = some (.int .u64 a2_1) := (blk_cell BK124.out 1).trans rfl; have hcz30_2 : w29.cell? ⟨gb124, 2, none⟩ = some (.int .u64 a2_2) := (blk_cell BK124.out 2).trans rfl; have hfz30_0 := blk_frozen BK124.out 0; have hfz30_1 := blk_frozen BK124.out 1; have hfz30_2 := blk_frozen BK124.out 2; have hcz31_0 : w29.cell? ⟨gb123, 0, none⟩ = some (.int .i64 a0_0) := (blk_cell BK123.out 0).trans rfl; have hcz31_1 : w29.cell? ⟨gb123, 1, none⟩ = some (.int .u64 a0_1) := (blk_cell BK123.out 1).trans rfl; have hcz31_2 : w29.cell? ⟨gb123, 2, none⟩ = some (.int .u64 a0_2) := (blk_cell BK123.out 2).trans rfl; have hfz31_0 := blk_frozen BK123.out 0; have hfz31_1 := blk_frozen BK123.out 1; have hfz31_2 := blk_frozen BK123.out 2))
    go_meet
    case rel => exact ⟨_, (decide (a1 ≥ a0_0)), (by rfl), H', ⟨by omega⟩, ⟨by exact BK123.out⟩, ⟨by exact BK124.out⟩, ⟨by exact BK125.out⟩, ⟨by repeat (with_reducible exact HB.out)⟩⟩
  ·replace c9 := Bool.eq_false_iff.mpr c9
   subst c9
   have H1 : (bits_Put.j0 k a1 true a0_0 a0_1 a0_2 a2_0 a2_1 a2_2) = some (r1, r2, r3) := by rw [if_neg (show ¬ (false = true) by decide)] at H; exact H
   clear H
   have H := H1
   clear H1
   have H' := Aside0.mk H
   clear H
   have hnb32 := NB123_124.out
   have hnc32 := NB124_123.out
   have hnb33 := NB123_125.out
   have hnc33 := NB125_123.out
   obtain ⟨hcz34_0, hcz34_1, hcz34_2⟩ := sq_cells3 (W := w7) (g := gb123) BK123.out; obtain ⟨hfz34_0, hfz34_1, hfz34_2⟩ := sq_frozen3 BK123.out
   have hnb35 := NB124_125.out
   have hnc35 := NB125_124.out
   obtain ⟨hcz36_0, hcz36_1, hcz36_2⟩ := sq_cells3 (W := w7) (g := gb124) BK124.out; obtain ⟨hfz36_0, hfz36_1, hfz36_2⟩ := sq_frozen3 BK124.out
   go_wp2_with (first | ((with_reducible refine gate_dst (N := 12) rfl ?_); refine Kd.R_lit k24 _ 24 ?hg (N := 12) ?hd (xs := ([(⟨a0_0, a0_1, a0_2⟩ : S24), (⟨a2_0, a2_1, a2_2⟩ : S24)] : List (S24))) (inner := [.int .i64 a0_0, .int .u64 a0_1, .int .u64 a0_2, .int .i64 a2_0, .int .u64 a2_1, .int .u64 a2_2]) (ok := fun _ => True) (okp := fun _ => True) ?hr ?hp (fun _ hk => hk) trivial (Below.refl _ _) (Nat.le_refl _) (by simp) ?_; (case hd => rfl); (case hg => rfl); (case hr => (go_simp; done)); (case hp => exact (Reps.c3 (show Kd.M k24 _ _ _ (⟨a0_0, a0_1, a0_2⟩ : S24) [.int .i64 a0_0, .int .u64 a0_1, .int .u64 a0_2] from (k24_mkM _ _ _ (⟨a0_0, a0_1, a0_2⟩ : S24) )) (Reps.c3 (show Kd.M k24 _ _ _ (⟨a2_0, a2_1, a2_2⟩ : S24) [.int .i64 a2_0, .int .u64 a2_1, .int .u64 a2_2] from (k24_mkM _ _ _ (⟨a2_0, a2_1, a2_2⟩ : S24) )) (Reps.none _ _)))); intro v127 w37 ho38 hb hg_ hnew_; clear hg_ hnew_; (rw [← Ny126.out] at ho38); have HO128 := Aside0.mk (Kd.R_lower (Kd.R_newB (Kd.R_newB (Kd.R_newB ho38 BK123.out) BK124.out) BK125.out) (below_size HB.out)); replace BK123 := bk1 BK123 hb; replace BK124 := bk1 BK124 hb; replace BK125 := bk1 BK125 hb; replace HB := hb1 HB hb; clear hb ho38; obtain ⟨Ao39, co39, eo39⟩ := Kd.R_slice HO128.out; subst eo39) | (go_at_call 56; (with_reducible refine (bits_valid.calls k _ _ y126 false _ ?side1 ?side2 A8.out).mono ?_); (case side1 => repeat (exact (Kd.R_reads' HO128.out).2.2)); (case side2 => exact (Kd.R_reads' HO128.out).2.1); rintro e w40 ⟨rfl, hb⟩; replace HO128 := Kd.rb1 HO128 hb; replace BK123 := bk1 BK123 hb; replace BK124 := bk1 BK124 hb; replace BK125 := bk1 BK125 hb; replace HB := hb1 HB hb; (try clear hb)))
   go_meet
   case rel => exact ⟨_, (true), (by rfl), H', ⟨by omega⟩, ⟨by exact BK123.out⟩, ⟨by exact BK124.out⟩, ⟨by exact BK125.out⟩, ⟨by repeat (with_reducible exact HB.out)⟩⟩
 case rest =>
  clear HC4
  obtain ⟨kq, x27_3, rfl, HA, HJ3, BK123, BK124, BK125, HB⟩ := hcut
  cases kq with
  | zero => exact absurd HA.out (by simp [bits_Put.j0])
  | succ kj3 =>
   have H := HA.out
   clear HA
   simp only [bits_Put.j0] at H
   by_cases c41 : x27_3 = true
   ·subst c41
    have H1 : ((bits_valid.f kj3 ([(⟨a0_0, a0_1, a0_2⟩ : S24), (⟨a2_0, a2_1, a2_2⟩ : S24)] : List (S24))).bind fun t133 => (if t133 = true then (some (a0_0, a0_1, a0_2)) else (some (0, 0, 0)))) = some (r1, r2, r3) := by rw [if_pos rfl] at H; exact H
    clear H
    have H := H1
    clear H1
    obtain ⟨y130, hy130⟩ : ∃ y_ : List (S24), y_ = ([(⟨a0_0, a0_1, a0_2⟩ : S24), (⟨a2_0, a2_1, a2_2⟩ : S24)] : List (S24)) := ⟨_, rfl⟩
    replace H : ((bits_valid.f kj3 y130).bind fun t133 => (if t133 = true then (some (a0_0, a0_1, a0_2)) else (some (0, 0, 0)))) = some (r1, r2, r3) := by (rw [hy130]; with_reducible exact H)
    have Ny130 := Aside0.mk hy130
    clear hy130
    replace H := Option.bind_eq_some_iff.mp H
    obtain ⟨t133, A420, H⟩ := H
    replace H : (if t133 = true then (some (a0_0, a0_1, a0_2)) else (some (0, 0, 0))) = some (r1, r2, r3) := H
    have A42 := Aside0.mk A420
    clear A420
    by_cases c43 : t133 = true
    ·subst c43
     have H1 : (some (a0_0, a0_1, a0_2)) = some (r1, r2, r3) := by rw [if_pos rfl] at H; exact H
     clear H
     have H := H1
     clear H1
     simp only [Option.some.injEq, Prod.mk.injEq] at H
     obtain ⟨rfl, rfl, rfl⟩ := H
     have hnb44 := NB123_124.out
     have hnc44 := NB124_123.out
     have hnb45 := NB123_125.out
     have hnc45 := NB125_123.out
     obtain ⟨hcz46_0, hcz46_1, hcz46_2⟩ := sq_cells3 (W := wc) (g := gb123) BK123.out; obtain ⟨hfz46_0, hfz46_1, hfz46_2⟩ := sq_frozen3 BK123.out
     have hnb47 := NB124_125.out
     have hnc47 := NB125_124.out
     obtain ⟨hcz48_0, hcz48_1, hcz48_2⟩ := sq_cells3 (W := wc) (g := gb124) BK124.out; obtain ⟨hfz48_0, hfz48_1, hfz48_2⟩ := sq_frozen3 BK124.out
     go_wp2_with (first | ((with_reducible refine gate_dst (N := 30) rfl ?_); refine Kd.R_lit k24 _ 24 ?hg (N := 30) ?hd (xs := ([(⟨a0_0, a0_1, a0_2⟩ : S24), (⟨a2_0, a2_1, a2_2⟩ : S24)] : List (S24))) (inner := [.int .i64 a0_0, .int .u64 a0_1, .int .u64 a0_2, .int .i64 a2_0, .int .u64 a2_1, .int .u64 a2_2]) (ok := fun _ => True) (okp := fun _ => True) ?hr ?hp (fun _ hk => hk) trivial (Below.refl _ _) (Nat.le_refl _) (by simp) ?_; (case hd => rfl); (case hg => rfl); (case hr => (go_simp; done)); (case hp => exact (Reps.c3 (show Kd.M k24 _ _ _ (⟨a0_0, a0_1, a0_2⟩ : S24) [.int .i64 a0_0, .int .u64 a0_1, .int .u64 a0_2] from (k24_mkM _ _ _ (⟨a0_0, a0_1, a0_2⟩ : S24) )) (Reps.c3 (show Kd.M k24 _ _ _ (⟨a2_0, a2_1, a2_2⟩ : S24) [.int .i64 a2_0, .int .u64 a2_1, .int .u64 a2_2] from (k24_mkM _ _ _ (⟨a2_0, a2_1, a2_2⟩ : S24) )) (Reps.none _ _)))); intro v131 w49 ho50 hb hg_ hnew_; clear hg_ hnew_; (rw [← Ny130.out] at ho50); have HO132 := Aside0.mk (Kd.R_lower (Kd.R_newB (Kd.R_newB (Kd.R_newB ho50 BK123.out) BK124.out) BK125.out) (below_size HB.out)); replace BK123 := bk1 BK123 hb; replace BK124 := bk1 BK124 hb; replace BK125 := bk1 BK125 hb; replace HB := hb1 HB hb; clear hb ho50; obtain ⟨Ao51, co51, eo51⟩ := Kd.R_slice HO132.out; subst eo51) | (go_at_call 56; (with_reducible refine (bits_valid.calls kj3 _ _ y130 true _ ?side1 ?side2 A42.out).mono ?_); (case side1 => repeat (exact (Kd.R_reads' HO132.out).2.2)); (case side2 => exact (Kd.R_reads' HO132.out).2.1); rintro e w52 ⟨rfl, hb⟩; replace HO132 := Kd.rb1 HO132 hb; replace BK123 := bk1 BK123 hb; replace BK124 := bk1 BK124 hb; replace BK125 := bk1 BK125 hb; replace HB := hb1 HB hb; (try clear hb); have hcz53_0 : w52.cell? ⟨gb123, 0, none⟩ = some (.int .i64 a0_0) := (blk_cell BK123.out 0).trans rfl; have hcz53_1 : w52.cell? ⟨gb123, 1, none⟩ = some (.int .u64 a0_1) := (blk_cell BK123.out 1).trans rfl; have hcz53_2 : w52.cell? ⟨gb123, 2, none⟩ = some (.int .u64 a0_2) := (blk_cell BK123.out 2).trans rfl; have hfz53_0 := blk_frozen BK123.out 0; have hfz53_1 := blk_frozen BK123.out 1; have hfz53_2 := blk_frozen BK123.out 2; have hcz54_0 : w52.cell? ⟨gb125, 0, none⟩ = some (.int .i64 0) := (blk_cell BK125.out 0).trans rfl; have hcz54_1 : w52.cell? ⟨gb125, 1, none⟩ = some (.int .u64 0) := (blk_cell BK125.out 1).trans rfl; have hcz54_2 : w52.cell? ⟨gb125, 2, none⟩ = some (.int .u64 0) := (blk_cell BK125.out 2).trans rfl; have hfz54_0 := blk_frozen BK125.out 0; have hfz54_1 := blk_frozen BK125.out 1; have hfz54_2 := blk_frozen BK125.out 2))
     refine bodyPost_ret (results_cell_row rfl _ _ gb125 24 #[.int .i64 a0_0, .int .u64 a0_1, .int .u64 a0_2] (0, 0) _ rfl (by refine blk_put (cs := #[.int .i64 a0_0, .int .u64 a0_1, .int .u64 0]) ?_ 2 _ rfl; refine blk_put (cs := #[.int .i64 a0_0, .int .u64 0, .int .u64 0]) ?_ 1 _ rfl; refine blk_put (cs := #[.int .i64 0, .int .u64 0, .int .u64 0]) ?_ 0 _ rfl; exact BK125.out) Tryd.underlying24 rfl (by kernel_rfl)) rfl ?_
     exact ⟨by rfl, by repeat (with_reducible first | exact HB.out | refine below_set ?_ GE125.out)⟩
    ·replace c43 := Bool.eq_false_iff.mpr c43
     subst c43
     have H1 : (some (0, 0, 0)) = some (r1, r2, r3) := by rw [if_neg (show ¬ (false = true) by decide)] at H; exact H
     clear H
     have H := H1
     clear H1
     simp only [Option.some.injEq, Prod.mk.injEq] at H
     obtain ⟨rfl, rfl, rfl⟩ := H
     have hnb55 := NB123_124.out
     have hnc55 := NB124_123.out
     have hnb56 := NB123_125.out
     have hnc56 := NB125_123.out
     obtain ⟨hcz57_0, hcz57_1, hcz57_2⟩ := sq_cells3 (W := wc) (g := gb123) BK123.out; obtain ⟨hfz57_0, hfz57_1, hfz57_2⟩ := sq_frozen3 BK123.out
     have hnb58 := NB124_125.out
     have hnc58 := NB125_124.out
     obtain ⟨hcz59_0, hcz59_1, hcz59_2⟩ := sq_cells3 (W := wc) (g := gb124) BK124.out; obtain ⟨hfz59_0, hfz59_1, hfz59_2⟩ := sq_frozen3 BK124.out
     go_wp2_with (first | ((with_reducible refine gate_dst (N := 30) rfl ?_); refine Kd.R_lit k24 _ 24 ?hg (N := 30) ?hd (xs := ([(⟨a0_0, a0_1, a0_2⟩ : S24), (⟨a2_0, a2_1, a2_2⟩ : S24)] : List (S24))) (inner := [.int .i64 a0_0, .int .u64 a0_1, .int .u64 a0_2, .int .i64 a2_0, .int .u64 a2_1, .int .u64 a2_2]) (ok := fun _ => True) (okp := fun _ => True) ?hr ?hp (fun _ hk => hk) trivial (Below.refl _ _) (Nat.le_refl _) (by simp) ?_; (case hd => rfl); (case hg => rfl); (case hr => (go_simp; done)); (case hp => exact (Reps.c3 (show Kd.M k24 _ _ _ (⟨a0_0, a0_1, a0_2⟩ : S24) [.int .i64 a0_0, .int .u64 a0_1, .int .u64 a0_2] from (k24_mkM _ _ _ (⟨a0_0, a0_1, a0_2⟩ : S24) )) (Reps.c3 (show Kd.M k24 _ _ _ (⟨a2_0, a2_1, a2_2⟩ : S24) [.int .i64 a2_0, .int .u64 a2_1, .int .u64 a2_2] from (k24_mkM _ _ _ (⟨a2_0, a2_1, a2_2⟩ : S24) )) (Reps.none _ _)))); intro v131 w60 ho61 hb hg_ hnew_; clear hg_ hnew_; (rw [← Ny130.out] at ho61); have HO132 := Aside0.mk (Kd.R_lower (Kd.R_newB (Kd.R_newB (Kd.R_newB ho61 BK123.out) BK124.out) BK125.out) (below_size HB.out)); replace BK123 := bk1 BK123 hb; replace BK124 := bk1 BK124 hb; replace BK125 := bk1 BK125 hb; replace HB := hb1 HB hb; clear hb ho61; obtain ⟨Ao62, co62, eo62⟩ := Kd.R_slice HO132.out; subst eo62) | (go_at_call 56; (with_reducible refine (bits_valid.calls kj3 _ _ y130 false _ ?side1 ?side2 A42.out).mono ?_); (case side1 => repeat (exact (Kd.R_reads' HO132.out).2.2)); (case side2 => exact (Kd.R_reads' HO132.out).2.1); rintro e w63 ⟨rfl, hb⟩; replace HO132 := Kd.rb1 HO132 hb; replace BK123 := bk1 BK123 hb; replace BK124 := bk1 BK124 hb; replace BK125 := bk1 BK125 hb; replace HB := hb1 HB hb; (try clear hb); have hcz64_0 : w63.cell? ⟨gb125, 0, none⟩ = some (.int .i64 0) := (blk_cell BK125.out 0).trans rfl; have hcz64_1 : w63.cell? ⟨gb125, 1, none⟩ = some (.int .u64 0) := (blk_cell BK125.out 1).trans rfl; have hcz64_2 : w63.cell? ⟨gb125, 2, none⟩ = some (.int .u64 0) := (blk_cell BK125.out 2).trans rfl; have hfz64_0 := blk_frozen BK125.out 0; have hfz64_1 := blk_frozen BK125.out 1; have hfz64_2 := blk_frozen BK125.out 2))
     refine bodyPost_ret (results_cell_row rfl _ _ gb125 24 #[.int .i64 0, .int .u64 0, .int .u64 0] (0, 0) _ rfl (by refine blk_put (cs := #[.int .i64 0, .int .u64 0, .int .u64 0]) ?_ 2 _ rfl; refine blk_put (cs := #[.int .i64 0, .int .u64 0, .int .u64 0]) ?_ 1 _ rfl; refine blk_put (cs := #[.int .i64 0, .int .u64 0, .int .u64 0]) ?_ 0 _ rfl; exact BK125.out) Tryd.underlying24 rfl (by kernel_rfl)) rfl ?_
     exact ⟨by rfl, by repeat (with_reducible first | exact HB.out | refine below_set ?_ GE125.out)⟩
   ·replace c41 := Bool.eq_false_iff.mpr c41
    subst c41
    have H1 : ((bits_mask.f a2_0).bind fun t134 => (if a1 < 0 then (if 0 ≤ (wrap64 (-a1)) then ((bits_mask.f a0_0).bind fun t135 => (some (a0_0, Go.bits .or .u64 (Go.bits .andNot .u64 a0_1 (Go.bits .and .u64 (shr .u64 t134 (wrap64 (-a1))) t135)) (Go.bits .and .u64 (shr .u64 a2_1 (wrap64 (-a1))) (Go.bits .and .u64 (shr .u64 t134 (wrap64 (-a1))) t135)), Go.bits .or .u64 (Go.bits .andNot .u64 a0_2 (Go.bits .and .u64 (shr .u64 t134 (wrap64 (-a1))) t135)) (Go.bits .and .u64 (shr .u64 a2_2 (wrap64 (-a1))) (Go.bits .and .u64 (shr .u64 t134 (wrap64 (-a1))) t135))))) else (none)) else (if 0 ≤ a1 then ((bits_mask.f a0_0).bind fun t136 => (some (a0_0, Go.bits .or .u64 (Go.bits .andNot .u64 a0_1 (Go.bits .and .u64 (shl .u64 t134 a1) t136)) (Go.bits .and .u64 (shl .u64 a2_1 a1) (Go.bits .and .u64 (shl .u64 t134 a1) t136)), Go.bits .or .u64 (Go.bits .andNot .u64 a0_2 (Go.bits .and .u64 (shl .u64 t134 a1) t136)) (Go.bits .and .u64 (shl .u64 a2_2 a1) (Go.bits .and .u64 (shl .u64 t134 a1) t136))))) else (none)))) = some (r1, r2, r3) := by rw [if_neg (show ¬ (false = true) by decide)] at H; exact H
    clear H
    have H := H1
    clear H1
    replace H := Option.bind_eq_some_iff.mp H
    obtain ⟨t134, A650, H⟩ := H
    replace H : (if a1 < 0 then (if 0 ≤ (wrap64 (-a1)) then ((bits_mask.f a0_0).bind fun t135 => (some (a0_0, Go.bits .or .u64 (Go.bits .andNot .u64 a0_1 (Go.bits .and .u64 (shr .u64 t134 (wrap64 (-a1))) t135)) (Go.bits .and .u64 (shr .u64 a2_1 (wrap64 (-a1))) (Go.bits .and .u64 (shr .u64 t134 (wrap64 (-a1))) t135)), Go.bits .or .u64 (Go.bits .andNot .u64 a0_2 (Go.bits .and .u64 (shr .u64 t134 (wrap64 (-a1))) t135)) (Go.bits .and .u64 (shr .u64 a2_2 (wrap64 (-a1))) (Go.bits .and .u64 (shr .u64 t134 (wrap64 (-a1))) t135))))) else (none)) else (if 0 ≤ a1 then ((bits_mask.f a0_0).bind fun t136 => (some (a0_0, Go.bits .or .u64 (Go.bits .andNot .u64 a0_1 (Go.bits .and .u64 (shl .u64 t134 a1) t136)) (Go.bits .and .u64 (shl .u64 a2_1 a1) (Go.bits .and .u64 (shl .u64 t134 a1) t136)), Go.bits .or .u64 (Go.bits .andNot .u64 a0_2 (Go.bits .and .u64 (shl .u64 t134 a1) t136)) (Go.bits .and .u64 (shl .u64 a2_2 a1) (Go.bits .and .u64 (shl .u64 t134 a1) t136))))) else (none))) = some (r1, r2, r3) := H
    have A65 := Aside0.mk A650
    clear A650
    by_cases c66 : a1 < 0
    ·rw [if_pos c66] at H
     have c66b0 : decide (a1 < 0) = true := decide_eq_true c66
     clear c66
     obtain ⟨ji67, hji67⟩ : ∃ j_ : Int, (wrap64 (-a1)) = j_ := ⟨_, rfl⟩
     replace H : (if 0 ≤ (ji67) then ((bits_mask.f a0_0).bind fun t135 => (some (a0_0, Go.bits .or .u64 (Go.bits .andNot .u64 a0_1 (Go.bits .and .u64 (shr .u64 t134 (ji67)) t135)) (Go.bits .and .u64 (shr .u64 a2_1 (ji67)) (Go.bits .and .u64 (shr .u64 t134 (ji67)) t135)), Go.bits .or .u64 (Go.bits .andNot .u64 a0_2 (Go.bits .and .u64 (shr .u64 t134 (ji67)) t135)) (Go.bits .and .u64 (shr .u64 a2_2 (ji67)) (Go.bits .and .u64 (shr .u64 t134 (ji67)) t135))))) else (none)) = some (r1, r2, r3) := by (rw [hji67] at H; exact H)
     have hji67w : (IntKind.i64.wrap (-a1)) = ji67 := (i64_w _).trans hji67
     by_cases c68 : 0 ≤ (ji67)
     ·rw [if_pos c68] at H
      have c68b0 := eq_true c68
      have c68b1 : decide (0 ≤ (ji67)) = true := decide_eq_true c68
      clear c68
      obtain ⟨ji69, hji69⟩ : ∃ j_ : Int, (shr .u64 t134 (ji67)) = j_ := ⟨_, rfl⟩
      replace H : ((bits_mask.f a0_0).bind fun t135 => (some (a0_0, Go.bits .or .u64 (Go.bits .andNot .u64 a0_1 (Go.bits .and .u64 (ji69) t135)) (Go.bits .and .u64 (shr .u64 a2_1 (ji67)) (Go.bits .and .u64 (ji69) t135)), Go.bits .or .u64 (Go.bits .andNot .u64 a0_2 (Go.bits .and .u64 (ji69) t135)) (Go.bits .and .u64 (shr .u64 a2_2 (ji67)) (Go.bits .and .u64 (ji69) t135))))) = some (r1, r2, r3) := by (rw [hji69] at H; exact H)
      have hji69_ : (t134 / 2 ^ min (ji67).toNat 64) = ji69 := hji69
      have hji69z : (ji67) ≤ 64 → (t134 / 2 ^ (ji67).toNat) = ji69 := shr_small hji69
      have c70b0 := eq_true (of_decide_eq_true (by (with_reducible assumption)) : 0 ≤ (ji67))
      obtain ⟨ji71, hji71⟩ : ∃ j_ : Int, (shr .u64 a2_1 (ji67)) = j_ := ⟨_, rfl⟩
      replace H : ((bits_mask.f a0_0).bind fun t135 => (some (a0_0, Go.bits .or .u64 (Go.bits .andNot .u64 a0_1 (Go.bits .and .u64 (ji69) t135)) (Go.bits .and .u64 (ji71) (Go.bits .and .u64 (ji69) t135)), Go.bits .or .u64 (Go.bits .andNot .u64 a0_2 (Go.bits .and .u64 (ji69) t135)) (Go.bits .and .u64 (shr .u64 a2_2 (ji67)) (Go.bits .and .u64 (ji69) t135))))) = some (r1, r2, r3) := by (rw [hji71] at H; exact H)
      have hji71_ : (a2_1 / 2 ^ min (ji67).toNat 64) = ji71 := hji71
      have hji71z : (ji67) ≤ 64 → (a2_1 / 2 ^ (ji67).toNat) = ji71 := shr_small hji71
      have c72b0 := eq_true (of_decide_eq_true (by (with_reducible assumption)) : 0 ≤ (ji67))
      obtain ⟨ji73, hji73⟩ : ∃ j_ : Int, (shr .u64 a2_2 (ji67)) = j_ := ⟨_, rfl⟩
      replace H : ((bits_mask.f a0_0).bind fun t135 => (some (a0_0, Go.bits .or .u64 (Go.bits .andNot .u64 a0_1 (Go.bits .and .u64 (ji69) t135)) (Go.bits .and .u64 (ji71) (Go.bits .and .u64 (ji69) t135)), Go.bits .or .u64 (Go.bits .andNot .u64 a0_2 (Go.bits .and .u64 (ji69) t135)) (Go.bits .and .u64 (ji73) (Go.bits .and .u64 (ji69) t135))))) = some (r1, r2, r3) := by (rw [hji73] at H; exact H)
      have hji73_ : (a2_2 / 2 ^ min (ji67).toNat 64) = ji73 := hji73
      have hji73z : (ji67) ≤ 64 → (a2_2 / 2 ^ (ji67).toNat) = ji73 := shr_small hji73
      replace H := Option.bind_eq_some_iff.mp H
      obtain ⟨t135, A740, H⟩ := H
      replace H : (some (a0_0, Go.bits .or .u64 (Go.bits .andNot .u64 a0_1 (Go.bits .and .u64 (ji69) t135)) (Go.bits .and .u64 (ji71) (Go.bits .and .u64 (ji69) t135)), Go.bits .or .u64 (Go.bits .andNot .u64 a0_2 (Go.bits .and .u64 (ji69) t135)) (Go.bits .and .u64 (ji73) (Go.bits .and .u64 (ji69) t135)))) = some (r1, r2, r3) := H
      have A74 := Aside0.mk A740
      clear A740
      simp only [Option.some.injEq, Prod.mk.injEq] at H
      obtain ⟨rfl, rfl, rfl⟩ := H
      have hnb75 := NB124_123.out
      have hnc75 := NB123_124.out
      have hnb76 := NB124_125.out
      have hnc76 := NB125_124.out
      obtain ⟨hcz77_0, hcz77_1, hcz77_2⟩ := sq_cells3 (W := wc) (g := gb124) BK124.out; obtain ⟨hfz77_0, hfz77_1, hfz77_2⟩ := sq_frozen3 BK124.out
      go_wp2
      repeat (go_quiet ((go_at_call 58; (with_reducible refine (bits_mask.calls a2_0 t134 _ A65.out).mono ?_); rintro e w' ⟨rfl, ⟨nd, rfl⟩⟩; (try exact ⟨rfl, _, World.drewN_drewN _ _ _⟩); have hnb78 := NB123_125.out; have hnc78 := NB125_123.out; have hcz79_0 : wc.cell? ⟨gb123, 0, none⟩ = some (.int .i64 a0_0) := (blk_cell BK123.out 0).trans rfl; have hcz79_1 : wc.cell? ⟨gb123, 1, none⟩ = some (.int .u64 a0_1) := (blk_cell BK123.out 1).trans rfl; have hcz79_2 : wc.cell? ⟨gb123, 2, none⟩ = some (.int .u64 a0_2) := (blk_cell BK123.out 2).trans rfl; have hfz79_0 := blk_frozen BK123.out 0; have hfz79_1 := blk_frozen BK123.out 1; have hfz79_2 := blk_frozen BK123.out 2)); try go_wp2_with ((go_at_call 58; (with_reducible refine (bits_mask.calls a0_0 t135 _ A74.out).mono ?_); rintro e w' ⟨rfl, ⟨nd, rfl⟩⟩; have hcz80_0 : wc.cell? ⟨gb125, 0, none⟩ = some (.int .i64 0) := (blk_cell BK125.out 0).trans rfl; have hcz80_1 : wc.cell? ⟨gb125, 1, none⟩ = some (.int .u64 0) := (blk_cell BK125.out 1).trans rfl; have hcz80_2 : wc.cell? ⟨gb125, 2, none⟩ = some (.int .u64 0) := (blk_cell BK125.out 2).trans rfl; have hfz80_0 := blk_frozen BK125.out 0; have hfz80_1 := blk_frozen BK125.out 1; have hfz80_2 := blk_frozen BK125.out 2)))
      refine bodyPost_ret (results_cell_row rfl _ _ gb125 24 #[.int .i64 a0_0, .int .u64 (Go.bits .or .u64 (Go.bits .andNot .u64 a0_1 (Go.bits .and .u64 (ji69) t135)) (Go.bits .and .u64 (ji71) (Go.bits .and .u64 (ji69) t135))), .int .u64 (Go.bits .or .u64 (Go.bits .andNot .u64 a0_2 (Go.bits .and .u64 (ji69) t135)) (Go.bits .and .u64 (ji73) (Go.bits .and .u64 (ji69) t135)))] (0, 0) _ rfl (by refine blk_put (cs := #[.int .i64 a0_0, .int .u64 (Go.bits .or .u64 (Go.bits .andNot .u64 a0_1 (Go.bits .and .u64 (ji69) t135)) (Go.bits .and .u64 (ji71) (Go.bits .and .u64 (ji69) t135))), .int .u64 0]) ?_ 2 _ rfl; refine blk_put (cs := #[.int .i64 a0_0, .int .u64 0, .int .u64 0]) ?_ 1 _ rfl; refine blk_put (cs := #[.int .i64 0, .int .u64 0, .int .u64 0]) ?_ 0 _ rfl; (with_reducible repeat (refine blk_drewN ?_ _)); exact BK125.out) Tryd.underlying24 rfl (by kernel_rfl)) rfl ?_
      exact ⟨by rfl, by repeat (with_reducible first | exact HB.out | apply pw_below_drewN | refine below_set ?_ GE125.out)⟩
     ·rw [if_neg c68] at H
      exact absurd H (by simp)
    ·rw [if_neg c66] at H
     have c66b0 : decide (a1 < 0) = false := decide_eq_false c66
     clear c66
     by_cases c81 : 0 ≤ a1
     ·rw [if_pos c81] at H
      have c81b0 := eq_true c81
      have c81b1 : decide (0 ≤ a1) = true := decide_eq_true c81
      clear c81
      obtain ⟨ji82, hji82⟩ : ∃ j_ : Int, (shl .u64 t134 a1) = j_ := ⟨_, rfl⟩
      replace H : ((bits_mask.f a0_0).bind fun t136 => (some (a0_0, Go.bits .or .u64 (Go.bits .andNot .u64 a0_1 (Go.bits .and .u64 (ji82) t136)) (Go.bits .and .u64 (shl .u64 a2_1 a1) (Go.bits .and .u64 (ji82) t136)), Go.bits .or .u64 (Go.bits .andNot .u64 a0_2 (Go.bits .and .u64 (ji82) t136)) (Go.bits .and .u64 (shl .u64 a2_2 a1) (Go.bits .and .u64 (ji82) t136))))) = some (r1, r2, r3) := by (rw [hji82] at H; exact H)
      have hji82_ : (IntKind.u64.wrap (t134 * 2 ^ min a1.toNat 64)) = ji82 := hji82
      have hji82z : a1 ≤ 64 → (IntKind.u64.wrap (t134 * 2 ^ a1.toNat)) = ji82 := shl_small hji82
      have c83b0 := eq_true (of_decide_eq_true (by (with_reducible assumption)) : 0 ≤ a1)
      obtain ⟨ji84, hji84⟩ : ∃ j_ : Int, (shl .u64 a2_1 a1) = j_ := ⟨_, rfl⟩
      replace H : ((bits_mask.f a0_0).bind fun t136 => (some (a0_0, Go.bits .or .u64 (Go.bits .andNot .u64 a0_1 (Go.bits .and .u64 (ji82) t136)) (Go.bits .and .u64 (ji84) (Go.bits .and .u64 (ji82) t136)), Go.bits .or .u64 (Go.bits .andNot .u64 a0_2 (Go.bits .and .u64 (ji82) t136)) (Go.bits .and .u64 (shl .u64 a2_2 a1) (Go.bits .and .u64 (ji82) t136))))) = some (r1, r2, r3) := by (rw [hji84] at H; exact H)
      have hji84_ : (IntKind.u64.wrap (a2_1 * 2 ^ min a1.toNat 64)) = ji84 := hji84
      have hji84z : a1 ≤ 64 → (IntKind.u64.wrap (a2_1 * 2 ^ a1.toNat)) = ji84 := shl_small hji84
      have c85b0 := eq_true (of_decide_eq_true (by (with_reducible assumption)) : 0 ≤ a1)
      obtain ⟨ji86, hji86⟩ : ∃ j_ : Int, (shl .u64 a2_2 a1) = j_ := ⟨_, rfl⟩
      replace H : ((bits_mask.f a0_0).bind fun t136 => (some (a0_0, Go.bits .or .u64 (Go.bits .andNot .u64 a0_1 (Go.bits .and .u64 (ji82) t136)) (Go.bits .and .u64 (ji84) (Go.bits .and .u64 (ji82) t136)), Go.bits .or .u64 (Go.bits .andNot .u64 a0_2 (Go.bits .and .u64 (ji82) t136)) (Go.bits .and .u64 (ji86) (Go.bits .and .u64 (ji82) t136))))) = some (r1, r2, r3) := by (rw [hji86] at H; exact H)
      have hji86_ : (IntKind.u64.wrap (a2_2 * 2 ^ min a1.toNat 64)) = ji86 := hji86
      have hji86z : a1 ≤ 64 → (IntKind.u64.wrap (a2_2 * 2 ^ a1.toNat)) = ji86 := shl_small hji86
      replace H := Option.bind_eq_some_iff.mp H
      obtain ⟨t136, A870, H⟩ := H
      replace H : (some (a0_0, Go.bits .or .u64 (Go.bits .andNot .u64 a0_1 (Go.bits .and .u64 (ji82) t136)) (Go.bits .and .u64 (ji84) (Go.bits .and .u64 (ji82) t136)), Go.bits .or .u64 (Go.bits .andNot .u64 a0_2 (Go.bits .and .u64 (ji82) t136)) (Go.bits .and .u64 (ji86) (Go.bits .and .u64 (ji82) t136)))) = some (r1, r2, r3) := H
      have A87 := Aside0.mk A870
      clear A870
      simp only [Option.some.injEq, Prod.mk.injEq] at H
      obtain ⟨rfl, rfl, rfl⟩ := H
      have hnb88 := NB124_123.out
      have hnc88 := NB123_124.out
      have hnb89 := NB124_125.out
      have hnc89 := NB125_124.out
      obtain ⟨hcz90_0, hcz90_1, hcz90_2⟩ := sq_cells3 (W := wc) (g := gb124) BK124.out; obtain ⟨hfz90_0, hfz90_1, hfz90_2⟩ := sq_frozen3 BK124.out
      go_wp2
      repeat (go_quiet ((go_at_call 58; (with_reducible refine (bits_mask.calls a2_0 t134 _ A65.out).mono ?_); rintro e w' ⟨rfl, ⟨nd, rfl⟩⟩; (try exact ⟨rfl, _, World.drewN_drewN _ _ _⟩); have hnb91 := NB123_125.out; have hnc91 := NB125_123.out; have hcz92_0 : wc.cell? ⟨gb123, 0, none⟩ = some (.int .i64 a0_0) := (blk_cell BK123.out 0).trans rfl; have hcz92_1 : wc.cell? ⟨gb123, 1, none⟩ = some (.int .u64 a0_1) := (blk_cell BK123.out 1).trans rfl; have hcz92_2 : wc.cell? ⟨gb123, 2, none⟩ = some (.int .u64 a0_2) := (blk_cell BK123.out 2).trans rfl; have hfz92_0 := blk_frozen BK123.out 0; have hfz92_1 := blk_frozen BK123.out 1; have hfz92_2 := blk_frozen BK123.out 2)); try go_wp2_with ((go_at_call 58; (with_reducible refine (bits_mask.calls a0_0 t136 _ A87.out).mono ?_); rintro e w' ⟨rfl, ⟨nd, rfl⟩⟩; have hcz93_0 : wc.cell? ⟨gb125, 0, none⟩ = some (.int .i64 0) := (blk_cell BK125.out 0).trans rfl; have hcz93_1 : wc.cell? ⟨gb125, 1, none⟩ = some (.int .u64 0) := (blk_cell BK125.out 1).trans rfl; have hcz93_2 : wc.cell? ⟨gb125, 2, none⟩ = some (.int .u64 0) := (blk_cell BK125.out 2).trans rfl; have hfz93_0 := blk_frozen BK125.out 0; have hfz93_1 := blk_frozen BK125.out 1; have hfz93_2 := blk_frozen BK125.out 2)))
      refine bodyPost_ret (results_cell_row rfl _ _ gb125 24 #[.int .i64 a0_0, .int .u64 (Go.bits .or .u64 (Go.bits .andNot .u64 a0_1 (Go.bits .and .u64 (ji82) t136)) (Go.bits .and .u64 (ji84) (Go.bits .and .u64 (ji82) t136))), .int .u64 (Go.bits .or .u64 (Go.bits .andNot .u64 a0_2 (Go.bits .and .u64 (ji82) t136)) (Go.bits .and .u64 (ji86) (Go.bits .and .u64 (ji82) t136)))] (0, 0) _ rfl (by refine blk_put (cs := #[.int .i64 a0_0, .int .u64 (Go.bits .or .u64 (Go.bits .andNot .u64 a0_1 (Go.bits .and .u64 (ji82) t136)) (Go.bits .and .u64 (ji84) (Go.bits .and .u64 (ji82) t136))), .int .u64 0]) ?_ 2 _ rfl; refine blk_put (cs := #[.int .i64 a0_0, .int .u64 0, .int .u64 0]) ?_ 1 _ rfl; refine blk_put (cs := #[.int .i64 0, .int .u64 0, .int .u64 0]) ?_ 0 _ rfl; (with_reducible repeat (refine blk_drewN ?_ _)); exact BK125.out) Tryd.underlying24 rfl (by kernel_rfl)) rfl ?_
      exact ⟨by rfl, by repeat (with_reducible first | exact HB.out | apply pw_below_drewN | refine below_set ?_ GE125.out)⟩
     ·rw [if_neg c81] at H
      exact absurd H (by simp)
end Go.Proofs.YtfigblfjogpojaaDoor.PBits
end
section
namespace Go.Proofs.YtfigblfjogpojaaDoor.PBits
open Go.RowKit Go.Proofs.YtfigblfjogpojaaDoorW.PrintWords Go.Proofs.YtfigblfjogpojaaDoorW.PrintLast Go.Proofs.YtfigblfjogpojaaDoorW.PrintMore
attribute [local go_sem] max2_int min2_int max_two min_two max_three min_three max_four min_four
set_option linter.unusedVariables false
set_option linter.unusedSimpArgs false
def maskref1_Placed.l0 : Nat → Int → List Int → List Int → Int → Int → Option (List Int)
 | 0, _, _, _, _, _ => none
 | k + 1, x1, x7, x14, x15, x16 => if x16 < x15 then (if 0 ≤ x16 then (if x16 < (x14.length : Int) then (if (wrap64 (x1 + x16)) ≥ 0 then (if (wrap64 (x1 + x16)) < (x7.length : Int) then (if 0 ≤ (wrap64 (x1 + x16)) then (maskref1_Placed.l0 k x1 (x7.set ((wrap64 (x1 + x16)) : Int).toNat (rd x14 x16)) x14 x15 (wrap64 (x16 + 1))) else (none)) else (maskref1_Placed.l0 k x1 x7 x14 x15 (wrap64 (x16 + 1)))) else (maskref1_Placed.l0 k x1 x7 x14 x15 (wrap64 (x16 + 1)))) else (none)) else (none)) else (some x7)
def maskref1_Placed.f (k : Nat) (l0 : List Int) (a1 : Int) (l2 : List Int) : Option (List Int) := (some (([] : List Int) : List Int)).bind fun y472 => (if y472.length + l0.length < 140737488355328 then (maskref1_Placed.l0 k a1 (y472 ++ l0) l2 (l2.length : Int) 0) else (none))
set_option maxHeartbeats 8000000 in
set_option maxRecDepth 100000 in
theorem maskref1_Placed.calls (k : Nat) (A0 : Option Addr) (c0 : Nat) (l0 : List Int) (a1 : Int) (A2 : Option Addr) (c2 : Nat) (l2 : List Int) (r : List Int) (w : World) (hr0 : Kd.C (Kd.int .u8) w A0 l0.length l0) (hc0 : l0.length ≤ c0) (hr2 : Kd.C (Kd.int .u8) w A2 l2.length l2) (hc2 : l2.length ≤ c2) (h : maskref1_Placed.f k l0 a1 l2 = some r) :
  Calls Tryd.prog 31 #[.slice A0 l0.length c0, .int .i64 a1, .slice A2 l2.length c2] w fun e w' => ∃ v0_ : Value, e = .returned (v0_) ∧ Kd.R (Kd.int .u8) 5 w' w.heap.size (fun _ => True) v0_ r ∧ Below w.heap.size w w' := by
 have HR0 := Aside0.mk hr0
 have HC0 := Aside0.mk hc0
 clear hr0 hc0
 have HR2 := Aside0.mk hr2
 have HC2 := Aside0.mk hc2
 clear hr2 hc2
 have HB := Aside0.mk (Below.refl w.heap.size w)
 have H : ((some (([] : List Int) : List Int)).bind fun y472 => (if y472.length + l0.length < 140737488355328 then (maskref1_Placed.l0 k a1 (y472 ++ l0) l2 (l2.length : Int) 0) else (none))) = some r := h
 clear h
 obtain ⟨y472, hy472⟩ : ∃ y_ : List Int, y_ = ([] : List Int) := ⟨_, rfl⟩
 replace H : (if y472.length + l0.length < 140737488355328 then (maskref1_Placed.l0 k a1 (y472 ++ l0) l2 (l2.length : Int) 0) else (none)) = some r := by (have H2_ := (Option.bind_some _ _).symm.trans H; rw [hy472]; with_reducible exact H2_)
 have Ny472 := Aside0.mk hy472
 clear hy472
 by_cases c4 : y472.length + l0.length < 140737488355328
 ·rw [if_pos c4] at H
  have LMc4 := Aside0.mk c4
  clear c4
  obtain ⟨y475, hy475⟩ : ∃ y_ : List Int, y_ = (y472 ++ l0) := ⟨_, rfl⟩
  replace H : (maskref1_Placed.l0 k a1 y475 l2 (l2.length : Int) 0) = some r := by (rw [hy475]; with_reducible exact H)
  have Ny475 := Aside0.mk hy475
  clear hy475
  have H' := Aside0.mk H
  clear H
  go_enter Tryd.func31, Tryd.ntmps31
  go_wp2_with (first | ((with_reducible refine gate_dst (N := 11) rfl ?_); (try (refine gate_guard (by rfl) ?_; dsimp only)); refine Kd.R_lit (Kd.int .u8) _ 5 ?hg (N := 11) ?hd (xs := ([] : List Int)) (inner := []) (ok := fun _ => True) (okp := fun _ => True) ?hr ?hp (fun _ hk => hk) trivial (Below.refl _ _) (Nat.le_refl _) (by simp) ?_; (case hd => rfl); (case hg => rfl); (case hr => (go_simp; done)); (case hp => exact (Reps.none _ _)); intro v473 w5 ho6 hb hg_ hnew_; clear hg_ hnew_; (rw [← Ny472.out] at ho6); have HO474 := Aside0.mk (Kd.R_lower ho6 (below_size HB.out)); replace HB := hb1 HB hb; clear hb ho6) | ((with_reducible refine gate_builtin (b := .append) (xs := #[.tmp 11, .tmp 12]) rfl ?_); (try (refine gate_guard (by rfl) ?_; dsimp only)); at_builtin; refine Kd.R_append_rows (Kd.int .u8) (w0 := w) w.heap.size rfl (.tmp 11) (.tmp 12) 43 5 (.int .u8 0) 1 rfl Tryd.underlying43 info5 rfl (by decide) (by omega) v473 y472 l0 _ _ _ (fun _ => True) (fun _ => False) rfl rfl ?aO ?aR (fun _ _ h => h) (fun _ h => h.elim) ?aF ?aB ?aS ?aL ?_; (case aR => repeat (exact (Kd.C_below HR0.out HB.out))); (case aB => exact HB.out); (case aF => exact (fun _ _ => trivial)); (case aO => exact HO474.out); (case aS => exact (below_size HB.out)); (case aL => have := LMc4.out; omega); intro v476 w7 ho hb hg hat; rw [← Ny475.out] at ho; replace HB := Aside0.mk (hb); have HO477 := Aside0.mk (ho); clear HO474; clear ho hb hg hat))
  go_loopg [16] k (fun kq v16 w' => ∃ (x7_1 : List Int) (x16_1 : Int), v16 = .int .i64 x16_1 ∧ Aside0 (maskref1_Placed.l0 kq a1 x7_1 l2 (l2.length : Int) x16_1 = some r) ∧ Aside0 (kq ≤ k) ∧ Aside0 (Kd.R (Kd.int .u8) 5 w' w.heap.size (fun _ => True) v476 x7_1) ∧ Aside0 (Below w.heap.size w w'))
  case atStart => exact ⟨(y475), (0), (by rfl), H', ⟨Nat.le_refl _⟩, ⟨by exact HO477.out⟩, ⟨by repeat (with_reducible exact HB.out)⟩⟩
  case round =>
   clear H'
   obtain ⟨x7_1, x16_1, rfl, HA, HK1, HO_7, HB⟩ := hrel
   cases gk with
   | zero => exact absurd HA.out (by simp [maskref1_Placed.l0])
   | succ k1 =>
    have H := HA.out
    clear HA
    simp only [maskref1_Placed.l0] at H
    by_cases c8 : x16_1 < (l2.length : Int)
    ·rw [if_pos c8] at H
     have c8b0 : decide (x16_1 < (l2.length : Int)) = true := decide_eq_true c8
     clear c8
     by_cases c9 : 0 ≤ x16_1
     ·rw [if_pos c9] at H
      have c9b0 : decide (0 ≤ x16_1) = true := decide_eq_true c9
      clear c9
      by_cases c10 : x16_1 < (l2.length : Int)
      ·rw [if_pos c10] at H
       have c10b0 : decide (x16_1 < (l2.length : Int)) = true := decide_eq_true c10
       clear c10
       by_cases c11 : (wrap64 (a1 + x16_1)) ≥ 0
       ·rw [if_pos c11] at H
        have c11b0 : decide (0 ≤ (wrap64 (a1 + x16_1))) = true := decide_eq_true c11
        clear c11
        by_cases c12 : (wrap64 (a1 + x16_1)) < (x7_1.length : Int)
        ·rw [if_pos c12] at H
         have c12b0 : decide ((wrap64 (a1 + x16_1)) < (x7_1.length : Int)) = true := decide_eq_true c12
         clear c12
         obtain ⟨ji13, hji13⟩ : ∃ j_ : Int, (wrap64 (a1 + x16_1)) = j_ := ⟨_, rfl⟩
         replace H : (if 0 ≤ (ji13) then (maskref1_Placed.l0 k1 a1 (x7_1.set ((ji13) : Int).toNat (rd l2 x16_1)) l2 (l2.length : Int) (wrap64 (x16_1 + 1))) else (none)) = some r := by (rw [hji13] at H; exact H)
         (try rw [hji13] at c11b0)
         (try rw [hji13] at c12b0)
         have hji13w : (IntKind.i64.wrap (a1 + x16_1)) = ji13 := (i64_w _).trans hji13
         by_cases c14 : 0 ≤ (ji13)
         ·rw [if_pos c14] at H
          have c14b0 : decide (0 ≤ (ji13)) = true := decide_eq_true c14
          clear c14
          obtain ⟨y479, hy479⟩ : ∃ y_ : List Int, y_ = (x7_1.set ((ji13) : Int).toNat (rd l2 x16_1)) := ⟨_, rfl⟩
          replace H : (maskref1_Placed.l0 k1 a1 y479 l2 (l2.length : Int) (wrap64 (x16_1 + 1))) = some r := by (rw [hy479]; with_reducible exact H)
          have Ny479 := Aside0.mk hy479
          clear hy479
          have H' := Aside0.mk H
          clear H
          have p478 : 0 ≤ (x16_1 : Int) := of_decide_eq_true (by (with_reducible assumption))
          have q478 : x16_1 < (l2.length : Int) := of_decide_eq_true (by (with_reducible assumption))
          obtain ⟨ad478, e478, hx478_0⟩ := Kd.at_int HR2.out x16_1 p478 q478
          cases e478
          replace hx478_0 := (HB.out.cell (World.block_lt_of_cell? w _ hx478_0)).trans hx478_0
          replace p478 := eq_true p478
          replace q478 := eq_true q478
          obtain ⟨Ao16, co16, eo16⟩ := Kd.R_slice HO_7.out
          subst eo16
          have p15 : 0 ≤ ((ji13) : Int) := of_decide_eq_true (by (with_reducible assumption))
          have q15 : ((ji13) : Int) < ((x7_1.length : Int) : Int) := of_decide_eq_true (by (with_reducible assumption))
          obtain ⟨go15, co15, eo15, gb15, gl15, cl15, HG15⟩ := Kd.R_form HO_7.out (by omega)
          (cases eo15)
          have GB15 := Aside0.mk gb15
          have GG15 := Aside0.mk HG15
          clear gb15 gl15 HG15
          obtain ⟨hx15_0, hf15_0⟩ := Kd.R_celln 0 HO_7.out ((ji13) : Int) p15 q15
          replace p15 := eq_true p15
          replace q15 := eq_true q15
          have HP17 := Kd.R_putg HO_7.out ((ji13) : Int) (rd l2 x16_1)
          go_wp2_with (((with_reducible refine gate_store (t := 5) (p := 35) rfl ?_); refine store_event (t := 5) (p := 35) (v := ?vo_w18) (w1 := (wr.setCell ⟨go15, ((ji13) : Int).toNat, none⟩ (.int .u8 (rd l2 x16_1)))) ?hg ?ho ?hn ?hr ?_; (case ho => rfl); (case hg => rfl); (case hn => rfl); (case hr => (go_simp; done)); intro w18 hw; have hg : wr.grownBy w18 (some go15) := (by rw [hw]; exact HP17.2); have hp_ : Kd.R (Kd.int .u8) 5 w18 w.heap.size (fun _ => True) (.slice (some ⟨go15, 0, none⟩) x7_1.length co16) y479 := (by rw [hw, Ny479.out]; exact HP17.1); clear HP17; replace HO_7 := Aside0.mk (hp_); replace HB := Aside0.mk (by rw [hw]; exact below_set (HB.out) GB15.out : Below w.heap.size w w18); clear hg hw hp_))
          go_roundg k1
          case measure => have := HK1.out; omega
          case rel => exact ⟨(y479), (wrap64 (x16_1 + 1)), (by rfl), H', ⟨by have := HK1.out; omega⟩, ⟨by exact HO_7.out⟩, ⟨by repeat (with_reducible exact HB.out)⟩⟩
         ·rw [if_neg c14] at H
          exact absurd H (by simp)
        ·rw [if_neg c12] at H
         have c12b0 : decide ((wrap64 (a1 + x16_1)) < (x7_1.length : Int)) = false := decide_eq_false c12
         clear c12
         have H' := Aside0.mk H
         clear H
         have p478 : 0 ≤ (x16_1 : Int) := of_decide_eq_true (by (with_reducible assumption))
         have q478 : x16_1 < (l2.length : Int) := of_decide_eq_true (by (with_reducible assumption))
         obtain ⟨ad478, e478, hx478_0⟩ := Kd.at_int HR2.out x16_1 p478 q478
         cases e478
         replace hx478_0 := (HB.out.cell (World.block_lt_of_cell? w _ hx478_0)).trans hx478_0
         replace p478 := eq_true p478
         replace q478 := eq_true q478
         obtain ⟨Ao19, co19, eo19⟩ := Kd.R_slice HO_7.out
         subst eo19
         go_wp2
         go_roundg k1
         case measure => have := HK1.out; omega
         case rel => exact ⟨(x7_1), (wrap64 (x16_1 + 1)), (by rfl), H', ⟨by have := HK1.out; omega⟩, ⟨by exact HO_7.out⟩, ⟨by repeat (with_reducible exact HB.out)⟩⟩
       ·rw [if_neg c11] at H
        have c11b0 : decide (0 ≤ (wrap64 (a1 + x16_1))) = false := decide_eq_false c11
        clear c11
        have H' := Aside0.mk H
        clear H
        have p478 : 0 ≤ (x16_1 : Int) := of_decide_eq_true (by (with_reducible assumption))
        have q478 : x16_1 < (l2.length : Int) := of_decide_eq_true (by (with_reducible assumption))
        obtain ⟨ad478, e478, hx478_0⟩ := Kd.at_int HR2.out x16_1 p478 q478
        cases e478
        replace hx478_0 := (HB.out.cell (World.block_lt_of_cell? w _ hx478_0)).trans hx478_0
        replace p478 := eq_true p478
        replace q478 := eq_true q478
        go_wp2
        go_roundg k1
        case measure => have := HK1.out; omega
        case rel => exact ⟨(x7_1), (wrap64 (x16_1 + 1)), (by rfl), H', ⟨by have := HK1.out; omega⟩, ⟨by exact HO_7.out⟩, ⟨by repeat (with_reducible exact HB.out)⟩⟩
      ·rw [if_neg c10] at H
       exact absurd H (by simp)
     ·rw [if_neg c9] at H
      exact absurd H (by simp)
    ·rw [if_neg c8] at H
     have c8b0 : decide (x16_1 < (l2.length : Int)) = false := decide_eq_false c8
     clear c8
     obtain rfl := Option.some.inj H
     go_wp2
     go_ret
     exact ⟨_, by rfl, by exact HO_7.out, by repeat (with_reducible exact HB.out)⟩
 ·rw [if_neg c4] at H
  exact absurd H (by simp)
end Go.Proofs.YtfigblfjogpojaaDoor.PBits
end
section
namespace Go.Proofs.YtfigblfjogpojaaDoor.PBits
open Go.RowKit Go.Proofs.YtfigblfjogpojaaDoorW.PrintWords Go.Proofs.YtfigblfjogpojaaDoorW.PrintLast Go.Proofs.YtfigblfjogpojaaDoorW.PrintMore
attribute [local go_sem] max2_int min2_int max_two min_two max_three min_three max_four min_four
set_option linter.unusedVariables false
set_option linter.unusedSimpArgs false
def maskref1_Stretched.l0 : Nat → List Int → Bool → List Int → Int → Int → Option (List Int)
 | 0, _, _, _, _, _ => none
 | k + 1, x0, x2, x7, x9, x10 => if x10 < x9 then (if x10 < (x0.length : Int) then (if 0 ≤ x10 then (if x7.length < 140737488355328 then (maskref1_Stretched.l0 k x0 x2 (x7 ++ [rd x0 x10]) x9 (wrap64 (x10 + 1))) else (none)) else (none)) else (if x2 = true then (if 0 ≤ (wrap64 ((x0.length : Int) - 1)) then (if (wrap64 ((x0.length : Int) - 1)) < (x0.length : Int) then (if x7.length < 140737488355328 then (maskref1_Stretched.l0 k x0 x2 (x7 ++ [rd x0 (wrap64 ((x0.length : Int) - 1))]) x9 (wrap64 (x10 + 1))) else (none)) else (none)) else (none)) else (if x7.length < 140737488355328 then (maskref1_Stretched.l0 k x0 x2 (x7 ++ [48]) x9 (wrap64 (x10 + 1))) else (none)))) else (some x7)
def maskref1_Stretched.f (k : Nat) (l0 : List Int) (a1 : Int) (a2 : Bool) : Option (List Int) := maskref1_Stretched.l0 k l0 a2 ([] : List Int) a1 0
set_option maxHeartbeats 8000000 in
set_option maxRecDepth 100000 in
theorem maskref1_Stretched.calls (k : Nat) (A0 : Option Addr) (c0 : Nat) (l0 : List Int) (a1 : Int) (a2 : Bool) (r : List Int) (w : World) (hr0 : Kd.C (Kd.int .u8) w A0 l0.length l0) (hc0 : l0.length ≤ c0) (h : maskref1_Stretched.f k l0 a1 a2 = some r) :
  Calls Tryd.prog 32 #[.slice A0 l0.length c0, .int .i64 a1, .bool a2] w fun e w' => ∃ v0_ : Value, e = .returned (v0_) ∧ Kd.R (Kd.int .u8) 5 w' w.heap.size (fun _ => True) v0_ r ∧ Below w.heap.size w w' := by
 have HR0 := Aside0.mk hr0
 have HC0 := Aside0.mk hc0
 clear hr0 hc0
 have HB := Aside0.mk (Below.refl w.heap.size w)
 have H : (maskref1_Stretched.l0 k l0 a2 ([] : List Int) a1 0) = some r := h
 clear h
 have H' := Aside0.mk H
 clear H
 go_enter Tryd.func32, Tryd.ntmps32
 go_wp2
 go_loopg [7, 10] k (fun kq v7 v10 w' => ∃ (x7_1 : List Int) (x10_1 : Int), v10 = .int .i64 x10_1 ∧ Aside0 (maskref1_Stretched.l0 kq l0 a2 x7_1 a1 x10_1 = some r) ∧ Aside0 (kq ≤ k) ∧ Aside0 (Kd.R (Kd.int .u8) 5 w' w.heap.size (fun _ => True) v7 x7_1) ∧ Aside0 (Below w.heap.size w w'))
 case atStart => exact ⟨([] : List Int), (0), (by rfl), H', ⟨Nat.le_refl _⟩, ⟨by exact Kd.R_nil _ _ _ _ _⟩, ⟨by repeat (with_reducible exact HB.out)⟩⟩
 case round =>
  clear H'
  obtain ⟨x7_1, x10_1, rfl, HA, HK1, HO_7, HB⟩ := hrel
  cases gk with
  | zero => exact absurd HA.out (by simp [maskref1_Stretched.l0])
  | succ k1 =>
   have H := HA.out
   clear HA
   simp only [maskref1_Stretched.l0] at H
   by_cases c4 : x10_1 < a1
   ·rw [if_pos c4] at H
    have c4b0 : decide (x10_1 < a1) = true := decide_eq_true c4
    clear c4
    by_cases c5 : x10_1 < (l0.length : Int)
    ·rw [if_pos c5] at H
     have c5b0 : decide (x10_1 < (l0.length : Int)) = true := decide_eq_true c5
     clear c5
     by_cases c6 : 0 ≤ x10_1
     ·rw [if_pos c6] at H
      have c6b0 : decide (0 ≤ x10_1) = true := decide_eq_true c6
      clear c6
      by_cases c7 : x7_1.length < 140737488355328
      ·rw [if_pos c7] at H
       have LMc7 := Aside0.mk c7
       clear c7
       obtain ⟨y481, hy481⟩ : ∃ y_ : List Int, y_ = (x7_1 ++ [rd l0 x10_1]) := ⟨_, rfl⟩
       replace H : (maskref1_Stretched.l0 k1 l0 a2 y481 a1 (wrap64 (x10_1 + 1))) = some r := by (rw [hy481]; with_reducible exact H)
       have Ny481 := Aside0.mk hy481
       clear hy481
       have H' := Aside0.mk H
       clear H
       have p480 : 0 ≤ (x10_1 : Int) := of_decide_eq_true (by (with_reducible assumption))
       have q480 : x10_1 < (l0.length : Int) := of_decide_eq_true (by (with_reducible assumption))
       obtain ⟨ad480, e480, hx480_0⟩ := Kd.at_int HR0.out x10_1 p480 q480
       cases e480
       replace hx480_0 := (HB.out.cell (World.block_lt_of_cell? w _ hx480_0)).trans hx480_0
       replace p480 := eq_true p480
       replace q480 := eq_true q480
       go_wp2_with (((with_reducible refine gate_builtin (b := .append) (xs := #[.tmp 21, .tmp 26]) rfl ?_); at_builtin; refine Kd.R_append (Kd.int .u8) (w0 := w) w.heap.size rfl (.tmp 21) (.tmp 26) 43 5 (.int .u8 0) 1 rfl Tryd.underlying43 info5 rfl (by decide) (by omega) u7 x7_1 (rd l0 x10_1) [.int .u8 (rd l0 x10_1)] (fun _ => True) (fun _ => False) rfl rfl ?aP (fun _ hk => hk.elim) ?aF ?aO ?aB ?aS ?aL ?_; (case aP => exact rfl); (case aB => exact HB.out); (case aF => exact (fun _ _ => trivial)); (case aO => exact HO_7.out); (case aS => exact (below_size HB.out)); (case aL => have := LMc7.out; omega); intro v482 w8 ho hb hg hat; rw [← Ny481.out] at ho; replace HB := Aside0.mk (hb); have HO483 := Aside0.mk (ho); clear HO_7; clear ho hb hg hat))
       go_roundg k1
       case measure => have := HK1.out; omega
       case rel => exact ⟨(y481), (wrap64 (x10_1 + 1)), (by rfl), H', ⟨by have := HK1.out; omega⟩, ⟨by exact HO483.out⟩, ⟨by repeat (with_reducible exact HB.out)⟩⟩
      ·rw [if_neg c7] at H
       exact absurd H (by simp)
     ·rw [if_neg c6] at H
      exact absurd H (by simp)
    ·rw [if_neg c5] at H
     have c5b0 : decide (x10_1 < (l0.length : Int)) = false := decide_eq_false c5
     clear c5
     by_cases c9 : a2 = true
     ·subst c9
      have H1 : (if 0 ≤ (wrap64 ((l0.length : Int) - 1)) then (if (wrap64 ((l0.length : Int) - 1)) < (l0.length : Int) then (if x7_1.length < 140737488355328 then (maskref1_Stretched.l0 k1 l0 true (x7_1 ++ [rd l0 (wrap64 ((l0.length : Int) - 1))]) a1 (wrap64 (x10_1 + 1))) else (none)) else (none)) else (none)) = some r := by rw [if_pos rfl] at H; exact H
      clear H
      have H := H1
      clear H1
      obtain ⟨ji10, hji10⟩ : ∃ j_ : Int, (wrap64 ((l0.length : Int) - 1)) = j_ := ⟨_, rfl⟩
      replace H : (if 0 ≤ (ji10) then (if (ji10) < (l0.length : Int) then (if x7_1.length < 140737488355328 then (maskref1_Stretched.l0 k1 l0 true (x7_1 ++ [rd l0 (ji10)]) a1 (wrap64 (x10_1 + 1))) else (none)) else (none)) else (none)) = some r := by (rw [hji10] at H; exact H)
      have hji10w : (IntKind.i64.wrap ((l0.length : Int) - 1)) = ji10 := (i64_w _).trans hji10
      by_cases c11 : 0 ≤ (ji10)
      ·rw [if_pos c11] at H
       have c11b0 : decide (0 ≤ (ji10)) = true := decide_eq_true c11
       clear c11
       by_cases c12 : (ji10) < (l0.length : Int)
       ·rw [if_pos c12] at H
        have c12b0 : decide ((ji10) < (l0.length : Int)) = true := decide_eq_true c12
        clear c12
        by_cases c13 : x7_1.length < 140737488355328
        ·rw [if_pos c13] at H
         have LMc13 := Aside0.mk c13
         clear c13
         obtain ⟨y485, hy485⟩ : ∃ y_ : List Int, y_ = (x7_1 ++ [rd l0 (ji10)]) := ⟨_, rfl⟩
         replace H : (maskref1_Stretched.l0 k1 l0 true y485 a1 (wrap64 (x10_1 + 1))) = some r := by (rw [hy485]; with_reducible exact H)
         have Ny485 := Aside0.mk hy485
         clear hy485
         have H' := Aside0.mk H
         clear H
         have p484 : 0 ≤ ((ji10) : Int) := of_decide_eq_true (by (with_reducible assumption))
         have q484 : (ji10) < (l0.length : Int) := of_decide_eq_true (by (with_reducible assumption))
         obtain ⟨ad484, e484, hx484_0⟩ := Kd.at_int HR0.out (ji10) p484 q484
         cases e484
         replace hx484_0 := (HB.out.cell (World.block_lt_of_cell? w _ hx484_0)).trans hx484_0
         replace p484 := eq_true p484
         replace q484 := eq_true q484
         go_wp2_with (((with_reducible refine gate_builtin (b := .append) (xs := #[.tmp 30, .tmp 37]) rfl ?_); at_builtin; refine Kd.R_append (Kd.int .u8) (w0 := w) w.heap.size rfl (.tmp 30) (.tmp 37) 43 5 (.int .u8 0) 1 rfl Tryd.underlying43 info5 rfl (by decide) (by omega) u7 x7_1 (rd l0 (ji10)) [.int .u8 (rd l0 (ji10))] (fun _ => True) (fun _ => False) rfl rfl ?aP (fun _ hk => hk.elim) ?aF ?aO ?aB ?aS ?aL ?_; (case aP => exact rfl); (case aB => exact HB.out); (case aF => exact (fun _ _ => trivial)); (case aO => exact HO_7.out); (case aS => exact (below_size HB.out)); (case aL => have := LMc13.out; omega); intro v486 w14 ho hb hg hat; rw [← Ny485.out] at ho; replace HB := Aside0.mk (hb); have HO487 := Aside0.mk (ho); clear HO_7; clear ho hb hg hat))
         go_roundg k1
         case measure => have := HK1.out; omega
         case rel => exact ⟨(y485), (wrap64 (x10_1 + 1)), (by rfl), H', ⟨by have := HK1.out; omega⟩, ⟨by exact HO487.out⟩, ⟨by repeat (with_reducible exact HB.out)⟩⟩
        ·rw [if_neg c13] at H
         exact absurd H (by simp)
       ·rw [if_neg c12] at H
        exact absurd H (by simp)
      ·rw [if_neg c11] at H
       exact absurd H (by simp)
     ·replace c9 := Bool.eq_false_iff.mpr c9
      subst c9
      have H1 : (if x7_1.length < 140737488355328 then (maskref1_Stretched.l0 k1 l0 false (x7_1 ++ [48]) a1 (wrap64 (x10_1 + 1))) else (none)) = some r := by rw [if_neg (show ¬ (false = true) by decide)] at H; exact H
      clear H
      have H := H1
      clear H1
      by_cases c15 : x7_1.length < 140737488355328
      ·rw [if_pos c15] at H
       have LMc15 := Aside0.mk c15
       clear c15
       obtain ⟨y488, hy488⟩ : ∃ y_ : List Int, y_ = (x7_1 ++ [48]) := ⟨_, rfl⟩
       replace H : (maskref1_Stretched.l0 k1 l0 false y488 a1 (wrap64 (x10_1 + 1))) = some r := by (rw [hy488]; with_reducible exact H)
       have Ny488 := Aside0.mk hy488
       clear hy488
       have H' := Aside0.mk H
       clear H
       go_wp2_with (((with_reducible refine gate_builtin (b := .append) (xs := #[.tmp 13, .tmp 14]) rfl ?_); at_builtin; refine Kd.R_append (Kd.int .u8) (w0 := w) w.heap.size rfl (.tmp 13) (.tmp 14) 43 5 (.int .u8 0) 1 rfl Tryd.underlying43 info5 rfl (by decide) (by omega) u7 x7_1 48 [.int .u8 48] (fun _ => True) (fun _ => False) rfl rfl ?aP (fun _ hk => hk.elim) ?aF ?aO ?aB ?aS ?aL ?_; (case aP => exact rfl); (case aB => exact HB.out); (case aF => exact (fun _ _ => trivial)); (case aO => exact HO_7.out); (case aS => exact (below_size HB.out)); (case aL => have := LMc15.out; omega); intro v489 w16 ho hb hg hat; rw [← Ny488.out] at ho; replace HB := Aside0.mk (hb); have HO490 := Aside0.mk (ho); clear HO_7; clear ho hb hg hat))
       go_roundg k1
       case measure => have := HK1.out; omega
       case rel => exact ⟨(y488), (wrap64 (x10_1 + 1)), (by rfl), H', ⟨by have := HK1.out; omega⟩, ⟨by exact HO490.out⟩, ⟨by repeat (with_reducible exact HB.out)⟩⟩
      ·rw [if_neg c15] at H
       exact absurd H (by simp)
   ·rw [if_neg c4] at H
    have c4b0 : decide (x10_1 < a1) = false := decide_eq_false c4
    clear c4
    obtain rfl := Option.some.inj H
    go_wp2
    go_ret
    exact ⟨_, by rfl, by exact HO_7.out, by repeat (with_reducible exact HB.out)⟩
end Go.Proofs.YtfigblfjogpojaaDoor.PBits
end
section
namespace Go.Proofs.YtfigblfjogpojaaDoor.PBits
open Go.RowKit Go.Proofs.YtfigblfjogpojaaDoorW.PrintWords Go.Proofs.YtfigblfjogpojaaDoorW.PrintLast Go.Proofs.YtfigblfjogpojaaDoorW.PrintMore
attribute [local go_sem] max2_int min2_int max_two min_two max_three min_three max_four min_four
set_option linter.unusedVariables false
set_option linter.unusedSimpArgs false
def maskref1_Window.l0 : Nat → List Int → Int → Int → List Int → Int → Option (List Int)
 | 0, _, _, _, _, _ => none
 | k + 1, x0, x1, x2, x7, x8 => if x8 < (wrap64 (x1 + x2)) then (if x8 ≥ 0 then (if x8 < (x0.length : Int) then (if 0 ≤ x8 then (if x7.length < 140737488355328 then (maskref1_Window.l0 k x0 x1 x2 (x7 ++ [rd x0 x8]) (wrap64 (x8 + 1))) else (none)) else (none)) else (if x7.length < 140737488355328 then (maskref1_Window.l0 k x0 x1 x2 (x7 ++ [120]) (wrap64 (x8 + 1))) else (none))) else (if x7.length < 140737488355328 then (maskref1_Window.l0 k x0 x1 x2 (x7 ++ [120]) (wrap64 (x8 + 1))) else (none))) else (some x7)
def maskref1_Window.f (k : Nat) (l0 : List Int) (a1 : Int) (a2 : Int) : Option (List Int) := maskref1_Window.l0 k l0 a1 a2 ([] : List Int) a1
set_option maxHeartbeats 8000000 in
set_option maxRecDepth 100000 in
theorem maskref1_Window.calls (k : Nat) (A0 : Option Addr) (c0 : Nat) (l0 : List Int) (a1 : Int) (a2 : Int) (r : List Int) (w : World) (hr0 : Kd.C (Kd.int .u8) w A0 l0.length l0) (hc0 : l0.length ≤ c0) (h : maskref1_Window.f k l0 a1 a2 = some r) :
  Calls Tryd.prog 34 #[.slice A0 l0.length c0, .int .i64 a1, .int .i64 a2] w fun e w' => ∃ v0_ : Value, e = .returned (v0_) ∧ Kd.R (Kd.int .u8) 5 w' w.heap.size (fun _ => True) v0_ r ∧ Below w.heap.size w w' := by
 have HR0 := Aside0.mk hr0
 have HC0 := Aside0.mk hc0
 clear hr0 hc0
 have HB := Aside0.mk (Below.refl w.heap.size w)
 have H : (maskref1_Window.l0 k l0 a1 a2 ([] : List Int) a1) = some r := h
 clear h
 have H' := Aside0.mk H
 clear H
 go_enter Tryd.func34, Tryd.ntmps34
 go_wp2
 go_loopg [7, 8] k (fun kq v7 v8 w' => ∃ (x7_1 : List Int) (x8_1 : Int), v8 = .int .i64 x8_1 ∧ Aside0 (maskref1_Window.l0 kq l0 a1 a2 x7_1 x8_1 = some r) ∧ Aside0 (kq ≤ k) ∧ Aside0 (Kd.R (Kd.int .u8) 5 w' w.heap.size (fun _ => True) v7 x7_1) ∧ Aside0 (Below w.heap.size w w'))
 case atStart => exact ⟨([] : List Int), (a1), (by rfl), H', ⟨Nat.le_refl _⟩, ⟨by exact Kd.R_nil _ _ _ _ _⟩, ⟨by repeat (with_reducible exact HB.out)⟩⟩
 case round =>
  clear H'
  obtain ⟨x7_1, x8_1, rfl, HA, HK1, HO_7, HB⟩ := hrel
  cases gk with
  | zero => exact absurd HA.out (by simp [maskref1_Window.l0])
  | succ k1 =>
   have H := HA.out
   clear HA
   simp only [maskref1_Window.l0] at H
   by_cases c4 : x8_1 < (wrap64 (a1 + a2))
   ·rw [if_pos c4] at H
    have c4b0 : decide (x8_1 < (wrap64 (a1 + a2))) = true := decide_eq_true c4
    clear c4
    by_cases c5 : x8_1 ≥ 0
    ·rw [if_pos c5] at H
     have c5b0 : decide (0 ≤ x8_1) = true := decide_eq_true c5
     clear c5
     by_cases c6 : x8_1 < (l0.length : Int)
     ·rw [if_pos c6] at H
      have c6b0 : decide (x8_1 < (l0.length : Int)) = true := decide_eq_true c6
      clear c6
      by_cases c7 : 0 ≤ x8_1
      ·rw [if_pos c7] at H
       have c7b0 : decide (0 ≤ x8_1) = true := decide_eq_true c7
       clear c7
       by_cases c8 : x7_1.length < 140737488355328
       ·rw [if_pos c8] at H
        have LMc8 := Aside0.mk c8
        clear c8
        obtain ⟨y492, hy492⟩ : ∃ y_ : List Int, y_ = (x7_1 ++ [rd l0 x8_1]) := ⟨_, rfl⟩
        replace H : (maskref1_Window.l0 k1 l0 a1 a2 y492 (wrap64 (x8_1 + 1))) = some r := by (rw [hy492]; with_reducible exact H)
        have Ny492 := Aside0.mk hy492
        clear hy492
        have H' := Aside0.mk H
        clear H
        have p491 : 0 ≤ (x8_1 : Int) := of_decide_eq_true (by (with_reducible assumption))
        have q491 : x8_1 < (l0.length : Int) := of_decide_eq_true (by (with_reducible assumption))
        obtain ⟨ad491, e491, hx491_0⟩ := Kd.at_int HR0.out x8_1 p491 q491
        cases e491
        replace hx491_0 := (HB.out.cell (World.block_lt_of_cell? w _ hx491_0)).trans hx491_0
        replace p491 := eq_true p491
        replace q491 := eq_true q491
        go_wp2_with (((with_reducible refine gate_builtin (b := .append) (xs := #[.tmp 25, .tmp 30]) rfl ?_); (try (refine gate_guard (by rfl) ?_; dsimp only)); at_builtin; refine Kd.R_append (Kd.int .u8) (w0 := w) w.heap.size rfl (.tmp 25) (.tmp 30) 43 5 (.int .u8 0) 1 rfl Tryd.underlying43 info5 rfl (by decide) (by omega) u7 x7_1 (rd l0 x8_1) [.int .u8 (rd l0 x8_1)] (fun _ => True) (fun _ => False) rfl rfl ?aP (fun _ hk => hk.elim) ?aF ?aO ?aB ?aS ?aL ?_; (case aP => exact rfl); (case aB => exact HB.out); (case aF => exact (fun _ _ => trivial)); (case aO => exact HO_7.out); (case aS => exact (below_size HB.out)); (case aL => have := LMc8.out; omega); intro v493 w9 ho hb hg hat; rw [← Ny492.out] at ho; replace HB := Aside0.mk (hb); have HO494 := Aside0.mk (ho); clear HO_7; clear ho hb hg hat))
        go_roundg k1
        case measure => have := HK1.out; omega
        case rel => exact ⟨(y492), (wrap64 (x8_1 + 1)), (by rfl), H', ⟨by have := HK1.out; omega⟩, ⟨by exact HO494.out⟩, ⟨by repeat (with_reducible exact HB.out)⟩⟩
       ·rw [if_neg c8] at H
        exact absurd H (by simp)
      ·rw [if_neg c7] at H
       exact absurd H (by simp)
     ·rw [if_neg c6] at H
      have c6b0 : decide (x8_1 < (l0.length : Int)) = false := decide_eq_false c6
      clear c6
      by_cases c10 : x7_1.length < 140737488355328
      ·rw [if_pos c10] at H
       have LMc10 := Aside0.mk c10
       clear c10
       obtain ⟨y495, hy495⟩ : ∃ y_ : List Int, y_ = (x7_1 ++ [120]) := ⟨_, rfl⟩
       replace H : (maskref1_Window.l0 k1 l0 a1 a2 y495 (wrap64 (x8_1 + 1))) = some r := by (rw [hy495]; with_reducible exact H)
       have Ny495 := Aside0.mk hy495
       clear hy495
       have H' := Aside0.mk H
       clear H
       go_wp2_with (((with_reducible refine gate_builtin (b := .append) (xs := #[.tmp 32, .tmp 33]) rfl ?_); (try (refine gate_guard (by rfl) ?_; dsimp only)); at_builtin; refine Kd.R_append (Kd.int .u8) (w0 := w) w.heap.size rfl (.tmp 32) (.tmp 33) 43 5 (.int .u8 0) 1 rfl Tryd.underlying43 info5 rfl (by decide) (by omega) u7 x7_1 120 [.int .u8 120] (fun _ => True) (fun _ => False) rfl rfl ?aP (fun _ hk => hk.elim) ?aF ?aO ?aB ?aS ?aL ?_; (case aP => exact rfl); (case aB => exact HB.out); (case aF => exact (fun _ _ => trivial)); (case aO => exact HO_7.out); (case aS => exact (below_size HB.out)); (case aL => have := LMc10.out; omega); intro v496 w11 ho hb hg hat; rw [← Ny495.out] at ho; replace HB := Aside0.mk (hb); have HO497 := Aside0.mk (ho); clear HO_7; clear ho hb hg hat))
       go_roundg k1
       case measure => have := HK1.out; omega
       case rel => exact ⟨(y495), (wrap64 (x8_1 + 1)), (by rfl), H', ⟨by have := HK1.out; omega⟩, ⟨by exact HO497.out⟩, ⟨by repeat (with_reducible exact HB.out)⟩⟩
      ·rw [if_neg c10] at H
       exact absurd H (by simp)
    ·rw [if_neg c5] at H
     have c5b0 : decide (0 ≤ x8_1) = false := decide_eq_false c5
     clear c5
     by_cases c12 : x7_1.length < 140737488355328
     ·rw [if_pos c12] at H
      have LMc12 := Aside0.mk c12
      clear c12
      obtain ⟨y498, hy498⟩ : ∃ y_ : List Int, y_ = (x7_1 ++ [120]) := ⟨_, rfl⟩
      replace H : (maskref1_Window.l0 k1 l0 a1 a2 y498 (wrap64 (x8_1 + 1))) = some r := by (rw [hy498]; with_reducible exact H)
      have Ny498 := Aside0.mk hy498
      clear hy498
      have H' := Aside0.mk H
      clear H
      go_wp2_with (((with_reducible refine gate_builtin (b := .append) (xs := #[.tmp 32, .tmp 33]) rfl ?_); (try (refine gate_guard (by rfl) ?_; dsimp only)); at_builtin; refine Kd.R_append (Kd.int .u8) (w0 := w) w.heap.size rfl (.tmp 32) (.tmp 33) 43 5 (.int .u8 0) 1 rfl Tryd.underlying43 info5 rfl (by decide) (by omega) u7 x7_1 120 [.int .u8 120] (fun _ => True) (fun _ => False) rfl rfl ?aP (fun _ hk => hk.elim) ?aF ?aO ?aB ?aS ?aL ?_; (case aP => exact rfl); (case aB => exact HB.out); (case aF => exact (fun _ _ => trivial)); (case aO => exact HO_7.out); (case aS => exact (below_size HB.out)); (case aL => have := LMc12.out; omega); intro v499 w13 ho hb hg hat; rw [← Ny498.out] at ho; replace HB := Aside0.mk (hb); have HO500 := Aside0.mk (ho); clear HO_7; clear ho hb hg hat))
      go_roundg k1
      case measure => have := HK1.out; omega
      case rel => exact ⟨(y498), (wrap64 (x8_1 + 1)), (by rfl), H', ⟨by have := HK1.out; omega⟩, ⟨by exact HO500.out⟩, ⟨by repeat (with_reducible exact HB.out)⟩⟩
     ·rw [if_neg c12] at H
      exact absurd H (by simp)
   ·rw [if_neg c4] at H
    have c4b0 : decide (x8_1 < (wrap64 (a1 + a2))) = false := decide_eq_false c4
    clear c4
    obtain rfl := Option.some.inj H
    go_wp2
    go_ret
    exact ⟨_, by rfl, by exact HO_7.out, by repeat (with_reducible exact HB.out)⟩
end Go.Proofs.YtfigblfjogpojaaDoor.PBits
end
section
namespace Go.Proofs.YtfigblfjogpojaaDoor.PBits
open Go.RowKit Go.Proofs.YtfigblfjogpojaaDoorW.PrintWords Go.Proofs.YtfigblfjogpojaaDoorW.PrintLast Go.Proofs.YtfigblfjogpojaaDoorW.PrintMore
attribute [local go_sem] max2_int min2_int max_two min_two max_three min_three max_four min_four
set_option linter.unusedVariables false
set_option linter.unusedSimpArgs false
def bits_Slice.j0 : Nat → Int → Int → Bool → Int → Int → Int → Option (Int × Int × Int)
 | 0, _, _, _, _, _, _ => none
 | k + 1, x1, x2, x32, x522000, x522001, x522002 => if x32 = true then (some (0, 0, 0)) else (if 0 ≤ x1 then ((bits_mask.f x2).bind fun t527 => ((bits_mask.f x2).bind fun t528 => (some (x2, Go.bits .and .u64 (shr .u64 x522001 x1) t527, Go.bits .and .u64 (shr .u64 x522002 x1) t528)))) else (none))
def bits_Slice.f (k : Nat) (a0_0 : Int) (a0_1 : Int) (a0_2 : Int) (a1 : Int) (a2 : Int) : Option (Int × Int × Int) := (bits_valid.f k (([(⟨a0_0, a0_1, a0_2⟩ : S24)] : List (S24)))).bind fun t526 => (if t526 = true then (if a1 < 0 then (bits_Slice.j0 k a1 a2 true a0_0 a0_1 a0_2) else (if a2 < 1 then (bits_Slice.j0 k a1 a2 true a0_0 a0_1 a0_2) else (if a2 > a0_0 then (bits_Slice.j0 k a1 a2 true a0_0 a0_1 a0_2) else (bits_Slice.j0 k a1 a2 (decide (a1 > (wrap64 (a0_0 - a2)))) a0_0 a0_1 a0_2)))) else (bits_Slice.j0 k a1 a2 true a0_0 a0_1 a0_2))
def bits_Slice.T3 : Bool × List (List Nat × List Nat) := (true, [([], []), ([], []), ([1], [1]), ([], []), ([2, 3], [2, 3]), ([], []), ([5], [5]), ([4, 6], [4, 6]), ([], []), ([8], [8]), ([], []), ([9, 10], [9, 10]), ([], []), ([12, 6], [12]), ([11, 13], [11, 13]), ([0, 7, 14], [0, 7, 14]), ([15, 13, 0, 1, 2, 3, 4, 5, 6, 7, 8, 9, 10, 11, 12, 13, 14, 15], [15])])
def bits_Slice.B3 : List Nat := [0, 0, 2, 0, 14, 0, 32, 126, 0, 256, 0, 1792, 0, 4192, 16224, 32767, 65535]
theorem bits_Slice.tab3 : rtab .any (opsOf Tryd.f36 3) = bits_Slice.T3 := by kernel_rfl
theorem bits_Slice.bits3 : waitsOk bits_Slice.T3.2 bits_Slice.B3 = true := by kernel_rfl
set_option maxHeartbeats 8000000 in
set_option maxRecDepth 100000 in
theorem bits_Slice.calls (k : Nat) (a0_0 : Int) (a0_1 : Int) (a0_2 : Int) (a1 : Int) (a2 : Int) (r1 : Int) (r2 : Int) (r3 : Int) (w : World) (h : bits_Slice.f k a0_0 a0_1 a0_2 a1 a2 = some (r1, r2, r3)) :
  Calls Tryd.prog 36 #[.agg #[.int .i64 a0_0, .int .u64 a0_1, .int .u64 a0_2], .int .i64 a1, .int .i64 a2] w fun e w' => e = .returned (.agg #[.int .i64 r1, .int .u64 r2, .int .u64 r3]) ∧ Below w.heap.size w w' := by
 have hu24 := Tryd.underlying24
 have HB := Aside0.mk (Below.refl w.heap.size w)
 have H : ((bits_valid.f k ([(⟨a0_0, a0_1, a0_2⟩ : S24)] : List (S24))).bind fun t526 => (if t526 = true then (if a1 < 0 then (bits_Slice.j0 k a1 a2 true a0_0 a0_1 a0_2) else (if a2 < 1 then (bits_Slice.j0 k a1 a2 true a0_0 a0_1 a0_2) else (if a2 > a0_0 then (bits_Slice.j0 k a1 a2 true a0_0 a0_1 a0_2) else (bits_Slice.j0 k a1 a2 (decide (a1 > (wrap64 (a0_0 - a2)))) a0_0 a0_1 a0_2)))) else (bits_Slice.j0 k a1 a2 true a0_0 a0_1 a0_2))) = some (r1, r2, r3) := h
 clear h
 have HC4 := Aside0.mk H
 clear H
 go_enter Tryd.func36, Tryd.ntmps36
 go_upto_region 1 with (first | ((with_reducible refine gate_dst (N := 3) rfl ?_); refine box_event ?hg (N := 3) ?hd (cs := #[.int .i64 a0_0, .int .u64 a0_1, .int .u64 a0_2]) (t := 24) ?hr ?_; (case hd => rfl); (case hg => rfl); (case hr => (go_simp; done)); intro gb521 hg w5 hbox hb; have BK521 := Aside0.mk (hbox); have GW521 := ge1 HB hg; have GE521 := ge1 HB hg; replace HB := hb1 HB hb; clear hb hbox hg) | ((with_reducible refine gate_dst (N := 6) rfl ?_); refine box_event ?hg (N := 6) ?hd (cs := #[.int .i64 0, .int .u64 0, .int .u64 0]) (t := 24) ?hr ?_; (case hd => rfl); (case hg => rfl); (case hr => (go_simp; done)); intro gb522 hg w6 hbox hb; have BK522 := Aside0.mk (hbox); have GW522 := ge1 HB hg; have GE522 := ge1 HB hg; replace HB := hb1 HB hb; have NB521_522 := Aside0.mk ((by rw [hg]; exact Nat.ne_of_lt (blk_lt BK521.out) : gb521 ≠ gb522)); have NB522_521 := Aside0.mk ((by rw [hg]; exact Nat.ne_of_gt (blk_lt BK521.out) : gb522 ≠ gb521)); replace BK521 := bk1 BK521 hb; clear hb hbox hg))
 (try simp only [Act.put, List.setIfInBounds_toArray, List.set_cons_zero, List.set_cons_succ])
 go_cut [32] (fun v32 wc => ∃ (kq : Nat) (x32_3 : Bool), v32 = .bool x32_3 ∧ Aside0 (bits_Slice.j0 kq a1 a2 x32_3 a0_0 a0_1 a0_2 = some (r1, r2, r3)) ∧ Aside0 (kq ≤ k) ∧ Aside0 (wc.heap[gb521]? = some (.cells #[.int .i64 a0_0, .int .u64 a0_1, .int .u64 a0_2] 24 (0, 0))) ∧ Aside0 (wc.heap[gb522]? = some (.cells #[.int .i64 0, .int .u64 0, .int .u64 0] 24 (0, 0))) ∧ Aside0 (Below w.heap.size w wc))
 case first =>
  have H := HC4.out
  clear HC4
  obtain ⟨y523, hy523⟩ : ∃ y_ : List (S24), y_ = ([(⟨a0_0, a0_1, a0_2⟩ : S24)] : List (S24)) := ⟨_, rfl⟩
  replace H : ((bits_valid.f k y523).bind fun t526 => (if t526 = true then (if a1 < 0 then (bits_Slice.j0 k a1 a2 true a0_0 a0_1 a0_2) else (if a2 < 1 then (bits_Slice.j0 k a1 a2 true a0_0 a0_1 a0_2) else (if a2 > a0_0 then (bits_Slice.j0 k a1 a2 true a0_0 a0_1 a0_2) else (bits_Slice.j0 k a1 a2 (decide (a1 > (wrap64 (a0_0 - a2)))) a0_0 a0_1 a0_2)))) else (bits_Slice.j0 k a1 a2 true a0_0 a0_1 a0_2))) = some (r1, r2, r3) := by (rw [hy523]; with_reducible exact H)
  have Ny523 := Aside0.mk hy523
  clear hy523
  replace H := Option.bind_eq_some_iff.mp H
  obtain ⟨t526, A70, H⟩ := H
  replace H : (if t526 = true then (if a1 < 0 then (bits_Slice.j0 k a1 a2 true a0_0 a0_1 a0_2) else (if a2 < 1 then (bits_Slice.j0 k a1 a2 true a0_0 a0_1 a0_2) else (if a2 > a0_0 then (bits_Slice.j0 k a1 a2 true a0_0 a0_1 a0_2) else (bits_Slice.j0 k a1 a2 (decide (a1 > (wrap64 (a0_0 - a2)))) a0_0 a0_1 a0_2)))) else (bits_Slice.j0 k a1 a2 true a0_0 a0_1 a0_2)) = some (r1, r2, r3) := H
  have A7 := Aside0.mk A70
  clear A70
  by_cases c8 : t526 = true
  ·subst c8
   have H1 : (if a1 < 0 then (bits_Slice.j0 k a1 a2 true a0_0 a0_1 a0_2) else (if a2 < 1 then (bits_Slice.j0 k a1 a2 true a0_0 a0_1 a0_2) else (if a2 > a0_0 then (bits_Slice.j0 k a1 a2 true a0_0 a0_1 a0_2) else (bits_Slice.j0 k a1 a2 (decide (a1 > (wrap64 (a0_0 - a2)))) a0_0 a0_1 a0_2)))) = some (r1, r2, r3) := by rw [if_pos rfl] at H; exact H
   clear H
   have H := H1
   clear H1
   by_cases c9 : a1 < 0
   ·rw [if_pos c9] at H
    have c9b0 : decide (a1 < 0) = true := decide_eq_true c9
    clear c9
    (skip)
    have H' := Aside0.mk H
    clear H
    have hnb10 := NB521_522.out
    have hnc10 := NB522_521.out
    obtain ⟨hcz11_0, hcz11_1, hcz11_2⟩ := sq_cells3 (W := w6) (g := gb521) BK521.out; obtain ⟨hfz11_0, hfz11_1, hfz11_2⟩ := sq_frozen3 BK521.out
    go_wp2_with (first | ((with_reducible refine gate_dst (N := 8) rfl ?_); refine Kd.R_lit k24 _ 24 ?hg (N := 8) ?hd (xs := ([(⟨a0_0, a0_1, a0_2⟩ : S24)] : List (S24))) (inner := [.int .i64 a0_0, .int .u64 a0_1, .int .u64 a0_2]) (ok := fun _ => True) (okp := fun _ => True) ?hr ?hp (fun _ hk => hk) trivial (Below.refl _ _) (Nat.le_refl _) (by simp) ?_; (case hd => rfl); (case hg => rfl); (case hr => (go_simp; done)); (case hp => exact (Reps.c3 (show Kd.M k24 _ _ _ (⟨a0_0, a0_1, a0_2⟩ : S24) [.int .i64 a0_0, .int .u64 a0_1, .int .u64 a0_2] from (k24_mkM _ _ _ (⟨a0_0, a0_1, a0_2⟩ : S24) )) (Reps.none _ _))); intro v524 w12 ho13 hb hg_ hnew_; clear hg_ hnew_; (rw [← Ny523.out] at ho13); have HO525 := Aside0.mk (Kd.R_lower (Kd.R_newB (Kd.R_newB ho13 BK521.out) BK522.out) (below_size HB.out)); replace BK521 := bk1 BK521 hb; replace BK522 := bk1 BK522 hb; replace HB := hb1 HB hb; clear hb ho13; obtain ⟨Ao14, co14, eo14⟩ := Kd.R_slice HO525.out; subst eo14) | ((with_reducible refine gate_callee (f := 56) rfl ?_); refine goesL_ (some 9) rfl rfl Tryd.func56 (by kernel_rfl) rfl #[.slice Ao14 y523.length co14] rfl (by (try simp only [List.map_toArray, List.map_cons, List.map_nil]); rfl) ?_; (with_reducible refine (bits_valid.calls k _ _ y523 true _ ?side1 ?side2 A7.out).mono ?_); (case side1 => repeat (exact (Kd.R_reads' HO525.out).2.2)); (case side2 => exact (Kd.R_reads' HO525.out).2.1); rintro e w15 ⟨rfl, hb⟩; refine ⟨_, rfl, ?_⟩; replace HO525 := Kd.rb1 HO525 hb; replace BK521 := bk1 BK521 hb; replace BK522 := bk1 BK522 hb; replace HB := hb1 HB hb; (try clear hb)))
    go_meet
    case rel => exact ⟨_, (true), (by rfl), H', ⟨by omega⟩, ⟨by exact BK521.out⟩, ⟨by exact BK522.out⟩, ⟨by repeat (with_reducible exact HB.out)⟩⟩
   ·rw [if_neg c9] at H
    have c9b0 : decide (a1 < 0) = false := decide_eq_false c9
    clear c9
    (skip)
    by_cases c16 : a2 < 1
    ·rw [if_pos c16] at H
     have c16b0 : decide (a2 < 1) = true := decide_eq_true c16
     clear c16
     have H' := Aside0.mk H
     clear H
     have hnb17 := NB521_522.out
     have hnc17 := NB522_521.out
     obtain ⟨hcz18_0, hcz18_1, hcz18_2⟩ := sq_cells3 (W := w6) (g := gb521) BK521.out; obtain ⟨hfz18_0, hfz18_1, hfz18_2⟩ := sq_frozen3 BK521.out
     go_wp2_with (first | ((with_reducible refine gate_dst (N := 8) rfl ?_); refine Kd.R_lit k24 _ 24 ?hg (N := 8) ?hd (xs := ([(⟨a0_0, a0_1, a0_2⟩ : S24)] : List (S24))) (inner := [.int .i64 a0_0, .int .u64 a0_1, .int .u64 a0_2]) (ok := fun _ => True) (okp := fun _ => True) ?hr ?hp (fun _ hk => hk) trivial (Below.refl _ _) (Nat.le_refl _) (by simp) ?_; (case hd => rfl); (case hg => rfl); (case hr => (go_simp; done)); (case hp => exact (Reps.c3 (show Kd.M k24 _ _ _ (⟨a0_0, a0_1, a0_2⟩ : S24) [.int .i64 a0_0, .int .u64 a0_1, .int .u64 a0_2] from (k24_mkM _ _ _ (⟨a0_0, a0_1, a0_2⟩ : S24) )) (Reps.none _ _))); intro v524 w19 ho20 hb hg_ hnew_; clear hg_ hnew_; (rw [← Ny523.out] at ho20); have HO525 := Aside0.mk (Kd.R_lower (Kd.R_newB (Kd.R_newB ho20 BK521.out) BK522.out) (below_size HB.out)); replace BK521 := bk1 BK521 hb; replace BK522 := bk1 BK522 hb; replace HB := hb1 HB hb; clear hb ho20; obtain ⟨Ao21, co21, eo21⟩ := Kd.R_slice HO525.out; subst eo21) | ((with_reducible refine gate_callee (f := 56) rfl ?_); refine goesL_ (some 9) rfl rfl Tryd.func56 (by kernel_rfl) rfl #[.slice Ao21 y523.length co21] rfl (by (try simp only [List.map_toArray, List.map_cons, List.map_nil]); rfl) ?_; (with_reducible refine (bits_valid.calls k _ _ y523 true _ ?side1 ?side2 A7.out).mono ?_); (case side1 => repeat (exact (Kd.R_reads' HO525.out).2.2)); (case side2 => exact (Kd.R_reads' HO525.out).2.1); rintro e w22 ⟨rfl, hb⟩; refine ⟨_, rfl, ?_⟩; replace HO525 := Kd.rb1 HO525 hb; replace BK521 := bk1 BK521 hb; replace BK522 := bk1 BK522 hb; replace HB := hb1 HB hb; (try clear hb)))
     go_meet
     case rel => exact ⟨_, (true), (by rfl), H', ⟨by omega⟩, ⟨by exact BK521.out⟩, ⟨by exact BK522.out⟩, ⟨by repeat (with_reducible exact HB.out)⟩⟩
    ·rw [if_neg c16] at H
     have c16b0 : decide (a2 < 1) = false := decide_eq_false c16
     clear c16
     by_cases c23 : a2 > a0_0
     ·rw [if_pos c23] at H
      have c23b0 : decide (a0_0 < a2) = true := decide_eq_true c23
      clear c23
      have H' := Aside0.mk H
      clear H
      have hnb24 := NB521_522.out
      have hnc24 := NB522_521.out
      obtain ⟨hcz25_0, hcz25_1, hcz25_2⟩ := sq_cells3 (W := w6) (g := gb521) BK521.out; obtain ⟨hfz25_0, hfz25_1, hfz25_2⟩ := sq_frozen3 BK521.out
      go_wp2_with (first | ((with_reducible refine gate_dst (N := 8) rfl ?_); refine Kd.R_lit k24 _ 24 ?hg (N := 8) ?hd (xs := ([(⟨a0_0, a0_1, a0_2⟩ : S24)] : List (S24))) (inner := [.int .i64 a0_0, .int .u64 a0_1, .int .u64 a0_2]) (ok := fun _ => True) (okp := fun _ => True) ?hr ?hp (fun _ hk => hk) trivial (Below.refl _ _) (Nat.le_refl _) (by simp) ?_; (case hd => rfl); (case hg => rfl); (case hr => (go_simp; done)); (case hp => exact (Reps.c3 (show Kd.M k24 _ _ _ (⟨a0_0, a0_1, a0_2⟩ : S24) [.int .i64 a0_0, .int .u64 a0_1, .int .u64 a0_2] from (k24_mkM _ _ _ (⟨a0_0, a0_1, a0_2⟩ : S24) )) (Reps.none _ _))); intro v524 w26 ho27 hb hg_ hnew_; clear hg_ hnew_; (rw [← Ny523.out] at ho27); have HO525 := Aside0.mk (Kd.R_lower (Kd.R_newB (Kd.R_newB ho27 BK521.out) BK522.out) (below_size HB.out)); replace BK521 := bk1 BK521 hb; replace BK522 := bk1 BK522 hb; replace HB := hb1 HB hb; clear hb ho27; obtain ⟨Ao28, co28, eo28⟩ := Kd.R_slice HO525.out; subst eo28) | ((with_reducible refine gate_callee (f := 56) rfl ?_); refine goesL_ (some 9) rfl rfl Tryd.func56 (by kernel_rfl) rfl #[.slice Ao28 y523.length co28] rfl (by (try simp only [List.map_toArray, List.map_cons, List.map_nil]); rfl) ?_; (with_reducible refine (bits_valid.calls k _ _ y523 true _ ?side1 ?side2 A7.out).mono ?_); (case side1 => repeat (exact (Kd.R_reads' HO525.out).2.2)); (case side2 => exact (Kd.R_reads' HO525.out).2.1); rintro e w29 ⟨rfl, hb⟩; refine ⟨_, rfl, ?_⟩; replace HO525 := Kd.rb1 HO525 hb; replace BK521 := bk1 BK521 hb; replace BK522 := bk1 BK522 hb; replace HB := hb1 HB hb; (try clear hb); have hcz30_0 : w29.cell? ⟨gb521, 0, none⟩ = some (.int .i64 a0_0) := (blk_cell BK521.out 0).trans rfl; have hcz30_1 : w29.cell? ⟨gb521, 1, none⟩ = some (.int .u64 a0_1) := (blk_cell BK521.out 1).trans rfl; have hcz30_2 : w29.cell? ⟨gb521, 2, none⟩ = some (.int .u64 a0_2) := (blk_cell BK521.out 2).trans rfl; have hfz30_0 := blk_frozen BK521.out 0; have hfz30_1 := blk_frozen BK521.out 1; have hfz30_2 := blk_frozen BK521.out 2))
      go_meet
      case rel => exact ⟨_, (true), (by rfl), H', ⟨by omega⟩, ⟨by exact BK521.out⟩, ⟨by exact BK522.out⟩, ⟨by repeat (with_reducible exact HB.out)⟩⟩
     ·rw [if_neg c23] at H
      have c23b0 : decide (a0_0 < a2) = false := decide_eq_false c23
      clear c23
      have H' := Aside0.mk H
      clear H
      have hnb31 := NB521_522.out
      have hnc31 := NB522_521.out
      obtain ⟨hcz32_0, hcz32_1, hcz32_2⟩ := sq_cells3 (W := w6) (g := gb521) BK521.out; obtain ⟨hfz32_0, hfz32_1, hfz32_2⟩ := sq_frozen3 BK521.out
      go_wp2_with (first | ((with_reducible refine gate_dst (N := 8) rfl ?_); refine Kd.R_lit k24 _ 24 ?hg (N := 8) ?hd (xs := ([(⟨a0_0, a0_1, a0_2⟩ : S24)] : List (S24))) (inner := [.int .i64 a0_0, .int .u64 a0_1, .int .u64 a0_2]) (ok := fun _ => True) (okp := fun _ => True) ?hr ?hp (fun _ hk => hk) trivial (Below.refl _ _) (Nat.le_refl _) (by simp) ?_; (case hd => rfl); (case hg => rfl); (case hr => (go_simp; done)); (case hp => exact (Reps.c3 (show Kd.M k24 _ _ _ (⟨a0_0, a0_1, a0_2⟩ : S24) [.int .i64 a0_0, .int .u64 a0_1, .int .u64 a0_2] from (k24_mkM _ _ _ (⟨a0_0, a0_1, a0_2⟩ : S24) )) (Reps.none _ _))); intro v524 w33 ho34 hb hg_ hnew_; clear hg_ hnew_; (rw [← Ny523.out] at ho34); have HO525 := Aside0.mk (Kd.R_lower (Kd.R_newB (Kd.R_newB ho34 BK521.out) BK522.out) (below_size HB.out)); replace BK521 := bk1 BK521 hb; replace BK522 := bk1 BK522 hb; replace HB := hb1 HB hb; clear hb ho34; obtain ⟨Ao35, co35, eo35⟩ := Kd.R_slice HO525.out; subst eo35) | ((with_reducible refine gate_callee (f := 56) rfl ?_); refine goesL_ (some 9) rfl rfl Tryd.func56 (by kernel_rfl) rfl #[.slice Ao35 y523.length co35] rfl (by (try simp only [List.map_toArray, List.map_cons, List.map_nil]); rfl) ?_; (with_reducible refine (bits_valid.calls k _ _ y523 true _ ?side1 ?side2 A7.out).mono ?_); (case side1 => repeat (exact (Kd.R_reads' HO525.out).2.2)); (case side2 => exact (Kd.R_reads' HO525.out).2.1); rintro e w36 ⟨rfl, hb⟩; refine ⟨_, rfl, ?_⟩; replace HO525 := Kd.rb1 HO525 hb; replace BK521 := bk1 BK521 hb; replace BK522 := bk1 BK522 hb; replace HB := hb1 HB hb; (try clear hb); have hcz37_0 : w36.cell? ⟨gb521, 0, none⟩ = some (.int .i64 a0_0) := (blk_cell BK521.out 0).trans rfl; have hcz37_1 : w36.cell? ⟨gb521, 1, none⟩ = some (.int .u64 a0_1) := (blk_cell BK521.out 1).trans rfl; have hcz37_2 : w36.cell? ⟨gb521, 2, none⟩ = some (.int .u64 a0_2) := (blk_cell BK521.out 2).trans rfl; have hfz37_0 := blk_frozen BK521.out 0; have hfz37_1 := blk_frozen BK521.out 1; have hfz37_2 := blk_frozen BK521.out 2))
      go_meet
      case rel => exact ⟨_, (decide (a1 > (wrap64 (a0_0 - a2)))), (by rfl), H', ⟨by omega⟩, ⟨by exact BK521.out⟩, ⟨by exact BK522.out⟩, ⟨by repeat (with_reducible exact HB.out)⟩⟩
  ·replace c8 := Bool.eq_false_iff.mpr c8
   subst c8
   have H1 : (bits_Slice.j0 k a1 a2 true a0_0 a0_1 a0_2) = some (r1, r2, r3) := by rw [if_neg (show ¬ (false = true) by decide)] at H; exact H
   clear H
   have H := H1
   clear H1
   have H' := Aside0.mk H
   clear H
   have hnb38 := NB521_522.out
   have hnc38 := NB522_521.out
   obtain ⟨hcz39_0, hcz39_1, hcz39_2⟩ := sq_cells3 (W := w6) (g := gb521) BK521.out; obtain ⟨hfz39_0, hfz39_1, hfz39_2⟩ := sq_frozen3 BK521.out
   go_wp2_with (first | ((with_reducible refine gate_dst (N := 8) rfl ?_); refine Kd.R_lit k24 _ 24 ?hg (N := 8) ?hd (xs := ([(⟨a0_0, a0_1, a0_2⟩ : S24)] : List (S24))) (inner := [.int .i64 a0_0, .int .u64 a0_1, .int .u64 a0_2]) (ok := fun _ => True) (okp := fun _ => True) ?hr ?hp (fun _ hk => hk) trivial (Below.refl _ _) (Nat.le_refl _) (by simp) ?_; (case hd => rfl); (case hg => rfl); (case hr => (go_simp; done)); (case hp => exact (Reps.c3 (show Kd.M k24 _ _ _ (⟨a0_0, a0_1, a0_2⟩ : S24) [.int .i64 a0_0, .int .u64 a0_1, .int .u64 a0_2] from (k24_mkM _ _ _ (⟨a0_0, a0_1, a0_2⟩ : S24) )) (Reps.none _ _))); intro v524 w40 ho41 hb hg_ hnew_; clear hg_ hnew_; (rw [← Ny523.out] at ho41); have HO525 := Aside0.mk (Kd.R_lower (Kd.R_newB (Kd.R_newB ho41 BK521.out) BK522.out) (below_size HB.out)); replace BK521 := bk1 BK521 hb; replace BK522 := bk1 BK522 hb; replace HB := hb1 HB hb; clear hb ho41; obtain ⟨Ao42, co42, eo42⟩ := Kd.R_slice HO525.out; subst eo42) | ((with_reducible refine gate_callee (f := 56) rfl ?_); refine goesL_ (some 9) rfl rfl Tryd.func56 (by kernel_rfl) rfl #[.slice Ao42 y523.length co42] rfl (by (try simp only [List.map_toArray, List.map_cons, List.map_nil]); rfl) ?_; (with_reducible refine (bits_valid.calls k _ _ y523 false _ ?side1 ?side2 A7.out).mono ?_); (case side1 => repeat (exact (Kd.R_reads' HO525.out).2.2)); (case side2 => exact (Kd.R_reads' HO525.out).2.1); rintro e w43 ⟨rfl, hb⟩; refine ⟨_, rfl, ?_⟩; replace HO525 := Kd.rb1 HO525 hb; replace BK521 := bk1 BK521 hb; replace BK522 := bk1 BK522 hb; replace HB := hb1 HB hb; (try clear hb)))
   go_meet
   case rel => exact ⟨_, (true), (by rfl), H', ⟨by omega⟩, ⟨by exact BK521.out⟩, ⟨by exact BK522.out⟩, ⟨by repeat (with_reducible exact HB.out)⟩⟩
 case rest =>
  clear HC4
  obtain ⟨kq, x32_3, rfl, HA, HJ3, BK521, BK522, HB⟩ := hcut
  cases kq with
  | zero => exact absurd HA.out (by simp [bits_Slice.j0])
  | succ kj3 =>
   have H := HA.out
   clear HA
   simp only [bits_Slice.j0] at H
   by_cases c44 : x32_3 = true
   ·subst c44
    have H1 : (some (0, 0, 0)) = some (r1, r2, r3) := by rw [if_pos rfl] at H; exact H
    clear H
    have H := H1
    clear H1
    simp only [Option.some.injEq, Prod.mk.injEq] at H
    obtain ⟨rfl, rfl, rfl⟩ := H
    have hnb45 := NB522_521.out
    have hnc45 := NB521_522.out
    obtain ⟨hcz46_0, hcz46_1, hcz46_2⟩ := sq_cells3 (W := wc) (g := gb522) BK522.out; obtain ⟨hfz46_0, hfz46_1, hfz46_2⟩ := sq_frozen3 BK522.out
    go_wp2
    refine bodyPost_ret (results_cell_row rfl _ _ gb522 24 #[.int .i64 0, .int .u64 0, .int .u64 0] (0, 0) _ rfl (by refine blk_put (cs := #[.int .i64 0, .int .u64 0, .int .u64 0]) ?_ 2 _ rfl; refine blk_put (cs := #[.int .i64 0, .int .u64 0, .int .u64 0]) ?_ 1 _ rfl; refine blk_put (cs := #[.int .i64 0, .int .u64 0, .int .u64 0]) ?_ 0 _ rfl; exact BK522.out) Tryd.underlying24 rfl (by kernel_rfl)) rfl ?_
    exact ⟨by rfl, by repeat (with_reducible first | exact HB.out | refine below_set ?_ GE522.out)⟩
   ·replace c44 := Bool.eq_false_iff.mpr c44
    subst c44
    have H1 : (if 0 ≤ a1 then ((bits_mask.f a2).bind fun t527 => ((bits_mask.f a2).bind fun t528 => (some (a2, Go.bits .and .u64 (shr .u64 a0_1 a1) t527, Go.bits .and .u64 (shr .u64 a0_2 a1) t528)))) else (none)) = some (r1, r2, r3) := by rw [if_neg (show ¬ (false = true) by decide)] at H; exact H
    clear H
    have H := H1
    clear H1
    by_cases c47 : 0 ≤ a1
    ·rw [if_pos c47] at H
     have c47b0 := eq_true c47
     have c47b1 : decide (0 ≤ a1) = true := decide_eq_true c47
     clear c47
     obtain ⟨ji48, hji48⟩ : ∃ j_ : Int, (shr .u64 a0_1 a1) = j_ := ⟨_, rfl⟩
     replace H : ((bits_mask.f a2).bind fun t527 => ((bits_mask.f a2).bind fun t528 => (some (a2, Go.bits .and .u64 (ji48) t527, Go.bits .and .u64 (shr .u64 a0_2 a1) t528)))) = some (r1, r2, r3) := by (rw [hji48] at H; exact H)
     have hji48_ : (a0_1 / 2 ^ min a1.toNat 64) = ji48 := hji48
     have hji48z : a1 ≤ 64 → (a0_1 / 2 ^ a1.toNat) = ji48 := shr_small hji48
     replace H := Option.bind_eq_some_iff.mp H
     obtain ⟨t527, A490, H⟩ := H
     replace H : ((bits_mask.f a2).bind fun t528 => (some (a2, Go.bits .and .u64 (ji48) t527, Go.bits .and .u64 (shr .u64 a0_2 a1) t528))) = some (r1, r2, r3) := H
     have A49 := Aside0.mk A490
     clear A490
     have c50b0 := eq_true (of_decide_eq_true (by (with_reducible assumption)) : 0 ≤ a1)
     obtain ⟨ji51, hji51⟩ : ∃ j_ : Int, (shr .u64 a0_2 a1) = j_ := ⟨_, rfl⟩
     replace H : ((bits_mask.f a2).bind fun t528 => (some (a2, Go.bits .and .u64 (ji48) t527, Go.bits .and .u64 (ji51) t528))) = some (r1, r2, r3) := by (rw [hji51] at H; exact H)
     have hji51_ : (a0_2 / 2 ^ min a1.toNat 64) = ji51 := hji51
     have hji51z : a1 ≤ 64 → (a0_2 / 2 ^ a1.toNat) = ji51 := shr_small hji51
     replace H := Option.bind_eq_some_iff.mp H
     obtain ⟨t528, A520, H⟩ := H
     replace H : (some (a2, Go.bits .and .u64 (ji48) t527, Go.bits .and .u64 (ji51) t528)) = some (r1, r2, r3) := H
     have A52 := Aside0.mk A520
     clear A520
     simp only [Option.some.injEq, Prod.mk.injEq] at H
     obtain ⟨rfl, rfl, rfl⟩ := H
     try go_wp2
     replace BK521 := bkd BK521
     replace BK522 := bkd BK522
     replace HB := hbd HB
     refine start_ (n := 17) (S := fun w' => w'.cell? ⟨gb521, 0, none⟩ = some (.int .i64 a0_0) ∧ w'.cell? ⟨gb521, 1, none⟩ = some (.int .u64 a0_1) ∧ w'.cell? ⟨gb521, 2, none⟩ = some (.int .u64 a0_2)) (ds := []) (tb 17 0) (by kernel_rfl) rfl (by kernel_rfl) (d3 BK521) (fun hHeld => ?_); refine with_tabW bits_Slice.tab3 bits_Slice.bits3 (fun HT_ HW_ => ?_)
     generalize wc.drew = w53 at BK521 BK522 HB hHeld ⊢
     refine pA 0 34 (tb 17 1) HT_ ?_
     refine pA 1 35 (tb 17 3) HT_ ?_
     refine pA 3 37 (tb 17 11) HT_ ?_
     refine pA 5 39 (tb 17 43) HT_ ?_
     refine pA 8 42 (tb 17 299) HT_ ?_
     refine pA 10 44 (tb 17 1323) HT_ ?_
     refine pA 12 46 (tb 17 5419) HT_ ?_
     refine tA 2 36 (tb 17 5423) HT_ HW_ hHeld ?_
     refine pA 4 38 (tb 17 5439) HT_ ?_
     refine tA 9 43 (tb 17 5951) HT_ HW_ hHeld ?_
     refine pA 11 45 (tb 17 7999) HT_ ?_
     refine oA 6 (some 40) (tb 17 8063) HT_ (fun K hK => ?_)
     refine gA Tryd.func58 #[.int .i64 a2] ?_
     with_reducible refine (bits_mask.calls a2 t527 _ A49.out).mono ?_
     rintro e w' ⟨rfl, ⟨nd, rfl⟩⟩
     refine ⟨_, rfl, ?_⟩
     refine hK.out _ _ (d3 BK521) (fun hHeld => ?_)
     clear hK K
     refine nA ?_
     refine pA 7 41 (tb 17 8191) HT_ ?_
     refine oA 13 (some 47) (tb 17 16383) HT_ (fun K hK => ?_)
     refine gA Tryd.func58 #[.int .i64 a2] ?_
     with_reducible refine (bits_mask.calls a2 t528 _ A52.out).mono ?_
     rintro e w' ⟨rfl, ⟨nd, rfl⟩⟩
     refine ⟨_, rfl, ?_⟩
     refine hK.out _ _ (d3 BK521) (fun hHeld => ?_)
     clear hK K
     refine nA ?_
     refine pA 14 48 (tb 17 32767) HT_ ?_
     refine pA 15 49 (tb 17 65535) HT_ ?_
     refine oA 16 (none) (tb 17 131071) HT_ (fun K hK => ?_)
     have hs54 : w53.cell? ⟨gb522, 0, none⟩ = some (.int .i64 0) := (blk_cell BK522.out 0).trans rfl
     have hfs54 := blk_frozen BK522.out 0
     have hns54_0 := NB521_522.out
     have hms54_0 := NB522_521.out
     have hs55 : w53.cell? ⟨gb522, 1, none⟩ = some (.int .u64 0) := (blk_cell BK522.out 1).trans rfl
     have hfs55 := blk_frozen BK522.out 1
     have hns55_0 := NB521_522.out
     have hms55_0 := NB522_521.out
     have hs56 : w53.cell? ⟨gb522, 2, none⟩ = some (.int .u64 0) := (blk_cell BK522.out 2).trans rfl
     have hfs56 := blk_frozen BK522.out 2
     have hns56_0 := NB521_522.out
     have hms56_0 := NB522_521.out
     refine skip_ (w1 := ?_) (by rfl) rfl ?_ ?_
     rotate_left
     ·go_simp
      rfl
     refine hK.out _ _ ⟨((cell_far (p := ⟨gb522, _, none⟩) NB521_522.out _).trans (((cell_far (p := ⟨gb522, _, none⟩) NB521_522.out _).trans (((cell_far (p := ⟨gb522, _, none⟩) NB521_522.out _).trans (hHeld.1)))))), ((cell_far (p := ⟨gb522, _, none⟩) NB521_522.out _).trans (((cell_far (p := ⟨gb522, _, none⟩) NB521_522.out _).trans (((cell_far (p := ⟨gb522, _, none⟩) NB521_522.out _).trans (hHeld.2.1)))))), ((cell_far (p := ⟨gb522, _, none⟩) NB521_522.out _).trans (((cell_far (p := ⟨gb522, _, none⟩) NB521_522.out _).trans (((cell_far (p := ⟨gb522, _, none⟩) NB521_522.out _).trans (hHeld.2.2))))))⟩ (fun hHeld => ?_)
     clear hK K
     refine done_ (done_of HT_.out (by kernel_rfl)) ?_
     try go_wp2
     refine bodyPost_ret (results_cell_row rfl _ _ gb522 24 #[.int .i64 a2, .int .u64 (Go.bits .and .u64 (ji48) t527), .int .u64 (Go.bits .and .u64 (ji51) t528)] (0, 0) _ rfl (by refine blk_put (cs := #[.int .i64 a2, .int .u64 (Go.bits .and .u64 (ji48) t527), .int .u64 0]) ?_ 2 _ rfl; refine blk_put (cs := #[.int .i64 a2, .int .u64 0, .int .u64 0]) ?_ 1 _ rfl; refine blk_put (cs := #[.int .i64 0, .int .u64 0, .int .u64 0]) ?_ 0 _ rfl; (with_reducible repeat (refine blk_drewN ?_ _)); exact BK522.out) Tryd.underlying24 rfl (by kernel_rfl)) rfl ?_
     exact ⟨by rfl, by repeat (with_reducible first | exact HB.out | apply pw_below_drewN | refine below_set ?_ GE522.out)⟩
    ·rw [if_neg c47] at H
     exact absurd H (by simp)
end Go.Proofs.YtfigblfjogpojaaDoor.PBits
end
section
namespace Go.Proofs.YtfigblfjogpojaaDoor.PBits
open Go.RowKit Go.Proofs.YtfigblfjogpojaaDoorW.PrintWords Go.Proofs.YtfigblfjogpojaaDoorW.PrintLast Go.Proofs.YtfigblfjogpojaaDoorW.PrintMore
attribute [local go_sem] max2_int min2_int max_two min_two max_three min_three max_four min_four
set_option linter.unusedVariables false
set_option linter.unusedSimpArgs false
mutual
def bits_window.l0 : Nat → Int → Int → Int → Int → Int → Int → Int → Int → Int → Option (Int × Int × Int)
 | 0, _, _, _, _, _, _, _, _, _ => none
 | k + 1, x1, x12, x13, x530000, x530001, x530002, x535000, x535001, x535002 => if x13 < x12 then (if (wrap64 (x1 + x13)) ≥ 0 then (bits_window.j1 k x1 x13 (wrap64 (x1 + x13)) x12 x13 (decide ((wrap64 (x1 + x13)) < x530000)) x530000 x530001 x530002 x535000 x535001 x535002) else (bits_window.j1 k x1 x13 (wrap64 (x1 + x13)) x12 x13 false x530000 x530001 x530002 x535000 x535001 x535002)) else (some (x535000, x535001, x535002))
def bits_window.j1 : Nat → Int → Int → Int → Int → Int → Bool → Int → Int → Int → Int → Int → Int → Option (Int × Int × Int)
 | 0, _, _, _, _, _, _, _, _, _, _, _, _ => none
 | k + 1, x1, x8, x9, x12, x13, x26, x530000, x530001, x530002, x535000, x535001, x535002 => if x26 = true then ((bits_Slice.f k x530000 x530001 x530002 x9 1).bind fun bt535 => ((bits_Put.f k x535000 x535001 x535002 x8 bt535.1 bt535.2.1 bt535.2.2).bind fun bt538 => (bits_window.l0 k x1 x12 (wrap64 (x13 + 1)) x530000 x530001 x530002 bt538.1 bt538.2.1 bt538.2.2))) else (bits_window.l0 k x1 x12 (wrap64 (x13 + 1)) x530000 x530001 x530002 x535000 x535001 x535002)
end
def bits_window.f (k : Nat) (a0_0 : Int) (a0_1 : Int) (a0_2 : Int) (a1 : Int) (a2 : Int) : Option (Int × Int × Int) := (bits_All.f k a2 120).bind fun bt531 => (bits_window.l0 k a1 a2 0 a0_0 a0_1 a0_2 bt531.1 bt531.2.1 bt531.2.2)
set_option maxHeartbeats 8000000 in
set_option maxRecDepth 100000 in
theorem bits_window.calls (k : Nat) (a0_0 : Int) (a0_1 : Int) (a0_2 : Int) (a1 : Int) (a2 : Int) (r1 : Int) (r2 : Int) (r3 : Int) (w : World) (h : bits_window.f k a0_0 a0_1 a0_2 a1 a2 = some (r1, r2, r3)) :
  Calls Tryd.prog 62 #[.agg #[.int .i64 a0_0, .int .u64 a0_1, .int .u64 a0_2], .int .i64 a1, .int .i64 a2] w fun e w' => e = .returned (.agg #[.int .i64 r1, .int .u64 r2, .int .u64 r3]) ∧ Below w.heap.size w w' := by
 have hu24 := Tryd.underlying24
 have HB := Aside0.mk (Below.refl w.heap.size w)
 have H : ((bits_All.f k a2 120).bind fun bt531 => (bits_window.l0 k a1 a2 0 a0_0 a0_1 a0_2 bt531.1 bt531.2.1 bt531.2.2)) = some (r1, r2, r3) := h
 clear h
 replace H := Option.bind_eq_some_iff.mp H
 obtain ⟨⟨t531, t532, t533⟩, A40, H⟩ := H
 replace H : (bits_window.l0 k a1 a2 0 a0_0 a0_1 a0_2 t531 t532 t533) = some (r1, r2, r3) := H
 have A4 := Aside0.mk A40
 clear A40
 have H' := Aside0.mk H
 clear H
 go_enter Tryd.func62, Tryd.ntmps62
 go_wp2_with (first | ((with_reducible refine gate_dst (N := 3) rfl ?_); refine box_event ?hg (N := 3) ?hd (cs := #[.int .i64 a0_0, .int .u64 a0_1, .int .u64 a0_2]) (t := 24) ?hr ?_; (case hd => rfl); (case hg => rfl); (case hr => (go_simp; done)); intro gb529 hg w5 hbox hb; have BK529 := Aside0.mk (hbox); have GW529 := ge1 HB hg; have GE529 := ge1 HB hg; replace HB := hb1 HB hb; clear hb hbox hg) | ((with_reducible refine gate_dst (N := 6) rfl ?_); refine box_event ?hg (N := 6) ?hd (cs := #[.int .i64 0, .int .u64 0, .int .u64 0]) (t := 24) ?hr ?_; (case hd => rfl); (case hg => rfl); (case hr => (go_simp; done)); intro gb530 hg w6 hbox hb; have BK530 := Aside0.mk (hbox); have GW530 := ge1 HB hg; have GE530 := ge1 HB hg; replace HB := hb1 HB hb; have NB529_530 := Aside0.mk ((by rw [hg]; exact Nat.ne_of_lt (blk_lt BK529.out) : gb529 ≠ gb530)); have NB530_529 := Aside0.mk ((by rw [hg]; exact Nat.ne_of_gt (blk_lt BK529.out) : gb530 ≠ gb529)); replace BK529 := bk1 BK529 hb; clear hb hbox hg) | ((with_reducible refine gate_callee (f := 25) rfl ?_); refine goesL_ (some 11) rfl rfl Tryd.func25 (by kernel_rfl) rfl #[.int .i64 a2, .int .u8 120] rfl (by (try simp only [List.map_toArray, List.map_cons, List.map_nil]); rfl) ?_; (with_reducible refine (bits_All.calls k a2 120 t531 t532 t533 _ A4.out).mono ?_); rintro e w7 ⟨rfl, hb⟩; refine ⟨_, rfl, ?_⟩; replace BK529 := bk1 BK529 hb; replace BK530 := bk1 BK530 hb; replace HB := hb1 HB hb; (try clear hb)) | ((with_reducible refine gate_dst (N := 7) rfl ?_); refine box_event ?hg (N := 7) ?hd (cs := #[.int .i64 0, .int .u64 0, .int .u64 0]) (t := 24) ?hr ?_; (case hd => rfl); (case hg => rfl); (case hr => (go_simp; done)); intro gb534 hg w8 hbox hb; have BK534 := Aside0.mk (hbox); have GW534 := ge1 HB hg; have GE534 := ge1 HB hg; replace HB := hb1 HB hb; have NB529_534 := Aside0.mk ((by rw [hg]; exact Nat.ne_of_lt (blk_lt BK529.out) : gb529 ≠ gb534)); have NB534_529 := Aside0.mk ((by rw [hg]; exact Nat.ne_of_gt (blk_lt BK529.out) : gb534 ≠ gb529)); replace BK529 := bk1 BK529 hb; have NB530_534 := Aside0.mk ((by rw [hg]; exact Nat.ne_of_lt (blk_lt BK530.out) : gb530 ≠ gb534)); have NB534_530 := Aside0.mk ((by rw [hg]; exact Nat.ne_of_gt (blk_lt BK530.out) : gb534 ≠ gb530)); replace BK530 := bk1 BK530 hb; clear hb hbox hg; have hnb9 := NB534_529.out; have hnc9 := NB529_534.out; have hnb10 := NB534_530.out; have hnc10 := NB530_534.out; have hcz11_0 : w8.cell? ⟨gb534, 0, none⟩ = some (.int .i64 0) := (blk_cell BK534.out 0).trans rfl; have hcz11_1 : w8.cell? ⟨gb534, 1, none⟩ = some (.int .u64 0) := (blk_cell BK534.out 1).trans rfl; have hcz11_2 : w8.cell? ⟨gb534, 2, none⟩ = some (.int .u64 0) := (blk_cell BK534.out 2).trans rfl; have hfz11_0 := blk_frozen BK534.out 0; have hfz11_1 := blk_frozen BK534.out 1; have hfz11_2 := blk_frozen BK534.out 2))
 go_loopg [13] k (fun kq v13 w' => ∃ (x13_1 : Int) (x535000_1 : Int) (x535001_1 : Int) (x535002_1 : Int), v13 = .int .i64 x13_1 ∧ Aside0 (bits_window.l0 kq a1 a2 x13_1 a0_0 a0_1 a0_2 x535000_1 x535001_1 x535002_1 = some (r1, r2, r3)) ∧ Aside0 (kq ≤ k) ∧ Aside0 (w'.heap[gb529]? = some (.cells #[.int .i64 a0_0, .int .u64 a0_1, .int .u64 a0_2] 24 (0, 0))) ∧ Aside0 (w'.heap[gb530]? = some (.cells #[.int .i64 0, .int .u64 0, .int .u64 0] 24 (0, 0))) ∧ Aside0 (w'.heap[gb534]? = some (.cells #[.int .i64 x535000_1, .int .u64 x535001_1, .int .u64 x535002_1] 24 (0, 0))) ∧ Aside0 (Below w.heap.size w w'))
 case atStart => exact ⟨(0), (t531), (t532), (t533), (by rfl), H', ⟨Nat.le_refl _⟩, ⟨by refine blk_far ?_ NB529_534.out _; refine blk_far ?_ NB529_534.out _; refine blk_far ?_ NB529_534.out _; exact BK529.out⟩, ⟨by refine blk_far ?_ NB530_534.out _; refine blk_far ?_ NB530_534.out _; refine blk_far ?_ NB530_534.out _; exact BK530.out⟩, ⟨by refine blk_put (cs := #[.int .i64 t531, .int .u64 t532, .int .u64 0]) ?_ 2 _ rfl; refine blk_put (cs := #[.int .i64 t531, .int .u64 0, .int .u64 0]) ?_ 1 _ rfl; refine blk_put (cs := #[.int .i64 0, .int .u64 0, .int .u64 0]) ?_ 0 _ rfl; exact BK534.out⟩, ⟨by repeat (with_reducible first | exact HB.out | refine below_set ?_ GE534.out)⟩⟩
 case round =>
  clear H'
  (try clear hcz11_0 hcz11_1 hcz11_2 hfz11_0 hfz11_1 hfz11_2)
  obtain ⟨x13_1, x535000_1, x535001_1, x535002_1, rfl, HA, HK1, BK529, BK530, BK534, HB⟩ := hrel
  cases gk with
  | zero => exact absurd HA.out (by simp [bits_window.l0])
  | succ k1 =>
   have H := HA.out
   clear HA
   simp only [bits_window.l0] at H
   by_cases c12 : x13_1 < a2
   ·rw [if_pos c12] at H
    have c12b0 : decide (x13_1 < a2) = true := decide_eq_true c12
    clear c12
    have HC13 := Aside0.mk H
    clear H
    go_upto_region 6 with (fail)
    go_cut [26] (fun v26 wc => ∃ (kq : Nat) (x26_12 : Bool), v26 = .bool x26_12 ∧ Aside0 (bits_window.j1 kq a1 x13_1 (wrap64 (a1 + x13_1)) a2 x13_1 x26_12 a0_0 a0_1 a0_2 x535000_1 x535001_1 x535002_1 = some (r1, r2, r3)) ∧ Aside0 (kq ≤ k1) ∧ Aside0 (wc.heap[gb529]? = some (.cells #[.int .i64 a0_0, .int .u64 a0_1, .int .u64 a0_2] 24 (0, 0))) ∧ Aside0 (wc.heap[gb530]? = some (.cells #[.int .i64 0, .int .u64 0, .int .u64 0] 24 (0, 0))) ∧ Aside0 (wc.heap[gb534]? = some (.cells #[.int .i64 x535000_1, .int .u64 x535001_1, .int .u64 x535002_1] 24 (0, 0))) ∧ Aside0 (Below w.heap.size w wc))
    case first =>
     have H := HC13.out
     clear HC13
     by_cases c14 : (wrap64 (a1 + x13_1)) ≥ 0
     ·rw [if_pos c14] at H
      have c14b0 : decide (0 ≤ (wrap64 (a1 + x13_1))) = true := decide_eq_true c14
      clear c14
      (skip)
      have H' := Aside0.mk H
      clear H
      have hnb15 := NB529_530.out
      have hnc15 := NB530_529.out
      have hnb16 := NB529_534.out
      have hnc16 := NB534_529.out
      obtain ⟨hcz17_0, hcz17_1, hcz17_2⟩ := sq_cells3 (W := wr) (g := gb529) BK529.out; obtain ⟨hfz17_0, hfz17_1, hfz17_2⟩ := sq_frozen3 BK529.out
      go_wp2
      go_meet
      case rel => exact ⟨_, (decide ((wrap64 (a1 + x13_1)) < a0_0)), (by rfl), H', ⟨by have := HK1.out; omega⟩, ⟨by exact BK529.out⟩, ⟨by exact BK530.out⟩, ⟨by exact BK534.out⟩, ⟨by repeat (with_reducible exact HB.out)⟩⟩
     ·rw [if_neg c14] at H
      have c14b0 : decide (0 ≤ (wrap64 (a1 + x13_1))) = false := decide_eq_false c14
      clear c14
      (skip)
      have H' := Aside0.mk H
      clear H
      go_wp2
      go_meet
      case rel => exact ⟨_, (false), (by rfl), H', ⟨by have := HK1.out; omega⟩, ⟨by exact BK529.out⟩, ⟨by exact BK530.out⟩, ⟨by exact BK534.out⟩, ⟨by repeat (with_reducible exact HB.out)⟩⟩
    case rest =>
     clear HC13
     (try clear c12b0)
     obtain ⟨kq, x26_12, rfl, HA, HJ12, BK529, BK530, BK534, HB⟩ := hcut
     cases kq with
     | zero => exact absurd HA.out (by simp [bits_window.j1])
     | succ kj12 =>
      have H := HA.out
      clear HA
      simp only [bits_window.j1] at H
      by_cases c18 : x26_12 = true
      ·subst c18
       have H1 : ((bits_Slice.f kj12 a0_0 a0_1 a0_2 (wrap64 (a1 + x13_1)) 1).bind fun bt535 => ((bits_Put.f kj12 x535000_1 x535001_1 x535002_1 x13_1 bt535.1 bt535.2.1 bt535.2.2).bind fun bt538 => (bits_window.l0 kj12 a1 a2 (wrap64 (x13_1 + 1)) a0_0 a0_1 a0_2 bt538.1 bt538.2.1 bt538.2.2))) = some (r1, r2, r3) := by rw [if_pos rfl] at H; exact H
       clear H
       have H := H1
       clear H1
       replace H := Option.bind_eq_some_iff.mp H
       obtain ⟨⟨t535, t536, t537⟩, A190, H⟩ := H
       replace H : ((bits_Put.f kj12 x535000_1 x535001_1 x535002_1 x13_1 t535 t536 t537).bind fun bt538 => (bits_window.l0 kj12 a1 a2 (wrap64 (x13_1 + 1)) a0_0 a0_1 a0_2 bt538.1 bt538.2.1 bt538.2.2)) = some (r1, r2, r3) := H
       have A19 := Aside0.mk A190
       clear A190
       replace H := Option.bind_eq_some_iff.mp H
       obtain ⟨⟨t538, t539, t540⟩, A200, H⟩ := H
       replace H : (bits_window.l0 kj12 a1 a2 (wrap64 (x13_1 + 1)) a0_0 a0_1 a0_2 t538 t539 t540) = some (r1, r2, r3) := H
       have A20 := Aside0.mk A200
       clear A200
       have H' := Aside0.mk H
       clear H
       try go_wp2
       replace BK529 := bkd BK529
       replace BK530 := bkd BK530
       replace BK534 := bkd BK534
       replace HB := hbd HB
       refine start_ (n := 7) (S := fun w' => w'.cell? ⟨gb534, 0, none⟩ = some (.int .i64 x535000_1) ∧ w'.cell? ⟨gb534, 1, none⟩ = some (.int .u64 x535001_1) ∧ w'.cell? ⟨gb534, 2, none⟩ = some (.int .u64 x535002_1) ∧ w'.cell? ⟨gb529, 0, none⟩ = some (.int .i64 a0_0) ∧ w'.cell? ⟨gb529, 1, none⟩ = some (.int .u64 a0_1) ∧ w'.cell? ⟨gb529, 2, none⟩ = some (.int .u64 a0_2)) (ds := [6]) (tb 7 0) (by kernel_rfl) rfl (by kernel_rfl) (c3 BK534 (d3 BK529)) (fun hHeld => ?_)
       generalize wc.drew = w21 at BK529 BK530 BK534 HB hHeld ⊢
       refine pure_ (i := 1) (N := some 28) (v := ?_) (a' := ?_) #[false, true, false, false, false, false, false] rfl rfl (by kernel_rfl) (fun _ _ _ h => h) (Or.inl ⟨by rfl, ?_⟩) ?_ ?_
       rotate_left
       ·intro w'
        go_simp
        with_reducible rfl
       rotate_left
       ·simp only [Act.put, List.setIfInBounds_toArray, List.set_cons_zero, List.set_cons_succ, i64_w, i32_w]
        rfl
       refine pure_ (i := 3) (N := some 30) (v := ?_) (a' := ?_) #[false, true, false, true, false, false, false] rfl rfl (by kernel_rfl) (fun _ _ _ h => h) (Or.inl ⟨by rfl, ?_⟩) ?_ ?_
       rotate_left
       ·intro w'
        go_simp
        with_reducible rfl
       rotate_left
       ·simp only [Act.put, List.setIfInBounds_toArray, List.set_cons_zero, List.set_cons_succ, i64_w, i32_w]
        rfl
       refine take_ (i := 0) (N := some 27) (v := ?_) (a' := ?_) #[true, true, false, true, false, false, false] rfl rfl (by kernel_rfl) (fun _ _ _ h => h) (Or.inl ⟨by rfl, ?_⟩) hHeld ?_ ?_
       rotate_left
       ·rintro w' ⟨s0, s1, s2, s3, s4, s5⟩
        go_simp
        with_reducible rfl
       rotate_left
       ·simp only [Act.put, List.setIfInBounds_toArray, List.set_cons_zero, List.set_cons_succ, i64_w, i32_w]
        rfl
       refine take_ (i := 2) (N := some 29) (v := ?_) (a' := ?_) #[true, true, true, true, false, false, false] rfl rfl (by kernel_rfl) (fun _ _ _ h => h) (Or.inl ⟨by rfl, ?_⟩) hHeld ?_ ?_
       rotate_left
       ·rintro w' ⟨s0, s1, s2, s3, s4, s5⟩
        go_simp
        with_reducible rfl
       rotate_left
       ·simp only [Act.put, List.setIfInBounds_toArray, List.set_cons_zero, List.set_cons_succ, i64_w, i32_w]
        rfl
       refine one_ (i := 4) (N := some 31) #[true, true, true, true, true, false, false] rfl rfl (by kernel_rfl) (by decide) (fun K hK => ?_)
       refine gA Tryd.func36 #[.agg #[.int .i64 a0_0, .int .u64 a0_1, .int .u64 a0_2], .int .i64 (wrap64 (a1 + x13_1)), .int .i64 1] ?_
       with_reducible refine (bits_Slice.calls kj12 a0_0 a0_1 a0_2 (wrap64 (a1 + x13_1)) 1 t535 t536 t537 _ A19.out).mono ?_
       rintro e w22 ⟨rfl, hb⟩
       refine ⟨_, rfl, ?_⟩
       replace BK529 := bk1 BK529 hb
       replace BK530 := bk1 BK530 hb
       replace BK534 := bk1 BK534 hb
       replace HB := hb1 HB hb
       (try clear hb)
       refine hK.out _ _ (c3 BK534 (d3 BK529)) (fun hHeld => ?_)
       clear hK K
       refine nA ?_
       refine one_ (i := 5) (N := some 32) #[true, true, true, true, true, true, false] rfl rfl (by kernel_rfl) (by decide) (fun K hK => ?_)
       refine gA Tryd.func38 #[.agg #[.int .i64 x535000_1, .int .u64 x535001_1, .int .u64 x535002_1], .int .i64 x13_1, .agg #[.int .i64 t535, .int .u64 t536, .int .u64 t537]] ?_
       with_reducible refine (bits_Put.calls kj12 x535000_1 x535001_1 x535002_1 x13_1 t535 t536 t537 t538 t539 t540 _ A20.out).mono ?_
       rintro e w23 ⟨rfl, hb⟩
       refine ⟨_, rfl, ?_⟩
       replace BK529 := bk1 BK529 hb
       replace BK530 := bk1 BK530 hb
       replace BK534 := bk1 BK534 hb
       replace HB := hb1 HB hb
       (try clear hb)
       refine hK.out _ _ (c3 BK534 (d3 BK529)) (fun hHeld => ?_)
       clear hK K
       refine nA ?_
       refine last_ (i := 6) (N := none) #[true, true, true, true, true, true, true] rfl rfl (by kernel_rfl) (by decide) (fun K hK => ?_)
       have hs24 : w23.cell? ⟨gb534, 0, none⟩ = some (.int .i64 x535000_1) := (blk_cell BK534.out 0).trans rfl
       have hfs24 := blk_frozen BK534.out 0
       have hns24_0 := NB529_534.out
       have hns24_1 := NB530_534.out
       have hms24_0 := NB534_529.out
       have hms24_1 := NB534_530.out
       have hs25 : w23.cell? ⟨gb534, 1, none⟩ = some (.int .u64 x535001_1) := (blk_cell BK534.out 1).trans rfl
       have hfs25 := blk_frozen BK534.out 1
       have hns25_0 := NB529_534.out
       have hns25_1 := NB530_534.out
       have hms25_0 := NB534_529.out
       have hms25_1 := NB534_530.out
       have hs26 : w23.cell? ⟨gb534, 2, none⟩ = some (.int .u64 x535002_1) := (blk_cell BK534.out 2).trans rfl
       have hfs26 := blk_frozen BK534.out 2
       have hns26_0 := NB529_534.out
       have hns26_1 := NB530_534.out
       have hms26_0 := NB534_529.out
       have hms26_1 := NB534_530.out
       refine skip_ (w1 := ?_) (by rfl) rfl ?_ ?_
       rotate_left
       ·go_simp
        rfl
       refine hK.out _ _ ?_
       clear hK K
       refine done_ (by kernel_rfl) ?_
       try go_wp2
       go_roundg kj12
       case measure => have := HK1.out; have := HJ12.out; omega
       case rel => exact ⟨(wrap64 (x13_1 + 1)), (t538), (t539), (t540), (by rfl), H', ⟨by have := HK1.out; have := HJ12.out; omega⟩, ⟨by refine blk_far ?_ NB529_534.out _; refine blk_far ?_ NB529_534.out _; refine blk_far ?_ NB529_534.out _; exact BK529.out⟩, ⟨by refine blk_far ?_ NB530_534.out _; refine blk_far ?_ NB530_534.out _; refine blk_far ?_ NB530_534.out _; exact BK530.out⟩, ⟨by refine blk_put (cs := #[.int .i64 t538, .int .u64 t539, .int .u64 x535002_1]) ?_ 2 _ rfl; refine blk_put (cs := #[.int .i64 t538, .int .u64 x535001_1, .int .u64 x535002_1]) ?_ 1 _ rfl; refine blk_put (cs := #[.int .i64 x535000_1, .int .u64 x535001_1, .int .u64 x535002_1]) ?_ 0 _ rfl; exact BK534.out⟩, ⟨by repeat (with_reducible first | exact HB.out | refine below_set ?_ GE534.out)⟩⟩
      ·replace c18 := Bool.eq_false_iff.mpr c18
       subst c18
       have H1 : (bits_window.l0 kj12 a1 a2 (wrap64 (x13_1 + 1)) a0_0 a0_1 a0_2 x535000_1 x535001_1 x535002_1) = some (r1, r2, r3) := by rw [if_neg (show ¬ (false = true) by decide)] at H; exact H
       clear H
       have H := H1
       clear H1
       have H' := Aside0.mk H
       clear H
       go_wp2
       go_roundg kj12
       case measure => have := HK1.out; have := HJ12.out; omega
       case rel => exact ⟨(wrap64 (x13_1 + 1)), (x535000_1), (x535001_1), (x535002_1), (by rfl), H', ⟨by have := HK1.out; have := HJ12.out; omega⟩, ⟨by exact BK529.out⟩, ⟨by exact BK530.out⟩, ⟨by exact BK534.out⟩, ⟨by repeat (with_reducible exact HB.out)⟩⟩
   ·rw [if_neg c12] at H
    have c12b0 : decide (x13_1 < a2) = false := decide_eq_false c12
    clear c12
    simp only [Option.some.injEq, Prod.mk.injEq] at H
    obtain ⟨rfl, rfl, rfl⟩ := H
    have hnb27 := NB534_529.out
    have hnc27 := NB529_534.out
    have hnb28 := NB534_530.out
    have hnc28 := NB530_534.out
    obtain ⟨hcz29_0, hcz29_1, hcz29_2⟩ := sq_cells3 (W := wr) (g := gb534) BK534.out; obtain ⟨hfz29_0, hfz29_1, hfz29_2⟩ := sq_frozen3 BK534.out
    have hnb30 := NB530_529.out
    have hnc30 := NB529_530.out
    obtain ⟨hcz31_0, hcz31_1, hcz31_2⟩ := sq_cells3 (W := wr) (g := gb530) BK530.out; obtain ⟨hfz31_0, hfz31_1, hfz31_2⟩ := sq_frozen3 BK530.out
    go_wp2
    refine bodyPost_ret (results_cell_row rfl _ _ gb530 24 #[.int .i64 x535000_1, .int .u64 x535001_1, .int .u64 x535002_1] (0, 0) _ rfl (by refine blk_put (cs := #[.int .i64 x535000_1, .int .u64 x535001_1, .int .u64 0]) ?_ 2 _ rfl; refine blk_put (cs := #[.int .i64 x535000_1, .int .u64 0, .int .u64 0]) ?_ 1 _ rfl; refine blk_put (cs := #[.int .i64 0, .int .u64 0, .int .u64 0]) ?_ 0 _ rfl; exact BK530.out) Tryd.underlying24 rfl (by kernel_rfl)) rfl ?_
    exact ⟨by rfl, by repeat (with_reducible first | exact HB.out | refine below_set ?_ GE530.out)⟩
end Go.Proofs.YtfigblfjogpojaaDoor.PBits
end
section
namespace Go.Proofs.YtfigblfjogpojaaDoor.PBits
open Go.RowKit Go.Proofs.YtfigblfjogpojaaDoorW.PrintWords Go.Proofs.YtfigblfjogpojaaDoorW.PrintLast Go.Proofs.YtfigblfjogpojaaDoorW.PrintMore
attribute [local go_sem] max2_int min2_int max_two min_two max_three min_three max_four min_four
set_option linter.unusedVariables false
set_option linter.unusedSimpArgs false
def bits_Part.j0 : Nat → Bool → Int → Bool → Int → Int → Int → Int → Int → Int → Option (Int × Int × Int)
 | 0, _, _, _, _, _, _, _, _, _ => none
 | k + 1, x2, x3, x23, x542000, x542001, x542002, x543000, x543001, x543002 => if x23 = true then (some (0, 0, 0)) else ((bits_Int.f k x543000 x543001 x543002).bind fun bt548 => (if bt548.2 = true then (if x2 = true then ((bits_window.f k x542000 x542001 x542002 (mx bt548.1 (-64)) x3).bind fun bt550 => (some (bt550.1, bt550.2.1, bt550.2.2))) else ((bits_window.f k x542000 x542001 x542002 (wrap64 (mn x543001 64)) x3).bind fun bt553 => (some (bt553.1, bt553.2.1, bt553.2.2)))) else ((bits_All.f k x3 120).bind fun bt556 => (some (bt556.1, bt556.2.1, bt556.2.2)))))
def bits_Part.f (k : Nat) (a0_0 : Int) (a0_1 : Int) (a0_2 : Int) (a1_0 : Int) (a1_1 : Int) (a1_2 : Int) (a2 : Bool) (a3 : Int) : Option (Int × Int × Int) := (bits_valid.f k (([(⟨a0_0, a0_1, a0_2⟩ : S24), (⟨a1_0, a1_1, a1_2⟩ : S24)] : List (S24)))).bind fun t547 => (if t547 = true then (if a3 < 1 then (bits_Part.j0 k a2 a3 true a0_0 a0_1 a0_2 a1_0 a1_1 a1_2) else (bits_Part.j0 k a2 a3 (decide (a3 > 64)) a0_0 a0_1 a0_2 a1_0 a1_1 a1_2)) else (bits_Part.j0 k a2 a3 true a0_0 a0_1 a0_2 a1_0 a1_1 a1_2))
set_option maxHeartbeats 8000000 in
set_option maxRecDepth 100000 in
theorem bits_Part.calls (k : Nat) (a0_0 : Int) (a0_1 : Int) (a0_2 : Int) (a1_0 : Int) (a1_1 : Int) (a1_2 : Int) (a2 : Bool) (a3 : Int) (r1 : Int) (r2 : Int) (r3 : Int) (w : World) (h : bits_Part.f k a0_0 a0_1 a0_2 a1_0 a1_1 a1_2 a2 a3 = some (r1, r2, r3)) :
  Calls Tryd.prog 37 #[.agg #[.int .i64 a0_0, .int .u64 a0_1, .int .u64 a0_2], .agg #[.int .i64 a1_0, .int .u64 a1_1, .int .u64 a1_2], .bool a2, .int .i64 a3] w fun e w' => e = .returned (.agg #[.int .i64 r1, .int .u64 r2, .int .u64 r3]) ∧ Below w.heap.size w w' := by
 have hu24 := Tryd.underlying24
 have HB := Aside0.mk (Below.refl w.heap.size w)
 have H : ((bits_valid.f k ([(⟨a0_0, a0_1, a0_2⟩ : S24), (⟨a1_0, a1_1, a1_2⟩ : S24)] : List (S24))).bind fun t547 => (if t547 = true then (if a3 < 1 then (bits_Part.j0 k a2 a3 true a0_0 a0_1 a0_2 a1_0 a1_1 a1_2) else (bits_Part.j0 k a2 a3 (decide (a3 > 64)) a0_0 a0_1 a0_2 a1_0 a1_1 a1_2)) else (bits_Part.j0 k a2 a3 true a0_0 a0_1 a0_2 a1_0 a1_1 a1_2))) = some (r1, r2, r3) := h
 clear h
 have HC5 := Aside0.mk H
 clear H
 go_enter Tryd.func37, Tryd.ntmps37
 go_upto_region 1 with (first | ((with_reducible refine gate_dst (N := 4) rfl ?_); refine box_event ?hg (N := 4) ?hd (cs := #[.int .i64 a0_0, .int .u64 a0_1, .int .u64 a0_2]) (t := 24) ?hr ?_; (case hd => rfl); (case hg => rfl); (case hr => (go_simp; done)); intro gb541 hg w6 hbox hb; have BK541 := Aside0.mk (hbox); have GW541 := ge1 HB hg; have GE541 := ge1 HB hg; replace HB := hb1 HB hb; clear hb hbox hg) | ((with_reducible refine gate_dst (N := 5) rfl ?_); refine box_event ?hg (N := 5) ?hd (cs := #[.int .i64 a1_0, .int .u64 a1_1, .int .u64 a1_2]) (t := 24) ?hr ?_; (case hd => rfl); (case hg => rfl); (case hr => (go_simp; done)); intro gb542 hg w7 hbox hb; have BK542 := Aside0.mk (hbox); have GW542 := ge1 HB hg; have GE542 := ge1 HB hg; replace HB := hb1 HB hb; have NB541_542 := Aside0.mk ((by rw [hg]; exact Nat.ne_of_lt (blk_lt BK541.out) : gb541 ≠ gb542)); have NB542_541 := Aside0.mk ((by rw [hg]; exact Nat.ne_of_gt (blk_lt BK541.out) : gb542 ≠ gb541)); replace BK541 := bk1 BK541 hb; clear hb hbox hg) | ((with_reducible refine gate_dst (N := 8) rfl ?_); refine box_event ?hg (N := 8) ?hd (cs := #[.int .i64 0, .int .u64 0, .int .u64 0]) (t := 24) ?hr ?_; (case hd => rfl); (case hg => rfl); (case hr => (go_simp; done)); intro gb543 hg w8 hbox hb; have BK543 := Aside0.mk (hbox); have GW543 := ge1 HB hg; have GE543 := ge1 HB hg; replace HB := hb1 HB hb; have NB541_543 := Aside0.mk ((by rw [hg]; exact Nat.ne_of_lt (blk_lt BK541.out) : gb541 ≠ gb543)); have NB543_541 := Aside0.mk ((by rw [hg]; exact Nat.ne_of_gt (blk_lt BK541.out) : gb543 ≠ gb541)); replace BK541 := bk1 BK541 hb; have NB542_543 := Aside0.mk ((by rw [hg]; exact Nat.ne_of_lt (blk_lt BK542.out) : gb542 ≠ gb543)); have NB543_542 := Aside0.mk ((by rw [hg]; exact Nat.ne_of_gt (blk_lt BK542.out) : gb543 ≠ gb542)); replace BK542 := bk1 BK542 hb; clear hb hbox hg))
 (try simp only [Act.put, List.setIfInBounds_toArray, List.set_cons_zero, List.set_cons_succ])
 go_cut [23] (fun v23 wc => ∃ (kq : Nat) (x23_4 : Bool), v23 = .bool x23_4 ∧ Aside0 (bits_Part.j0 kq a2 a3 x23_4 a0_0 a0_1 a0_2 a1_0 a1_1 a1_2 = some (r1, r2, r3)) ∧ Aside0 (kq ≤ k) ∧ Aside0 (wc.heap[gb541]? = some (.cells #[.int .i64 a0_0, .int .u64 a0_1, .int .u64 a0_2] 24 (0, 0))) ∧ Aside0 (wc.heap[gb542]? = some (.cells #[.int .i64 a1_0, .int .u64 a1_1, .int .u64 a1_2] 24 (0, 0))) ∧ Aside0 (wc.heap[gb543]? = some (.cells #[.int .i64 0, .int .u64 0, .int .u64 0] 24 (0, 0))) ∧ Aside0 (Below w.heap.size w wc))
 case first =>
  have H := HC5.out
  clear HC5
  obtain ⟨y544, hy544⟩ : ∃ y_ : List (S24), y_ = ([(⟨a0_0, a0_1, a0_2⟩ : S24), (⟨a1_0, a1_1, a1_2⟩ : S24)] : List (S24)) := ⟨_, rfl⟩
  replace H : ((bits_valid.f k y544).bind fun t547 => (if t547 = true then (if a3 < 1 then (bits_Part.j0 k a2 a3 true a0_0 a0_1 a0_2 a1_0 a1_1 a1_2) else (bits_Part.j0 k a2 a3 (decide (a3 > 64)) a0_0 a0_1 a0_2 a1_0 a1_1 a1_2)) else (bits_Part.j0 k a2 a3 true a0_0 a0_1 a0_2 a1_0 a1_1 a1_2))) = some (r1, r2, r3) := by (rw [hy544]; with_reducible exact H)
  have Ny544 := Aside0.mk hy544
  clear hy544
  replace H := Option.bind_eq_some_iff.mp H
  obtain ⟨t547, A90, H⟩ := H
  replace H : (if t547 = true then (if a3 < 1 then (bits_Part.j0 k a2 a3 true a0_0 a0_1 a0_2 a1_0 a1_1 a1_2) else (bits_Part.j0 k a2 a3 (decide (a3 > 64)) a0_0 a0_1 a0_2 a1_0 a1_1 a1_2)) else (bits_Part.j0 k a2 a3 true a0_0 a0_1 a0_2 a1_0 a1_1 a1_2)) = some (r1, r2, r3) := H
  have A9 := Aside0.mk A90
  clear A90
  by_cases c10 : t547 = true
  ·subst c10
   have H1 : (if a3 < 1 then (bits_Part.j0 k a2 a3 true a0_0 a0_1 a0_2 a1_0 a1_1 a1_2) else (bits_Part.j0 k a2 a3 (decide (a3 > 64)) a0_0 a0_1 a0_2 a1_0 a1_1 a1_2)) = some (r1, r2, r3) := by rw [if_pos rfl] at H; exact H
   clear H
   have H := H1
   clear H1
   by_cases c11 : a3 < 1
   ·rw [if_pos c11] at H
    have c11b0 : decide (a3 < 1) = true := decide_eq_true c11
    clear c11
    (skip)
    have H' := Aside0.mk H
    clear H
    have hnb12 := NB541_542.out
    have hnc12 := NB542_541.out
    have hnb13 := NB541_543.out
    have hnc13 := NB543_541.out
    obtain ⟨hcz14_0, hcz14_1, hcz14_2⟩ := sq_cells3 (W := w8) (g := gb541) BK541.out; obtain ⟨hfz14_0, hfz14_1, hfz14_2⟩ := sq_frozen3 BK541.out
    have hnb15 := NB542_543.out
    have hnc15 := NB543_542.out
    obtain ⟨hcz16_0, hcz16_1, hcz16_2⟩ := sq_cells3 (W := w8) (g := gb542) BK542.out; obtain ⟨hfz16_0, hfz16_1, hfz16_2⟩ := sq_frozen3 BK542.out
    go_wp2_with (first | ((with_reducible refine gate_dst (N := 13) rfl ?_); refine Kd.R_lit k24 _ 24 ?hg (N := 13) ?hd (xs := ([(⟨a0_0, a0_1, a0_2⟩ : S24), (⟨a1_0, a1_1, a1_2⟩ : S24)] : List (S24))) (inner := [.int .i64 a0_0, .int .u64 a0_1, .int .u64 a0_2, .int .i64 a1_0, .int .u64 a1_1, .int .u64 a1_2]) (ok := fun _ => True) (okp := fun _ => True) ?hr ?hp (fun _ hk => hk) trivial (Below.refl _ _) (Nat.le_refl _) (by simp) ?_; (case hd => rfl); (case hg => rfl); (case hr => (go_simp; done)); (case hp => exact (Reps.c3 (show Kd.M k24 _ _ _ (⟨a0_0, a0_1, a0_2⟩ : S24) [.int .i64 a0_0, .int .u64 a0_1, .int .u64 a0_2] from (k24_mkM _ _ _ (⟨a0_0, a0_1, a0_2⟩ : S24) )) (Reps.c3 (show Kd.M k24 _ _ _ (⟨a1_0, a1_1, a1_2⟩ : S24) [.int .i64 a1_0, .int .u64 a1_1, .int .u64 a1_2] from (k24_mkM _ _ _ (⟨a1_0, a1_1, a1_2⟩ : S24) )) (Reps.none _ _)))); intro v545 w17 ho18 hb hg_ hnew_; clear hg_ hnew_; (rw [← Ny544.out] at ho18); have HO546 := Aside0.mk (Kd.R_lower (Kd.R_newB (Kd.R_newB (Kd.R_newB ho18 BK541.out) BK542.out) BK543.out) (below_size HB.out)); replace BK541 := bk1 BK541 hb; replace BK542 := bk1 BK542 hb; replace BK543 := bk1 BK543 hb; replace HB := hb1 HB hb; clear hb ho18; obtain ⟨Ao19, co19, eo19⟩ := Kd.R_slice HO546.out; subst eo19) | ((with_reducible refine gate_callee (f := 56) rfl ?_); refine goesL_ (some 14) rfl rfl Tryd.func56 (by kernel_rfl) rfl #[.slice Ao19 y544.length co19] rfl (by (try simp only [List.map_toArray, List.map_cons, List.map_nil]); rfl) ?_; (with_reducible refine (bits_valid.calls k _ _ y544 true _ ?side1 ?side2 A9.out).mono ?_); (case side1 => repeat (exact (Kd.R_reads' HO546.out).2.2)); (case side2 => exact (Kd.R_reads' HO546.out).2.1); rintro e w20 ⟨rfl, hb⟩; refine ⟨_, rfl, ?_⟩; replace HO546 := Kd.rb1 HO546 hb; replace BK541 := bk1 BK541 hb; replace BK542 := bk1 BK542 hb; replace BK543 := bk1 BK543 hb; replace HB := hb1 HB hb; (try clear hb)))
    go_meet
    case rel => exact ⟨_, (true), (by rfl), H', ⟨by omega⟩, ⟨by exact BK541.out⟩, ⟨by exact BK542.out⟩, ⟨by exact BK543.out⟩, ⟨by repeat (with_reducible exact HB.out)⟩⟩
   ·rw [if_neg c11] at H
    have c11b0 : decide (a3 < 1) = false := decide_eq_false c11
    clear c11
    (skip)
    have H' := Aside0.mk H
    clear H
    have hnb21 := NB541_542.out
    have hnc21 := NB542_541.out
    have hnb22 := NB541_543.out
    have hnc22 := NB543_541.out
    obtain ⟨hcz23_0, hcz23_1, hcz23_2⟩ := sq_cells3 (W := w8) (g := gb541) BK541.out; obtain ⟨hfz23_0, hfz23_1, hfz23_2⟩ := sq_frozen3 BK541.out
    have hnb24 := NB542_543.out
    have hnc24 := NB543_542.out
    obtain ⟨hcz25_0, hcz25_1, hcz25_2⟩ := sq_cells3 (W := w8) (g := gb542) BK542.out; obtain ⟨hfz25_0, hfz25_1, hfz25_2⟩ := sq_frozen3 BK542.out
    go_wp2_with (first | ((with_reducible refine gate_dst (N := 13) rfl ?_); refine Kd.R_lit k24 _ 24 ?hg (N := 13) ?hd (xs := ([(⟨a0_0, a0_1, a0_2⟩ : S24), (⟨a1_0, a1_1, a1_2⟩ : S24)] : List (S24))) (inner := [.int .i64 a0_0, .int .u64 a0_1, .int .u64 a0_2, .int .i64 a1_0, .int .u64 a1_1, .int .u64 a1_2]) (ok := fun _ => True) (okp := fun _ => True) ?hr ?hp (fun _ hk => hk) trivial (Below.refl _ _) (Nat.le_refl _) (by simp) ?_; (case hd => rfl); (case hg => rfl); (case hr => (go_simp; done)); (case hp => exact (Reps.c3 (show Kd.M k24 _ _ _ (⟨a0_0, a0_1, a0_2⟩ : S24) [.int .i64 a0_0, .int .u64 a0_1, .int .u64 a0_2] from (k24_mkM _ _ _ (⟨a0_0, a0_1, a0_2⟩ : S24) )) (Reps.c3 (show Kd.M k24 _ _ _ (⟨a1_0, a1_1, a1_2⟩ : S24) [.int .i64 a1_0, .int .u64 a1_1, .int .u64 a1_2] from (k24_mkM _ _ _ (⟨a1_0, a1_1, a1_2⟩ : S24) )) (Reps.none _ _)))); intro v545 w26 ho27 hb hg_ hnew_; clear hg_ hnew_; (rw [← Ny544.out] at ho27); have HO546 := Aside0.mk (Kd.R_lower (Kd.R_newB (Kd.R_newB (Kd.R_newB ho27 BK541.out) BK542.out) BK543.out) (below_size HB.out)); replace BK541 := bk1 BK541 hb; replace BK542 := bk1 BK542 hb; replace BK543 := bk1 BK543 hb; replace HB := hb1 HB hb; clear hb ho27; obtain ⟨Ao28, co28, eo28⟩ := Kd.R_slice HO546.out; subst eo28) | ((with_reducible refine gate_callee (f := 56) rfl ?_); refine goesL_ (some 14) rfl rfl Tryd.func56 (by kernel_rfl) rfl #[.slice Ao28 y544.length co28] rfl (by (try simp only [List.map_toArray, List.map_cons, List.map_nil]); rfl) ?_; (with_reducible refine (bits_valid.calls k _ _ y544 true _ ?side1 ?side2 A9.out).mono ?_); (case side1 => repeat (exact (Kd.R_reads' HO546.out).2.2)); (case side2 => exact (Kd.R_reads' HO546.out).2.1); rintro e w29 ⟨rfl, hb⟩; refine ⟨_, rfl, ?_⟩; replace HO546 := Kd.rb1 HO546 hb; replace BK541 := bk1 BK541 hb; replace BK542 := bk1 BK542 hb; replace BK543 := bk1 BK543 hb; replace HB := hb1 HB hb; (try clear hb)))
    go_meet
    case rel => exact ⟨_, (decide (a3 > 64)), (by rfl), H', ⟨by omega⟩, ⟨by exact BK541.out⟩, ⟨by exact BK542.out⟩, ⟨by exact BK543.out⟩, ⟨by repeat (with_reducible exact HB.out)⟩⟩
  ·replace c10 := Bool.eq_false_iff.mpr c10
   subst c10
   have H1 : (bits_Part.j0 k a2 a3 true a0_0 a0_1 a0_2 a1_0 a1_1 a1_2) = some (r1, r2, r3) := by rw [if_neg (show ¬ (false = true) by decide)] at H; exact H
   clear H
   have H := H1
   clear H1
   have H' := Aside0.mk H
   clear H
   have hnb30 := NB541_542.out
   have hnc30 := NB542_541.out
   have hnb31 := NB541_543.out
   have hnc31 := NB543_541.out
   obtain ⟨hcz32_0, hcz32_1, hcz32_2⟩ := sq_cells3 (W := w8) (g := gb541) BK541.out; obtain ⟨hfz32_0, hfz32_1, hfz32_2⟩ := sq_frozen3 BK541.out
   have hnb33 := NB542_543.out
   have hnc33 := NB543_542.out
   obtain ⟨hcz34_0, hcz34_1, hcz34_2⟩ := sq_cells3 (W := w8) (g := gb542) BK542.out; obtain ⟨hfz34_0, hfz34_1, hfz34_2⟩ := sq_frozen3 BK542.out
   go_wp2_with (first | ((with_reducible refine gate_dst (N := 13) rfl ?_); refine Kd.R_lit k24 _ 24 ?hg (N := 13) ?hd (xs := ([(⟨a0_0, a0_1, a0_2⟩ : S24), (⟨a1_0, a1_1, a1_2⟩ : S24)] : List (S24))) (inner := [.int .i64 a0_0, .int .u64 a0_1, .int .u64 a0_2, .int .i64 a1_0, .int .u64 a1_1, .int .u64 a1_2]) (ok := fun _ => True) (okp := fun _ => True) ?hr ?hp (fun _ hk => hk) trivial (Below.refl _ _) (Nat.le_refl _) (by simp) ?_; (case hd => rfl); (case hg => rfl); (case hr => (go_simp; done)); (case hp => exact (Reps.c3 (show Kd.M k24 _ _ _ (⟨a0_0, a0_1, a0_2⟩ : S24) [.int .i64 a0_0, .int .u64 a0_1, .int .u64 a0_2] from (k24_mkM _ _ _ (⟨a0_0, a0_1, a0_2⟩ : S24) )) (Reps.c3 (show Kd.M k24 _ _ _ (⟨a1_0, a1_1, a1_2⟩ : S24) [.int .i64 a1_0, .int .u64 a1_1, .int .u64 a1_2] from (k24_mkM _ _ _ (⟨a1_0, a1_1, a1_2⟩ : S24) )) (Reps.none _ _)))); intro v545 w35 ho36 hb hg_ hnew_; clear hg_ hnew_; (rw [← Ny544.out] at ho36); have HO546 := Aside0.mk (Kd.R_lower (Kd.R_newB (Kd.R_newB (Kd.R_newB ho36 BK541.out) BK542.out) BK543.out) (below_size HB.out)); replace BK541 := bk1 BK541 hb; replace BK542 := bk1 BK542 hb; replace BK543 := bk1 BK543 hb; replace HB := hb1 HB hb; clear hb ho36; obtain ⟨Ao37, co37, eo37⟩ := Kd.R_slice HO546.out; subst eo37) | ((with_reducible refine gate_callee (f := 56) rfl ?_); refine goesL_ (some 14) rfl rfl Tryd.func56 (by kernel_rfl) rfl #[.slice Ao37 y544.length co37] rfl (by (try simp only [List.map_toArray, List.map_cons, List.map_nil]); rfl) ?_; (with_reducible refine (bits_valid.calls k _ _ y544 false _ ?side1 ?side2 A9.out).mono ?_); (case side1 => repeat (exact (Kd.R_reads' HO546.out).2.2)); (case side2 => exact (Kd.R_reads' HO546.out).2.1); rintro e w38 ⟨rfl, hb⟩; refine ⟨_, rfl, ?_⟩; replace HO546 := Kd.rb1 HO546 hb; replace BK541 := bk1 BK541 hb; replace BK542 := bk1 BK542 hb; replace BK543 := bk1 BK543 hb; replace HB := hb1 HB hb; (try clear hb)))
   go_meet
   case rel => exact ⟨_, (true), (by rfl), H', ⟨by omega⟩, ⟨by exact BK541.out⟩, ⟨by exact BK542.out⟩, ⟨by exact BK543.out⟩, ⟨by repeat (with_reducible exact HB.out)⟩⟩
 case rest =>
  clear HC5
  obtain ⟨kq, x23_4, rfl, HA, HJ4, BK541, BK542, BK543, HB⟩ := hcut
  cases kq with
  | zero => exact absurd HA.out (by simp [bits_Part.j0])
  | succ kj4 =>
   have H := HA.out
   clear HA
   simp only [bits_Part.j0] at H
   by_cases c39 : x23_4 = true
   ·subst c39
    have H1 : (some (0, 0, 0)) = some (r1, r2, r3) := by rw [if_pos rfl] at H; exact H
    clear H
    have H := H1
    clear H1
    simp only [Option.some.injEq, Prod.mk.injEq] at H
    obtain ⟨rfl, rfl, rfl⟩ := H
    have hnb40 := NB543_541.out
    have hnc40 := NB541_543.out
    have hnb41 := NB543_542.out
    have hnc41 := NB542_543.out
    obtain ⟨hcz42_0, hcz42_1, hcz42_2⟩ := sq_cells3 (W := wc) (g := gb543) BK543.out; obtain ⟨hfz42_0, hfz42_1, hfz42_2⟩ := sq_frozen3 BK543.out
    go_wp2
    refine bodyPost_ret (results_cell_row rfl _ _ gb543 24 #[.int .i64 0, .int .u64 0, .int .u64 0] (0, 0) _ rfl (by refine blk_put (cs := #[.int .i64 0, .int .u64 0, .int .u64 0]) ?_ 2 _ rfl; refine blk_put (cs := #[.int .i64 0, .int .u64 0, .int .u64 0]) ?_ 1 _ rfl; refine blk_put (cs := #[.int .i64 0, .int .u64 0, .int .u64 0]) ?_ 0 _ rfl; exact BK543.out) Tryd.underlying24 rfl (by kernel_rfl)) rfl ?_
    exact ⟨by rfl, by repeat (with_reducible first | exact HB.out | refine below_set ?_ GE543.out)⟩
   ·replace c39 := Bool.eq_false_iff.mpr c39
    subst c39
    have H1 : ((bits_Int.f kj4 a1_0 a1_1 a1_2).bind fun bt548 => (if bt548.2 = true then (if a2 = true then ((bits_window.f kj4 a0_0 a0_1 a0_2 (mx bt548.1 (-64)) a3).bind fun bt550 => (some (bt550.1, bt550.2.1, bt550.2.2))) else ((bits_window.f kj4 a0_0 a0_1 a0_2 (wrap64 (mn a1_1 64)) a3).bind fun bt553 => (some (bt553.1, bt553.2.1, bt553.2.2)))) else ((bits_All.f kj4 a3 120).bind fun bt556 => (some (bt556.1, bt556.2.1, bt556.2.2))))) = some (r1, r2, r3) := by rw [if_neg (show ¬ (false = true) by decide)] at H; exact H
    clear H
    have H := H1
    clear H1
    replace H := Option.bind_eq_some_iff.mp H
    obtain ⟨⟨t548, t549⟩, A430, H⟩ := H
    replace H : (if t549 = true then (if a2 = true then ((bits_window.f kj4 a0_0 a0_1 a0_2 (mx t548 (-64)) a3).bind fun bt550 => (some (bt550.1, bt550.2.1, bt550.2.2))) else ((bits_window.f kj4 a0_0 a0_1 a0_2 (wrap64 (mn a1_1 64)) a3).bind fun bt553 => (some (bt553.1, bt553.2.1, bt553.2.2)))) else ((bits_All.f kj4 a3 120).bind fun bt556 => (some (bt556.1, bt556.2.1, bt556.2.2)))) = some (r1, r2, r3) := H
    have A43 := Aside0.mk A430
    clear A430
    by_cases c44 : t549 = true
    ·subst c44
     have H1 : (if a2 = true then ((bits_window.f kj4 a0_0 a0_1 a0_2 (mx t548 (-64)) a3).bind fun bt550 => (some (bt550.1, bt550.2.1, bt550.2.2))) else ((bits_window.f kj4 a0_0 a0_1 a0_2 (wrap64 (mn a1_1 64)) a3).bind fun bt553 => (some (bt553.1, bt553.2.1, bt553.2.2)))) = some (r1, r2, r3) := by rw [if_pos rfl] at H; exact H
     clear H
     have H := H1
     clear H1
     by_cases c45 : a2 = true
     ·subst c45
      have H1 : ((bits_window.f kj4 a0_0 a0_1 a0_2 (mx t548 (-64)) a3).bind fun bt550 => (some (bt550.1, bt550.2.1, bt550.2.2))) = some (r1, r2, r3) := by rw [if_pos rfl] at H; exact H
      clear H
      have H := H1
      clear H1
      obtain ⟨ji46, hji46⟩ : ∃ j_ : Int, (mx t548 (-64)) = j_ := ⟨_, rfl⟩
      replace H : ((bits_window.f kj4 a0_0 a0_1 a0_2 (ji46) a3).bind fun bt550 => (some (bt550.1, bt550.2.1, bt550.2.2))) = some (r1, r2, r3) := by (rw [hji46] at H; exact H)
      have hji46_ : (if t548 < (-64) then (-64) else t548) = ji46 := hji46
      replace H := Option.bind_eq_some_iff.mp H
      obtain ⟨⟨t550, t551, t552⟩, A470, H⟩ := H
      replace H : (some (t550, t551, t552)) = some (r1, r2, r3) := H
      have A47 := Aside0.mk A470
      clear A470
      simp only [Option.some.injEq, Prod.mk.injEq] at H
      obtain ⟨rfl, rfl, rfl⟩ := H
      have hnb48 := NB542_541.out
      have hnc48 := NB541_542.out
      have hnb49 := NB542_543.out
      have hnc49 := NB543_542.out
      obtain ⟨hcz50_0, hcz50_1, hcz50_2⟩ := sq_cells3 (W := wc) (g := gb542) BK542.out; obtain ⟨hfz50_0, hfz50_1, hfz50_2⟩ := sq_frozen3 BK542.out
      go_wp2_with (first | ((with_reducible refine gate_callee (f := 19) rfl ?_); refine goesL_ (some 27) rfl rfl Tryd.func19 (by kernel_rfl) rfl #[.agg #[.int .i64 a1_0, .int .u64 a1_1, .int .u64 a1_2]] rfl (by (try simp only [List.map_toArray, List.map_cons, List.map_nil]); rfl) ?_; (with_reducible refine (bits_Int.calls kj4 a1_0 a1_1 a1_2 t548 true _ A43.out).mono ?_); rintro e w51 ⟨rfl, hb⟩; refine ⟨_, rfl, ?_⟩; replace BK541 := bk1 BK541 hb; replace BK542 := bk1 BK542 hb; replace BK543 := bk1 BK543 hb; replace HB := hb1 HB hb; (try clear hb); have hnb52 := NB541_543.out; have hnc52 := NB543_541.out; have hcz53_0 : w51.cell? ⟨gb541, 0, none⟩ = some (.int .i64 a0_0) := (blk_cell BK541.out 0).trans rfl; have hcz53_1 : w51.cell? ⟨gb541, 1, none⟩ = some (.int .u64 a0_1) := (blk_cell BK541.out 1).trans rfl; have hcz53_2 : w51.cell? ⟨gb541, 2, none⟩ = some (.int .u64 a0_2) := (blk_cell BK541.out 2).trans rfl; have hfz53_0 := blk_frozen BK541.out 0; have hfz53_1 := blk_frozen BK541.out 1; have hfz53_2 := blk_frozen BK541.out 2) | ((with_reducible refine gate_callee (f := 62) rfl ?_); refine goesL_ (some 41) rfl rfl Tryd.func62 (by kernel_rfl) rfl #[.agg #[.int .i64 a0_0, .int .u64 a0_1, .int .u64 a0_2], .int .i64 ji46, .int .i64 a3] rfl (by (try simp only [List.map_toArray, List.map_cons, List.map_nil]); rfl) ?_; (with_reducible refine (bits_window.calls kj4 a0_0 a0_1 a0_2 ji46 a3 t550 t551 t552 _ A47.out).mono ?_); rintro e w54 ⟨rfl, hb⟩; refine ⟨_, rfl, ?_⟩; replace BK541 := bk1 BK541 hb; replace BK542 := bk1 BK542 hb; replace BK543 := bk1 BK543 hb; replace HB := hb1 HB hb; (try clear hb); have hcz55_0 : w54.cell? ⟨gb543, 0, none⟩ = some (.int .i64 0) := (blk_cell BK543.out 0).trans rfl; have hcz55_1 : w54.cell? ⟨gb543, 1, none⟩ = some (.int .u64 0) := (blk_cell BK543.out 1).trans rfl; have hcz55_2 : w54.cell? ⟨gb543, 2, none⟩ = some (.int .u64 0) := (blk_cell BK543.out 2).trans rfl; have hfz55_0 := blk_frozen BK543.out 0; have hfz55_1 := blk_frozen BK543.out 1; have hfz55_2 := blk_frozen BK543.out 2))
      refine bodyPost_ret (results_cell_row rfl _ _ gb543 24 #[.int .i64 t550, .int .u64 t551, .int .u64 t552] (0, 0) _ rfl (by refine blk_put (cs := #[.int .i64 t550, .int .u64 t551, .int .u64 0]) ?_ 2 _ rfl; refine blk_put (cs := #[.int .i64 t550, .int .u64 0, .int .u64 0]) ?_ 1 _ rfl; refine blk_put (cs := #[.int .i64 0, .int .u64 0, .int .u64 0]) ?_ 0 _ rfl; exact BK543.out) Tryd.underlying24 rfl (by kernel_rfl)) rfl ?_
      exact ⟨by rfl, by repeat (with_reducible first | exact HB.out | refine below_set ?_ GE543.out)⟩
     ·replace c45 := Bool.eq_false_iff.mpr c45
      subst c45
      have H1 : ((bits_window.f kj4 a0_0 a0_1 a0_2 (wrap64 (mn a1_1 64)) a3).bind fun bt553 => (some (bt553.1, bt553.2.1, bt553.2.2))) = some (r1, r2, r3) := by rw [if_neg (show ¬ (false = true) by decide)] at H; exact H
      clear H
      have H := H1
      clear H1
      obtain ⟨ji56, hji56⟩ : ∃ j_ : Int, (mn a1_1 64) = j_ := ⟨_, rfl⟩
      replace H : ((bits_window.f kj4 a0_0 a0_1 a0_2 (wrap64 (ji56)) a3).bind fun bt553 => (some (bt553.1, bt553.2.1, bt553.2.2))) = some (r1, r2, r3) := by (rw [hji56] at H; exact H)
      have hji56_ : (if 64 < a1_1 then 64 else a1_1) = ji56 := hji56
      replace H := Option.bind_eq_some_iff.mp H
      obtain ⟨⟨t553, t554, t555⟩, A570, H⟩ := H
      replace H : (some (t553, t554, t555)) = some (r1, r2, r3) := H
      have A57 := Aside0.mk A570
      clear A570
      simp only [Option.some.injEq, Prod.mk.injEq] at H
      obtain ⟨rfl, rfl, rfl⟩ := H
      have hnb58 := NB542_541.out
      have hnc58 := NB541_542.out
      have hnb59 := NB542_543.out
      have hnc59 := NB543_542.out
      obtain ⟨hcz60_0, hcz60_1, hcz60_2⟩ := sq_cells3 (W := wc) (g := gb542) BK542.out; obtain ⟨hfz60_0, hfz60_1, hfz60_2⟩ := sq_frozen3 BK542.out
      go_wp2_with (first | ((with_reducible refine gate_callee (f := 19) rfl ?_); refine goesL_ (some 27) rfl rfl Tryd.func19 (by kernel_rfl) rfl #[.agg #[.int .i64 a1_0, .int .u64 a1_1, .int .u64 a1_2]] rfl (by (try simp only [List.map_toArray, List.map_cons, List.map_nil]); rfl) ?_; (with_reducible refine (bits_Int.calls kj4 a1_0 a1_1 a1_2 t548 true _ A43.out).mono ?_); rintro e w61 ⟨rfl, hb⟩; refine ⟨_, rfl, ?_⟩; replace BK541 := bk1 BK541 hb; replace BK542 := bk1 BK542 hb; replace BK543 := bk1 BK543 hb; replace HB := hb1 HB hb; (try clear hb); have hnb62 := NB541_543.out; have hnc62 := NB543_541.out; have hcz63_0 : w61.cell? ⟨gb541, 0, none⟩ = some (.int .i64 a0_0) := (blk_cell BK541.out 0).trans rfl; have hcz63_1 : w61.cell? ⟨gb541, 1, none⟩ = some (.int .u64 a0_1) := (blk_cell BK541.out 1).trans rfl; have hcz63_2 : w61.cell? ⟨gb541, 2, none⟩ = some (.int .u64 a0_2) := (blk_cell BK541.out 2).trans rfl; have hfz63_0 := blk_frozen BK541.out 0; have hfz63_1 := blk_frozen BK541.out 1; have hfz63_2 := blk_frozen BK541.out 2; have hcz64_0 : w61.cell? ⟨gb542, 0, none⟩ = some (.int .i64 a1_0) := (blk_cell BK542.out 0).trans rfl; have hcz64_1 : w61.cell? ⟨gb542, 1, none⟩ = some (.int .u64 a1_1) := (blk_cell BK542.out 1).trans rfl; have hcz64_2 : w61.cell? ⟨gb542, 2, none⟩ = some (.int .u64 a1_2) := (blk_cell BK542.out 2).trans rfl; have hfz64_0 := blk_frozen BK542.out 0; have hfz64_1 := blk_frozen BK542.out 1; have hfz64_2 := blk_frozen BK542.out 2) | ((with_reducible refine gate_callee (f := 62) rfl ?_); refine goesL_ (some 48) rfl rfl Tryd.func62 (by kernel_rfl) rfl #[.agg #[.int .i64 a0_0, .int .u64 a0_1, .int .u64 a0_2], .int .i64 (wrap64 (ji56)), .int .i64 a3] rfl (by (try simp only [List.map_toArray, List.map_cons, List.map_nil]); rfl) ?_; (with_reducible refine (bits_window.calls kj4 a0_0 a0_1 a0_2 (wrap64 (ji56)) a3 t553 t554 t555 _ A57.out).mono ?_); rintro e w65 ⟨rfl, hb⟩; refine ⟨_, rfl, ?_⟩; replace BK541 := bk1 BK541 hb; replace BK542 := bk1 BK542 hb; replace BK543 := bk1 BK543 hb; replace HB := hb1 HB hb; (try clear hb); have hcz66_0 : w65.cell? ⟨gb543, 0, none⟩ = some (.int .i64 0) := (blk_cell BK543.out 0).trans rfl; have hcz66_1 : w65.cell? ⟨gb543, 1, none⟩ = some (.int .u64 0) := (blk_cell BK543.out 1).trans rfl; have hcz66_2 : w65.cell? ⟨gb543, 2, none⟩ = some (.int .u64 0) := (blk_cell BK543.out 2).trans rfl; have hfz66_0 := blk_frozen BK543.out 0; have hfz66_1 := blk_frozen BK543.out 1; have hfz66_2 := blk_frozen BK543.out 2))
      refine bodyPost_ret (results_cell_row rfl _ _ gb543 24 #[.int .i64 t553, .int .u64 t554, .int .u64 t555] (0, 0) _ rfl (by refine blk_put (cs := #[.int .i64 t553, .int .u64 t554, .int .u64 0]) ?_ 2 _ rfl; refine blk_put (cs := #[.int .i64 t553, .int .u64 0, .int .u64 0]) ?_ 1 _ rfl; refine blk_put (cs := #[.int .i64 0, .int .u64 0, .int .u64 0]) ?_ 0 _ rfl; exact BK543.out) Tryd.underlying24 rfl (by kernel_rfl)) rfl ?_
      exact ⟨by rfl, by repeat (with_reducible first | exact HB.out | refine below_set ?_ GE543.out)⟩
    ·replace c44 := Bool.eq_false_iff.mpr c44
     subst c44
     have H1 : ((bits_All.f kj4 a3 120).bind fun bt556 => (some (bt556.1, bt556.2.1, bt556.2.2))) = some (r1, r2, r3) := by rw [if_neg (show ¬ (false = true) by decide)] at H; exact H
     clear H
     have H := H1
     clear H1
     replace H := Option.bind_eq_some_iff.mp H
     obtain ⟨⟨t556, t557, t558⟩, A670, H⟩ := H
     replace H : (some (t556, t557, t558)) = some (r1, r2, r3) := H
     have A67 := Aside0.mk A670
     clear A670
     simp only [Option.some.injEq, Prod.mk.injEq] at H
     obtain ⟨rfl, rfl, rfl⟩ := H
     have hnb68 := NB542_541.out
     have hnc68 := NB541_542.out
     have hnb69 := NB542_543.out
     have hnc69 := NB543_542.out
     obtain ⟨hcz70_0, hcz70_1, hcz70_2⟩ := sq_cells3 (W := wc) (g := gb542) BK542.out; obtain ⟨hfz70_0, hfz70_1, hfz70_2⟩ := sq_frozen3 BK542.out
     go_wp2_with (first | ((with_reducible refine gate_callee (f := 19) rfl ?_); refine goesL_ (some 27) rfl rfl Tryd.func19 (by kernel_rfl) rfl #[.agg #[.int .i64 a1_0, .int .u64 a1_1, .int .u64 a1_2]] rfl (by (try simp only [List.map_toArray, List.map_cons, List.map_nil]); rfl) ?_; (with_reducible refine (bits_Int.calls kj4 a1_0 a1_1 a1_2 t548 false _ A43.out).mono ?_); rintro e w71 ⟨rfl, hb⟩; refine ⟨_, rfl, ?_⟩; replace BK541 := bk1 BK541 hb; replace BK542 := bk1 BK542 hb; replace BK543 := bk1 BK543 hb; replace HB := hb1 HB hb; (try clear hb)) | ((with_reducible refine gate_callee (f := 25) rfl ?_); refine goesL_ (some 34) rfl rfl Tryd.func25 (by kernel_rfl) rfl #[.int .i64 a3, .int .u8 120] rfl (by (try simp only [List.map_toArray, List.map_cons, List.map_nil]); rfl) ?_; (with_reducible refine (bits_All.calls kj4 a3 120 t556 t557 t558 _ A67.out).mono ?_); rintro e w72 ⟨rfl, hb⟩; refine ⟨_, rfl, ?_⟩; replace BK541 := bk1 BK541 hb; replace BK542 := bk1 BK542 hb; replace BK543 := bk1 BK543 hb; replace HB := hb1 HB hb; (try clear hb); have hnb73 := NB543_541.out; have hnc73 := NB541_543.out; have hcz74_0 : w72.cell? ⟨gb543, 0, none⟩ = some (.int .i64 0) := (blk_cell BK543.out 0).trans rfl; have hcz74_1 : w72.cell? ⟨gb543, 1, none⟩ = some (.int .u64 0) := (blk_cell BK543.out 1).trans rfl; have hcz74_2 : w72.cell? ⟨gb543, 2, none⟩ = some (.int .u64 0) := (blk_cell BK543.out 2).trans rfl; have hfz74_0 := blk_frozen BK543.out 0; have hfz74_1 := blk_frozen BK543.out 1; have hfz74_2 := blk_frozen BK543.out 2))
     refine bodyPost_ret (results_cell_row rfl _ _ gb543 24 #[.int .i64 t556, .int .u64 t557, .int .u64 t558] (0, 0) _ rfl (by refine blk_put (cs := #[.int .i64 t556, .int .u64 t557, .int .u64 0]) ?_ 2 _ rfl; refine blk_put (cs := #[.int .i64 t556, .int .u64 0, .int .u64 0]) ?_ 1 _ rfl; refine blk_put (cs := #[.int .i64 0, .int .u64 0, .int .u64 0]) ?_ 0 _ rfl; exact BK543.out) Tryd.underlying24 rfl (by kernel_rfl)) rfl ?_
     exact ⟨by rfl, by repeat (with_reducible first | exact HB.out | refine below_set ?_ GE543.out)⟩
end Go.Proofs.YtfigblfjogpojaaDoor.PBits
end
section
namespace Go.Proofs.YtfigblfjogpojaaDoor.PBits
open Go.RowKit Go.Proofs.YtfigblfjogpojaaDoorW.PrintWords Go.Proofs.YtfigblfjogpojaaDoorW.PrintLast Go.Proofs.YtfigblfjogpojaaDoorW.PrintMore
attribute [local go_sem] max2_int min2_int max_two min_two max_three min_three max_four min_four
set_option linter.unusedVariables false
set_option linter.unusedSimpArgs false
mutual
def bits_Resize.j0 : Nat → Int → Bool → Bool → Int → Int → Int → Option (Int × Int × Int)
 | 0, _, _, _, _, _, _ => none
 | k + 1, x1, x2, x21, x560000, x560001, x560002 => if x21 = true then (some (0, 0, 0)) else (if x2 = true then (if 0 ≤ (wrap64 (64 - x560000)) then (bits_Resize.j1 k x1 (IntKind.u64.wrap (shr .i64 (wrap64 (shl .u64 x560001 (wrap64 (64 - x560000)))) (wrap64 (64 - x560000)))) (IntKind.u64.wrap (shr .i64 (wrap64 (shl .u64 x560002 (wrap64 (64 - x560000)))) (wrap64 (64 - x560000))))) else (none)) else (bits_Resize.j1 k x1 x560001 x560002))
def bits_Resize.j1 : Nat → Int → Int → Int → Option (Int × Int × Int)
 | 0, _, _, _ => none
 | k + 1, x1, x7, x8 => (bits_mask.f x1).bind fun t565 => ((bits_mask.f x1).bind fun t566 => (some (x1, Go.bits .and .u64 x7 t565, Go.bits .and .u64 x8 t566)))
end
def bits_Resize.f (k : Nat) (a0_0 : Int) (a0_1 : Int) (a0_2 : Int) (a1 : Int) (a2 : Bool) : Option (Int × Int × Int) := (bits_valid.f k (([(⟨a0_0, a0_1, a0_2⟩ : S24)] : List (S24)))).bind fun t564 => (if t564 = true then (if a1 < 1 then (bits_Resize.j0 k a1 a2 true a0_0 a0_1 a0_2) else (bits_Resize.j0 k a1 a2 (decide (a1 > 64)) a0_0 a0_1 a0_2)) else (bits_Resize.j0 k a1 a2 true a0_0 a0_1 a0_2))
set_option maxHeartbeats 8000000 in
set_option maxRecDepth 100000 in
theorem bits_Resize.calls (k : Nat) (a0_0 : Int) (a0_1 : Int) (a0_2 : Int) (a1 : Int) (a2 : Bool) (r1 : Int) (r2 : Int) (r3 : Int) (w : World) (h : bits_Resize.f k a0_0 a0_1 a0_2 a1 a2 = some (r1, r2, r3)) :
  Calls Tryd.prog 39 #[.agg #[.int .i64 a0_0, .int .u64 a0_1, .int .u64 a0_2], .int .i64 a1, .bool a2] w fun e w' => e = .returned (.agg #[.int .i64 r1, .int .u64 r2, .int .u64 r3]) ∧ Below w.heap.size w w' := by
 have hu24 := Tryd.underlying24
 have HB := Aside0.mk (Below.refl w.heap.size w)
 have H : ((bits_valid.f k ([(⟨a0_0, a0_1, a0_2⟩ : S24)] : List (S24))).bind fun t564 => (if t564 = true then (if a1 < 1 then (bits_Resize.j0 k a1 a2 true a0_0 a0_1 a0_2) else (bits_Resize.j0 k a1 a2 (decide (a1 > 64)) a0_0 a0_1 a0_2)) else (bits_Resize.j0 k a1 a2 true a0_0 a0_1 a0_2))) = some (r1, r2, r3) := h
 clear h
 have HC4 := Aside0.mk H
 clear H
 go_enter Tryd.func39, Tryd.ntmps39
 go_upto_region 1 with (first | ((with_reducible refine gate_dst (N := 3) rfl ?_); refine box_event ?hg (N := 3) ?hd (cs := #[.int .i64 a0_0, .int .u64 a0_1, .int .u64 a0_2]) (t := 24) ?hr ?_; (case hd => rfl); (case hg => rfl); (case hr => (go_simp; done)); intro gb559 hg w5 hbox hb; have BK559 := Aside0.mk (hbox); have GW559 := ge1 HB hg; have GE559 := ge1 HB hg; replace HB := hb1 HB hb; clear hb hbox hg) | ((with_reducible refine gate_dst (N := 6) rfl ?_); refine box_event ?hg (N := 6) ?hd (cs := #[.int .i64 0, .int .u64 0, .int .u64 0]) (t := 24) ?hr ?_; (case hd => rfl); (case hg => rfl); (case hr => (go_simp; done)); intro gb560 hg w6 hbox hb; have BK560 := Aside0.mk (hbox); have GW560 := ge1 HB hg; have GE560 := ge1 HB hg; replace HB := hb1 HB hb; have NB559_560 := Aside0.mk ((by rw [hg]; exact Nat.ne_of_lt (blk_lt BK559.out) : gb559 ≠ gb560)); have NB560_559 := Aside0.mk ((by rw [hg]; exact Nat.ne_of_gt (blk_lt BK559.out) : gb560 ≠ gb559)); replace BK559 := bk1 BK559 hb; clear hb hbox hg))
 (try simp only [Act.put, List.setIfInBounds_toArray, List.set_cons_zero, List.set_cons_succ])
 go_cut [21] (fun v21 wc => ∃ (kq : Nat) (x21_3 : Bool), v21 = .bool x21_3 ∧ Aside0 (bits_Resize.j0 kq a1 a2 x21_3 a0_0 a0_1 a0_2 = some (r1, r2, r3)) ∧ Aside0 (kq ≤ k) ∧ Aside0 (wc.heap[gb559]? = some (.cells #[.int .i64 a0_0, .int .u64 a0_1, .int .u64 a0_2] 24 (0, 0))) ∧ Aside0 (wc.heap[gb560]? = some (.cells #[.int .i64 0, .int .u64 0, .int .u64 0] 24 (0, 0))) ∧ Aside0 (Below w.heap.size w wc))
 case first =>
  have H := HC4.out
  clear HC4
  obtain ⟨y561, hy561⟩ : ∃ y_ : List (S24), y_ = ([(⟨a0_0, a0_1, a0_2⟩ : S24)] : List (S24)) := ⟨_, rfl⟩
  replace H : ((bits_valid.f k y561).bind fun t564 => (if t564 = true then (if a1 < 1 then (bits_Resize.j0 k a1 a2 true a0_0 a0_1 a0_2) else (bits_Resize.j0 k a1 a2 (decide (a1 > 64)) a0_0 a0_1 a0_2)) else (bits_Resize.j0 k a1 a2 true a0_0 a0_1 a0_2))) = some (r1, r2, r3) := by (rw [hy561]; with_reducible exact H)
  have Ny561 := Aside0.mk hy561
  clear hy561
  replace H := Option.bind_eq_some_iff.mp H
  obtain ⟨t564, A70, H⟩ := H
  replace H : (if t564 = true then (if a1 < 1 then (bits_Resize.j0 k a1 a2 true a0_0 a0_1 a0_2) else (bits_Resize.j0 k a1 a2 (decide (a1 > 64)) a0_0 a0_1 a0_2)) else (bits_Resize.j0 k a1 a2 true a0_0 a0_1 a0_2)) = some (r1, r2, r3) := H
  have A7 := Aside0.mk A70
  clear A70
  by_cases c8 : t564 = true
  ·subst c8
   have H1 : (if a1 < 1 then (bits_Resize.j0 k a1 a2 true a0_0 a0_1 a0_2) else (bits_Resize.j0 k a1 a2 (decide (a1 > 64)) a0_0 a0_1 a0_2)) = some (r1, r2, r3) := by rw [if_pos rfl] at H; exact H
   clear H
   have H := H1
   clear H1
   by_cases c9 : a1 < 1
   ·rw [if_pos c9] at H
    have c9b0 : decide (a1 < 1) = true := decide_eq_true c9
    clear c9
    (skip)
    have H' := Aside0.mk H
    clear H
    have hnb10 := NB559_560.out
    have hnc10 := NB560_559.out
    obtain ⟨hcz11_0, hcz11_1, hcz11_2⟩ := sq_cells3 (W := w6) (g := gb559) BK559.out; obtain ⟨hfz11_0, hfz11_1, hfz11_2⟩ := sq_frozen3 BK559.out
    go_wp2_with (first | ((with_reducible refine gate_dst (N := 11) rfl ?_); refine Kd.R_lit k24 _ 24 ?hg (N := 11) ?hd (xs := ([(⟨a0_0, a0_1, a0_2⟩ : S24)] : List (S24))) (inner := [.int .i64 a0_0, .int .u64 a0_1, .int .u64 a0_2]) (ok := fun _ => True) (okp := fun _ => True) ?hr ?hp (fun _ hk => hk) trivial (Below.refl _ _) (Nat.le_refl _) (by simp) ?_; (case hd => rfl); (case hg => rfl); (case hr => (go_simp; done)); (case hp => exact (Reps.c3 (show Kd.M k24 _ _ _ (⟨a0_0, a0_1, a0_2⟩ : S24) [.int .i64 a0_0, .int .u64 a0_1, .int .u64 a0_2] from (k24_mkM _ _ _ (⟨a0_0, a0_1, a0_2⟩ : S24) )) (Reps.none _ _))); intro v562 w12 ho13 hb hg_ hnew_; clear hg_ hnew_; (rw [← Ny561.out] at ho13); have HO563 := Aside0.mk (Kd.R_lower (Kd.R_newB (Kd.R_newB ho13 BK559.out) BK560.out) (below_size HB.out)); replace BK559 := bk1 BK559 hb; replace BK560 := bk1 BK560 hb; replace HB := hb1 HB hb; clear hb ho13; obtain ⟨Ao14, co14, eo14⟩ := Kd.R_slice HO563.out; subst eo14) | (go_at_call 56; (with_reducible refine (bits_valid.calls k _ _ y561 true _ ?side1 ?side2 A7.out).mono ?_); (case side1 => repeat (exact (Kd.R_reads' HO563.out).2.2)); (case side2 => exact (Kd.R_reads' HO563.out).2.1); rintro e w15 ⟨rfl, hb⟩; replace HO563 := Kd.rb1 HO563 hb; replace BK559 := bk1 BK559 hb; replace BK560 := bk1 BK560 hb; replace HB := hb1 HB hb; (try clear hb)))
    go_meet
    case rel => exact ⟨_, (true), (by rfl), H', ⟨by omega⟩, ⟨by exact BK559.out⟩, ⟨by exact BK560.out⟩, ⟨by repeat (with_reducible exact HB.out)⟩⟩
   ·rw [if_neg c9] at H
    have c9b0 : decide (a1 < 1) = false := decide_eq_false c9
    clear c9
    (skip)
    have H' := Aside0.mk H
    clear H
    have hnb16 := NB559_560.out
    have hnc16 := NB560_559.out
    obtain ⟨hcz17_0, hcz17_1, hcz17_2⟩ := sq_cells3 (W := w6) (g := gb559) BK559.out; obtain ⟨hfz17_0, hfz17_1, hfz17_2⟩ := sq_frozen3 BK559.out
    go_wp2_with (first | ((with_reducible refine gate_dst (N := 11) rfl ?_); refine Kd.R_lit k24 _ 24 ?hg (N := 11) ?hd (xs := ([(⟨a0_0, a0_1, a0_2⟩ : S24)] : List (S24))) (inner := [.int .i64 a0_0, .int .u64 a0_1, .int .u64 a0_2]) (ok := fun _ => True) (okp := fun _ => True) ?hr ?hp (fun _ hk => hk) trivial (Below.refl _ _) (Nat.le_refl _) (by simp) ?_; (case hd => rfl); (case hg => rfl); (case hr => (go_simp; done)); (case hp => exact (Reps.c3 (show Kd.M k24 _ _ _ (⟨a0_0, a0_1, a0_2⟩ : S24) [.int .i64 a0_0, .int .u64 a0_1, .int .u64 a0_2] from (k24_mkM _ _ _ (⟨a0_0, a0_1, a0_2⟩ : S24) )) (Reps.none _ _))); intro v562 w18 ho19 hb hg_ hnew_; clear hg_ hnew_; (rw [← Ny561.out] at ho19); have HO563 := Aside0.mk (Kd.R_lower (Kd.R_newB (Kd.R_newB ho19 BK559.out) BK560.out) (below_size HB.out)); replace BK559 := bk1 BK559 hb; replace BK560 := bk1 BK560 hb; replace HB := hb1 HB hb; clear hb ho19; obtain ⟨Ao20, co20, eo20⟩ := Kd.R_slice HO563.out; subst eo20) | (go_at_call 56; (with_reducible refine (bits_valid.calls k _ _ y561 true _ ?side1 ?side2 A7.out).mono ?_); (case side1 => repeat (exact (Kd.R_reads' HO563.out).2.2)); (case side2 => exact (Kd.R_reads' HO563.out).2.1); rintro e w21 ⟨rfl, hb⟩; replace HO563 := Kd.rb1 HO563 hb; replace BK559 := bk1 BK559 hb; replace BK560 := bk1 BK560 hb; replace HB := hb1 HB hb; (try clear hb)))
    go_meet
    case rel => exact ⟨_, (decide (a1 > 64)), (by rfl), H', ⟨by omega⟩, ⟨by exact BK559.out⟩, ⟨by exact BK560.out⟩, ⟨by repeat (with_reducible exact HB.out)⟩⟩
  ·replace c8 := Bool.eq_false_iff.mpr c8
   subst c8
   have H1 : (bits_Resize.j0 k a1 a2 true a0_0 a0_1 a0_2) = some (r1, r2, r3) := by rw [if_neg (show ¬ (false = true) by decide)] at H; exact H
   clear H
   have H := H1
   clear H1
   have H' := Aside0.mk H
   clear H
   have hnb22 := NB559_560.out
   have hnc22 := NB560_559.out
   obtain ⟨hcz23_0, hcz23_1, hcz23_2⟩ := sq_cells3 (W := w6) (g := gb559) BK559.out; obtain ⟨hfz23_0, hfz23_1, hfz23_2⟩ := sq_frozen3 BK559.out
   go_wp2_with (first | ((with_reducible refine gate_dst (N := 11) rfl ?_); refine Kd.R_lit k24 _ 24 ?hg (N := 11) ?hd (xs := ([(⟨a0_0, a0_1, a0_2⟩ : S24)] : List (S24))) (inner := [.int .i64 a0_0, .int .u64 a0_1, .int .u64 a0_2]) (ok := fun _ => True) (okp := fun _ => True) ?hr ?hp (fun _ hk => hk) trivial (Below.refl _ _) (Nat.le_refl _) (by simp) ?_; (case hd => rfl); (case hg => rfl); (case hr => (go_simp; done)); (case hp => exact (Reps.c3 (show Kd.M k24 _ _ _ (⟨a0_0, a0_1, a0_2⟩ : S24) [.int .i64 a0_0, .int .u64 a0_1, .int .u64 a0_2] from (k24_mkM _ _ _ (⟨a0_0, a0_1, a0_2⟩ : S24) )) (Reps.none _ _))); intro v562 w24 ho25 hb hg_ hnew_; clear hg_ hnew_; (rw [← Ny561.out] at ho25); have HO563 := Aside0.mk (Kd.R_lower (Kd.R_newB (Kd.R_newB ho25 BK559.out) BK560.out) (below_size HB.out)); replace BK559 := bk1 BK559 hb; replace BK560 := bk1 BK560 hb; replace HB := hb1 HB hb; clear hb ho25; obtain ⟨Ao26, co26, eo26⟩ := Kd.R_slice HO563.out; subst eo26) | (go_at_call 56; (with_reducible refine (bits_valid.calls k _ _ y561 false _ ?side1 ?side2 A7.out).mono ?_); (case side1 => repeat (exact (Kd.R_reads' HO563.out).2.2)); (case side2 => exact (Kd.R_reads' HO563.out).2.1); rintro e w27 ⟨rfl, hb⟩; replace HO563 := Kd.rb1 HO563 hb; replace BK559 := bk1 BK559 hb; replace BK560 := bk1 BK560 hb; replace HB := hb1 HB hb; (try clear hb)))
   go_meet
   case rel => exact ⟨_, (true), (by rfl), H', ⟨by omega⟩, ⟨by exact BK559.out⟩, ⟨by exact BK560.out⟩, ⟨by repeat (with_reducible exact HB.out)⟩⟩
 case rest =>
  clear HC4
  obtain ⟨kq, x21_3, rfl, HA, HJ3, BK559, BK560, HB⟩ := hcut
  cases kq with
  | zero => exact absurd HA.out (by simp [bits_Resize.j0])
  | succ kj3 =>
   have H := HA.out
   clear HA
   simp only [bits_Resize.j0] at H
   by_cases c28 : x21_3 = true
   ·subst c28
    have H1 : (some (0, 0, 0)) = some (r1, r2, r3) := by rw [if_pos rfl] at H; exact H
    clear H
    have H := H1
    clear H1
    simp only [Option.some.injEq, Prod.mk.injEq] at H
    obtain ⟨rfl, rfl, rfl⟩ := H
    have hnb29 := NB560_559.out
    have hnc29 := NB559_560.out
    obtain ⟨hcz30_0, hcz30_1, hcz30_2⟩ := sq_cells3 (W := wc) (g := gb560) BK560.out; obtain ⟨hfz30_0, hfz30_1, hfz30_2⟩ := sq_frozen3 BK560.out
    go_wp2
    refine bodyPost_ret (results_cell_row rfl _ _ gb560 24 #[.int .i64 0, .int .u64 0, .int .u64 0] (0, 0) _ rfl (by refine blk_put (cs := #[.int .i64 0, .int .u64 0, .int .u64 0]) ?_ 2 _ rfl; refine blk_put (cs := #[.int .i64 0, .int .u64 0, .int .u64 0]) ?_ 1 _ rfl; refine blk_put (cs := #[.int .i64 0, .int .u64 0, .int .u64 0]) ?_ 0 _ rfl; exact BK560.out) Tryd.underlying24 rfl (by kernel_rfl)) rfl ?_
    exact ⟨by rfl, by repeat (with_reducible first | exact HB.out | refine below_set ?_ GE560.out)⟩
   ·replace c28 := Bool.eq_false_iff.mpr c28
    subst c28
    have H1 : (if a2 = true then (if 0 ≤ (wrap64 (64 - a0_0)) then (bits_Resize.j1 kj3 a1 (IntKind.u64.wrap (shr .i64 (wrap64 (shl .u64 a0_1 (wrap64 (64 - a0_0)))) (wrap64 (64 - a0_0)))) (IntKind.u64.wrap (shr .i64 (wrap64 (shl .u64 a0_2 (wrap64 (64 - a0_0)))) (wrap64 (64 - a0_0))))) else (none)) else (bits_Resize.j1 kj3 a1 a0_1 a0_2)) = some (r1, r2, r3) := by rw [if_neg (show ¬ (false = true) by decide)] at H; exact H
    clear H
    have H := H1
    clear H1
    have HC31 := Aside0.mk H
    clear H
    have hnb32 := NB559_560.out
    have hnc32 := NB560_559.out
    obtain ⟨hcz33_0, hcz33_1, hcz33_2⟩ := sq_cells3 (W := wc) (g := gb559) BK559.out; obtain ⟨hfz33_0, hfz33_1, hfz33_2⟩ := sq_frozen3 BK559.out
    go_upto_if 27 with (fail)
    repeat (go_quiet (fail); go_upto_if 27 with (fail))
    go_cut [7, 8] (fun v7 v8 wc => ∃ (kq : Nat) (x7_30 : Int) (x8_30 : Int), v7 = .int .u64 x7_30 ∧ v8 = .int .u64 x8_30 ∧ Aside0 (bits_Resize.j1 kq a1 x7_30 x8_30 = some (r1, r2, r3)) ∧ Aside0 (kq ≤ kj3) ∧ Aside0 (wc.heap[gb559]? = some (.cells #[.int .i64 a0_0, .int .u64 a0_1, .int .u64 a0_2] 24 (0, 0))) ∧ Aside0 (wc.heap[gb560]? = some (.cells #[.int .i64 0, .int .u64 0, .int .u64 0] 24 (0, 0))) ∧ Aside0 (Below w.heap.size w wc))
    case first =>
     have H := HC31.out
     clear HC31
     by_cases c34 : a2 = true
     ·subst c34
      have H1 : (if 0 ≤ (wrap64 (64 - a0_0)) then (bits_Resize.j1 kj3 a1 (IntKind.u64.wrap (shr .i64 (wrap64 (shl .u64 a0_1 (wrap64 (64 - a0_0)))) (wrap64 (64 - a0_0)))) (IntKind.u64.wrap (shr .i64 (wrap64 (shl .u64 a0_2 (wrap64 (64 - a0_0)))) (wrap64 (64 - a0_0))))) else (none)) = some (r1, r2, r3) := by rw [if_pos rfl] at H; exact H
      clear H
      have H := H1
      clear H1
      obtain ⟨ji35, hji35⟩ : ∃ j_ : Int, (wrap64 (64 - a0_0)) = j_ := ⟨_, rfl⟩
      replace H : (if 0 ≤ (ji35) then (bits_Resize.j1 kj3 a1 (IntKind.u64.wrap (shr .i64 (wrap64 (shl .u64 a0_1 (ji35))) (ji35))) (IntKind.u64.wrap (shr .i64 (wrap64 (shl .u64 a0_2 (ji35))) (ji35)))) else (none)) = some (r1, r2, r3) := by (rw [hji35] at H; exact H)
      have hji35w : (IntKind.i64.wrap (64 - a0_0)) = ji35 := (i64_w _).trans hji35
      by_cases c36 : 0 ≤ (ji35)
      ·rw [if_pos c36] at H
       have c36b0 := eq_true c36
       have c36b1 : decide (0 ≤ (ji35)) = true := decide_eq_true c36
       clear c36
       obtain ⟨ji37, hji37⟩ : ∃ j_ : Int, (shl .u64 a0_1 (ji35)) = j_ := ⟨_, rfl⟩
       replace H : (bits_Resize.j1 kj3 a1 (IntKind.u64.wrap (shr .i64 (wrap64 (ji37)) (ji35))) (IntKind.u64.wrap (shr .i64 (wrap64 (shl .u64 a0_2 (ji35))) (ji35)))) = some (r1, r2, r3) := by (rw [hji37] at H; exact H)
       have hji37_ : (IntKind.u64.wrap (a0_1 * 2 ^ min (ji35).toNat 64)) = ji37 := hji37
       have hji37z : (ji35) ≤ 64 → (IntKind.u64.wrap (a0_1 * 2 ^ (ji35).toNat)) = ji37 := shl_small hji37
       have c38b0 := eq_true (of_decide_eq_true (by (with_reducible assumption)) : 0 ≤ (ji35))
       obtain ⟨ji39, hji39⟩ : ∃ j_ : Int, (shr .i64 (wrap64 (ji37)) (ji35)) = j_ := ⟨_, rfl⟩
       replace H : (bits_Resize.j1 kj3 a1 (IntKind.u64.wrap (ji39)) (IntKind.u64.wrap (shr .i64 (wrap64 (shl .u64 a0_2 (ji35))) (ji35)))) = some (r1, r2, r3) := by (rw [hji39] at H; exact H)
       have hji39_ : ((wrap64 (ji37)) / 2 ^ min (ji35).toNat 64) = ji39 := hji39
       have hji39z : (ji35) ≤ 64 → ((wrap64 (ji37)) / 2 ^ (ji35).toNat) = ji39 := shr_small hji39
       have c40b0 := eq_true (of_decide_eq_true (by (with_reducible assumption)) : 0 ≤ (ji35))
       obtain ⟨ji41, hji41⟩ : ∃ j_ : Int, (shl .u64 a0_2 (ji35)) = j_ := ⟨_, rfl⟩
       replace H : (bits_Resize.j1 kj3 a1 (IntKind.u64.wrap (ji39)) (IntKind.u64.wrap (shr .i64 (wrap64 (ji41)) (ji35)))) = some (r1, r2, r3) := by (rw [hji41] at H; exact H)
       have hji41_ : (IntKind.u64.wrap (a0_2 * 2 ^ min (ji35).toNat 64)) = ji41 := hji41
       have hji41z : (ji35) ≤ 64 → (IntKind.u64.wrap (a0_2 * 2 ^ (ji35).toNat)) = ji41 := shl_small hji41
       have c42b0 := eq_true (of_decide_eq_true (by (with_reducible assumption)) : 0 ≤ (ji35))
       obtain ⟨ji43, hji43⟩ : ∃ j_ : Int, (shr .i64 (wrap64 (ji41)) (ji35)) = j_ := ⟨_, rfl⟩
       replace H : (bits_Resize.j1 kj3 a1 (IntKind.u64.wrap (ji39)) (IntKind.u64.wrap (ji43))) = some (r1, r2, r3) := by (rw [hji43] at H; exact H)
       have hji43_ : ((wrap64 (ji41)) / 2 ^ min (ji35).toNat 64) = ji43 := hji43
       have hji43z : (ji35) ≤ 64 → ((wrap64 (ji41)) / 2 ^ (ji35).toNat) = ji43 := shr_small hji43
       have H' := Aside0.mk H
       clear H
       have hnb44 := NB559_560.out
       have hnc44 := NB560_559.out
       obtain ⟨hcz45_0, hcz45_1, hcz45_2⟩ := sq_cells3 (W := wc) (g := gb559) BK559.out; obtain ⟨hfz45_0, hfz45_1, hfz45_2⟩ := sq_frozen3 BK559.out
       go_wp2
       repeat (go_quiet (fail); try go_wp2)
       go_meet
       case rel => exact ⟨_, (IntKind.u64.wrap (ji39)), (IntKind.u64.wrap (ji43)), (by rfl), (by rfl), H', ⟨by have := HJ3.out; omega⟩, ⟨by (with_reducible repeat (refine blk_drewN ?_ _)); exact BK559.out⟩, ⟨by (with_reducible repeat (refine blk_drewN ?_ _)); exact BK560.out⟩, ⟨by repeat (with_reducible first | exact HB.out | apply pw_below_drewN)⟩⟩
      ·rw [if_neg c36] at H
       exact absurd H (by simp)
     ·replace c34 := Bool.eq_false_iff.mpr c34
      subst c34
      have H1 : (bits_Resize.j1 kj3 a1 a0_1 a0_2) = some (r1, r2, r3) := by rw [if_neg (show ¬ (false = true) by decide)] at H; exact H
      clear H
      have H := H1
      clear H1
      have H' := Aside0.mk H
      clear H
      go_wp2
      go_meet
      case rel => exact ⟨_, (a0_1), (a0_2), (by rfl), (by rfl), H', ⟨by have := HJ3.out; omega⟩, ⟨by (with_reducible repeat (refine blk_drewN ?_ _)); exact BK559.out⟩, ⟨by (with_reducible repeat (refine blk_drewN ?_ _)); exact BK560.out⟩, ⟨by repeat (with_reducible first | exact HB.out | apply pw_below_drewN)⟩⟩
    case rest =>
     clear HC31
     (try clear hcz33_0 hcz33_1 hcz33_2); (try clear hfz33_0 hfz33_1 hfz33_2)
     obtain ⟨kq, x7_30, x8_30, rfl, rfl, HA, HJ30, BK559, BK560, HB⟩ := hcut
     cases kq with
     | zero => exact absurd HA.out (by simp [bits_Resize.j1])
     | succ kj30 =>
      have H := HA.out
      clear HA
      simp only [bits_Resize.j1] at H
      replace H := Option.bind_eq_some_iff.mp H
      obtain ⟨t565, A460, H⟩ := H
      replace H : ((bits_mask.f a1).bind fun t566 => (some (a1, Go.bits .and .u64 x7_30 t565, Go.bits .and .u64 x8_30 t566))) = some (r1, r2, r3) := H
      have A46 := Aside0.mk A460
      clear A460
      replace H := Option.bind_eq_some_iff.mp H
      obtain ⟨t566, A470, H⟩ := H
      replace H : (some (a1, Go.bits .and .u64 x7_30 t565, Go.bits .and .u64 x8_30 t566)) = some (r1, r2, r3) := H
      have A47 := Aside0.mk A470
      clear A470
      simp only [Option.some.injEq, Prod.mk.injEq] at H
      obtain ⟨rfl, rfl, rfl⟩ := H
      obtain ⟨hzc559_0, hzc559_1, hzc559_2⟩ := sq_cells3 (W := wc) (g := gb559) BK559.out; obtain ⟨hzf559_0, hzf559_1, hzf559_2⟩ := sq_frozen3 BK559.out
      obtain ⟨hzc560_0, hzc560_1, hzc560_2⟩ := sq_cells3 (W := wc) (g := gb560) BK560.out; obtain ⟨hzf560_0, hzf560_1, hzf560_2⟩ := sq_frozen3 BK560.out
      obtain rfl : t565 = t566 := Option.some.inj (A46.out.symm.trans A47.out)
      go_wp2_with ((go_at_call 58; (with_reducible refine (bits_mask.calls a1 t565 _ A46.out).mono ?_); rintro e w' ⟨rfl, ⟨nd, rfl⟩⟩))
      refine bodyPost_ret (results_cell_row rfl _ _ gb560 24 #[.int .i64 a1, .int .u64 (Go.bits .and .u64 x7_30 t565), .int .u64 (Go.bits .and .u64 x8_30 t565)] (0, 0) _ rfl (by refine blk_put (cs := #[.int .i64 a1, .int .u64 (Go.bits .and .u64 x7_30 t565), .int .u64 0]) ?_ 2 _ rfl; refine blk_put (cs := #[.int .i64 a1, .int .u64 0, .int .u64 0]) ?_ 1 _ rfl; refine blk_put (cs := #[.int .i64 0, .int .u64 0, .int .u64 0]) ?_ 0 _ rfl; (with_reducible repeat (refine blk_drewN ?_ _)); exact BK560.out) Tryd.underlying24 rfl (by kernel_rfl)) rfl ?_
      exact ⟨by rfl, by repeat (with_reducible first | exact HB.out | apply pw_below_drewN | refine below_set ?_ GE560.out)⟩
end Go.Proofs.YtfigblfjogpojaaDoor.PBits
end
