/- Part 18 of the proof of SyntaxTreesUptoSaid: The law SyntaxTrees, where the trees that it reads are of bulk at most 1048576: it returns true; the trees read behind the call as it read before. Out of the plain theorem of YtlamgdibnnmbmaaTr5. -/
import Derived.Test.YtlamgdibnnmbmaaQSyntaxTreesUpto13
import Derived.Test.YtlamgdibnnmbmaaQSyntaxTreesUpto16
section
namespace Go.Proofs.Ytlamgdibnnmbmaa.PSyn
open Go.RowKit Go.Proofs.YtlamgdibnnmbmaaW.PrintWords Go.Proofs.YtlamgdibnnmbmaaW.PrintLast Go.Proofs.YtlamgdibnnmbmaaW.PrintMore
attribute [local go_sem] max2_int min2_int max_two min_two max_three min_three max_four min_four
set_option linter.unusedVariables false
set_option linter.unusedSimpArgs false
mutual
def syntax_Measure.l0 : Nat → Int → Int → List (S27) → Int → Int → Option (Int × Int)
 | 0, _, _, _, _, _ => none
 | k + 1, x4, x5, x11, x12, x13 => if x13 < x12 then (if 0 ≤ x13 then (if x13 < (x11.length : Int) then ((syntax_Measure.f k ((rd_T27 x11 x13).f0) ((rd_T27 x11 x13).f1) ((rd_T27 x11 x13).f2) ((rd_T27 x11 x13).f3) ((rd_T27 x11 x13).f4) ((rd_T27 x11 x13).f5.f0) ((rd_T27 x11 x13).f5.f1) ((rd_T27 x11 x13).f5.f2) ((rd_T27 x11 x13).f6) ((rd_T27 x11 x13).f7)).bind fun bt104 => (syntax_Measure.l0 k (wrap64 (x4 + bt104.1)) (mx x5 (wrap64 (bt104.2 + 1))) x11 x12 (wrap64 (x13 + 1)))) else (none)) else (none)) else (some (x4, x5))
def syntax_Measure.f : Nat → Int → Int → Int → ByteArray → ByteArray → Int → Int → Int → Bool → List (S27) → Option (Int × Int)
 | 0, _, _, _, _, _, _, _, _, _, _ => none
 | k + 1, a0_0, a0_1, a0_2, a0_3, a0_4, a0_5, a0_6, a0_7, a0_8, l0_9 => syntax_Measure.l0 k 1 1 l0_9 (l0_9.length : Int) 0
end
theorem syntax_Measure.mono_l : ∀ k, (∀ y0 y1 y2 y3 y4 y5 y6 y7 y8 y9, LeO (syntax_Measure.f k y0 y1 y2 y3 y4 y5 y6 y7 y8 y9) (syntax_Measure.f (k + 1) y0 y1 y2 y3 y4 y5 y6 y7 y8 y9)) ∧ (∀ y0 y1 y2 y3 y4, LeO (syntax_Measure.l0 k y0 y1 y2 y3 y4) (syntax_Measure.l0 (k + 1) y0 y1 y2 y3 y4))
 | 0 => ⟨fun _ _ _ _ _ _ _ _ _ _ r h => by simp [syntax_Measure.f] at h, fun _ _ _ _ _ r h => by simp [syntax_Measure.l0] at h⟩
 | k + 1 => by
  obtain ⟨ih0, ih1⟩ := syntax_Measure.mono_l k
  refine ⟨?_, ?_⟩
  ·intro y0 y1 y2 y3 y4 y5 y6 y7 y8 y9
   unfold syntax_Measure.f
   repeat' first | with_reducible exact ih0 _ _ _ _ _ _ _ _ _ _ | with_reducible exact ih1 _ _ _ _ _ | with_reducible exact LeO.refl _ | with_reducible exact LeO.none _ | with_reducible refine LeO.ite ?_ ?_ | with_reducible refine LeO.bind ?_ (fun _ => ?_)
  ·intro y0 y1 y2 y3 y4
   unfold syntax_Measure.l0
   repeat' first | with_reducible exact ih0 _ _ _ _ _ _ _ _ _ _ | with_reducible exact ih1 _ _ _ _ _ | with_reducible exact LeO.refl _ | with_reducible exact LeO.none _ | with_reducible refine LeO.ite ?_ ?_ | with_reducible refine LeO.bind ?_ (fun _ => ?_)
theorem syntax_Measure.mono : ∀ a0 a1 a2 a3 a4 a5 a6 a7 a8 a9 k, LeO (syntax_Measure.f k a0 a1 a2 a3 a4 a5 a6 a7 a8 a9) (syntax_Measure.f (k + 1) a0 a1 a2 a3 a4 a5 a6 a7 a8 a9) := by
 intro a0 a1 a2 a3 a4 a5 a6 a7 a8 a9 k
 obtain ⟨ih0, ih1⟩ := syntax_Measure.mono_l k
 exact ih0 a0 a1 a2 a3 a4 a5 a6 a7 a8 a9
set_option maxHeartbeats 8000000 in
set_option maxRecDepth 100000 in
theorem syntax_Measure.calls (k : Nat) : ∀ (a0_0 : Int) (a0_1 : Int) (a0_2 : Int) (a0_3 : ByteArray) (a0_4 : ByteArray) (a0_5 : Int) (a0_6 : Int) (a0_7 : Int) (a0_8 : Bool) (A0_9 : Option Addr) (c0_9 : Nat) (l0_9 : List (S27)) (r1 : Int) (r2 : Int) (w : World) (hr0_9 : Kd.C k27 w A0_9 l0_9.length l0_9) (hc0_9 : l0_9.length ≤ c0_9) (h : syntax_Measure.f k a0_0 a0_1 a0_2 a0_3 a0_4 a0_5 a0_6 a0_7 a0_8 l0_9 = some (r1, r2)),
  Calls Try.prog 12 #[.agg #[.int .i64 a0_0, .int .i64 a0_1, .int .i64 a0_2, .string a0_3, .string a0_4, .int .i64 a0_5, .int .u64 a0_6, .int .u64 a0_7, .bool a0_8, .slice A0_9 l0_9.length c0_9]] w fun e w' => e = .returned (.tuple #[.int .i64 r1, .int .i64 r2]) ∧ Below w.heap.size w w' := by
 induction k using Nat.strongRecOn with
 | _ k ih =>
 intro a0_0 a0_1 a0_2 a0_3 a0_4 a0_5 a0_6 a0_7 a0_8 A0_9 c0_9 l0_9 r1 r2 w hr0_9 hc0_9 h
 cases k with
 | zero => exact absurd h (by simp [syntax_Measure.f])
 | succ k =>
 simp only [syntax_Measure.f] at h
 have hu27 := Try.underlying27
 have HR0_9 := Aside0.mk hr0_9
 have HC0_9 := Aside0.mk hc0_9
 clear hr0_9 hc0_9
 have HB := Aside0.mk (Below.refl w.heap.size w)
 have H := h
 clear h
 unfold syntax_Measure.f at H
 have H' := Aside0.mk H
 clear H
 go_enter Try.func12, Try.ntmps12
 go_wp2_with ((refine boxA HB 1 #[.int .i64 a0_0, .int .i64 a0_1, .int .i64 a0_2, .string a0_3, .string a0_4, .int .i64 a0_5, .int .u64 a0_6, .int .u64 a0_7, .bool a0_8, .slice A0_9 l0_9.length c0_9] 27 ?_; clear HB; intro gb101 w2 BK101 GE101 hg hb HB; clear hb hg; have hcz3_0 : w2.cell? ⟨gb101, 0, none⟩ = some (.int .i64 a0_0) := (blk_cell BK101.out 0).trans rfl; have hcz3_1 : w2.cell? ⟨gb101, 1, none⟩ = some (.int .i64 a0_1) := (blk_cell BK101.out 1).trans rfl; have hcz3_2 : w2.cell? ⟨gb101, 2, none⟩ = some (.int .i64 a0_2) := (blk_cell BK101.out 2).trans rfl; have hcz3_3 : w2.cell? ⟨gb101, 3, none⟩ = some (.string a0_3) := (blk_cell BK101.out 3).trans rfl; have hcz3_4 : w2.cell? ⟨gb101, 4, none⟩ = some (.string a0_4) := (blk_cell BK101.out 4).trans rfl; have hcz3_5 : w2.cell? ⟨gb101, 5, none⟩ = some (.int .i64 a0_5) := (blk_cell BK101.out 5).trans rfl; have hcz3_6 : w2.cell? ⟨gb101, 6, none⟩ = some (.int .u64 a0_6) := (blk_cell BK101.out 6).trans rfl; have hcz3_7 : w2.cell? ⟨gb101, 7, none⟩ = some (.int .u64 a0_7) := (blk_cell BK101.out 7).trans rfl; have hcz3_8 : w2.cell? ⟨gb101, 8, none⟩ = some (.bool a0_8) := (blk_cell BK101.out 8).trans rfl; have hcz3_9 : w2.cell? ⟨gb101, 9, none⟩ = some (.slice A0_9 l0_9.length c0_9) := (blk_cell BK101.out 9).trans rfl; have hfz3_0 := blk_frozen BK101.out 0; have hfz3_1 := blk_frozen BK101.out 1; have hfz3_2 := blk_frozen BK101.out 2; have hfz3_3 := blk_frozen BK101.out 3; have hfz3_4 := blk_frozen BK101.out 4; have hfz3_5 := blk_frozen BK101.out 5; have hfz3_6 := blk_frozen BK101.out 6; have hfz3_7 := blk_frozen BK101.out 7; have hfz3_8 := blk_frozen BK101.out 8; have hfz3_9 := blk_frozen BK101.out 9))
 go_loopg [4, 5, 13] k (fun kq v4 v5 v13 w' => ∃ (x4_1 : Int) (x5_1 : Int) (x13_1 : Int), v4 = .int .i64 x4_1 ∧ v5 = .int .i64 x5_1 ∧ v13 = .int .i64 x13_1 ∧ Aside0 (syntax_Measure.l0 kq x4_1 x5_1 l0_9 (l0_9.length : Int) x13_1 = some (r1, r2)) ∧ Aside0 (kq ≤ k) ∧ Aside0 (w'.heap[gb101]? = some (.cells #[.int .i64 a0_0, .int .i64 a0_1, .int .i64 a0_2, .string a0_3, .string a0_4, .int .i64 a0_5, .int .u64 a0_6, .int .u64 a0_7, .bool a0_8, (.slice A0_9 l0_9.length c0_9)] 27 (0, 0))) ∧ Aside0 (Below w.heap.size w w'))
 case atStart => exact ⟨(1), (1), (0), (by rfl), (by rfl), (by rfl), H', ⟨Nat.le_refl _⟩, ⟨by exact BK101.out⟩, ⟨by repeat (with_reducible exact HB.out)⟩⟩
 case round =>
  clear H'
  (try clear hcz3_0 hcz3_1 hcz3_2 hcz3_3 hcz3_4 hcz3_5 hcz3_6 hcz3_7 hcz3_8 hcz3_9 hfz3_0 hfz3_1 hfz3_2 hfz3_3 hfz3_4 hfz3_5 hfz3_6 hfz3_7 hfz3_8 hfz3_9)
  obtain ⟨x4_1, x5_1, x13_1, rfl, rfl, rfl, HA, HK1, BK101, HB⟩ := hrel
  cases gk with
  | zero => exact absurd HA.out (by simp [syntax_Measure.l0])
  | succ k1 =>
   have H := HA.out
   clear HA
   simp only [syntax_Measure.l0] at H
   replace H := iD H; rcases H with ⟨c4b0, H⟩ | ⟨c4b0, H⟩
   ·replace H := iN H; obtain ⟨c5b0, H⟩ := H
    replace H := iN H; obtain ⟨c6b0, H⟩ := H
    replace H := bN H; obtain ⟨⟨t104, t105⟩, A7, H⟩ := H; dsimp only at H
    obtain ⟨ji8, hji8⟩ : ∃ j_ : Int, (mx x5_1 (wrap64 (t105 + 1))) = j_ := ⟨_, rfl⟩
    replace H : (syntax_Measure.l0 k1 (wrap64 (x4_1 + t104)) ji8 l0_9 (l0_9.length : Int) (wrap64 (x13_1 + 1))) = some (r1, r2) := by (rw [hji8] at H; exact H)
    have hji8_ : (if x5_1 < (wrap64 (t105 + 1)) then (wrap64 (t105 + 1)) else x5_1) = ji8 := hji8
    have H' := Aside0.mk H
    clear H
    have p102 : 0 ≤ (x13_1 : Int) := of_decide_eq_true (by (with_reducible assumption))
    have q102 : x13_1 < (l0_9.length : Int) := of_decide_eq_true (by (with_reducible assumption))
    obtain ⟨ad102, A102_9, c102_9, e102, hx102_0, hx102_1, hx102_2, hx102_3, hx102_4, hx102_5, hx102_6, hx102_7, hx102_8, hx102_9, hl102_9, hi102_9⟩ := at_T27 HR0_9.out x13_1 p102 q102
    cases e102
    replace hx102_0 := (HB.out.cell (World.block_lt_of_cell? w _ hx102_0)).trans hx102_0
    replace hx102_1 := (HB.out.cell (World.block_lt_of_cell? w _ hx102_1)).trans hx102_1
    replace hx102_2 := (HB.out.cell (World.block_lt_of_cell? w _ hx102_2)).trans hx102_2
    replace hx102_3 := (HB.out.cell (World.block_lt_of_cell? w _ hx102_3)).trans hx102_3
    replace hx102_4 := (HB.out.cell (World.block_lt_of_cell? w _ hx102_4)).trans hx102_4
    replace hx102_5 := (HB.out.cell (World.block_lt_of_cell? w _ hx102_5)).trans hx102_5
    replace hx102_6 := (HB.out.cell (World.block_lt_of_cell? w _ hx102_6)).trans hx102_6
    replace hx102_7 := (HB.out.cell (World.block_lt_of_cell? w _ hx102_7)).trans hx102_7
    replace hx102_8 := (HB.out.cell (World.block_lt_of_cell? w _ hx102_8)).trans hx102_8
    replace hx102_9 := (HB.out.cell (World.block_lt_of_cell? w _ hx102_9)).trans hx102_9
    have HR102_9 := Aside0.mk hi102_9
    have HC102_9 := Aside0.mk hl102_9
    clear hi102_9 hl102_9
    replace p102 := eq_true p102
    replace q102 := eq_true q102
    go_wp2_with (first | (refine boxA HB 7 #[.int .i64 0, .int .i64 0, .int .i64 0, .string (⟨#[]⟩ : ByteArray), .string (⟨#[]⟩ : ByteArray), .int .i64 0, .int .u64 0, .int .u64 0, .bool false, .slice none 0 0] 27 ?_; clear HB; intro gb103 w9 BK103 GE103 hg hb HB; have NB101_103 := nbA BK101 hg; have NB103_101 := nbB BK101 hg; replace BK101 := bk1 BK101 hb; clear hb hg; have hnb10 := NB103_101.out; have hnc10 := NB101_103.out; have hcz11_0 : w9.cell? ⟨gb103, 0, none⟩ = some (.int .i64 0) := (blk_cell BK103.out 0).trans rfl; have hcz11_1 : w9.cell? ⟨gb103, 1, none⟩ = some (.int .i64 0) := (blk_cell BK103.out 1).trans rfl; have hcz11_2 : w9.cell? ⟨gb103, 2, none⟩ = some (.int .i64 0) := (blk_cell BK103.out 2).trans rfl; have hcz11_3 : w9.cell? ⟨gb103, 3, none⟩ = some (.string (⟨#[]⟩ : ByteArray)) := (blk_cell BK103.out 3).trans rfl; have hcz11_4 : w9.cell? ⟨gb103, 4, none⟩ = some (.string (⟨#[]⟩ : ByteArray)) := (blk_cell BK103.out 4).trans rfl; have hcz11_5 : w9.cell? ⟨gb103, 5, none⟩ = some (.int .i64 0) := (blk_cell BK103.out 5).trans rfl; have hcz11_6 : w9.cell? ⟨gb103, 6, none⟩ = some (.int .u64 0) := (blk_cell BK103.out 6).trans rfl; have hcz11_7 : w9.cell? ⟨gb103, 7, none⟩ = some (.int .u64 0) := (blk_cell BK103.out 7).trans rfl; have hcz11_8 : w9.cell? ⟨gb103, 8, none⟩ = some (.bool false) := (blk_cell BK103.out 8).trans rfl; have hcz11_9 : w9.cell? ⟨gb103, 9, none⟩ = some (.slice none 0 0) := (blk_cell BK103.out 9).trans rfl; have hfz11_0 := blk_frozen BK103.out 0; have hfz11_1 := blk_frozen BK103.out 1; have hfz11_2 := blk_frozen BK103.out 2; have hfz11_3 := blk_frozen BK103.out 3; have hfz11_4 := blk_frozen BK103.out 4; have hfz11_5 := blk_frozen BK103.out 5; have hfz11_6 := blk_frozen BK103.out 6; have hfz11_7 := blk_frozen BK103.out 7; have hfz11_8 := blk_frozen BK103.out 8; have hfz11_9 := blk_frozen BK103.out 9) | (refine callA (some 19) Try.func12 #[.agg #[.int .i64 ((rd_T27 l0_9 x13_1).f0), .int .i64 ((rd_T27 l0_9 x13_1).f1), .int .i64 ((rd_T27 l0_9 x13_1).f2), .string ((rd_T27 l0_9 x13_1).f3), .string ((rd_T27 l0_9 x13_1).f4), .int .i64 ((rd_T27 l0_9 x13_1).f5.f0), .int .u64 ((rd_T27 l0_9 x13_1).f5.f1), .int .u64 ((rd_T27 l0_9 x13_1).f5.f2), .bool ((rd_T27 l0_9 x13_1).f6), .slice A102_9 ((rd_T27 l0_9 x13_1).f7).length c102_9]] ?_; (with_reducible refine (ih k1 (by have := HK1.out; omega) ((rd_T27 l0_9 x13_1).f0) ((rd_T27 l0_9 x13_1).f1) ((rd_T27 l0_9 x13_1).f2) ((rd_T27 l0_9 x13_1).f3) ((rd_T27 l0_9 x13_1).f4) ((rd_T27 l0_9 x13_1).f5.f0) ((rd_T27 l0_9 x13_1).f5.f1) ((rd_T27 l0_9 x13_1).f5.f2) ((rd_T27 l0_9 x13_1).f6) _ _ ((rd_T27 l0_9 x13_1).f7) t104 t105 _ ?side1 ?side2 A7.out).mono ?_); (case side1 => exact Kd.C_below HR102_9.out (by repeat (with_reducible first | exact HB.out | refine below_set ?_ GE103.out))); (case side2 => exact HC102_9.out); rintro e w12 ⟨rfl, hb⟩; refine ⟨_, rfl, ?_⟩; replace BK101 := Aside0.mk (blk_below (g := gb101) (o := .cells #[.int .i64 a0_0, .int .i64 a0_1, .int .i64 a0_2, .string a0_3, .string a0_4, .int .i64 a0_5, .int .u64 a0_6, .int .u64 a0_7, .bool a0_8, .slice (some ad102) l0_9.length c0_9] 27 (0, 0)) (by refine blk_far ?_ NB101_103.out _; refine blk_far ?_ NB101_103.out _; refine blk_far ?_ NB101_103.out _; refine blk_far ?_ NB101_103.out _; refine blk_far ?_ NB101_103.out _; refine blk_far ?_ NB101_103.out _; refine blk_far ?_ NB101_103.out _; refine blk_far ?_ NB101_103.out _; refine blk_far ?_ NB101_103.out _; refine blk_far ?_ NB101_103.out _; exact BK101.out) hb); replace BK103 := Aside0.mk (blk_below (g := gb103) (o := .cells #[.int .i64 ((rd_T27 l0_9 x13_1).f0), .int .i64 ((rd_T27 l0_9 x13_1).f1), .int .i64 ((rd_T27 l0_9 x13_1).f2), .string ((rd_T27 l0_9 x13_1).f3), .string ((rd_T27 l0_9 x13_1).f4), .int .i64 ((rd_T27 l0_9 x13_1).f5.f0), .int .u64 ((rd_T27 l0_9 x13_1).f5.f1), .int .u64 ((rd_T27 l0_9 x13_1).f5.f2), .bool ((rd_T27 l0_9 x13_1).f6), .slice A102_9 ((rd_T27 l0_9 x13_1).f7).length c102_9] 27 (0, 0)) (by refine blk_put (cs := #[.int .i64 ((rd_T27 l0_9 x13_1).f0), .int .i64 ((rd_T27 l0_9 x13_1).f1), .int .i64 ((rd_T27 l0_9 x13_1).f2), .string ((rd_T27 l0_9 x13_1).f3), .string ((rd_T27 l0_9 x13_1).f4), .int .i64 ((rd_T27 l0_9 x13_1).f5.f0), .int .u64 ((rd_T27 l0_9 x13_1).f5.f1), .int .u64 ((rd_T27 l0_9 x13_1).f5.f2), .bool ((rd_T27 l0_9 x13_1).f6), .slice none 0 0]) ?_ 9 _ rfl; refine blk_put (cs := #[.int .i64 ((rd_T27 l0_9 x13_1).f0), .int .i64 ((rd_T27 l0_9 x13_1).f1), .int .i64 ((rd_T27 l0_9 x13_1).f2), .string ((rd_T27 l0_9 x13_1).f3), .string ((rd_T27 l0_9 x13_1).f4), .int .i64 ((rd_T27 l0_9 x13_1).f5.f0), .int .u64 ((rd_T27 l0_9 x13_1).f5.f1), .int .u64 ((rd_T27 l0_9 x13_1).f5.f2), .bool false, .slice none 0 0]) ?_ 8 _ rfl; refine blk_put (cs := #[.int .i64 ((rd_T27 l0_9 x13_1).f0), .int .i64 ((rd_T27 l0_9 x13_1).f1), .int .i64 ((rd_T27 l0_9 x13_1).f2), .string ((rd_T27 l0_9 x13_1).f3), .string ((rd_T27 l0_9 x13_1).f4), .int .i64 ((rd_T27 l0_9 x13_1).f5.f0), .int .u64 ((rd_T27 l0_9 x13_1).f5.f1), .int .u64 0, .bool false, .slice none 0 0]) ?_ 7 _ rfl; refine blk_put (cs := #[.int .i64 ((rd_T27 l0_9 x13_1).f0), .int .i64 ((rd_T27 l0_9 x13_1).f1), .int .i64 ((rd_T27 l0_9 x13_1).f2), .string ((rd_T27 l0_9 x13_1).f3), .string ((rd_T27 l0_9 x13_1).f4), .int .i64 ((rd_T27 l0_9 x13_1).f5.f0), .int .u64 0, .int .u64 0, .bool false, .slice none 0 0]) ?_ 6 _ rfl; refine blk_put (cs := #[.int .i64 ((rd_T27 l0_9 x13_1).f0), .int .i64 ((rd_T27 l0_9 x13_1).f1), .int .i64 ((rd_T27 l0_9 x13_1).f2), .string ((rd_T27 l0_9 x13_1).f3), .string ((rd_T27 l0_9 x13_1).f4), .int .i64 0, .int .u64 0, .int .u64 0, .bool false, .slice none 0 0]) ?_ 5 _ rfl; refine blk_put (cs := #[.int .i64 ((rd_T27 l0_9 x13_1).f0), .int .i64 ((rd_T27 l0_9 x13_1).f1), .int .i64 ((rd_T27 l0_9 x13_1).f2), .string ((rd_T27 l0_9 x13_1).f3), .string (⟨#[]⟩ : ByteArray), .int .i64 0, .int .u64 0, .int .u64 0, .bool false, .slice none 0 0]) ?_ 4 _ rfl; refine blk_put (cs := #[.int .i64 ((rd_T27 l0_9 x13_1).f0), .int .i64 ((rd_T27 l0_9 x13_1).f1), .int .i64 ((rd_T27 l0_9 x13_1).f2), .string (⟨#[]⟩ : ByteArray), .string (⟨#[]⟩ : ByteArray), .int .i64 0, .int .u64 0, .int .u64 0, .bool false, .slice none 0 0]) ?_ 3 _ rfl; refine blk_put (cs := #[.int .i64 ((rd_T27 l0_9 x13_1).f0), .int .i64 ((rd_T27 l0_9 x13_1).f1), .int .i64 0, .string (⟨#[]⟩ : ByteArray), .string (⟨#[]⟩ : ByteArray), .int .i64 0, .int .u64 0, .int .u64 0, .bool false, .slice none 0 0]) ?_ 2 _ rfl; refine blk_put (cs := #[.int .i64 ((rd_T27 l0_9 x13_1).f0), .int .i64 0, .int .i64 0, .string (⟨#[]⟩ : ByteArray), .string (⟨#[]⟩ : ByteArray), .int .i64 0, .int .u64 0, .int .u64 0, .bool false, .slice none 0 0]) ?_ 1 _ rfl; refine blk_put (cs := #[.int .i64 0, .int .i64 0, .int .i64 0, .string (⟨#[]⟩ : ByteArray), .string (⟨#[]⟩ : ByteArray), .int .i64 0, .int .u64 0, .int .u64 0, .bool false, .slice none 0 0]) ?_ 0 _ rfl; exact BK103.out) hb); replace HB := hb1 HB hb; (try clear hb)))
    go_roundg k1
    case measure => have := HK1.out; omega
    case rel => exact ⟨(wrap64 (x4_1 + t104)), (ji8), (wrap64 (x13_1 + 1)), (by rfl), (by rfl), (by rfl), H', ⟨by have := HK1.out; omega⟩, ⟨by exact BK101.out⟩, ⟨by repeat (with_reducible exact HB.out)⟩⟩
   ·replace H := s2 H; obtain ⟨rfl, rfl⟩ := H
    go_wp2
    go_ret2
    exact ⟨by rfl, by repeat (with_reducible exact HB.out)⟩
end Go.Proofs.Ytlamgdibnnmbmaa.PSyn
end
section
namespace Go.Proofs.Ytlamgdibnnmbmaa.PSyn
open Go.RowKit Go.Proofs.YtlamgdibnnmbmaaW.PrintWords Go.Proofs.YtlamgdibnnmbmaaW.PrintLast Go.Proofs.YtlamgdibnnmbmaaW.PrintMore
attribute [local go_sem] max2_int min2_int max_two min_two max_three min_three max_four min_four
set_option linter.unusedVariables false
set_option linter.unusedSimpArgs false
mutual
def maskref1_Weigh.l0 : Nat → Int → Int → List (S27) → Int → Int → Option (Int × Int)
 | 0, _, _, _, _, _ => none
 | k + 1, x4, x5, x11, x12, x13 => if x13 < x12 then (if 0 ≤ x13 then (if x13 < (x11.length : Int) then ((maskref1_Weigh.f k ((rd_T27 x11 x13).f0) ((rd_T27 x11 x13).f1) ((rd_T27 x11 x13).f2) ((rd_T27 x11 x13).f3) ((rd_T27 x11 x13).f4) ((rd_T27 x11 x13).f5.f0) ((rd_T27 x11 x13).f5.f1) ((rd_T27 x11 x13).f5.f2) ((rd_T27 x11 x13).f6) ((rd_T27 x11 x13).f7)).bind fun bt176 => (maskref1_Weigh.l0 k (wrap64 (x4 + bt176.1)) (mx x5 bt176.2) x11 x12 (wrap64 (x13 + 1)))) else (none)) else (none)) else (some (x4, wrap64 (x5 + 1)))
def maskref1_Weigh.f : Nat → Int → Int → Int → ByteArray → ByteArray → Int → Int → Int → Bool → List (S27) → Option (Int × Int)
 | 0, _, _, _, _, _, _, _, _, _, _ => none
 | k + 1, a0_0, a0_1, a0_2, a0_3, a0_4, a0_5, a0_6, a0_7, a0_8, l0_9 => maskref1_Weigh.l0 k 1 0 l0_9 (l0_9.length : Int) 0
end
set_option maxHeartbeats 8000000 in
set_option maxRecDepth 100000 in
theorem maskref1_Weigh.calls (k : Nat) : ∀ (a0_0 : Int) (a0_1 : Int) (a0_2 : Int) (a0_3 : ByteArray) (a0_4 : ByteArray) (a0_5 : Int) (a0_6 : Int) (a0_7 : Int) (a0_8 : Bool) (A0_9 : Option Addr) (c0_9 : Nat) (l0_9 : List (S27)) (r1 : Int) (r2 : Int) (w : World) (hr0_9 : Kd.C k27 w A0_9 l0_9.length l0_9) (hc0_9 : l0_9.length ≤ c0_9) (h : maskref1_Weigh.f k a0_0 a0_1 a0_2 a0_3 a0_4 a0_5 a0_6 a0_7 a0_8 l0_9 = some (r1, r2)),
  Calls Try.prog 11 #[.agg #[.int .i64 a0_0, .int .i64 a0_1, .int .i64 a0_2, .string a0_3, .string a0_4, .int .i64 a0_5, .int .u64 a0_6, .int .u64 a0_7, .bool a0_8, .slice A0_9 l0_9.length c0_9]] w fun e w' => e = .returned (.tuple #[.int .i64 r1, .int .i64 r2]) ∧ Below w.heap.size w w' := by
 induction k using Nat.strongRecOn with
 | _ k ih =>
 intro a0_0 a0_1 a0_2 a0_3 a0_4 a0_5 a0_6 a0_7 a0_8 A0_9 c0_9 l0_9 r1 r2 w hr0_9 hc0_9 h
 cases k with
 | zero => exact absurd h (by simp [maskref1_Weigh.f])
 | succ k =>
 simp only [maskref1_Weigh.f] at h
 have hu27 := Try.underlying27
 have HR0_9 := Aside0.mk hr0_9
 have HC0_9 := Aside0.mk hc0_9
 clear hr0_9 hc0_9
 have HB := Aside0.mk (Below.refl w.heap.size w)
 have H := h
 clear h
 unfold maskref1_Weigh.f at H
 have H' := Aside0.mk H
 clear H
 go_enter Try.func11, Try.ntmps11
 go_wp2_with ((refine boxA HB 1 #[.int .i64 a0_0, .int .i64 a0_1, .int .i64 a0_2, .string a0_3, .string a0_4, .int .i64 a0_5, .int .u64 a0_6, .int .u64 a0_7, .bool a0_8, .slice A0_9 l0_9.length c0_9] 27 ?_; clear HB; intro gb173 w2 BK173 GE173 hg hb HB; clear hb hg; have hcz3_0 : w2.cell? ⟨gb173, 0, none⟩ = some (.int .i64 a0_0) := (blk_cell BK173.out 0).trans rfl; have hcz3_1 : w2.cell? ⟨gb173, 1, none⟩ = some (.int .i64 a0_1) := (blk_cell BK173.out 1).trans rfl; have hcz3_2 : w2.cell? ⟨gb173, 2, none⟩ = some (.int .i64 a0_2) := (blk_cell BK173.out 2).trans rfl; have hcz3_3 : w2.cell? ⟨gb173, 3, none⟩ = some (.string a0_3) := (blk_cell BK173.out 3).trans rfl; have hcz3_4 : w2.cell? ⟨gb173, 4, none⟩ = some (.string a0_4) := (blk_cell BK173.out 4).trans rfl; have hcz3_5 : w2.cell? ⟨gb173, 5, none⟩ = some (.int .i64 a0_5) := (blk_cell BK173.out 5).trans rfl; have hcz3_6 : w2.cell? ⟨gb173, 6, none⟩ = some (.int .u64 a0_6) := (blk_cell BK173.out 6).trans rfl; have hcz3_7 : w2.cell? ⟨gb173, 7, none⟩ = some (.int .u64 a0_7) := (blk_cell BK173.out 7).trans rfl; have hcz3_8 : w2.cell? ⟨gb173, 8, none⟩ = some (.bool a0_8) := (blk_cell BK173.out 8).trans rfl; have hcz3_9 : w2.cell? ⟨gb173, 9, none⟩ = some (.slice A0_9 l0_9.length c0_9) := (blk_cell BK173.out 9).trans rfl; have hfz3_0 := blk_frozen BK173.out 0; have hfz3_1 := blk_frozen BK173.out 1; have hfz3_2 := blk_frozen BK173.out 2; have hfz3_3 := blk_frozen BK173.out 3; have hfz3_4 := blk_frozen BK173.out 4; have hfz3_5 := blk_frozen BK173.out 5; have hfz3_6 := blk_frozen BK173.out 6; have hfz3_7 := blk_frozen BK173.out 7; have hfz3_8 := blk_frozen BK173.out 8; have hfz3_9 := blk_frozen BK173.out 9))
 go_loopg [4, 5, 13] k (fun kq v4 v5 v13 w' => ∃ (x4_1 : Int) (x5_1 : Int) (x13_1 : Int), v4 = .int .i64 x4_1 ∧ v5 = .int .i64 x5_1 ∧ v13 = .int .i64 x13_1 ∧ Aside0 (maskref1_Weigh.l0 kq x4_1 x5_1 l0_9 (l0_9.length : Int) x13_1 = some (r1, r2)) ∧ Aside0 (kq ≤ k) ∧ Aside0 (w'.heap[gb173]? = some (.cells #[.int .i64 a0_0, .int .i64 a0_1, .int .i64 a0_2, .string a0_3, .string a0_4, .int .i64 a0_5, .int .u64 a0_6, .int .u64 a0_7, .bool a0_8, (.slice A0_9 l0_9.length c0_9)] 27 (0, 0))) ∧ Aside0 (Below w.heap.size w w'))
 case atStart => exact ⟨(1), (0), (0), (by rfl), (by rfl), (by rfl), H', ⟨Nat.le_refl _⟩, ⟨by exact BK173.out⟩, ⟨by repeat (with_reducible exact HB.out)⟩⟩
 case round =>
  clear H'
  (try clear hcz3_0 hcz3_1 hcz3_2 hcz3_3 hcz3_4 hcz3_5 hcz3_6 hcz3_7 hcz3_8 hcz3_9 hfz3_0 hfz3_1 hfz3_2 hfz3_3 hfz3_4 hfz3_5 hfz3_6 hfz3_7 hfz3_8 hfz3_9)
  obtain ⟨x4_1, x5_1, x13_1, rfl, rfl, rfl, HA, HK1, BK173, HB⟩ := hrel
  cases gk with
  | zero => exact absurd HA.out (by simp [maskref1_Weigh.l0])
  | succ k1 =>
   have H := HA.out
   clear HA
   simp only [maskref1_Weigh.l0] at H
   replace H := iD H; rcases H with ⟨c4b0, H⟩ | ⟨c4b0, H⟩
   ·replace H := iN H; obtain ⟨c5b0, H⟩ := H
    replace H := iN H; obtain ⟨c6b0, H⟩ := H
    replace H := bN H; obtain ⟨⟨t176, t177⟩, A7, H⟩ := H; dsimp only at H
    obtain ⟨ji8, hji8⟩ : ∃ j_ : Int, (mx x5_1 t177) = j_ := ⟨_, rfl⟩
    replace H : (maskref1_Weigh.l0 k1 (wrap64 (x4_1 + t176)) ji8 l0_9 (l0_9.length : Int) (wrap64 (x13_1 + 1))) = some (r1, r2) := by (rw [hji8] at H; exact H)
    have hji8_ : (if x5_1 < t177 then t177 else x5_1) = ji8 := hji8
    have H' := Aside0.mk H
    clear H
    have p174 : 0 ≤ (x13_1 : Int) := of_decide_eq_true (by (with_reducible assumption))
    have q174 : x13_1 < (l0_9.length : Int) := of_decide_eq_true (by (with_reducible assumption))
    obtain ⟨ad174, A174_9, c174_9, e174, hx174_0, hx174_1, hx174_2, hx174_3, hx174_4, hx174_5, hx174_6, hx174_7, hx174_8, hx174_9, hl174_9, hi174_9⟩ := at_T27 HR0_9.out x13_1 p174 q174
    cases e174
    replace hx174_0 := (HB.out.cell (World.block_lt_of_cell? w _ hx174_0)).trans hx174_0
    replace hx174_1 := (HB.out.cell (World.block_lt_of_cell? w _ hx174_1)).trans hx174_1
    replace hx174_2 := (HB.out.cell (World.block_lt_of_cell? w _ hx174_2)).trans hx174_2
    replace hx174_3 := (HB.out.cell (World.block_lt_of_cell? w _ hx174_3)).trans hx174_3
    replace hx174_4 := (HB.out.cell (World.block_lt_of_cell? w _ hx174_4)).trans hx174_4
    replace hx174_5 := (HB.out.cell (World.block_lt_of_cell? w _ hx174_5)).trans hx174_5
    replace hx174_6 := (HB.out.cell (World.block_lt_of_cell? w _ hx174_6)).trans hx174_6
    replace hx174_7 := (HB.out.cell (World.block_lt_of_cell? w _ hx174_7)).trans hx174_7
    replace hx174_8 := (HB.out.cell (World.block_lt_of_cell? w _ hx174_8)).trans hx174_8
    replace hx174_9 := (HB.out.cell (World.block_lt_of_cell? w _ hx174_9)).trans hx174_9
    have HR174_9 := Aside0.mk hi174_9
    have HC174_9 := Aside0.mk hl174_9
    clear hi174_9 hl174_9
    replace p174 := eq_true p174
    replace q174 := eq_true q174
    go_wp2_with (first | (refine boxA HB 7 #[.int .i64 0, .int .i64 0, .int .i64 0, .string (⟨#[]⟩ : ByteArray), .string (⟨#[]⟩ : ByteArray), .int .i64 0, .int .u64 0, .int .u64 0, .bool false, .slice none 0 0] 27 ?_; clear HB; intro gb175 w9 BK175 GE175 hg hb HB; have NB173_175 := nbA BK173 hg; have NB175_173 := nbB BK173 hg; replace BK173 := bk1 BK173 hb; clear hb hg; have hnb10 := NB175_173.out; have hnc10 := NB173_175.out; have hcz11_0 : w9.cell? ⟨gb175, 0, none⟩ = some (.int .i64 0) := (blk_cell BK175.out 0).trans rfl; have hcz11_1 : w9.cell? ⟨gb175, 1, none⟩ = some (.int .i64 0) := (blk_cell BK175.out 1).trans rfl; have hcz11_2 : w9.cell? ⟨gb175, 2, none⟩ = some (.int .i64 0) := (blk_cell BK175.out 2).trans rfl; have hcz11_3 : w9.cell? ⟨gb175, 3, none⟩ = some (.string (⟨#[]⟩ : ByteArray)) := (blk_cell BK175.out 3).trans rfl; have hcz11_4 : w9.cell? ⟨gb175, 4, none⟩ = some (.string (⟨#[]⟩ : ByteArray)) := (blk_cell BK175.out 4).trans rfl; have hcz11_5 : w9.cell? ⟨gb175, 5, none⟩ = some (.int .i64 0) := (blk_cell BK175.out 5).trans rfl; have hcz11_6 : w9.cell? ⟨gb175, 6, none⟩ = some (.int .u64 0) := (blk_cell BK175.out 6).trans rfl; have hcz11_7 : w9.cell? ⟨gb175, 7, none⟩ = some (.int .u64 0) := (blk_cell BK175.out 7).trans rfl; have hcz11_8 : w9.cell? ⟨gb175, 8, none⟩ = some (.bool false) := (blk_cell BK175.out 8).trans rfl; have hcz11_9 : w9.cell? ⟨gb175, 9, none⟩ = some (.slice none 0 0) := (blk_cell BK175.out 9).trans rfl; have hfz11_0 := blk_frozen BK175.out 0; have hfz11_1 := blk_frozen BK175.out 1; have hfz11_2 := blk_frozen BK175.out 2; have hfz11_3 := blk_frozen BK175.out 3; have hfz11_4 := blk_frozen BK175.out 4; have hfz11_5 := blk_frozen BK175.out 5; have hfz11_6 := blk_frozen BK175.out 6; have hfz11_7 := blk_frozen BK175.out 7; have hfz11_8 := blk_frozen BK175.out 8; have hfz11_9 := blk_frozen BK175.out 9) | (refine callA (some 19) Try.func11 #[.agg #[.int .i64 ((rd_T27 l0_9 x13_1).f0), .int .i64 ((rd_T27 l0_9 x13_1).f1), .int .i64 ((rd_T27 l0_9 x13_1).f2), .string ((rd_T27 l0_9 x13_1).f3), .string ((rd_T27 l0_9 x13_1).f4), .int .i64 ((rd_T27 l0_9 x13_1).f5.f0), .int .u64 ((rd_T27 l0_9 x13_1).f5.f1), .int .u64 ((rd_T27 l0_9 x13_1).f5.f2), .bool ((rd_T27 l0_9 x13_1).f6), .slice A174_9 ((rd_T27 l0_9 x13_1).f7).length c174_9]] ?_; (with_reducible refine (ih k1 (by have := HK1.out; omega) ((rd_T27 l0_9 x13_1).f0) ((rd_T27 l0_9 x13_1).f1) ((rd_T27 l0_9 x13_1).f2) ((rd_T27 l0_9 x13_1).f3) ((rd_T27 l0_9 x13_1).f4) ((rd_T27 l0_9 x13_1).f5.f0) ((rd_T27 l0_9 x13_1).f5.f1) ((rd_T27 l0_9 x13_1).f5.f2) ((rd_T27 l0_9 x13_1).f6) _ _ ((rd_T27 l0_9 x13_1).f7) t176 t177 _ ?side1 ?side2 A7.out).mono ?_); (case side1 => exact Kd.C_below HR174_9.out (by repeat (with_reducible first | exact HB.out | refine below_set ?_ GE175.out))); (case side2 => exact HC174_9.out); rintro e w12 ⟨rfl, hb⟩; refine ⟨_, rfl, ?_⟩; replace BK173 := Aside0.mk (blk_below (g := gb173) (o := .cells #[.int .i64 a0_0, .int .i64 a0_1, .int .i64 a0_2, .string a0_3, .string a0_4, .int .i64 a0_5, .int .u64 a0_6, .int .u64 a0_7, .bool a0_8, .slice (some ad174) l0_9.length c0_9] 27 (0, 0)) (by refine blk_far ?_ NB173_175.out _; refine blk_far ?_ NB173_175.out _; refine blk_far ?_ NB173_175.out _; refine blk_far ?_ NB173_175.out _; refine blk_far ?_ NB173_175.out _; refine blk_far ?_ NB173_175.out _; refine blk_far ?_ NB173_175.out _; refine blk_far ?_ NB173_175.out _; refine blk_far ?_ NB173_175.out _; refine blk_far ?_ NB173_175.out _; exact BK173.out) hb); replace BK175 := Aside0.mk (blk_below (g := gb175) (o := .cells #[.int .i64 ((rd_T27 l0_9 x13_1).f0), .int .i64 ((rd_T27 l0_9 x13_1).f1), .int .i64 ((rd_T27 l0_9 x13_1).f2), .string ((rd_T27 l0_9 x13_1).f3), .string ((rd_T27 l0_9 x13_1).f4), .int .i64 ((rd_T27 l0_9 x13_1).f5.f0), .int .u64 ((rd_T27 l0_9 x13_1).f5.f1), .int .u64 ((rd_T27 l0_9 x13_1).f5.f2), .bool ((rd_T27 l0_9 x13_1).f6), .slice A174_9 ((rd_T27 l0_9 x13_1).f7).length c174_9] 27 (0, 0)) (by refine blk_put (cs := #[.int .i64 ((rd_T27 l0_9 x13_1).f0), .int .i64 ((rd_T27 l0_9 x13_1).f1), .int .i64 ((rd_T27 l0_9 x13_1).f2), .string ((rd_T27 l0_9 x13_1).f3), .string ((rd_T27 l0_9 x13_1).f4), .int .i64 ((rd_T27 l0_9 x13_1).f5.f0), .int .u64 ((rd_T27 l0_9 x13_1).f5.f1), .int .u64 ((rd_T27 l0_9 x13_1).f5.f2), .bool ((rd_T27 l0_9 x13_1).f6), .slice none 0 0]) ?_ 9 _ rfl; refine blk_put (cs := #[.int .i64 ((rd_T27 l0_9 x13_1).f0), .int .i64 ((rd_T27 l0_9 x13_1).f1), .int .i64 ((rd_T27 l0_9 x13_1).f2), .string ((rd_T27 l0_9 x13_1).f3), .string ((rd_T27 l0_9 x13_1).f4), .int .i64 ((rd_T27 l0_9 x13_1).f5.f0), .int .u64 ((rd_T27 l0_9 x13_1).f5.f1), .int .u64 ((rd_T27 l0_9 x13_1).f5.f2), .bool false, .slice none 0 0]) ?_ 8 _ rfl; refine blk_put (cs := #[.int .i64 ((rd_T27 l0_9 x13_1).f0), .int .i64 ((rd_T27 l0_9 x13_1).f1), .int .i64 ((rd_T27 l0_9 x13_1).f2), .string ((rd_T27 l0_9 x13_1).f3), .string ((rd_T27 l0_9 x13_1).f4), .int .i64 ((rd_T27 l0_9 x13_1).f5.f0), .int .u64 ((rd_T27 l0_9 x13_1).f5.f1), .int .u64 0, .bool false, .slice none 0 0]) ?_ 7 _ rfl; refine blk_put (cs := #[.int .i64 ((rd_T27 l0_9 x13_1).f0), .int .i64 ((rd_T27 l0_9 x13_1).f1), .int .i64 ((rd_T27 l0_9 x13_1).f2), .string ((rd_T27 l0_9 x13_1).f3), .string ((rd_T27 l0_9 x13_1).f4), .int .i64 ((rd_T27 l0_9 x13_1).f5.f0), .int .u64 0, .int .u64 0, .bool false, .slice none 0 0]) ?_ 6 _ rfl; refine blk_put (cs := #[.int .i64 ((rd_T27 l0_9 x13_1).f0), .int .i64 ((rd_T27 l0_9 x13_1).f1), .int .i64 ((rd_T27 l0_9 x13_1).f2), .string ((rd_T27 l0_9 x13_1).f3), .string ((rd_T27 l0_9 x13_1).f4), .int .i64 0, .int .u64 0, .int .u64 0, .bool false, .slice none 0 0]) ?_ 5 _ rfl; refine blk_put (cs := #[.int .i64 ((rd_T27 l0_9 x13_1).f0), .int .i64 ((rd_T27 l0_9 x13_1).f1), .int .i64 ((rd_T27 l0_9 x13_1).f2), .string ((rd_T27 l0_9 x13_1).f3), .string (⟨#[]⟩ : ByteArray), .int .i64 0, .int .u64 0, .int .u64 0, .bool false, .slice none 0 0]) ?_ 4 _ rfl; refine blk_put (cs := #[.int .i64 ((rd_T27 l0_9 x13_1).f0), .int .i64 ((rd_T27 l0_9 x13_1).f1), .int .i64 ((rd_T27 l0_9 x13_1).f2), .string (⟨#[]⟩ : ByteArray), .string (⟨#[]⟩ : ByteArray), .int .i64 0, .int .u64 0, .int .u64 0, .bool false, .slice none 0 0]) ?_ 3 _ rfl; refine blk_put (cs := #[.int .i64 ((rd_T27 l0_9 x13_1).f0), .int .i64 ((rd_T27 l0_9 x13_1).f1), .int .i64 0, .string (⟨#[]⟩ : ByteArray), .string (⟨#[]⟩ : ByteArray), .int .i64 0, .int .u64 0, .int .u64 0, .bool false, .slice none 0 0]) ?_ 2 _ rfl; refine blk_put (cs := #[.int .i64 ((rd_T27 l0_9 x13_1).f0), .int .i64 0, .int .i64 0, .string (⟨#[]⟩ : ByteArray), .string (⟨#[]⟩ : ByteArray), .int .i64 0, .int .u64 0, .int .u64 0, .bool false, .slice none 0 0]) ?_ 1 _ rfl; refine blk_put (cs := #[.int .i64 0, .int .i64 0, .int .i64 0, .string (⟨#[]⟩ : ByteArray), .string (⟨#[]⟩ : ByteArray), .int .i64 0, .int .u64 0, .int .u64 0, .bool false, .slice none 0 0]) ?_ 0 _ rfl; exact BK175.out) hb); replace HB := hb1 HB hb; (try clear hb)))
    go_roundg k1
    case measure => have := HK1.out; omega
    case rel => exact ⟨(wrap64 (x4_1 + t176)), (ji8), (wrap64 (x13_1 + 1)), (by rfl), (by rfl), (by rfl), H', ⟨by have := HK1.out; omega⟩, ⟨by exact BK173.out⟩, ⟨by repeat (with_reducible exact HB.out)⟩⟩
   ·replace H := s2 H; obtain ⟨rfl, rfl⟩ := H
    go_wp2
    go_ret2
    exact ⟨by rfl, by repeat (with_reducible exact HB.out)⟩
end Go.Proofs.Ytlamgdibnnmbmaa.PSyn
end
