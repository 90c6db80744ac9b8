/- Part 26 of the proof of BitsTextsCardSaid: The law BitsTexts: for all arguments it returns true; each argument reads behind the call as it read before. Out of the plain theorem of YtfigblfjogpojaaDoorPureBitsTexts and the printed contract. -/
import Derived.Test.YtfigblfjogpojaaDoorQBitsTexts15
import Derived.Test.YtfigblfjogpojaaDoorQBitsTexts14
section
namespace Go.Proofs.YtfigblfjogpojaaDoor.PBits
open Go.RowKit Go.Proofs.YtfigblfjogpojaaDoorW.PrintWords Go.Proofs.YtfigblfjogpojaaDoorW.PrintLast Go.Proofs.YtfigblfjogpojaaDoorW.PrintMore
attribute [local go_sem] max2_int min2_int max_two min_two max_three min_three max_four min_four
set_option linter.unusedVariables false
set_option linter.unusedSimpArgs false
def bits_Put.j0 : Nat → Int → Bool → Int → Int → Int → Int → Int → Int → Option (Int × Int × Int)
 | 0, _, _, _, _, _, _, _, _ => none
 | k + 1, x1, x27, x124000, x124001, x124002, x125000, x125001, x125002 => if x27 = true then ((bits_valid.f k (([(⟨x124000, x124001, x124002⟩ : S24), (⟨x125000, x125001, x125002⟩ : S24)] : List (S24)))).bind fun t133 => (if t133 = true then (some (x124000, x124001, x124002)) else (some (0, 0, 0)))) else ((bits_mask.f x125000).bind fun t134 => (if x1 < 0 then (if 0 ≤ (wrap64 (-x1)) then ((bits_mask.f x124000).bind fun t135 => (some (x124000, Go.bits .or .u64 (Go.bits .andNot .u64 x124001 (Go.bits .and .u64 (shr .u64 t134 (wrap64 (-x1))) t135)) (Go.bits .and .u64 (shr .u64 x125001 (wrap64 (-x1))) (Go.bits .and .u64 (shr .u64 t134 (wrap64 (-x1))) t135)), Go.bits .or .u64 (Go.bits .andNot .u64 x124002 (Go.bits .and .u64 (shr .u64 t134 (wrap64 (-x1))) t135)) (Go.bits .and .u64 (shr .u64 x125002 (wrap64 (-x1))) (Go.bits .and .u64 (shr .u64 t134 (wrap64 (-x1))) t135))))) else (none)) else (if 0 ≤ x1 then ((bits_mask.f x124000).bind fun t136 => (some (x124000, Go.bits .or .u64 (Go.bits .andNot .u64 x124001 (Go.bits .and .u64 (shl .u64 t134 x1) t136)) (Go.bits .and .u64 (shl .u64 x125001 x1) (Go.bits .and .u64 (shl .u64 t134 x1) t136)), Go.bits .or .u64 (Go.bits .andNot .u64 x124002 (Go.bits .and .u64 (shl .u64 t134 x1) t136)) (Go.bits .and .u64 (shl .u64 x125002 x1) (Go.bits .and .u64 (shl .u64 t134 x1) t136))))) else (none))))
def bits_Put.f (k : Nat) (a0_0 : Int) (a0_1 : Int) (a0_2 : Int) (a1 : Int) (a2_0 : Int) (a2_1 : Int) (a2_2 : Int) : Option (Int × Int × Int) := (bits_valid.f k (([(⟨a0_0, a0_1, a0_2⟩ : S24), (⟨a2_0, a2_1, a2_2⟩ : S24)] : List (S24)))).bind fun t129 => (if t129 = true then (if a1 ≤ (wrap64 (-a2_0)) then (bits_Put.j0 k a1 true a0_0 a0_1 a0_2 a2_0 a2_1 a2_2) else (bits_Put.j0 k a1 (decide (a1 ≥ a0_0)) a0_0 a0_1 a0_2 a2_0 a2_1 a2_2)) else (bits_Put.j0 k a1 true a0_0 a0_1 a0_2 a2_0 a2_1 a2_2))
theorem bits_Put.mono_l : ∀ k, (∀ y0 y1 y2 y3 y4 y5 y6 y7, LeO (bits_Put.j0 k y0 y1 y2 y3 y4 y5 y6 y7) (bits_Put.j0 (k + 1) y0 y1 y2 y3 y4 y5 y6 y7))
 | 0 => fun _ _ _ _ _ _ _ _ r h => by simp [bits_Put.j0] at h
 | k + 1 => by
  have ih0 := bits_Put.mono_l k
  ·intro y0 y1 y2 y3 y4 y5 y6 y7
   unfold bits_Put.j0
   repeat' first | with_reducible exact ih0 _ _ _ _ _ _ _ _ | with_reducible exact bits_valid.mono _ _ | with_reducible exact LeO.refl _ | with_reducible exact LeO.none _ | with_reducible refine LeO.ite ?_ ?_ | with_reducible refine LeO.bind ?_ (fun _ => ?_)
theorem bits_Put.mono : ∀ a0 a1 a2 a3 a4 a5 a6 k, LeO (bits_Put.f k a0 a1 a2 a3 a4 a5 a6) (bits_Put.f (k + 1) a0 a1 a2 a3 a4 a5 a6) := by
 intro a0 a1 a2 a3 a4 a5 a6 k
 have ih0 := bits_Put.mono_l k
 unfold bits_Put.f
 repeat' first | with_reducible exact ih0 _ _ _ _ _ _ _ _ | with_reducible exact bits_valid.mono _ _ | with_reducible exact LeO.refl _ | with_reducible exact LeO.none _ | with_reducible refine LeO.ite ?_ ?_ | with_reducible refine LeO.bind ?_ (fun _ => ?_)
set_option maxHeartbeats 8000000 in
set_option maxRecDepth 100000 in
theorem bits_Put.calls (k : Nat) (a0_0 : Int) (a0_1 : Int) (a0_2 : Int) (a1 : Int) (a2_0 : Int) (a2_1 : Int) (a2_2 : Int) (r1 : Int) (r2 : Int) (r3 : Int) (w : World) (h : bits_Put.f k a0_0 a0_1 a0_2 a1 a2_0 a2_1 a2_2 = some (r1, r2, r3)) :
  Calls Tryd.prog 38 #[.agg #[.int .i64 a0_0, .int .u64 a0_1, .int .u64 a0_2], .int .i64 a1, .agg #[.int .i64 a2_0, .int .u64 a2_1, .int .u64 a2_2]] w fun e w' => e = .returned (.agg #[.int .i64 r1, .int .u64 r2, .int .u64 r3]) ∧ Below w.heap.size w w' := by
 have hu24 := Tryd.underlying24
 have HB := Aside0.mk (Below.refl w.heap.size w)
 have H := h
 clear h
 unfold bits_Put.f at H
 have HC4 := Aside0.mk H
 clear H
 go_enter Tryd.func38, Tryd.ntmps38
 go_upto_region 1 with (first | (refine boxA HB 3 #[.int .i64 a0_0, .int .u64 a0_1, .int .u64 a0_2] 24 ?_; clear HB; intro gb123 w5 BK123 GE123 hg hb HB; clear hb hg) | (refine boxA HB 5 #[.int .i64 a2_0, .int .u64 a2_1, .int .u64 a2_2] 24 ?_; clear HB; intro gb124 w6 BK124 GE124 hg hb HB; have NB123_124 := nbA BK123 hg; have NB124_123 := nbB BK123 hg; replace BK123 := bk1 BK123 hb; clear hb hg) | (refine boxA HB 6 #[.int .i64 0, .int .u64 0, .int .u64 0] 24 ?_; clear HB; intro gb125 w7 BK125 GE125 hg hb HB; have NB123_125 := nbA BK123 hg; have NB125_123 := nbB BK123 hg; replace BK123 := bk1 BK123 hb; have NB124_125 := nbA BK124 hg; have NB125_124 := nbB BK124 hg; replace BK124 := bk1 BK124 hb; clear hb hg))
 (try simp only [Act.put, List.setIfInBounds_toArray, List.set_cons_zero, List.set_cons_succ])
 go_cut [27] (fun v27 wc => ∃ (kq : Nat) (x27_3 : Bool), v27 = .bool x27_3 ∧ Aside0 (bits_Put.j0 kq a1 x27_3 a0_0 a0_1 a0_2 a2_0 a2_1 a2_2 = some (r1, r2, r3)) ∧ Aside0 (kq ≤ k) ∧ Aside0 (wc.heap[gb123]? = some (.cells #[.int .i64 a0_0, .int .u64 a0_1, .int .u64 a0_2] 24 (0, 0))) ∧ Aside0 (wc.heap[gb124]? = some (.cells #[.int .i64 a2_0, .int .u64 a2_1, .int .u64 a2_2] 24 (0, 0))) ∧ Aside0 (wc.heap[gb125]? = some (.cells #[.int .i64 0, .int .u64 0, .int .u64 0] 24 (0, 0))) ∧ Aside0 (Below w.heap.size w wc))
 case first =>
  have H := HC4.out
  clear HC4
  obtain ⟨y126, hy126⟩ : ∃ y_ : List (S24), y_ = ([(⟨a0_0, a0_1, a0_2⟩ : S24), (⟨a2_0, a2_1, a2_2⟩ : S24)] : List (S24)) := ⟨_, rfl⟩
  replace H : ((bits_valid.f k y126).bind fun t129 => (if t129 = true then (if a1 ≤ (wrap64 (-a2_0)) then (bits_Put.j0 k a1 true a0_0 a0_1 a0_2 a2_0 a2_1 a2_2) else (bits_Put.j0 k a1 (decide (a1 ≥ a0_0)) a0_0 a0_1 a0_2 a2_0 a2_1 a2_2)) else (bits_Put.j0 k a1 true a0_0 a0_1 a0_2 a2_0 a2_1 a2_2))) = some (r1, r2, r3) := by (rw [hy126]; with_reducible exact H)
  have Ny126 := Aside0.mk hy126
  clear hy126
  replace H := bN H; obtain ⟨t129, A8, H⟩ := H
  replace H := iB H; rcases H with ⟨rfl, H⟩ | ⟨rfl, H⟩
  ·replace H := iD H; rcases H with ⟨c10b0, H⟩ | ⟨c10b0, H⟩
   ·(skip)
    have H' := Aside0.mk H
    clear H
    have hnb11 := NB123_124.out
    have hnc11 := NB124_123.out
    have hnb12 := NB123_125.out
    have hnc12 := NB125_123.out
    obtain ⟨hcz13_0, hcz13_1, hcz13_2, hfz13_0, hfz13_1, hfz13_2⟩ := cf3 BK123
    have hnb14 := NB124_125.out
    have hnc14 := NB125_124.out
    obtain ⟨hcz15_0, hcz15_1, hcz15_2, hfz15_0, hfz15_1, hfz15_2⟩ := cf3 BK124
    go_wp2_with (first | ((with_reducible refine gate_dst (N := 12) rfl ?_); refine Kd.R_lit k24 _ 24 ?hg (N := 12) ?hd (xs := ([(⟨a0_0, a0_1, a0_2⟩ : S24), (⟨a2_0, a2_1, a2_2⟩ : S24)] : List (S24))) (inner := [.int .i64 a0_0, .int .u64 a0_1, .int .u64 a0_2, .int .i64 a2_0, .int .u64 a2_1, .int .u64 a2_2]) (ok := fun _ => True) (okp := fun _ => True) ?hr ?hp (fun _ hk => hk) trivial (Below.refl _ _) (Nat.le_refl _) (by simp) ?_; (case hd => rfl); (case hg => rfl); (case hr => (go_simp; done)); (case hp => exact (Reps.c3 (show Kd.M k24 _ _ _ (⟨a0_0, a0_1, a0_2⟩ : S24) [.int .i64 a0_0, .int .u64 a0_1, .int .u64 a0_2] from (k24_mkM _ _ _ (⟨a0_0, a0_1, a0_2⟩ : S24) )) (Reps.c3 (show Kd.M k24 _ _ _ (⟨a2_0, a2_1, a2_2⟩ : S24) [.int .i64 a2_0, .int .u64 a2_1, .int .u64 a2_2] from (k24_mkM _ _ _ (⟨a2_0, a2_1, a2_2⟩ : S24) )) (Reps.none _ _)))); intro v127 w16 ho17 hb hg_ hnew_; clear hg_ hnew_; (rw [← Ny126.out] at ho17); have HO128 := Aside0.mk (Kd.R_lower (Kd.R_newB (Kd.R_newB (Kd.R_newB ho17 BK123.out) BK124.out) BK125.out) (below_size HB.out)); replace BK123 := bk1 BK123 hb; replace BK124 := bk1 BK124 hb; replace BK125 := bk1 BK125 hb; replace HB := hb1 HB hb; clear hb ho17; obtain ⟨Ao18, co18, eo18⟩ := Kd.R_slice HO128.out; subst eo18) | (go_at_call 56; (with_reducible refine (bits_valid.calls k _ _ y126 true _ ?side1 ?side2 A8.out).mono ?_); (case side1 => exact (Kd.R_reads' HO128.out).2.2); (case side2 => exact (Kd.R_reads' HO128.out).2.1); rintro e w19 ⟨rfl, hb⟩; replace HO128 := Kd.rb1 HO128 hb; replace BK123 := bk1 BK123 hb; replace BK124 := bk1 BK124 hb; replace BK125 := bk1 BK125 hb; replace HB := hb1 HB hb; (try clear hb); obtain ⟨hcz20_0, hcz20_1, hcz20_2, hfz20_0, hfz20_1, hfz20_2⟩ := cf3 BK124))
    go_meet
    case rel => exact ⟨_, (true), (by rfl), H', ⟨by omega⟩, ⟨by exact BK123.out⟩, ⟨by exact BK124.out⟩, ⟨by exact BK125.out⟩, ⟨by repeat (with_reducible exact HB.out)⟩⟩
   ·(skip)
    have H' := Aside0.mk H
    clear H
    have hnb21 := NB123_124.out
    have hnc21 := NB124_123.out
    have hnb22 := NB123_125.out
    have hnc22 := NB125_123.out
    obtain ⟨hcz23_0, hcz23_1, hcz23_2, hfz23_0, hfz23_1, hfz23_2⟩ := cf3 BK123
    have hnb24 := NB124_125.out
    have hnc24 := NB125_124.out
    obtain ⟨hcz25_0, hcz25_1, hcz25_2, hfz25_0, hfz25_1, hfz25_2⟩ := cf3 BK124
    go_wp2_with (first | ((with_reducible refine gate_dst (N := 12) rfl ?_); refine Kd.R_lit k24 _ 24 ?hg (N := 12) ?hd (xs := ([(⟨a0_0, a0_1, a0_2⟩ : S24), (⟨a2_0, a2_1, a2_2⟩ : S24)] : List (S24))) (inner := [.int .i64 a0_0, .int .u64 a0_1, .int .u64 a0_2, .int .i64 a2_0, .int .u64 a2_1, .int .u64 a2_2]) (ok := fun _ => True) (okp := fun _ => True) ?hr ?hp (fun _ hk => hk) trivial (Below.refl _ _) (Nat.le_refl _) (by simp) ?_; (case hd => rfl); (case hg => rfl); (case hr => (go_simp; done)); (case hp => exact (Reps.c3 (show Kd.M k24 _ _ _ (⟨a0_0, a0_1, a0_2⟩ : S24) [.int .i64 a0_0, .int .u64 a0_1, .int .u64 a0_2] from (k24_mkM _ _ _ (⟨a0_0, a0_1, a0_2⟩ : S24) )) (Reps.c3 (show Kd.M k24 _ _ _ (⟨a2_0, a2_1, a2_2⟩ : S24) [.int .i64 a2_0, .int .u64 a2_1, .int .u64 a2_2] from (k24_mkM _ _ _ (⟨a2_0, a2_1, a2_2⟩ : S24) )) (Reps.none _ _)))); intro v127 w26 ho27 hb hg_ hnew_; clear hg_ hnew_; (rw [← Ny126.out] at ho27); have HO128 := Aside0.mk (Kd.R_lower (Kd.R_newB (Kd.R_newB (Kd.R_newB ho27 BK123.out) BK124.out) BK125.out) (below_size HB.out)); replace BK123 := bk1 BK123 hb; replace BK124 := bk1 BK124 hb; replace BK125 := bk1 BK125 hb; replace HB := hb1 HB hb; clear hb ho27; obtain ⟨Ao28, co28, eo28⟩ := Kd.R_slice HO128.out; subst eo28) | (go_at_call 56; (with_reducible refine (bits_valid.calls k _ _ y126 true _ ?side1 ?side2 A8.out).mono ?_); (case side1 => exact (Kd.R_reads' HO128.out).2.2); (case side2 => exact (Kd.R_reads' HO128.out).2.1); rintro e w29 ⟨rfl, hb⟩; replace HO128 := Kd.rb1 HO128 hb; replace BK123 := bk1 BK123 hb; replace BK124 := bk1 BK124 hb; replace BK125 := bk1 BK125 hb; replace HB := hb1 HB hb; (try clear hb); obtain ⟨hcz30_0, hcz30_1, hcz30_2, hfz30_0, hfz30_1, hfz30_2⟩ := cf3 BK124; obtain ⟨hcz31_0, hcz31_1, hcz31_2, hfz31_0, hfz31_1, hfz31_2⟩ := cf3 BK123))
    go_meet
    case rel => exact ⟨_, (decide (a1 ≥ a0_0)), (by rfl), H', ⟨by omega⟩, ⟨by exact BK123.out⟩, ⟨by exact BK124.out⟩, ⟨by exact BK125.out⟩, ⟨by repeat (with_reducible exact HB.out)⟩⟩
  ·have H' := Aside0.mk H
   clear H
   have hnb32 := NB123_124.out
   have hnc32 := NB124_123.out
   have hnb33 := NB123_125.out
   have hnc33 := NB125_123.out
   obtain ⟨hcz34_0, hcz34_1, hcz34_2, hfz34_0, hfz34_1, hfz34_2⟩ := cf3 BK123
   have hnb35 := NB124_125.out
   have hnc35 := NB125_124.out
   obtain ⟨hcz36_0, hcz36_1, hcz36_2, hfz36_0, hfz36_1, hfz36_2⟩ := cf3 BK124
   go_wp2_with (first | ((with_reducible refine gate_dst (N := 12) rfl ?_); refine Kd.R_lit k24 _ 24 ?hg (N := 12) ?hd (xs := ([(⟨a0_0, a0_1, a0_2⟩ : S24), (⟨a2_0, a2_1, a2_2⟩ : S24)] : List (S24))) (inner := [.int .i64 a0_0, .int .u64 a0_1, .int .u64 a0_2, .int .i64 a2_0, .int .u64 a2_1, .int .u64 a2_2]) (ok := fun _ => True) (okp := fun _ => True) ?hr ?hp (fun _ hk => hk) trivial (Below.refl _ _) (Nat.le_refl _) (by simp) ?_; (case hd => rfl); (case hg => rfl); (case hr => (go_simp; done)); (case hp => exact (Reps.c3 (show Kd.M k24 _ _ _ (⟨a0_0, a0_1, a0_2⟩ : S24) [.int .i64 a0_0, .int .u64 a0_1, .int .u64 a0_2] from (k24_mkM _ _ _ (⟨a0_0, a0_1, a0_2⟩ : S24) )) (Reps.c3 (show Kd.M k24 _ _ _ (⟨a2_0, a2_1, a2_2⟩ : S24) [.int .i64 a2_0, .int .u64 a2_1, .int .u64 a2_2] from (k24_mkM _ _ _ (⟨a2_0, a2_1, a2_2⟩ : S24) )) (Reps.none _ _)))); intro v127 w37 ho38 hb hg_ hnew_; clear hg_ hnew_; (rw [← Ny126.out] at ho38); have HO128 := Aside0.mk (Kd.R_lower (Kd.R_newB (Kd.R_newB (Kd.R_newB ho38 BK123.out) BK124.out) BK125.out) (below_size HB.out)); replace BK123 := bk1 BK123 hb; replace BK124 := bk1 BK124 hb; replace BK125 := bk1 BK125 hb; replace HB := hb1 HB hb; clear hb ho38; obtain ⟨Ao39, co39, eo39⟩ := Kd.R_slice HO128.out; subst eo39) | (go_at_call 56; (with_reducible refine (bits_valid.calls k _ _ y126 false _ ?side1 ?side2 A8.out).mono ?_); (case side1 => exact (Kd.R_reads' HO128.out).2.2); (case side2 => exact (Kd.R_reads' HO128.out).2.1); rintro e w40 ⟨rfl, hb⟩; replace HO128 := Kd.rb1 HO128 hb; replace BK123 := bk1 BK123 hb; replace BK124 := bk1 BK124 hb; replace BK125 := bk1 BK125 hb; replace HB := hb1 HB hb; (try clear hb)))
   go_meet
   case rel => exact ⟨_, (true), (by rfl), H', ⟨by omega⟩, ⟨by exact BK123.out⟩, ⟨by exact BK124.out⟩, ⟨by exact BK125.out⟩, ⟨by repeat (with_reducible exact HB.out)⟩⟩
 case rest =>
  clear HC4
  obtain ⟨kq, x27_3, rfl, HA, HJ3, BK123, BK124, BK125, HB⟩ := hcut
  cases kq with
  | zero => exact absurd HA.out (by simp [bits_Put.j0])
  | succ kj3 =>
   have H := HA.out
   clear HA
   simp only [bits_Put.j0] at H
   replace H := iB H; rcases H with ⟨rfl, H⟩ | ⟨rfl, H⟩
   ·obtain ⟨y130, hy130⟩ : ∃ y_ : List (S24), y_ = ([(⟨a0_0, a0_1, a0_2⟩ : S24), (⟨a2_0, a2_1, a2_2⟩ : S24)] : List (S24)) := ⟨_, rfl⟩
    replace H : ((bits_valid.f kj3 y130).bind fun t133 => (if t133 = true then (some (a0_0, a0_1, a0_2)) else (some (0, 0, 0)))) = some (r1, r2, r3) := by (rw [hy130]; with_reducible exact H)
    have Ny130 := Aside0.mk hy130
    clear hy130
    replace H := bN H; obtain ⟨t133, A42, H⟩ := H
    replace H := iB H; rcases H with ⟨rfl, H⟩ | ⟨rfl, H⟩
    ·replace H := s3 H; obtain ⟨rfl, rfl, rfl⟩ := H
     have hnb44 := NB123_124.out
     have hnc44 := NB124_123.out
     have hnb45 := NB123_125.out
     have hnc45 := NB125_123.out
     obtain ⟨hcz46_0, hcz46_1, hcz46_2, hfz46_0, hfz46_1, hfz46_2⟩ := cf3 BK123
     have hnb47 := NB124_125.out
     have hnc47 := NB125_124.out
     obtain ⟨hcz48_0, hcz48_1, hcz48_2, hfz48_0, hfz48_1, hfz48_2⟩ := cf3 BK124
     go_wp2_with (first | ((with_reducible refine gate_dst (N := 30) rfl ?_); refine Kd.R_lit k24 _ 24 ?hg (N := 30) ?hd (xs := ([(⟨a0_0, a0_1, a0_2⟩ : S24), (⟨a2_0, a2_1, a2_2⟩ : S24)] : List (S24))) (inner := [.int .i64 a0_0, .int .u64 a0_1, .int .u64 a0_2, .int .i64 a2_0, .int .u64 a2_1, .int .u64 a2_2]) (ok := fun _ => True) (okp := fun _ => True) ?hr ?hp (fun _ hk => hk) trivial (Below.refl _ _) (Nat.le_refl _) (by simp) ?_; (case hd => rfl); (case hg => rfl); (case hr => (go_simp; done)); (case hp => exact (Reps.c3 (show Kd.M k24 _ _ _ (⟨a0_0, a0_1, a0_2⟩ : S24) [.int .i64 a0_0, .int .u64 a0_1, .int .u64 a0_2] from (k24_mkM _ _ _ (⟨a0_0, a0_1, a0_2⟩ : S24) )) (Reps.c3 (show Kd.M k24 _ _ _ (⟨a2_0, a2_1, a2_2⟩ : S24) [.int .i64 a2_0, .int .u64 a2_1, .int .u64 a2_2] from (k24_mkM _ _ _ (⟨a2_0, a2_1, a2_2⟩ : S24) )) (Reps.none _ _)))); intro v131 w49 ho50 hb hg_ hnew_; clear hg_ hnew_; (rw [← Ny130.out] at ho50); have HO132 := Aside0.mk (Kd.R_lower (Kd.R_newB (Kd.R_newB (Kd.R_newB ho50 BK123.out) BK124.out) BK125.out) (below_size HB.out)); replace BK123 := bk1 BK123 hb; replace BK124 := bk1 BK124 hb; replace BK125 := bk1 BK125 hb; replace HB := hb1 HB hb; clear hb ho50; obtain ⟨Ao51, co51, eo51⟩ := Kd.R_slice HO132.out; subst eo51) | (go_at_call 56; (with_reducible refine (bits_valid.calls kj3 _ _ y130 true _ ?side1 ?side2 A42.out).mono ?_); (case side1 => exact (Kd.R_reads' HO132.out).2.2); (case side2 => exact (Kd.R_reads' HO132.out).2.1); rintro e w52 ⟨rfl, hb⟩; replace HO132 := Kd.rb1 HO132 hb; replace BK123 := bk1 BK123 hb; replace BK124 := bk1 BK124 hb; replace BK125 := bk1 BK125 hb; replace HB := hb1 HB hb; (try clear hb); obtain ⟨hcz53_0, hcz53_1, hcz53_2, hfz53_0, hfz53_1, hfz53_2⟩ := cf3 BK123; obtain ⟨hcz54_0, hcz54_1, hcz54_2, hfz54_0, hfz54_1, hfz54_2⟩ := cf3 BK125))
     refine retA gb125 24 #[.int .i64 a0_0, .int .u64 a0_1, .int .u64 a0_2] (put3 BK125) Tryd.underlying24 ?_
     exact ⟨by rfl, by repeat (with_reducible first | exact HB.out | refine below_set ?_ GE125.out)⟩
    ·replace H := s3 H; obtain ⟨rfl, rfl, rfl⟩ := H
     have hnb55 := NB123_124.out
     have hnc55 := NB124_123.out
     have hnb56 := NB123_125.out
     have hnc56 := NB125_123.out
     obtain ⟨hcz57_0, hcz57_1, hcz57_2, hfz57_0, hfz57_1, hfz57_2⟩ := cf3 BK123
     have hnb58 := NB124_125.out
     have hnc58 := NB125_124.out
     obtain ⟨hcz59_0, hcz59_1, hcz59_2, hfz59_0, hfz59_1, hfz59_2⟩ := cf3 BK124
     go_wp2_with (first | ((with_reducible refine gate_dst (N := 30) rfl ?_); refine Kd.R_lit k24 _ 24 ?hg (N := 30) ?hd (xs := ([(⟨a0_0, a0_1, a0_2⟩ : S24), (⟨a2_0, a2_1, a2_2⟩ : S24)] : List (S24))) (inner := [.int .i64 a0_0, .int .u64 a0_1, .int .u64 a0_2, .int .i64 a2_0, .int .u64 a2_1, .int .u64 a2_2]) (ok := fun _ => True) (okp := fun _ => True) ?hr ?hp (fun _ hk => hk) trivial (Below.refl _ _) (Nat.le_refl _) (by simp) ?_; (case hd => rfl); (case hg => rfl); (case hr => (go_simp; done)); (case hp => exact (Reps.c3 (show Kd.M k24 _ _ _ (⟨a0_0, a0_1, a0_2⟩ : S24) [.int .i64 a0_0, .int .u64 a0_1, .int .u64 a0_2] from (k24_mkM _ _ _ (⟨a0_0, a0_1, a0_2⟩ : S24) )) (Reps.c3 (show Kd.M k24 _ _ _ (⟨a2_0, a2_1, a2_2⟩ : S24) [.int .i64 a2_0, .int .u64 a2_1, .int .u64 a2_2] from (k24_mkM _ _ _ (⟨a2_0, a2_1, a2_2⟩ : S24) )) (Reps.none _ _)))); intro v131 w60 ho61 hb hg_ hnew_; clear hg_ hnew_; (rw [← Ny130.out] at ho61); have HO132 := Aside0.mk (Kd.R_lower (Kd.R_newB (Kd.R_newB (Kd.R_newB ho61 BK123.out) BK124.out) BK125.out) (below_size HB.out)); replace BK123 := bk1 BK123 hb; replace BK124 := bk1 BK124 hb; replace BK125 := bk1 BK125 hb; replace HB := hb1 HB hb; clear hb ho61; obtain ⟨Ao62, co62, eo62⟩ := Kd.R_slice HO132.out; subst eo62) | (go_at_call 56; (with_reducible refine (bits_valid.calls kj3 _ _ y130 false _ ?side1 ?side2 A42.out).mono ?_); (case side1 => exact (Kd.R_reads' HO132.out).2.2); (case side2 => exact (Kd.R_reads' HO132.out).2.1); rintro e w63 ⟨rfl, hb⟩; replace HO132 := Kd.rb1 HO132 hb; replace BK123 := bk1 BK123 hb; replace BK124 := bk1 BK124 hb; replace BK125 := bk1 BK125 hb; replace HB := hb1 HB hb; (try clear hb); obtain ⟨hcz64_0, hcz64_1, hcz64_2, hfz64_0, hfz64_1, hfz64_2⟩ := cf3 BK125))
     refine retA gb125 24 #[.int .i64 0, .int .u64 0, .int .u64 0] (put3 BK125) Tryd.underlying24 ?_
     exact ⟨by rfl, by repeat (with_reducible first | exact HB.out | refine below_set ?_ GE125.out)⟩
   ·replace H := bN H; obtain ⟨t134, A65, H⟩ := H
    replace H := iD H; rcases H with ⟨c66b0, H⟩ | ⟨c66b0, H⟩
    ·obtain ⟨ji67, hji67⟩ : ∃ j_ : Int, (wrap64 (-a1)) = j_ := ⟨_, rfl⟩
     replace H : (if 0 ≤ (ji67) then ((bits_mask.f a0_0).bind fun t135 => (some (a0_0, Go.bits .or .u64 (Go.bits .andNot .u64 a0_1 (Go.bits .and .u64 (shr .u64 t134 (ji67)) t135)) (Go.bits .and .u64 (shr .u64 a2_1 (ji67)) (Go.bits .and .u64 (shr .u64 t134 (ji67)) t135)), Go.bits .or .u64 (Go.bits .andNot .u64 a0_2 (Go.bits .and .u64 (shr .u64 t134 (ji67)) t135)) (Go.bits .and .u64 (shr .u64 a2_2 (ji67)) (Go.bits .and .u64 (shr .u64 t134 (ji67)) t135))))) else (none)) = some (r1, r2, r3) := by (rw [hji67] at H; exact H)
     have hji67w : (IntKind.i64.wrap (-a1)) = ji67 := (i64_w _).trans hji67
     by_cases c68 : 0 ≤ (ji67)
     ·rw [if_pos c68] at H
      have c68b0 := eq_true c68
      have c68b1 : decide (0 ≤ (ji67)) = true := decide_eq_true c68
      clear c68
      obtain ⟨ji69, hji69⟩ : ∃ j_ : Int, (shr .u64 t134 (ji67)) = j_ := ⟨_, rfl⟩
      replace H : ((bits_mask.f a0_0).bind fun t135 => (some (a0_0, Go.bits .or .u64 (Go.bits .andNot .u64 a0_1 (Go.bits .and .u64 (ji69) t135)) (Go.bits .and .u64 (shr .u64 a2_1 (ji67)) (Go.bits .and .u64 (ji69) t135)), Go.bits .or .u64 (Go.bits .andNot .u64 a0_2 (Go.bits .and .u64 (ji69) t135)) (Go.bits .and .u64 (shr .u64 a2_2 (ji67)) (Go.bits .and .u64 (ji69) t135))))) = some (r1, r2, r3) := by (rw [hji69] at H; exact H)
      have hji69_ : (t134 / 2 ^ min (ji67).toNat 64) = ji69 := hji69
      have hji69z : (ji67) ≤ 64 → (t134 / 2 ^ (ji67).toNat) = ji69 := shr_small hji69
      have c70b0 := eq_true (of_decide_eq_true (by (with_reducible assumption)) : 0 ≤ (ji67))
      obtain ⟨ji71, hji71⟩ : ∃ j_ : Int, (shr .u64 a2_1 (ji67)) = j_ := ⟨_, rfl⟩
      replace H : ((bits_mask.f a0_0).bind fun t135 => (some (a0_0, Go.bits .or .u64 (Go.bits .andNot .u64 a0_1 (Go.bits .and .u64 (ji69) t135)) (Go.bits .and .u64 (ji71) (Go.bits .and .u64 (ji69) t135)), Go.bits .or .u64 (Go.bits .andNot .u64 a0_2 (Go.bits .and .u64 (ji69) t135)) (Go.bits .and .u64 (shr .u64 a2_2 (ji67)) (Go.bits .and .u64 (ji69) t135))))) = some (r1, r2, r3) := by (rw [hji71] at H; exact H)
      have hji71_ : (a2_1 / 2 ^ min (ji67).toNat 64) = ji71 := hji71
      have hji71z : (ji67) ≤ 64 → (a2_1 / 2 ^ (ji67).toNat) = ji71 := shr_small hji71
      have c72b0 := eq_true (of_decide_eq_true (by (with_reducible assumption)) : 0 ≤ (ji67))
      obtain ⟨ji73, hji73⟩ : ∃ j_ : Int, (shr .u64 a2_2 (ji67)) = j_ := ⟨_, rfl⟩
      replace H : ((bits_mask.f a0_0).bind fun t135 => (some (a0_0, Go.bits .or .u64 (Go.bits .andNot .u64 a0_1 (Go.bits .and .u64 (ji69) t135)) (Go.bits .and .u64 (ji71) (Go.bits .and .u64 (ji69) t135)), Go.bits .or .u64 (Go.bits .andNot .u64 a0_2 (Go.bits .and .u64 (ji69) t135)) (Go.bits .and .u64 (ji73) (Go.bits .and .u64 (ji69) t135))))) = some (r1, r2, r3) := by (rw [hji73] at H; exact H)
      have hji73_ : (a2_2 / 2 ^ min (ji67).toNat 64) = ji73 := hji73
      have hji73z : (ji67) ≤ 64 → (a2_2 / 2 ^ (ji67).toNat) = ji73 := shr_small hji73
      replace H := bN H; obtain ⟨t135, A74, H⟩ := H
      replace H := s3 H; obtain ⟨rfl, rfl, rfl⟩ := H
      have hnb75 := NB124_123.out
      have hnc75 := NB123_124.out
      have hnb76 := NB124_125.out
      have hnc76 := NB125_124.out
      obtain ⟨hcz77_0, hcz77_1, hcz77_2, hfz77_0, hfz77_1, hfz77_2⟩ := cf3 BK124
      go_wp2
      repeat (go_quiet ((go_at_call 58; (with_reducible refine (bits_mask.calls a2_0 t134 _ A65.out).mono ?_); rintro e w' ⟨rfl, ⟨nd, rfl⟩⟩; (try exact ⟨rfl, _, World.drewN_drewN _ _ _⟩); have hnb78 := NB123_125.out; have hnc78 := NB125_123.out; obtain ⟨hcz79_0, hcz79_1, hcz79_2, hfz79_0, hfz79_1, hfz79_2⟩ := cf3 BK123)); try go_wp2_with ((go_at_call 58; (with_reducible refine (bits_mask.calls a0_0 t135 _ A74.out).mono ?_); rintro e w' ⟨rfl, ⟨nd, rfl⟩⟩; obtain ⟨hcz80_0, hcz80_1, hcz80_2, hfz80_0, hfz80_1, hfz80_2⟩ := cf3 BK125)))
      refine retA gb125 24 #[.int .i64 a0_0, .int .u64 (Go.bits .or .u64 (Go.bits .andNot .u64 a0_1 (Go.bits .and .u64 (ji69) t135)) (Go.bits .and .u64 (ji71) (Go.bits .and .u64 (ji69) t135))), .int .u64 (Go.bits .or .u64 (Go.bits .andNot .u64 a0_2 (Go.bits .and .u64 (ji69) t135)) (Go.bits .and .u64 (ji73) (Go.bits .and .u64 (ji69) t135)))] (put3 BK125) Tryd.underlying24 ?_
      exact ⟨by rfl, by repeat (with_reducible first | exact HB.out | apply pw_below_drewN | refine below_set ?_ GE125.out)⟩
     ·rw [if_neg c68] at H
      exact absurd H (by simp)
    ·by_cases c81 : 0 ≤ a1
     ·rw [if_pos c81] at H
      have c81b0 := eq_true c81
      have c81b1 : decide (0 ≤ a1) = true := decide_eq_true c81
      clear c81
      obtain ⟨ji82, hji82⟩ : ∃ j_ : Int, (shl .u64 t134 a1) = j_ := ⟨_, rfl⟩
      replace H : ((bits_mask.f a0_0).bind fun t136 => (some (a0_0, Go.bits .or .u64 (Go.bits .andNot .u64 a0_1 (Go.bits .and .u64 (ji82) t136)) (Go.bits .and .u64 (shl .u64 a2_1 a1) (Go.bits .and .u64 (ji82) t136)), Go.bits .or .u64 (Go.bits .andNot .u64 a0_2 (Go.bits .and .u64 (ji82) t136)) (Go.bits .and .u64 (shl .u64 a2_2 a1) (Go.bits .and .u64 (ji82) t136))))) = some (r1, r2, r3) := by (rw [hji82] at H; exact H)
      have hji82_ : (IntKind.u64.wrap (t134 * 2 ^ min a1.toNat 64)) = ji82 := hji82
      have hji82z : a1 ≤ 64 → (IntKind.u64.wrap (t134 * 2 ^ a1.toNat)) = ji82 := shl_small hji82
      have c83b0 := eq_true (of_decide_eq_true (by (with_reducible assumption)) : 0 ≤ a1)
      obtain ⟨ji84, hji84⟩ : ∃ j_ : Int, (shl .u64 a2_1 a1) = j_ := ⟨_, rfl⟩
      replace H : ((bits_mask.f a0_0).bind fun t136 => (some (a0_0, Go.bits .or .u64 (Go.bits .andNot .u64 a0_1 (Go.bits .and .u64 (ji82) t136)) (Go.bits .and .u64 (ji84) (Go.bits .and .u64 (ji82) t136)), Go.bits .or .u64 (Go.bits .andNot .u64 a0_2 (Go.bits .and .u64 (ji82) t136)) (Go.bits .and .u64 (shl .u64 a2_2 a1) (Go.bits .and .u64 (ji82) t136))))) = some (r1, r2, r3) := by (rw [hji84] at H; exact H)
      have hji84_ : (IntKind.u64.wrap (a2_1 * 2 ^ min a1.toNat 64)) = ji84 := hji84
      have hji84z : a1 ≤ 64 → (IntKind.u64.wrap (a2_1 * 2 ^ a1.toNat)) = ji84 := shl_small hji84
      have c85b0 := eq_true (of_decide_eq_true (by (with_reducible assumption)) : 0 ≤ a1)
      obtain ⟨ji86, hji86⟩ : ∃ j_ : Int, (shl .u64 a2_2 a1) = j_ := ⟨_, rfl⟩
      replace H : ((bits_mask.f a0_0).bind fun t136 => (some (a0_0, Go.bits .or .u64 (Go.bits .andNot .u64 a0_1 (Go.bits .and .u64 (ji82) t136)) (Go.bits .and .u64 (ji84) (Go.bits .and .u64 (ji82) t136)), Go.bits .or .u64 (Go.bits .andNot .u64 a0_2 (Go.bits .and .u64 (ji82) t136)) (Go.bits .and .u64 (ji86) (Go.bits .and .u64 (ji82) t136))))) = some (r1, r2, r3) := by (rw [hji86] at H; exact H)
      have hji86_ : (IntKind.u64.wrap (a2_2 * 2 ^ min a1.toNat 64)) = ji86 := hji86
      have hji86z : a1 ≤ 64 → (IntKind.u64.wrap (a2_2 * 2 ^ a1.toNat)) = ji86 := shl_small hji86
      replace H := bN H; obtain ⟨t136, A87, H⟩ := H
      replace H := s3 H; obtain ⟨rfl, rfl, rfl⟩ := H
      have hnb88 := NB124_123.out
      have hnc88 := NB123_124.out
      have hnb89 := NB124_125.out
      have hnc89 := NB125_124.out
      obtain ⟨hcz90_0, hcz90_1, hcz90_2, hfz90_0, hfz90_1, hfz90_2⟩ := cf3 BK124
      go_wp2
      repeat (go_quiet ((go_at_call 58; (with_reducible refine (bits_mask.calls a2_0 t134 _ A65.out).mono ?_); rintro e w' ⟨rfl, ⟨nd, rfl⟩⟩; (try exact ⟨rfl, _, World.drewN_drewN _ _ _⟩); have hnb91 := NB123_125.out; have hnc91 := NB125_123.out; obtain ⟨hcz92_0, hcz92_1, hcz92_2, hfz92_0, hfz92_1, hfz92_2⟩ := cf3 BK123)); try go_wp2_with ((go_at_call 58; (with_reducible refine (bits_mask.calls a0_0 t136 _ A87.out).mono ?_); rintro e w' ⟨rfl, ⟨nd, rfl⟩⟩; obtain ⟨hcz93_0, hcz93_1, hcz93_2, hfz93_0, hfz93_1, hfz93_2⟩ := cf3 BK125)))
      refine retA gb125 24 #[.int .i64 a0_0, .int .u64 (Go.bits .or .u64 (Go.bits .andNot .u64 a0_1 (Go.bits .and .u64 (ji82) t136)) (Go.bits .and .u64 (ji84) (Go.bits .and .u64 (ji82) t136))), .int .u64 (Go.bits .or .u64 (Go.bits .andNot .u64 a0_2 (Go.bits .and .u64 (ji82) t136)) (Go.bits .and .u64 (ji86) (Go.bits .and .u64 (ji82) t136)))] (put3 BK125) Tryd.underlying24 ?_
      exact ⟨by rfl, by repeat (with_reducible first | exact HB.out | apply pw_below_drewN | refine below_set ?_ GE125.out)⟩
     ·rw [if_neg c81] at H
      exact absurd H (by simp)
end Go.Proofs.YtfigblfjogpojaaDoor.PBits
end
