/- Part 32 of the proof of BitsJoinedCardSaid: The law BitsJoined: for all arguments it returns true; each argument reads behind the call as it read before. Out of the plain theorem of YtfigblfjogpojaaGreatDoorPureBitsJoined and the printed contract. -/
import Derived.Test.YtfigblfjogpojaaGreatDoorQBitsJoined13
import Derived.Test.YtfigblfjogpojaaGreatDoorQBitsJoined16
import Derived.Test.YtfigblfjogpojaaGreatDoorQBitsJoined20
import Derived.Test.YtfigblfjogpojaaGreatDoorQBitsJoined15
import Derived.Test.YtfigblfjogpojaaGreatDoorQBitsJoined29
import Derived.Test.YtfigblfjogpojaaGreatDoorQBitsJoined18
import Derived.Test.YtfigblfjogpojaaGreatDoorQBitsJoined23
section
namespace Go.Proofs.YtfigblfjogpojaaGreatDoor.PBits
open Go.RowKit Go.Proofs.YtfigblfjogpojaaGreatDoorW.PrintWords Go.Proofs.YtfigblfjogpojaaGreatDoorW.PrintLast Go.Proofs.YtfigblfjogpojaaGreatDoorW.PrintMore
attribute [local go_sem] max2_int min2_int max_two min_two max_three min_three max_four min_four
set_option linter.unusedVariables false
set_option linter.unusedSimpArgs false
@[go_sem] theorem sq_max4 : (if IntKind.u64.signed = true then (-1 : Int) else IntKind.u64.max) = 18446744073709551615 := rfl
def bits_Not.f (k : Nat) (a0_0 : Int) (a0_1 : Int) (a0_2 : Int) : Option (Int × Int × Int) := (bits_valid.f k (([(⟨a0_0, a0_1, a0_2⟩ : S24)] : List (S24)))).bind fun t114 => (if t114 = true then ((bits_make3.f a0_0 (Go.bits .andNot .u64 (Go.bits .xor .u64 18446744073709551615 a0_1) a0_2) a0_2).bind fun bt115 => (some (bt115.1, bt115.2.1, bt115.2.2))) else (some (0, 0, 0)))
set_option maxHeartbeats 8000000 in
set_option maxRecDepth 100000 in
theorem bits_Not.calls (k : Nat) (a0_0 : Int) (a0_1 : Int) (a0_2 : Int) (r1 : Int) (r2 : Int) (r3 : Int) (w : World) (h : bits_Not.f k a0_0 a0_1 a0_2 = some (r1, r2, r3)) :
  Calls Tryz.prog 4 #[.agg #[.int .i64 a0_0, .int .u64 a0_1, .int .u64 a0_2]] w fun e w' => e = .returned (.agg #[.int .i64 r1, .int .u64 r2, .int .u64 r3]) ∧ Below w.heap.size w w' := by
 have hu24 := Tryz.underlying24
 have HB := Aside0.mk (Below.refl w.heap.size w)
 have H := h
 clear h
 unfold bits_Not.f at H
 obtain ⟨y111, hy111⟩ : ∃ y_ : List (S24), y_ = ([(⟨a0_0, a0_1, a0_2⟩ : S24)] : List (S24)) := ⟨_, rfl⟩
 replace H : ((bits_valid.f k y111).bind fun t114 => (if t114 = true then ((bits_make3.f a0_0 (Go.bits .andNot .u64 (Go.bits .xor .u64 18446744073709551615 a0_1) a0_2) a0_2).bind fun bt115 => (some (bt115.1, bt115.2.1, bt115.2.2))) else (some (0, 0, 0)))) = some (r1, r2, r3) := by (rw [hy111]; with_reducible exact H)
 have Ny111 := Aside0.mk hy111
 clear hy111
 replace H := bN H; obtain ⟨t114, A2, H⟩ := H
 replace H := iB H; rcases H with ⟨rfl, H⟩ | ⟨rfl, H⟩
 ·replace H := bN H; obtain ⟨⟨t115, t116, t117⟩, A4, H⟩ := H; dsimp only at H
  replace H := s3 H; obtain ⟨rfl, rfl, rfl⟩ := H
  go_enter Tryz.func4, Tryz.ntmps4
  go_wp2_with (first | (refine boxA HB 1 #[.int .i64 a0_0, .int .u64 a0_1, .int .u64 a0_2] 24 ?_; clear HB; intro gb109 w5 BK109 GE109 hg hb HB; clear hb hg) | (refine boxA HB 2 #[.int .i64 0, .int .u64 0, .int .u64 0] 24 ?_; clear HB; intro gb110 w6 BK110 GE110 hg hb HB; have NB109_110 := nbA BK109 hg; have NB110_109 := nbB BK109 hg; replace BK109 := bk1 BK109 hb; clear hb hg; have hnb7 := NB109_110.out; have hnc7 := NB110_109.out; obtain ⟨hcz8_0, hcz8_1, hcz8_2, hfz8_0, hfz8_1, hfz8_2⟩ := cf3 BK109) | ((with_reducible refine gate_dst (N := 4) rfl ?_); refine Kd.R_lit k24 _ 24 ?hg (N := 4) ?hd (xs := ([(⟨a0_0, a0_1, a0_2⟩ : S24)] : List (S24))) (inner := [.int .i64 a0_0, .int .u64 a0_1, .int .u64 a0_2]) (ok := fun _ => True) (okp := fun _ => True) ?hr ?hp (fun _ hk => hk) trivial (Below.refl _ _) (Nat.le_refl _) (by simp) ?_; (case hd => rfl); (case hg => rfl); (case hr => (go_simp; done)); (case hp => exact (Reps.c3 (show Kd.M k24 _ _ _ (⟨a0_0, a0_1, a0_2⟩ : S24) [.int .i64 a0_0, .int .u64 a0_1, .int .u64 a0_2] from (k24_mkM _ _ _ (⟨a0_0, a0_1, a0_2⟩ : S24) )) (Reps.none _ _))); intro v112 w9 ho10 hb hg_ hnew_; clear hg_ hnew_; (rw [← Ny111.out] at ho10); have HO113 := Aside0.mk (Kd.R_lower (Kd.R_newB (Kd.R_newB ho10 BK109.out) BK110.out) (below_size HB.out)); replace BK109 := bk1 BK109 hb; replace BK110 := bk1 BK110 hb; replace HB := hb1 HB hb; clear hb ho10; obtain ⟨Ao11, co11, eo11⟩ := Kd.R_slice HO113.out; subst eo11) | (refine callA (some 5) Tryz.func15 #[.slice Ao11 y111.length co11] ?_; (with_reducible refine (bits_valid.calls k _ _ y111 true _ ?side1 ?side2 A2.out).mono ?_); (case side1 => exact (Kd.R_reads' HO113.out).2.2); (case side2 => exact (Kd.R_reads' HO113.out).2.1); rintro e w12 ⟨rfl, hb⟩; refine ⟨_, rfl, ?_⟩; replace HO113 := Kd.rb1 HO113 hb; replace BK109 := bk1 BK109 hb; replace BK110 := bk1 BK110 hb; replace HB := hb1 HB hb; (try clear hb); obtain ⟨hcz13_0, hcz13_1, hcz13_2, hfz13_0, hfz13_1, hfz13_2⟩ := cf3 BK109) | (refine callA (some 18) Tryz.func16 #[.int .i64 a0_0, .int .u64 (Go.bits .andNot .u64 (Go.bits .xor .u64 18446744073709551615 a0_1) a0_2), .int .u64 a0_2] ?_; (with_reducible refine (bits_make3.calls a0_0 (Go.bits .andNot .u64 (Go.bits .xor .u64 18446744073709551615 a0_1) a0_2) a0_2 t115 t116 t117 _ A4.out).mono ?_); rintro e w14 ⟨rfl, hb⟩; refine ⟨_, rfl, ?_⟩; replace HO113 := Kd.rb1 HO113 hb; replace BK109 := bk1 BK109 hb; replace BK110 := bk1 BK110 hb; replace HB := hb1 HB hb; (try clear hb); obtain ⟨hcz15_0, hcz15_1, hcz15_2, hfz15_0, hfz15_1, hfz15_2⟩ := cf3 BK110))
  refine retA gb110 24 #[.int .i64 t115, .int .u64 t116, .int .u64 t117] (put3 BK110) Tryz.underlying24 ?_
  exact ⟨by rfl, by repeat (with_reducible first | exact HB.out | refine below_set ?_ GE110.out)⟩
 ·replace H := s3 H; obtain ⟨rfl, rfl, rfl⟩ := H
  go_enter Tryz.func4, Tryz.ntmps4
  go_wp2_with (first | (refine boxA HB 1 #[.int .i64 a0_0, .int .u64 a0_1, .int .u64 a0_2] 24 ?_; clear HB; intro gb109 w16 BK109 GE109 hg hb HB; clear hb hg) | (refine boxA HB 2 #[.int .i64 0, .int .u64 0, .int .u64 0] 24 ?_; clear HB; intro gb110 w17 BK110 GE110 hg hb HB; have NB109_110 := nbA BK109 hg; have NB110_109 := nbB BK109 hg; replace BK109 := bk1 BK109 hb; clear hb hg; have hnb18 := NB109_110.out; have hnc18 := NB110_109.out; obtain ⟨hcz19_0, hcz19_1, hcz19_2, hfz19_0, hfz19_1, hfz19_2⟩ := cf3 BK109) | ((with_reducible refine gate_dst (N := 4) rfl ?_); refine Kd.R_lit k24 _ 24 ?hg (N := 4) ?hd (xs := ([(⟨a0_0, a0_1, a0_2⟩ : S24)] : List (S24))) (inner := [.int .i64 a0_0, .int .u64 a0_1, .int .u64 a0_2]) (ok := fun _ => True) (okp := fun _ => True) ?hr ?hp (fun _ hk => hk) trivial (Below.refl _ _) (Nat.le_refl _) (by simp) ?_; (case hd => rfl); (case hg => rfl); (case hr => (go_simp; done)); (case hp => exact (Reps.c3 (show Kd.M k24 _ _ _ (⟨a0_0, a0_1, a0_2⟩ : S24) [.int .i64 a0_0, .int .u64 a0_1, .int .u64 a0_2] from (k24_mkM _ _ _ (⟨a0_0, a0_1, a0_2⟩ : S24) )) (Reps.none _ _))); intro v112 w20 ho21 hb hg_ hnew_; clear hg_ hnew_; (rw [← Ny111.out] at ho21); have HO113 := Aside0.mk (Kd.R_lower (Kd.R_newB (Kd.R_newB ho21 BK109.out) BK110.out) (below_size HB.out)); replace BK109 := bk1 BK109 hb; replace BK110 := bk1 BK110 hb; replace HB := hb1 HB hb; clear hb ho21; obtain ⟨Ao22, co22, eo22⟩ := Kd.R_slice HO113.out; subst eo22) | (refine callA (some 5) Tryz.func15 #[.slice Ao22 y111.length co22] ?_; (with_reducible refine (bits_valid.calls k _ _ y111 false _ ?side1 ?side2 A2.out).mono ?_); (case side1 => exact (Kd.R_reads' HO113.out).2.2); (case side2 => exact (Kd.R_reads' HO113.out).2.1); rintro e w23 ⟨rfl, hb⟩; refine ⟨_, rfl, ?_⟩; replace HO113 := Kd.rb1 HO113 hb; replace BK109 := bk1 BK109 hb; replace BK110 := bk1 BK110 hb; replace HB := hb1 HB hb; (try clear hb); obtain ⟨hcz24_0, hcz24_1, hcz24_2, hfz24_0, hfz24_1, hfz24_2⟩ := cf3 BK110))
  refine retA gb110 24 #[.int .i64 0, .int .u64 0, .int .u64 0] (put3 BK110) Tryz.underlying24 ?_
  exact ⟨by rfl, by repeat (with_reducible first | exact HB.out | refine below_set ?_ GE110.out)⟩
end Go.Proofs.YtfigblfjogpojaaGreatDoor.PBits
end
section
namespace Go.Proofs.YtfigblfjogpojaaGreatDoor.PBits
open Go.RowKit Go.Proofs.YtfigblfjogpojaaGreatDoorW.PrintWords Go.Proofs.YtfigblfjogpojaaGreatDoorW.PrintLast Go.Proofs.YtfigblfjogpojaaGreatDoorW.PrintMore
attribute [local go_sem] max2_int min2_int max_two min_two max_three min_three max_four min_four
set_option linter.unusedVariables false
set_option linter.unusedSimpArgs false
@[go_sem] theorem sq_max5 : (if IntKind.u64.signed = true then (-1 : Int) else IntKind.u64.max) = 18446744073709551615 := rfl
def bits_RedAnd.f (k : Nat) (a0_0 : Int) (a0_1 : Int) (a0_2 : Int) : Option (Int × Int × Int) := (bits_valid.f k (([(⟨a0_0, a0_1, a0_2⟩ : S24)] : List (S24)))).bind fun t124 => (if t124 = true then ((bits_mask.f a0_0).bind fun t125 => (if (Go.bits .and .u64 (Go.bits .andNot .u64 (Go.bits .xor .u64 18446744073709551615 a0_1) a0_2) t125) = 0 then (if a0_2 = 0 then ((bits_truth.f 1).bind fun bt126 => (some (bt126.1, bt126.2.1, bt126.2.2))) else ((bits_truth.f (-1)).bind fun bt129 => (some (bt129.1, bt129.2.1, bt129.2.2)))) else ((bits_truth.f 0).bind fun bt132 => (some (bt132.1, bt132.2.1, bt132.2.2))))) else (some (0, 0, 0)))
set_option maxHeartbeats 8000000 in
set_option maxRecDepth 100000 in
theorem bits_RedAnd.calls (k : Nat) (a0_0 : Int) (a0_1 : Int) (a0_2 : Int) (r1 : Int) (r2 : Int) (r3 : Int) (w : World) (h : bits_RedAnd.f k a0_0 a0_1 a0_2 = some (r1, r2, r3)) :
  Calls Tryz.prog 5 #[.agg #[.int .i64 a0_0, .int .u64 a0_1, .int .u64 a0_2]] w fun e w' => e = .returned (.agg #[.int .i64 r1, .int .u64 r2, .int .u64 r3]) ∧ Below w.heap.size w w' := by
 have hu24 := Tryz.underlying24
 have HB := Aside0.mk (Below.refl w.heap.size w)
 have H := h
 clear h
 unfold bits_RedAnd.f at H
 obtain ⟨y121, hy121⟩ : ∃ y_ : List (S24), y_ = ([(⟨a0_0, a0_1, a0_2⟩ : S24)] : List (S24)) := ⟨_, rfl⟩
 replace H : ((bits_valid.f k y121).bind fun t124 => (if t124 = true then ((bits_mask.f a0_0).bind fun t125 => (if (Go.bits .and .u64 (Go.bits .andNot .u64 (Go.bits .xor .u64 18446744073709551615 a0_1) a0_2) t125) = 0 then (if a0_2 = 0 then ((bits_truth.f 1).bind fun bt126 => (some (bt126.1, bt126.2.1, bt126.2.2))) else ((bits_truth.f (-1)).bind fun bt129 => (some (bt129.1, bt129.2.1, bt129.2.2)))) else ((bits_truth.f 0).bind fun bt132 => (some (bt132.1, bt132.2.1, bt132.2.2))))) else (some (0, 0, 0)))) = some (r1, r2, r3) := by (rw [hy121]; with_reducible exact H)
 have Ny121 := Aside0.mk hy121
 clear hy121
 replace H := bN H; obtain ⟨t124, A2, H⟩ := H
 replace H := iB H; rcases H with ⟨rfl, H⟩ | ⟨rfl, H⟩
 ·replace H := bN H; obtain ⟨t125, A4, H⟩ := H
  replace H := iE H; rcases H with ⟨c5b0, c5b1, H⟩ | ⟨c5, c5b0, c5b1, H⟩
  ·replace H := iE H; rcases H with ⟨c6b0, c6b1, H⟩ | ⟨c6, c6b0, c6b1, H⟩
   ·replace H := bN H; obtain ⟨⟨t126, t127, t128⟩, A7, H⟩ := H; dsimp only at H
    replace H := s3 H; obtain ⟨rfl, rfl, rfl⟩ := H
    go_enter Tryz.func5, Tryz.ntmps5
    go_wp2_with (first | (refine boxA HB 1 #[.int .i64 a0_0, .int .u64 a0_1, .int .u64 a0_2] 24 ?_; clear HB; intro gb119 w8 BK119 GE119 hg hb HB; clear hb hg) | (refine boxA HB 2 #[.int .i64 0, .int .u64 0, .int .u64 0] 24 ?_; clear HB; intro gb120 w9 BK120 GE120 hg hb HB; have NB119_120 := nbA BK119 hg; have NB120_119 := nbB BK119 hg; replace BK119 := bk1 BK119 hb; clear hb hg; have hnb10 := NB119_120.out; have hnc10 := NB120_119.out; obtain ⟨hcz11_0, hcz11_1, hcz11_2, hfz11_0, hfz11_1, hfz11_2⟩ := cf3 BK119) | ((with_reducible refine gate_dst (N := 5) rfl ?_); refine Kd.R_lit k24 _ 24 ?hg (N := 5) ?hd (xs := ([(⟨a0_0, a0_1, a0_2⟩ : S24)] : List (S24))) (inner := [.int .i64 a0_0, .int .u64 a0_1, .int .u64 a0_2]) (ok := fun _ => True) (okp := fun _ => True) ?hr ?hp (fun _ hk => hk) trivial (Below.refl _ _) (Nat.le_refl _) (by simp) ?_; (case hd => rfl); (case hg => rfl); (case hr => (go_simp; done)); (case hp => exact (Reps.c3 (show Kd.M k24 _ _ _ (⟨a0_0, a0_1, a0_2⟩ : S24) [.int .i64 a0_0, .int .u64 a0_1, .int .u64 a0_2] from (k24_mkM _ _ _ (⟨a0_0, a0_1, a0_2⟩ : S24) )) (Reps.none _ _))); intro v122 w12 ho13 hb hg_ hnew_; clear hg_ hnew_; (rw [← Ny121.out] at ho13); have HO123 := Aside0.mk (Kd.R_lower (Kd.R_newB (Kd.R_newB ho13 BK119.out) BK120.out) (below_size HB.out)); replace BK119 := bk1 BK119 hb; replace BK120 := bk1 BK120 hb; replace HB := hb1 HB hb; clear hb ho13; obtain ⟨Ao14, co14, eo14⟩ := Kd.R_slice HO123.out; subst eo14) | (go_at_call 15; (with_reducible refine (bits_valid.calls k _ _ y121 true _ ?side1 ?side2 A2.out).mono ?_); (case side1 => exact (Kd.R_reads' HO123.out).2.2); (case side2 => exact (Kd.R_reads' HO123.out).2.1); rintro e w15 ⟨rfl, hb⟩; replace HO123 := Kd.rb1 HO123 hb; replace BK119 := bk1 BK119 hb; replace BK120 := bk1 BK120 hb; replace HB := hb1 HB hb; (try clear hb); obtain ⟨hcz16_0, hcz16_1, hcz16_2, hfz16_0, hfz16_1, hfz16_2⟩ := cf3 BK119))
    repeat (go_quiet ((go_at_call 17; (with_reducible refine (bits_mask.calls a0_0 t125 _ A4.out).mono ?_); rintro e w' ⟨rfl, ⟨nd, rfl⟩⟩; (try exact ⟨rfl, _, World.drewN_drewN _ _ _⟩))); try go_wp2_with ((go_at_call 18; (with_reducible refine (bits_truth.calls 1 t126 t127 t128 _ A7.out).mono ?_); rintro e w17 ⟨rfl, hb⟩; replace HO123 := Kd.rb1 HO123 hb; replace BK119 := bk1 BK119 hb; replace BK120 := bk1 BK120 hb; replace HB := hb1 HB hb; (try clear hb); obtain ⟨hcz18_0, hcz18_1, hcz18_2, hfz18_0, hfz18_1, hfz18_2⟩ := cf3 BK120)))
    refine retA gb120 24 #[.int .i64 t126, .int .u64 t127, .int .u64 t128] (put3 BK120) Tryz.underlying24 ?_
    exact ⟨by rfl, by repeat (with_reducible first | exact HB.out | refine below_set ?_ GE120.out)⟩
   ·replace H := bN H; obtain ⟨⟨t129, t130, t131⟩, A19, H⟩ := H; dsimp only at H
    replace H := s3 H; obtain ⟨rfl, rfl, rfl⟩ := H
    go_enter Tryz.func5, Tryz.ntmps5
    go_wp2_with (first | (refine boxA HB 1 #[.int .i64 a0_0, .int .u64 a0_1, .int .u64 a0_2] 24 ?_; clear HB; intro gb119 w20 BK119 GE119 hg hb HB; clear hb hg) | (refine boxA HB 2 #[.int .i64 0, .int .u64 0, .int .u64 0] 24 ?_; clear HB; intro gb120 w21 BK120 GE120 hg hb HB; have NB119_120 := nbA BK119 hg; have NB120_119 := nbB BK119 hg; replace BK119 := bk1 BK119 hb; clear hb hg; have hnb22 := NB119_120.out; have hnc22 := NB120_119.out; obtain ⟨hcz23_0, hcz23_1, hcz23_2, hfz23_0, hfz23_1, hfz23_2⟩ := cf3 BK119) | ((with_reducible refine gate_dst (N := 5) rfl ?_); refine Kd.R_lit k24 _ 24 ?hg (N := 5) ?hd (xs := ([(⟨a0_0, a0_1, a0_2⟩ : S24)] : List (S24))) (inner := [.int .i64 a0_0, .int .u64 a0_1, .int .u64 a0_2]) (ok := fun _ => True) (okp := fun _ => True) ?hr ?hp (fun _ hk => hk) trivial (Below.refl _ _) (Nat.le_refl _) (by simp) ?_; (case hd => rfl); (case hg => rfl); (case hr => (go_simp; done)); (case hp => exact (Reps.c3 (show Kd.M k24 _ _ _ (⟨a0_0, a0_1, a0_2⟩ : S24) [.int .i64 a0_0, .int .u64 a0_1, .int .u64 a0_2] from (k24_mkM _ _ _ (⟨a0_0, a0_1, a0_2⟩ : S24) )) (Reps.none _ _))); intro v122 w24 ho25 hb hg_ hnew_; clear hg_ hnew_; (rw [← Ny121.out] at ho25); have HO123 := Aside0.mk (Kd.R_lower (Kd.R_newB (Kd.R_newB ho25 BK119.out) BK120.out) (below_size HB.out)); replace BK119 := bk1 BK119 hb; replace BK120 := bk1 BK120 hb; replace HB := hb1 HB hb; clear hb ho25; obtain ⟨Ao26, co26, eo26⟩ := Kd.R_slice HO123.out; subst eo26) | (go_at_call 15; (with_reducible refine (bits_valid.calls k _ _ y121 true _ ?side1 ?side2 A2.out).mono ?_); (case side1 => exact (Kd.R_reads' HO123.out).2.2); (case side2 => exact (Kd.R_reads' HO123.out).2.1); rintro e w27 ⟨rfl, hb⟩; replace HO123 := Kd.rb1 HO123 hb; replace BK119 := bk1 BK119 hb; replace BK120 := bk1 BK120 hb; replace HB := hb1 HB hb; (try clear hb); obtain ⟨hcz28_0, hcz28_1, hcz28_2, hfz28_0, hfz28_1, hfz28_2⟩ := cf3 BK119))
    repeat (go_quiet ((go_at_call 17; (with_reducible refine (bits_mask.calls a0_0 t125 _ A4.out).mono ?_); rintro e w' ⟨rfl, ⟨nd, rfl⟩⟩; (try exact ⟨rfl, _, World.drewN_drewN _ _ _⟩))); try go_wp2_with ((go_at_call 18; (with_reducible refine (bits_truth.calls (-1) t129 t130 t131 _ A19.out).mono ?_); rintro e w29 ⟨rfl, hb⟩; replace HO123 := Kd.rb1 HO123 hb; replace BK119 := bk1 BK119 hb; replace BK120 := bk1 BK120 hb; replace HB := hb1 HB hb; (try clear hb); obtain ⟨hcz30_0, hcz30_1, hcz30_2, hfz30_0, hfz30_1, hfz30_2⟩ := cf3 BK120)))
    refine retA gb120 24 #[.int .i64 t129, .int .u64 t130, .int .u64 t131] (put3 BK120) Tryz.underlying24 ?_
    exact ⟨by rfl, by repeat (with_reducible first | exact HB.out | refine below_set ?_ GE120.out)⟩
  ·replace H := bN H; obtain ⟨⟨t132, t133, t134⟩, A31, H⟩ := H; dsimp only at H
   replace H := s3 H; obtain ⟨rfl, rfl, rfl⟩ := H
   go_enter Tryz.func5, Tryz.ntmps5
   go_wp2_with (first | (refine boxA HB 1 #[.int .i64 a0_0, .int .u64 a0_1, .int .u64 a0_2] 24 ?_; clear HB; intro gb119 w32 BK119 GE119 hg hb HB; clear hb hg) | (refine boxA HB 2 #[.int .i64 0, .int .u64 0, .int .u64 0] 24 ?_; clear HB; intro gb120 w33 BK120 GE120 hg hb HB; have NB119_120 := nbA BK119 hg; have NB120_119 := nbB BK119 hg; replace BK119 := bk1 BK119 hb; clear hb hg; have hnb34 := NB119_120.out; have hnc34 := NB120_119.out; obtain ⟨hcz35_0, hcz35_1, hcz35_2, hfz35_0, hfz35_1, hfz35_2⟩ := cf3 BK119) | ((with_reducible refine gate_dst (N := 5) rfl ?_); refine Kd.R_lit k24 _ 24 ?hg (N := 5) ?hd (xs := ([(⟨a0_0, a0_1, a0_2⟩ : S24)] : List (S24))) (inner := [.int .i64 a0_0, .int .u64 a0_1, .int .u64 a0_2]) (ok := fun _ => True) (okp := fun _ => True) ?hr ?hp (fun _ hk => hk) trivial (Below.refl _ _) (Nat.le_refl _) (by simp) ?_; (case hd => rfl); (case hg => rfl); (case hr => (go_simp; done)); (case hp => exact (Reps.c3 (show Kd.M k24 _ _ _ (⟨a0_0, a0_1, a0_2⟩ : S24) [.int .i64 a0_0, .int .u64 a0_1, .int .u64 a0_2] from (k24_mkM _ _ _ (⟨a0_0, a0_1, a0_2⟩ : S24) )) (Reps.none _ _))); intro v122 w36 ho37 hb hg_ hnew_; clear hg_ hnew_; (rw [← Ny121.out] at ho37); have HO123 := Aside0.mk (Kd.R_lower (Kd.R_newB (Kd.R_newB ho37 BK119.out) BK120.out) (below_size HB.out)); replace BK119 := bk1 BK119 hb; replace BK120 := bk1 BK120 hb; replace HB := hb1 HB hb; clear hb ho37; obtain ⟨Ao38, co38, eo38⟩ := Kd.R_slice HO123.out; subst eo38) | (go_at_call 15; (with_reducible refine (bits_valid.calls k _ _ y121 true _ ?side1 ?side2 A2.out).mono ?_); (case side1 => exact (Kd.R_reads' HO123.out).2.2); (case side2 => exact (Kd.R_reads' HO123.out).2.1); rintro e w39 ⟨rfl, hb⟩; replace HO123 := Kd.rb1 HO123 hb; replace BK119 := bk1 BK119 hb; replace BK120 := bk1 BK120 hb; replace HB := hb1 HB hb; (try clear hb); obtain ⟨hcz40_0, hcz40_1, hcz40_2, hfz40_0, hfz40_1, hfz40_2⟩ := cf3 BK119))
   repeat (go_quiet ((go_at_call 17; (with_reducible refine (bits_mask.calls a0_0 t125 _ A4.out).mono ?_); rintro e w' ⟨rfl, ⟨nd, rfl⟩⟩; (try exact ⟨rfl, _, World.drewN_drewN _ _ _⟩))); try go_wp2_with ((go_at_call 18; (with_reducible refine (bits_truth.calls 0 t132 t133 t134 _ A31.out).mono ?_); rintro e w41 ⟨rfl, hb⟩; replace HO123 := Kd.rb1 HO123 hb; replace BK119 := bk1 BK119 hb; replace BK120 := bk1 BK120 hb; replace HB := hb1 HB hb; (try clear hb); obtain ⟨hcz42_0, hcz42_1, hcz42_2, hfz42_0, hfz42_1, hfz42_2⟩ := cf3 BK120)))
   refine retA gb120 24 #[.int .i64 t132, .int .u64 t133, .int .u64 t134] (put3 BK120) Tryz.underlying24 ?_
   exact ⟨by rfl, by repeat (with_reducible first | exact HB.out | refine below_set ?_ GE120.out)⟩
 ·replace H := s3 H; obtain ⟨rfl, rfl, rfl⟩ := H
  go_enter Tryz.func5, Tryz.ntmps5
  go_wp2_with (first | (refine boxA HB 1 #[.int .i64 a0_0, .int .u64 a0_1, .int .u64 a0_2] 24 ?_; clear HB; intro gb119 w43 BK119 GE119 hg hb HB; clear hb hg) | (refine boxA HB 2 #[.int .i64 0, .int .u64 0, .int .u64 0] 24 ?_; clear HB; intro gb120 w44 BK120 GE120 hg hb HB; have NB119_120 := nbA BK119 hg; have NB120_119 := nbB BK119 hg; replace BK119 := bk1 BK119 hb; clear hb hg; have hnb45 := NB119_120.out; have hnc45 := NB120_119.out; obtain ⟨hcz46_0, hcz46_1, hcz46_2, hfz46_0, hfz46_1, hfz46_2⟩ := cf3 BK119) | ((with_reducible refine gate_dst (N := 5) rfl ?_); refine Kd.R_lit k24 _ 24 ?hg (N := 5) ?hd (xs := ([(⟨a0_0, a0_1, a0_2⟩ : S24)] : List (S24))) (inner := [.int .i64 a0_0, .int .u64 a0_1, .int .u64 a0_2]) (ok := fun _ => True) (okp := fun _ => True) ?hr ?hp (fun _ hk => hk) trivial (Below.refl _ _) (Nat.le_refl _) (by simp) ?_; (case hd => rfl); (case hg => rfl); (case hr => (go_simp; done)); (case hp => exact (Reps.c3 (show Kd.M k24 _ _ _ (⟨a0_0, a0_1, a0_2⟩ : S24) [.int .i64 a0_0, .int .u64 a0_1, .int .u64 a0_2] from (k24_mkM _ _ _ (⟨a0_0, a0_1, a0_2⟩ : S24) )) (Reps.none _ _))); intro v122 w47 ho48 hb hg_ hnew_; clear hg_ hnew_; (rw [← Ny121.out] at ho48); have HO123 := Aside0.mk (Kd.R_lower (Kd.R_newB (Kd.R_newB ho48 BK119.out) BK120.out) (below_size HB.out)); replace BK119 := bk1 BK119 hb; replace BK120 := bk1 BK120 hb; replace HB := hb1 HB hb; clear hb ho48; obtain ⟨Ao49, co49, eo49⟩ := Kd.R_slice HO123.out; subst eo49) | (go_at_call 15; (with_reducible refine (bits_valid.calls k _ _ y121 false _ ?side1 ?side2 A2.out).mono ?_); (case side1 => exact (Kd.R_reads' HO123.out).2.2); (case side2 => exact (Kd.R_reads' HO123.out).2.1); rintro e w50 ⟨rfl, hb⟩; replace HO123 := Kd.rb1 HO123 hb; replace BK119 := bk1 BK119 hb; replace BK120 := bk1 BK120 hb; replace HB := hb1 HB hb; (try clear hb); obtain ⟨hcz51_0, hcz51_1, hcz51_2, hfz51_0, hfz51_1, hfz51_2⟩ := cf3 BK120))
  refine retA gb120 24 #[.int .i64 0, .int .u64 0, .int .u64 0] (put3 BK120) Tryz.underlying24 ?_
  exact ⟨by rfl, by repeat (with_reducible first | exact HB.out | refine below_set ?_ GE120.out)⟩
end Go.Proofs.YtfigblfjogpojaaGreatDoor.PBits
end
section
namespace Go.Proofs.YtfigblfjogpojaaGreatDoor.PBits
open Go.RowKit Go.Proofs.YtfigblfjogpojaaGreatDoorW.PrintWords Go.Proofs.YtfigblfjogpojaaGreatDoorW.PrintLast Go.Proofs.YtfigblfjogpojaaGreatDoorW.PrintMore
attribute [local go_sem] max2_int min2_int max_two min_two max_three min_three max_four min_four
set_option linter.unusedVariables false
set_option linter.unusedSimpArgs false
def bits_RedOr.f (k : Nat) (a0_0 : Int) (a0_1 : Int) (a0_2 : Int) : Option (Int × Int × Int) := (bits_valid.f k (([(⟨a0_0, a0_1, a0_2⟩ : S24)] : List (S24)))).bind fun t145 => (if t145 = true then ((bits_True.f k a0_0 a0_1 a0_2).bind fun t146 => ((bits_truth.f t146).bind fun bt147 => (some (bt147.1, bt147.2.1, bt147.2.2)))) else (some (0, 0, 0)))
set_option maxHeartbeats 8000000 in
set_option maxRecDepth 100000 in
theorem bits_RedOr.calls (k : Nat) (a0_0 : Int) (a0_1 : Int) (a0_2 : Int) (r1 : Int) (r2 : Int) (r3 : Int) (w : World) (h : bits_RedOr.f k a0_0 a0_1 a0_2 = some (r1, r2, r3)) :
  Calls Tryz.prog 6 #[.agg #[.int .i64 a0_0, .int .u64 a0_1, .int .u64 a0_2]] w fun e w' => e = .returned (.agg #[.int .i64 r1, .int .u64 r2, .int .u64 r3]) ∧ Below w.heap.size w w' := by
 have hu24 := Tryz.underlying24
 have HB := Aside0.mk (Below.refl w.heap.size w)
 have H := h
 clear h
 unfold bits_RedOr.f at H
 obtain ⟨y142, hy142⟩ : ∃ y_ : List (S24), y_ = ([(⟨a0_0, a0_1, a0_2⟩ : S24)] : List (S24)) := ⟨_, rfl⟩
 replace H : ((bits_valid.f k y142).bind fun t145 => (if t145 = true then ((bits_True.f k a0_0 a0_1 a0_2).bind fun t146 => ((bits_truth.f t146).bind fun bt147 => (some (bt147.1, bt147.2.1, bt147.2.2)))) else (some (0, 0, 0)))) = some (r1, r2, r3) := by (rw [hy142]; with_reducible exact H)
 have Ny142 := Aside0.mk hy142
 clear hy142
 replace H := bN H; obtain ⟨t145, A2, H⟩ := H
 replace H := iB H; rcases H with ⟨rfl, H⟩ | ⟨rfl, H⟩
 ·replace H := bN H; obtain ⟨t146, A4, H⟩ := H
  replace H := bN H; obtain ⟨⟨t147, t148, t149⟩, A5, H⟩ := H; dsimp only at H
  replace H := s3 H; obtain ⟨rfl, rfl, rfl⟩ := H
  go_enter Tryz.func6, Tryz.ntmps6
  go_wp2_with (first | (refine boxA HB 1 #[.int .i64 a0_0, .int .u64 a0_1, .int .u64 a0_2] 24 ?_; clear HB; intro gb140 w6 BK140 GE140 hg hb HB; clear hb hg) | (refine boxA HB 2 #[.int .i64 0, .int .u64 0, .int .u64 0] 24 ?_; clear HB; intro gb141 w7 BK141 GE141 hg hb HB; have NB140_141 := nbA BK140 hg; have NB141_140 := nbB BK140 hg; replace BK140 := bk1 BK140 hb; clear hb hg; have hnb8 := NB140_141.out; have hnc8 := NB141_140.out; obtain ⟨hcz9_0, hcz9_1, hcz9_2, hfz9_0, hfz9_1, hfz9_2⟩ := cf3 BK140) | ((with_reducible refine gate_dst (N := 4) rfl ?_); refine Kd.R_lit k24 _ 24 ?hg (N := 4) ?hd (xs := ([(⟨a0_0, a0_1, a0_2⟩ : S24)] : List (S24))) (inner := [.int .i64 a0_0, .int .u64 a0_1, .int .u64 a0_2]) (ok := fun _ => True) (okp := fun _ => True) ?hr ?hp (fun _ hk => hk) trivial (Below.refl _ _) (Nat.le_refl _) (by simp) ?_; (case hd => rfl); (case hg => rfl); (case hr => (go_simp; done)); (case hp => exact (Reps.c3 (show Kd.M k24 _ _ _ (⟨a0_0, a0_1, a0_2⟩ : S24) [.int .i64 a0_0, .int .u64 a0_1, .int .u64 a0_2] from (k24_mkM _ _ _ (⟨a0_0, a0_1, a0_2⟩ : S24) )) (Reps.none _ _))); intro v143 w10 ho11 hb hg_ hnew_; clear hg_ hnew_; (rw [← Ny142.out] at ho11); have HO144 := Aside0.mk (Kd.R_lower (Kd.R_newB (Kd.R_newB ho11 BK140.out) BK141.out) (below_size HB.out)); replace BK140 := bk1 BK140 hb; replace BK141 := bk1 BK141 hb; replace HB := hb1 HB hb; clear hb ho11; obtain ⟨Ao12, co12, eo12⟩ := Kd.R_slice HO144.out; subst eo12) | (refine callA (some 5) Tryz.func15 #[.slice Ao12 y142.length co12] ?_; (with_reducible refine (bits_valid.calls k _ _ y142 true _ ?side1 ?side2 A2.out).mono ?_); (case side1 => exact (Kd.R_reads' HO144.out).2.2); (case side2 => exact (Kd.R_reads' HO144.out).2.1); rintro e w13 ⟨rfl, hb⟩; refine ⟨_, rfl, ?_⟩; replace HO144 := Kd.rb1 HO144 hb; replace BK140 := bk1 BK140 hb; replace BK141 := bk1 BK141 hb; replace HB := hb1 HB hb; (try clear hb); obtain ⟨hcz14_0, hcz14_1, hcz14_2, hfz14_0, hfz14_1, hfz14_2⟩ := cf3 BK140) | (refine callA (some 9) Tryz.func19 #[.agg #[.int .i64 a0_0, .int .u64 a0_1, .int .u64 a0_2]] ?_; (with_reducible refine (bits_True.calls k a0_0 a0_1 a0_2 t146 _ A4.out).mono ?_); rintro e w15 ⟨rfl, hb⟩; refine ⟨_, rfl, ?_⟩; replace HO144 := Kd.rb1 HO144 hb; replace BK140 := bk1 BK140 hb; replace BK141 := bk1 BK141 hb; replace HB := hb1 HB hb; (try clear hb)) | (refine callA (some 10) Tryz.func18 #[.int .i64 t146] ?_; (with_reducible refine (bits_truth.calls t146 t147 t148 t149 _ A5.out).mono ?_); rintro e w16 ⟨rfl, hb⟩; refine ⟨_, rfl, ?_⟩; replace HO144 := Kd.rb1 HO144 hb; replace BK140 := bk1 BK140 hb; replace BK141 := bk1 BK141 hb; replace HB := hb1 HB hb; (try clear hb); obtain ⟨hcz17_0, hcz17_1, hcz17_2, hfz17_0, hfz17_1, hfz17_2⟩ := cf3 BK141))
  refine retA gb141 24 #[.int .i64 t147, .int .u64 t148, .int .u64 t149] (put3 BK141) Tryz.underlying24 ?_
  exact ⟨by rfl, by repeat (with_reducible first | exact HB.out | refine below_set ?_ GE141.out)⟩
 ·replace H := s3 H; obtain ⟨rfl, rfl, rfl⟩ := H
  go_enter Tryz.func6, Tryz.ntmps6
  go_wp2_with (first | (refine boxA HB 1 #[.int .i64 a0_0, .int .u64 a0_1, .int .u64 a0_2] 24 ?_; clear HB; intro gb140 w18 BK140 GE140 hg hb HB; clear hb hg) | (refine boxA HB 2 #[.int .i64 0, .int .u64 0, .int .u64 0] 24 ?_; clear HB; intro gb141 w19 BK141 GE141 hg hb HB; have NB140_141 := nbA BK140 hg; have NB141_140 := nbB BK140 hg; replace BK140 := bk1 BK140 hb; clear hb hg; have hnb20 := NB140_141.out; have hnc20 := NB141_140.out; obtain ⟨hcz21_0, hcz21_1, hcz21_2, hfz21_0, hfz21_1, hfz21_2⟩ := cf3 BK140) | ((with_reducible refine gate_dst (N := 4) rfl ?_); refine Kd.R_lit k24 _ 24 ?hg (N := 4) ?hd (xs := ([(⟨a0_0, a0_1, a0_2⟩ : S24)] : List (S24))) (inner := [.int .i64 a0_0, .int .u64 a0_1, .int .u64 a0_2]) (ok := fun _ => True) (okp := fun _ => True) ?hr ?hp (fun _ hk => hk) trivial (Below.refl _ _) (Nat.le_refl _) (by simp) ?_; (case hd => rfl); (case hg => rfl); (case hr => (go_simp; done)); (case hp => exact (Reps.c3 (show Kd.M k24 _ _ _ (⟨a0_0, a0_1, a0_2⟩ : S24) [.int .i64 a0_0, .int .u64 a0_1, .int .u64 a0_2] from (k24_mkM _ _ _ (⟨a0_0, a0_1, a0_2⟩ : S24) )) (Reps.none _ _))); intro v143 w22 ho23 hb hg_ hnew_; clear hg_ hnew_; (rw [← Ny142.out] at ho23); have HO144 := Aside0.mk (Kd.R_lower (Kd.R_newB (Kd.R_newB ho23 BK140.out) BK141.out) (below_size HB.out)); replace BK140 := bk1 BK140 hb; replace BK141 := bk1 BK141 hb; replace HB := hb1 HB hb; clear hb ho23; obtain ⟨Ao24, co24, eo24⟩ := Kd.R_slice HO144.out; subst eo24) | (refine callA (some 5) Tryz.func15 #[.slice Ao24 y142.length co24] ?_; (with_reducible refine (bits_valid.calls k _ _ y142 false _ ?side1 ?side2 A2.out).mono ?_); (case side1 => exact (Kd.R_reads' HO144.out).2.2); (case side2 => exact (Kd.R_reads' HO144.out).2.1); rintro e w25 ⟨rfl, hb⟩; refine ⟨_, rfl, ?_⟩; replace HO144 := Kd.rb1 HO144 hb; replace BK140 := bk1 BK140 hb; replace BK141 := bk1 BK141 hb; replace HB := hb1 HB hb; (try clear hb); obtain ⟨hcz26_0, hcz26_1, hcz26_2, hfz26_0, hfz26_1, hfz26_2⟩ := cf3 BK141))
  refine retA gb141 24 #[.int .i64 0, .int .u64 0, .int .u64 0] (put3 BK141) Tryz.underlying24 ?_
  exact ⟨by rfl, by repeat (with_reducible first | exact HB.out | refine below_set ?_ GE141.out)⟩
end Go.Proofs.YtfigblfjogpojaaGreatDoor.PBits
end
section
namespace Go.Proofs.YtfigblfjogpojaaGreatDoor.PBits
open Go.RowKit Go.Proofs.YtfigblfjogpojaaGreatDoorW.PrintWords Go.Proofs.YtfigblfjogpojaaGreatDoorW.PrintLast Go.Proofs.YtfigblfjogpojaaGreatDoorW.PrintMore
attribute [local go_sem] max2_int min2_int max_two min_two max_three min_three max_four min_four
set_option linter.unusedVariables false
set_option linter.unusedSimpArgs false
def bits_RedXor.f (k : Nat) (a0_0 : Int) (a0_1 : Int) (a0_2 : Int) : Option (Int × Int × Int) := (bits_valid.f k (([(⟨a0_0, a0_1, a0_2⟩ : S24)] : List (S24)))).bind fun t155 => (if t155 = true then (if a0_2 = 0 then ((bits_OnesCount64.f a0_1).bind fun t159 => ((bits_truth.f (Go.bits .and .i64 t159 1)).bind fun bt160 => (some (bt160.1, bt160.2.1, bt160.2.2)))) else ((bits_truth.f (-1)).bind fun bt156 => (some (bt156.1, bt156.2.1, bt156.2.2)))) else (some (0, 0, 0)))
set_option maxHeartbeats 8000000 in
set_option maxRecDepth 100000 in
theorem bits_RedXor.calls (k : Nat) (a0_0 : Int) (a0_1 : Int) (a0_2 : Int) (r1 : Int) (r2 : Int) (r3 : Int) (w : World) (h : bits_RedXor.f k a0_0 a0_1 a0_2 = some (r1, r2, r3)) :
  Calls Tryz.prog 7 #[.agg #[.int .i64 a0_0, .int .u64 a0_1, .int .u64 a0_2]] w fun e w' => e = .returned (.agg #[.int .i64 r1, .int .u64 r2, .int .u64 r3]) ∧ Below w.heap.size w w' := by
 have hu24 := Tryz.underlying24
 have HB := Aside0.mk (Below.refl w.heap.size w)
 have H := h
 clear h
 unfold bits_RedXor.f at H
 obtain ⟨y152, hy152⟩ : ∃ y_ : List (S24), y_ = ([(⟨a0_0, a0_1, a0_2⟩ : S24)] : List (S24)) := ⟨_, rfl⟩
 replace H : ((bits_valid.f k y152).bind fun t155 => (if t155 = true then (if a0_2 = 0 then ((bits_OnesCount64.f a0_1).bind fun t159 => ((bits_truth.f (Go.bits .and .i64 t159 1)).bind fun bt160 => (some (bt160.1, bt160.2.1, bt160.2.2)))) else ((bits_truth.f (-1)).bind fun bt156 => (some (bt156.1, bt156.2.1, bt156.2.2)))) else (some (0, 0, 0)))) = some (r1, r2, r3) := by (rw [hy152]; with_reducible exact H)
 have Ny152 := Aside0.mk hy152
 clear hy152
 replace H := bN H; obtain ⟨t155, A2, H⟩ := H
 replace H := iB H; rcases H with ⟨rfl, H⟩ | ⟨rfl, H⟩
 ·replace H := iE H; rcases H with ⟨c4b0, c4b1, H⟩ | ⟨c4, c4b0, c4b1, H⟩
  ·replace H := bN H; obtain ⟨t159, A5, H⟩ := H
   replace H := bN H; obtain ⟨⟨t160, t161, t162⟩, A6, H⟩ := H; dsimp only at H
   replace H := s3 H; obtain ⟨rfl, rfl, rfl⟩ := H
   go_enter Tryz.func7, Tryz.ntmps7
   go_wp2_with (first | (refine boxA HB 1 #[.int .i64 a0_0, .int .u64 a0_1, .int .u64 a0_2] 24 ?_; clear HB; intro gb150 w7 BK150 GE150 hg hb HB; clear hb hg) | (refine boxA HB 2 #[.int .i64 0, .int .u64 0, .int .u64 0] 24 ?_; clear HB; intro gb151 w8 BK151 GE151 hg hb HB; have NB150_151 := nbA BK150 hg; have NB151_150 := nbB BK150 hg; replace BK150 := bk1 BK150 hb; clear hb hg; have hnb9 := NB150_151.out; have hnc9 := NB151_150.out; obtain ⟨hcz10_0, hcz10_1, hcz10_2, hfz10_0, hfz10_1, hfz10_2⟩ := cf3 BK150) | ((with_reducible refine gate_dst (N := 5) rfl ?_); refine Kd.R_lit k24 _ 24 ?hg (N := 5) ?hd (xs := ([(⟨a0_0, a0_1, a0_2⟩ : S24)] : List (S24))) (inner := [.int .i64 a0_0, .int .u64 a0_1, .int .u64 a0_2]) (ok := fun _ => True) (okp := fun _ => True) ?hr ?hp (fun _ hk => hk) trivial (Below.refl _ _) (Nat.le_refl _) (by simp) ?_; (case hd => rfl); (case hg => rfl); (case hr => (go_simp; done)); (case hp => exact (Reps.c3 (show Kd.M k24 _ _ _ (⟨a0_0, a0_1, a0_2⟩ : S24) [.int .i64 a0_0, .int .u64 a0_1, .int .u64 a0_2] from (k24_mkM _ _ _ (⟨a0_0, a0_1, a0_2⟩ : S24) )) (Reps.none _ _))); intro v153 w11 ho12 hb hg_ hnew_; clear hg_ hnew_; (rw [← Ny152.out] at ho12); have HO154 := Aside0.mk (Kd.R_lower (Kd.R_newB (Kd.R_newB ho12 BK150.out) BK151.out) (below_size HB.out)); replace BK150 := bk1 BK150 hb; replace BK151 := bk1 BK151 hb; replace HB := hb1 HB hb; clear hb ho12; obtain ⟨Ao13, co13, eo13⟩ := Kd.R_slice HO154.out; subst eo13) | (refine callA (some 6) Tryz.func15 #[.slice Ao13 y152.length co13] ?_; (with_reducible refine (bits_valid.calls k _ _ y152 true _ ?side1 ?side2 A2.out).mono ?_); (case side1 => exact (Kd.R_reads' HO154.out).2.2); (case side2 => exact (Kd.R_reads' HO154.out).2.1); rintro e w14 ⟨rfl, hb⟩; refine ⟨_, rfl, ?_⟩; replace HO154 := Kd.rb1 HO154 hb; replace BK150 := bk1 BK150 hb; replace BK151 := bk1 BK151 hb; replace HB := hb1 HB hb; (try clear hb); obtain ⟨hcz15_0, hcz15_1, hcz15_2, hfz15_0, hfz15_1, hfz15_2⟩ := cf3 BK150) | (refine callA (some 16) Tryz.func20 #[.int .u64 a0_1] ?_; (with_reducible refine (bits_OnesCount64.calls a0_1 t159 _ A5.out).mono ?_); rintro e w' ⟨rfl, ⟨nd, rfl⟩⟩; refine ⟨_, rfl, ?_⟩; (try (rw [drewN_self w14]; generalize hq_ : World.drewN w14 _ = w14; have n0_ : Aside0 (Kd.R k24 24 w14 w.heap.size (fun k_ => k_ ≠ gb150 ∧ k_ ≠ gb151) (.slice Ao13 y152.length co13) y152) := ⟨by rw [← hq_]; exact (by (with_reducible repeat (apply Kd.R_drewN)); exact Kd.R_mono HO154.out (fun _ hk => ⟨hk.1.2, hk.2⟩))⟩; have n1_ : Aside0 (w14.heap[gb150]? = some (.cells #[.int .i64 a0_0, .int .u64 a0_1, .int .u64 a0_2] 24 (0, 0))) := ⟨by rw [← hq_]; exact (by (with_reducible repeat (refine blk_drewN ?_ _)); exact BK150.out)⟩; have n2_ : Aside0 (w14.heap[gb151]? = some (.cells #[.int .i64 0, .int .u64 0, .int .u64 0] 24 (0, 0))) := ⟨by rw [← hq_]; exact (by (with_reducible repeat (refine blk_drewN ?_ _)); exact BK151.out)⟩; have n3_ : Aside0 (Below w.heap.size w w14) := ⟨by rw [← hq_]; exact (by repeat (with_reducible first | exact HB.out | apply pw_below_drewN))⟩; clear HO154 BK150 BK151 HB hq_; have HO154 := n0_; have BK150 := n1_; have BK151 := n2_; have HB := n3_; clear n0_ n1_ n2_ n3_))) | (refine callA (some 18) Tryz.func18 #[.int .i64 (Go.bits .and .i64 t159 1)] ?_; (with_reducible refine (bits_truth.calls (Go.bits .and .i64 t159 1) t160 t161 t162 _ A6.out).mono ?_); rintro e w16 ⟨rfl, hb⟩; refine ⟨_, rfl, ?_⟩; replace HO154 := Kd.rb1 HO154 hb; replace BK150 := bk1 BK150 hb; replace BK151 := bk1 BK151 hb; replace HB := hb1 HB hb; (try clear hb); obtain ⟨hcz17_0, hcz17_1, hcz17_2, hfz17_0, hfz17_1, hfz17_2⟩ := cf3 BK151))
   refine retA gb151 24 #[.int .i64 t160, .int .u64 t161, .int .u64 t162] (put3 BK151) Tryz.underlying24 ?_
   exact ⟨by rfl, by repeat (with_reducible first | exact HB.out | refine below_set ?_ GE151.out)⟩
  ·replace H := bN H; obtain ⟨⟨t156, t157, t158⟩, A18, H⟩ := H; dsimp only at H
   replace H := s3 H; obtain ⟨rfl, rfl, rfl⟩ := H
   go_enter Tryz.func7, Tryz.ntmps7
   go_wp2_with (first | (refine boxA HB 1 #[.int .i64 a0_0, .int .u64 a0_1, .int .u64 a0_2] 24 ?_; clear HB; intro gb150 w19 BK150 GE150 hg hb HB; clear hb hg) | (refine boxA HB 2 #[.int .i64 0, .int .u64 0, .int .u64 0] 24 ?_; clear HB; intro gb151 w20 BK151 GE151 hg hb HB; have NB150_151 := nbA BK150 hg; have NB151_150 := nbB BK150 hg; replace BK150 := bk1 BK150 hb; clear hb hg; have hnb21 := NB150_151.out; have hnc21 := NB151_150.out; obtain ⟨hcz22_0, hcz22_1, hcz22_2, hfz22_0, hfz22_1, hfz22_2⟩ := cf3 BK150) | ((with_reducible refine gate_dst (N := 5) rfl ?_); refine Kd.R_lit k24 _ 24 ?hg (N := 5) ?hd (xs := ([(⟨a0_0, a0_1, a0_2⟩ : S24)] : List (S24))) (inner := [.int .i64 a0_0, .int .u64 a0_1, .int .u64 a0_2]) (ok := fun _ => True) (okp := fun _ => True) ?hr ?hp (fun _ hk => hk) trivial (Below.refl _ _) (Nat.le_refl _) (by simp) ?_; (case hd => rfl); (case hg => rfl); (case hr => (go_simp; done)); (case hp => exact (Reps.c3 (show Kd.M k24 _ _ _ (⟨a0_0, a0_1, a0_2⟩ : S24) [.int .i64 a0_0, .int .u64 a0_1, .int .u64 a0_2] from (k24_mkM _ _ _ (⟨a0_0, a0_1, a0_2⟩ : S24) )) (Reps.none _ _))); intro v153 w23 ho24 hb hg_ hnew_; clear hg_ hnew_; (rw [← Ny152.out] at ho24); have HO154 := Aside0.mk (Kd.R_lower (Kd.R_newB (Kd.R_newB ho24 BK150.out) BK151.out) (below_size HB.out)); replace BK150 := bk1 BK150 hb; replace BK151 := bk1 BK151 hb; replace HB := hb1 HB hb; clear hb ho24; obtain ⟨Ao25, co25, eo25⟩ := Kd.R_slice HO154.out; subst eo25) | (refine callA (some 6) Tryz.func15 #[.slice Ao25 y152.length co25] ?_; (with_reducible refine (bits_valid.calls k _ _ y152 true _ ?side1 ?side2 A2.out).mono ?_); (case side1 => exact (Kd.R_reads' HO154.out).2.2); (case side2 => exact (Kd.R_reads' HO154.out).2.1); rintro e w26 ⟨rfl, hb⟩; refine ⟨_, rfl, ?_⟩; replace HO154 := Kd.rb1 HO154 hb; replace BK150 := bk1 BK150 hb; replace BK151 := bk1 BK151 hb; replace HB := hb1 HB hb; (try clear hb); obtain ⟨hcz27_0, hcz27_1, hcz27_2, hfz27_0, hfz27_1, hfz27_2⟩ := cf3 BK150) | (refine callA (some 13) Tryz.func18 #[.int .i64 (-1)] ?_; (with_reducible refine (bits_truth.calls (-1) t156 t157 t158 _ A18.out).mono ?_); rintro e w28 ⟨rfl, hb⟩; refine ⟨_, rfl, ?_⟩; replace HO154 := Kd.rb1 HO154 hb; replace BK150 := bk1 BK150 hb; replace BK151 := bk1 BK151 hb; replace HB := hb1 HB hb; (try clear hb); obtain ⟨hcz29_0, hcz29_1, hcz29_2, hfz29_0, hfz29_1, hfz29_2⟩ := cf3 BK151))
   refine retA gb151 24 #[.int .i64 t156, .int .u64 t157, .int .u64 t158] (put3 BK151) Tryz.underlying24 ?_
   exact ⟨by rfl, by repeat (with_reducible first | exact HB.out | refine below_set ?_ GE151.out)⟩
 ·replace H := s3 H; obtain ⟨rfl, rfl, rfl⟩ := H
  go_enter Tryz.func7, Tryz.ntmps7
  go_wp2_with (first | (refine boxA HB 1 #[.int .i64 a0_0, .int .u64 a0_1, .int .u64 a0_2] 24 ?_; clear HB; intro gb150 w30 BK150 GE150 hg hb HB; clear hb hg) | (refine boxA HB 2 #[.int .i64 0, .int .u64 0, .int .u64 0] 24 ?_; clear HB; intro gb151 w31 BK151 GE151 hg hb HB; have NB150_151 := nbA BK150 hg; have NB151_150 := nbB BK150 hg; replace BK150 := bk1 BK150 hb; clear hb hg; have hnb32 := NB150_151.out; have hnc32 := NB151_150.out; obtain ⟨hcz33_0, hcz33_1, hcz33_2, hfz33_0, hfz33_1, hfz33_2⟩ := cf3 BK150) | ((with_reducible refine gate_dst (N := 5) rfl ?_); refine Kd.R_lit k24 _ 24 ?hg (N := 5) ?hd (xs := ([(⟨a0_0, a0_1, a0_2⟩ : S24)] : List (S24))) (inner := [.int .i64 a0_0, .int .u64 a0_1, .int .u64 a0_2]) (ok := fun _ => True) (okp := fun _ => True) ?hr ?hp (fun _ hk => hk) trivial (Below.refl _ _) (Nat.le_refl _) (by simp) ?_; (case hd => rfl); (case hg => rfl); (case hr => (go_simp; done)); (case hp => exact (Reps.c3 (show Kd.M k24 _ _ _ (⟨a0_0, a0_1, a0_2⟩ : S24) [.int .i64 a0_0, .int .u64 a0_1, .int .u64 a0_2] from (k24_mkM _ _ _ (⟨a0_0, a0_1, a0_2⟩ : S24) )) (Reps.none _ _))); intro v153 w34 ho35 hb hg_ hnew_; clear hg_ hnew_; (rw [← Ny152.out] at ho35); have HO154 := Aside0.mk (Kd.R_lower (Kd.R_newB (Kd.R_newB ho35 BK150.out) BK151.out) (below_size HB.out)); replace BK150 := bk1 BK150 hb; replace BK151 := bk1 BK151 hb; replace HB := hb1 HB hb; clear hb ho35; obtain ⟨Ao36, co36, eo36⟩ := Kd.R_slice HO154.out; subst eo36) | (refine callA (some 6) Tryz.func15 #[.slice Ao36 y152.length co36] ?_; (with_reducible refine (bits_valid.calls k _ _ y152 false _ ?side1 ?side2 A2.out).mono ?_); (case side1 => exact (Kd.R_reads' HO154.out).2.2); (case side2 => exact (Kd.R_reads' HO154.out).2.1); rintro e w37 ⟨rfl, hb⟩; refine ⟨_, rfl, ?_⟩; replace HO154 := Kd.rb1 HO154 hb; replace BK150 := bk1 BK150 hb; replace BK151 := bk1 BK151 hb; replace HB := hb1 HB hb; (try clear hb); obtain ⟨hcz38_0, hcz38_1, hcz38_2, hfz38_0, hfz38_1, hfz38_2⟩ := cf3 BK151))
  refine retA gb151 24 #[.int .i64 0, .int .u64 0, .int .u64 0] (put3 BK151) Tryz.underlying24 ?_
  exact ⟨by rfl, by repeat (with_reducible first | exact HB.out | refine below_set ?_ GE151.out)⟩
end Go.Proofs.YtfigblfjogpojaaGreatDoor.PBits
end
section
namespace Go.Proofs.YtfigblfjogpojaaGreatDoor.PBits
open Go.RowKit Go.Proofs.YtfigblfjogpojaaGreatDoorW.PrintWords Go.Proofs.YtfigblfjogpojaaGreatDoorW.PrintLast Go.Proofs.YtfigblfjogpojaaGreatDoorW.PrintMore
attribute [local go_sem] max2_int min2_int max_two min_two max_three min_three max_four min_four
set_option linter.unusedVariables false
set_option linter.unusedSimpArgs false
def maskref1_fold__AndOf.l0 : Nat → Int → List Int → Int → Int → Option (List Int)
 | 0, _, _, _, _ => none
 | k + 1, x5, x12, x13, x14 => if x14 < x13 then (if 0 ≤ x14 then (if x14 < (x12.length : Int) then ((maskref1_AndOf.f k x5 (rd x12 x14)).bind fun t329 => (maskref1_fold__AndOf.l0 k t329 x12 x13 (wrap64 (x14 + 1)))) else (none)) else (none)) else (if x5 = 122 then (some (([120] : List Int))) else (some (([x5] : List Int))))
def maskref1_fold__AndOf.f (k : Nat) (l0 : List Int)  : Option (List Int) := if 0 < (l0.length : Int) then (if 1 ≤ (l0.length : Int) then (maskref1_fold__AndOf.l0 k (rd l0 0) (l0.drop 1) ((l0.drop 1).length : Int) 0) else (none)) else (none)
theorem maskref1_fold__AndOf.mono_l : ∀ k, (∀ y0 y1 y2 y3, LeO (maskref1_fold__AndOf.l0 k y0 y1 y2 y3) (maskref1_fold__AndOf.l0 (k + 1) y0 y1 y2 y3))
 | 0 => fun _ _ _ _ r h => by simp [maskref1_fold__AndOf.l0] at h
 | k + 1 => by
  have ih0 := maskref1_fold__AndOf.mono_l k
  ·intro y0 y1 y2 y3
   unfold maskref1_fold__AndOf.l0
   repeat' first | with_reducible exact ih0 _ _ _ _ | with_reducible exact maskref1_AndOf.mono _ _ _ | with_reducible exact LeO.refl _ | with_reducible exact LeO.none _ | with_reducible refine LeO.ite ?_ ?_ | with_reducible refine LeO.bind ?_ (fun _ => ?_)
theorem maskref1_fold__AndOf.mono : ∀ a0 k, LeO (maskref1_fold__AndOf.f k a0) (maskref1_fold__AndOf.f (k + 1) a0) := by
 intro a0 k
 have ih0 := maskref1_fold__AndOf.mono_l k
 unfold maskref1_fold__AndOf.f
 repeat' first | with_reducible exact ih0 _ _ _ _ | with_reducible exact maskref1_AndOf.mono _ _ _ | with_reducible exact LeO.refl _ | with_reducible exact LeO.none _ | with_reducible refine LeO.ite ?_ ?_ | with_reducible refine LeO.bind ?_ (fun _ => ?_)
set_option maxHeartbeats 8000000 in
set_option maxRecDepth 100000 in
theorem maskref1_fold__AndOf.calls (k : Nat) (A0 : Option Addr) (c0 : Nat) (l0 : List Int)  (r : List Int) (w : World) (hr0 : Kd.C (Kd.int .u8) w A0 l0.length l0) (hc0 : l0.length ≤ c0) (h : maskref1_fold__AndOf.f k l0 = some r) :
  Calls Tryz.prog 32 #[.slice A0 l0.length c0, .func (.func 33) #[] #[]] w fun e w' => ∃ v0_ : Value, e = .returned (v0_) ∧ Kd.R (Kd.int .u8) 5 w' w.heap.size (fun _ => True) v0_ r ∧ Below w.heap.size w w' := by
 have HR0 := Aside0.mk hr0
 have HC0 := Aside0.mk hc0
 clear hr0 hc0
 have HB := Aside0.mk (Below.refl w.heap.size w)
 have H := h
 clear h
 unfold maskref1_fold__AndOf.f at H
 by_cases c3 : 0 < (l0.length : Int)
 ·rw [if_pos c3] at H
  have c3b0 : decide (0 < (l0.length : Int)) = true := decide_eq_true c3
  have c3b1 : decide (0 < l0.length) = true := decide_eq_true (by omega)
  clear c3
  by_cases c4 : 1 ≤ (l0.length : Int)
  ·rw [if_pos c4] at H
   have c4b0 := eq_true c4
   have c4b1 : decide (1 ≤ (l0.length : Int)) = true := decide_eq_true c4
   clear c4
   have H' := Aside0.mk H
   clear H
   have p326 : 0 ≤ (0 : Int) := (by omega)
   have q326 : 0 < (l0.length : Int) := of_decide_eq_true (by (with_reducible assumption))
   obtain ⟨ad326, e326, hx326_0⟩ := Kd.at_int HR0.out 0 p326 q326
   cases e326
   have qi326 : (0 < l0.length) = True := eq_true (by omega)
   (try rw [show (0 : Int).toNat = 0 from rfl] at hx326_0)
   (try rw [Addr.add_zero'] at hx326_0)
   replace p326 := eq_true p326
   replace q326 := eq_true q326
   obtain ⟨i05, hi05, _, hsz5, _⟩ := info_parts info5
   obtain ⟨A5, hcut5, hA5, hC5⟩ := print_drop_of (P := Tryz.prog) (Value.int .u8) 0 30 5 .i64 Tryz.underlying30 hi05 hsz5 (some ad326) c0 l0 1 (by omega) (of_decide_eq_true (by (with_reducible assumption))) HC0.out
   have HR327 := Aside0.mk (Kd.C_of_reads (h1 := fun _ => rfl) (hA5 _ (Kd.reads_of_C HR0.out)))
   have HC327 := Aside0.mk hC5
   clear hA5 hC5 hi05 hsz5
   go_enter Tryz.func32, Tryz.ntmps32
   go_wp2
   go_loopg [5, 14] k (fun kq v5 v14 w' => ∃ (x5_1 : Int) (x14_1 : Int), v5 = .int .u8 x5_1 ∧ v14 = .int .i64 x14_1 ∧ Aside0 (maskref1_fold__AndOf.l0 kq x5_1 (l0.drop 1) ((l0.drop 1).length : Int) x14_1 = some r) ∧ Aside0 (kq ≤ k) ∧ Aside0 (Below w.heap.size w w'))
   case atStart => exact ⟨(rd l0 0), (0), (by rfl), (by rfl), H', ⟨Nat.le_refl _⟩, ⟨by repeat (with_reducible exact HB.out)⟩⟩
   case round =>
    clear H'
    (try clear c3b0); (try clear c3b1); (try clear c4b0); (try clear c4b1); (try clear hx326_0); (try clear p326); (try clear q326)
    obtain ⟨x5_1, x14_1, rfl, rfl, HA, HK1, HB⟩ := hrel
    cases gk with
    | zero => exact absurd HA.out (by simp [maskref1_fold__AndOf.l0])
    | succ k1 =>
     have H := HA.out
     clear HA
     simp only [maskref1_fold__AndOf.l0] at H
     by_cases c6 : x14_1 < ((l0.drop 1).length : Int)
     ·rw [if_pos c6] at H
      have c6b0 : decide (x14_1 < ((l0.drop 1).length : Int)) = true := decide_eq_true c6
      (try (have c6b1 : decide (x14_1 < ((l0.length - 1 : Nat) : Int)) = true := by have h_ := c6; rw [List.length_drop] at h_; exact decide_eq_true h_))
      clear c6
      replace H := iN H; obtain ⟨c7b0, H⟩ := H
      by_cases c8 : x14_1 < ((l0.drop 1).length : Int)
      ·rw [if_pos c8] at H
       have c8b0 : decide (x14_1 < ((l0.drop 1).length : Int)) = true := decide_eq_true c8
       (try (have c8b1 : decide (x14_1 < ((l0.length - 1 : Nat) : Int)) = true := by have h_ := c8; rw [List.length_drop] at h_; exact decide_eq_true h_))
       clear c8
       replace H := bN H; obtain ⟨t329, A9, H⟩ := H
       have H' := Aside0.mk H
       clear H
       have p328 : 0 ≤ (x14_1 : Int) := of_decide_eq_true (by (with_reducible assumption))
       have q328 : x14_1 < ((l0.drop 1).length : Int) := of_decide_eq_true (by (with_reducible assumption))
       obtain ⟨ad328, e328, hx328_0⟩ := Kd.at_int HR327.out x14_1 p328 q328
       cases e328
       replace hx328_0 := (HB.out.cell (World.block_lt_of_cell? w _ hx328_0)).trans hx328_0
       replace p328 := eq_true p328
       replace q328 := eq_true q328
       try have q328d : (x14_1 < ((l0.length - 1 : Nat) : Int)) = True := by have h_ := q328; rw [List.length_drop] at h_; exact h_
       go_wp2_with ((go_at_call 33; (try simp only [← List.drop_one]); (with_reducible refine (maskref1_AndOf.calls k1 x5_1 (rd (l0.drop 1) x14_1) t329 _ A9.out).mono ?_); rintro e w' ⟨rfl, ⟨nd, rfl⟩⟩))
       go_roundg k1
       case measure => have := HK1.out; omega
       case rel => exact ⟨(t329), (wrap64 (x14_1 + 1)), (by rfl), (by rfl), H', ⟨by have := HK1.out; omega⟩, ⟨by repeat (with_reducible first | exact HB.out | apply pw_below_drewN)⟩⟩
      ·rw [if_neg c8] at H
       exact absurd H (by simp)
     ·rw [if_neg c6] at H
      have c6b0 : decide (x14_1 < ((l0.drop 1).length : Int)) = false := decide_eq_false c6
      (try (have c6b1 : decide (x14_1 < ((l0.length - 1 : Nat) : Int)) = false := by have h_ := c6; rw [List.length_drop] at h_; exact decide_eq_false h_))
      clear c6
      replace H := iE H; rcases H with ⟨c10b0, c10b1, H⟩ | ⟨c10, c10b0, c10b1, H⟩
      ·obtain ⟨y330, hy330⟩ : ∃ y_ : List Int, y_ = ([120] : List Int) := ⟨_, rfl⟩
       replace H : (some y330) = some r := by (rw [hy330]; with_reducible exact H)
       have Ny330 := Aside0.mk hy330
       clear hy330
       obtain rfl := Option.some.inj H
       go_wp2_with (((with_reducible refine gate_dst (N := 26) rfl ?_); refine Kd.R_lit (Kd.int .u8) _ 5 ?hg (N := 26) ?hd (xs := ([120] : List Int)) (inner := [.int .u8 120]) (ok := fun _ => True) (okp := fun _ => True) ?hr ?hp (fun _ hk => hk) trivial (Below.refl _ _) (Nat.le_refl _) (by simp) ?_; (case hd => rfl); (case hg => rfl); (case hr => (go_simp; done)); (case hp => exact (Reps.one (show Kd.M (Kd.int .u8) _ _ _ 120 [.int .u8 120] from rfl) (Reps.none _ _))); intro v331 w11 ho12 hb hg_ hnew_; clear hg_ hnew_; (rw [← Ny330.out] at ho12); have HO332 := Aside0.mk (Kd.R_lower ho12 (below_size HB.out)); replace HB := hb1 HB hb; clear hb ho12))
       go_ret
       exact ⟨_, by rfl, by exact HO332.out, by repeat (with_reducible exact HB.out)⟩
      ·obtain ⟨y333, hy333⟩ : ∃ y_ : List Int, y_ = ([x5_1] : List Int) := ⟨_, rfl⟩
       replace H : (some y333) = some r := by (rw [hy333]; with_reducible exact H)
       have Ny333 := Aside0.mk hy333
       clear hy333
       obtain rfl := Option.some.inj H
       go_wp2_with (((with_reducible refine gate_dst (N := 26) rfl ?_); refine Kd.R_lit (Kd.int .u8) _ 5 ?hg (N := 26) ?hd (xs := ([x5_1] : List Int)) (inner := [.int .u8 x5_1]) (ok := fun _ => True) (okp := fun _ => True) ?hr ?hp (fun _ hk => hk) trivial (Below.refl _ _) (Nat.le_refl _) (by simp) ?_; (case hd => rfl); (case hg => rfl); (case hr => (go_simp; done)); (case hp => exact (Reps.one (show Kd.M (Kd.int .u8) _ _ _ x5_1 [.int .u8 x5_1] from rfl) (Reps.none _ _))); intro v334 w13 ho14 hb hg_ hnew_; clear hg_ hnew_; (rw [← Ny333.out] at ho14); have HO335 := Aside0.mk (Kd.R_lower ho14 (below_size HB.out)); replace HB := hb1 HB hb; clear hb ho14))
       go_ret
       exact ⟨_, by rfl, by exact HO335.out, by repeat (with_reducible exact HB.out)⟩
  ·rw [if_neg c4] at H
   exact absurd H (by simp)
 ·rw [if_neg c3] at H
  exact absurd H (by simp)
end Go.Proofs.YtfigblfjogpojaaGreatDoor.PBits
end
section
namespace Go.Proofs.YtfigblfjogpojaaGreatDoor.PBits
open Go.RowKit Go.Proofs.YtfigblfjogpojaaGreatDoorW.PrintWords Go.Proofs.YtfigblfjogpojaaGreatDoorW.PrintLast Go.Proofs.YtfigblfjogpojaaGreatDoorW.PrintMore
attribute [local go_sem] max2_int min2_int max_two min_two max_three min_three max_four min_four
set_option linter.unusedVariables false
set_option linter.unusedSimpArgs false
def maskref1_fold__OrOf.l0 : Nat → Int → List Int → Int → Int → Option (List Int)
 | 0, _, _, _, _ => none
 | k + 1, x5, x12, x13, x14 => if x14 < x13 then (if 0 ≤ x14 then (if x14 < (x12.length : Int) then ((maskref1_OrOf.f k x5 (rd x12 x14)).bind fun t339 => (maskref1_fold__OrOf.l0 k t339 x12 x13 (wrap64 (x14 + 1)))) else (none)) else (none)) else (if x5 = 122 then (some (([120] : List Int))) else (some (([x5] : List Int))))
def maskref1_fold__OrOf.f (k : Nat) (l0 : List Int)  : Option (List Int) := if 0 < (l0.length : Int) then (if 1 ≤ (l0.length : Int) then (maskref1_fold__OrOf.l0 k (rd l0 0) (l0.drop 1) ((l0.drop 1).length : Int) 0) else (none)) else (none)
theorem maskref1_fold__OrOf.mono_l : ∀ k, (∀ y0 y1 y2 y3, LeO (maskref1_fold__OrOf.l0 k y0 y1 y2 y3) (maskref1_fold__OrOf.l0 (k + 1) y0 y1 y2 y3))
 | 0 => fun _ _ _ _ r h => by simp [maskref1_fold__OrOf.l0] at h
 | k + 1 => by
  have ih0 := maskref1_fold__OrOf.mono_l k
  ·intro y0 y1 y2 y3
   unfold maskref1_fold__OrOf.l0
   repeat' first | with_reducible exact ih0 _ _ _ _ | with_reducible exact maskref1_OrOf.mono _ _ _ | with_reducible exact LeO.refl _ | with_reducible exact LeO.none _ | with_reducible refine LeO.ite ?_ ?_ | with_reducible refine LeO.bind ?_ (fun _ => ?_)
theorem maskref1_fold__OrOf.mono : ∀ a0 k, LeO (maskref1_fold__OrOf.f k a0) (maskref1_fold__OrOf.f (k + 1) a0) := by
 intro a0 k
 have ih0 := maskref1_fold__OrOf.mono_l k
 unfold maskref1_fold__OrOf.f
 repeat' first | with_reducible exact ih0 _ _ _ _ | with_reducible exact maskref1_OrOf.mono _ _ _ | with_reducible exact LeO.refl _ | with_reducible exact LeO.none _ | with_reducible refine LeO.ite ?_ ?_ | with_reducible refine LeO.bind ?_ (fun _ => ?_)
set_option maxHeartbeats 8000000 in
set_option maxRecDepth 100000 in
theorem maskref1_fold__OrOf.calls (k : Nat) (A0 : Option Addr) (c0 : Nat) (l0 : List Int)  (r : List Int) (w : World) (hr0 : Kd.C (Kd.int .u8) w A0 l0.length l0) (hc0 : l0.length ≤ c0) (h : maskref1_fold__OrOf.f k l0 = some r) :
  Calls Tryz.prog 32 #[.slice A0 l0.length c0, .func (.func 34) #[] #[]] w fun e w' => ∃ v0_ : Value, e = .returned (v0_) ∧ Kd.R (Kd.int .u8) 5 w' w.heap.size (fun _ => True) v0_ r ∧ Below w.heap.size w w' := by
 have HR0 := Aside0.mk hr0
 have HC0 := Aside0.mk hc0
 clear hr0 hc0
 have HB := Aside0.mk (Below.refl w.heap.size w)
 have H := h
 clear h
 unfold maskref1_fold__OrOf.f at H
 by_cases c3 : 0 < (l0.length : Int)
 ·rw [if_pos c3] at H
  have c3b0 : decide (0 < (l0.length : Int)) = true := decide_eq_true c3
  have c3b1 : decide (0 < l0.length) = true := decide_eq_true (by omega)
  clear c3
  by_cases c4 : 1 ≤ (l0.length : Int)
  ·rw [if_pos c4] at H
   have c4b0 := eq_true c4
   have c4b1 : decide (1 ≤ (l0.length : Int)) = true := decide_eq_true c4
   clear c4
   have H' := Aside0.mk H
   clear H
   have p336 : 0 ≤ (0 : Int) := (by omega)
   have q336 : 0 < (l0.length : Int) := of_decide_eq_true (by (with_reducible assumption))
   obtain ⟨ad336, e336, hx336_0⟩ := Kd.at_int HR0.out 0 p336 q336
   cases e336
   have qi336 : (0 < l0.length) = True := eq_true (by omega)
   (try rw [show (0 : Int).toNat = 0 from rfl] at hx336_0)
   (try rw [Addr.add_zero'] at hx336_0)
   replace p336 := eq_true p336
   replace q336 := eq_true q336
   obtain ⟨i05, hi05, _, hsz5, _⟩ := info_parts info5
   obtain ⟨A5, hcut5, hA5, hC5⟩ := print_drop_of (P := Tryz.prog) (Value.int .u8) 0 30 5 .i64 Tryz.underlying30 hi05 hsz5 (some ad336) c0 l0 1 (by omega) (of_decide_eq_true (by (with_reducible assumption))) HC0.out
   have HR337 := Aside0.mk (Kd.C_of_reads (h1 := fun _ => rfl) (hA5 _ (Kd.reads_of_C HR0.out)))
   have HC337 := Aside0.mk hC5
   clear hA5 hC5 hi05 hsz5
   go_enter Tryz.func32, Tryz.ntmps32
   go_wp2
   go_loopg [5, 14] k (fun kq v5 v14 w' => ∃ (x5_1 : Int) (x14_1 : Int), v5 = .int .u8 x5_1 ∧ v14 = .int .i64 x14_1 ∧ Aside0 (maskref1_fold__OrOf.l0 kq x5_1 (l0.drop 1) ((l0.drop 1).length : Int) x14_1 = some r) ∧ Aside0 (kq ≤ k) ∧ Aside0 (Below w.heap.size w w'))
   case atStart => exact ⟨(rd l0 0), (0), (by rfl), (by rfl), H', ⟨Nat.le_refl _⟩, ⟨by repeat (with_reducible exact HB.out)⟩⟩
   case round =>
    clear H'
    (try clear c3b0); (try clear c3b1); (try clear c4b0); (try clear c4b1); (try clear hx336_0); (try clear p336); (try clear q336)
    obtain ⟨x5_1, x14_1, rfl, rfl, HA, HK1, HB⟩ := hrel
    cases gk with
    | zero => exact absurd HA.out (by simp [maskref1_fold__OrOf.l0])
    | succ k1 =>
     have H := HA.out
     clear HA
     simp only [maskref1_fold__OrOf.l0] at H
     by_cases c6 : x14_1 < ((l0.drop 1).length : Int)
     ·rw [if_pos c6] at H
      have c6b0 : decide (x14_1 < ((l0.drop 1).length : Int)) = true := decide_eq_true c6
      (try (have c6b1 : decide (x14_1 < ((l0.length - 1 : Nat) : Int)) = true := by have h_ := c6; rw [List.length_drop] at h_; exact decide_eq_true h_))
      clear c6
      replace H := iN H; obtain ⟨c7b0, H⟩ := H
      by_cases c8 : x14_1 < ((l0.drop 1).length : Int)
      ·rw [if_pos c8] at H
       have c8b0 : decide (x14_1 < ((l0.drop 1).length : Int)) = true := decide_eq_true c8
       (try (have c8b1 : decide (x14_1 < ((l0.length - 1 : Nat) : Int)) = true := by have h_ := c8; rw [List.length_drop] at h_; exact decide_eq_true h_))
       clear c8
       replace H := bN H; obtain ⟨t339, A9, H⟩ := H
       have H' := Aside0.mk H
       clear H
       have p338 : 0 ≤ (x14_1 : Int) := of_decide_eq_true (by (with_reducible assumption))
       have q338 : x14_1 < ((l0.drop 1).length : Int) := of_decide_eq_true (by (with_reducible assumption))
       obtain ⟨ad338, e338, hx338_0⟩ := Kd.at_int HR337.out x14_1 p338 q338
       cases e338
       replace hx338_0 := (HB.out.cell (World.block_lt_of_cell? w _ hx338_0)).trans hx338_0
       replace p338 := eq_true p338
       replace q338 := eq_true q338
       try have q338d : (x14_1 < ((l0.length - 1 : Nat) : Int)) = True := by have h_ := q338; rw [List.length_drop] at h_; exact h_
       go_wp2_with ((go_at_call 34; (try simp only [← List.drop_one]); (with_reducible refine (maskref1_OrOf.calls k1 x5_1 (rd (l0.drop 1) x14_1) t339 _ A9.out).mono ?_); rintro e w' ⟨rfl, ⟨nd, rfl⟩⟩))
       go_roundg k1
       case measure => have := HK1.out; omega
       case rel => exact ⟨(t339), (wrap64 (x14_1 + 1)), (by rfl), (by rfl), H', ⟨by have := HK1.out; omega⟩, ⟨by repeat (with_reducible first | exact HB.out | apply pw_below_drewN)⟩⟩
      ·rw [if_neg c8] at H
       exact absurd H (by simp)
     ·rw [if_neg c6] at H
      have c6b0 : decide (x14_1 < ((l0.drop 1).length : Int)) = false := decide_eq_false c6
      (try (have c6b1 : decide (x14_1 < ((l0.length - 1 : Nat) : Int)) = false := by have h_ := c6; rw [List.length_drop] at h_; exact decide_eq_false h_))
      clear c6
      replace H := iE H; rcases H with ⟨c10b0, c10b1, H⟩ | ⟨c10, c10b0, c10b1, H⟩
      ·obtain ⟨y340, hy340⟩ : ∃ y_ : List Int, y_ = ([120] : List Int) := ⟨_, rfl⟩
       replace H : (some y340) = some r := by (rw [hy340]; with_reducible exact H)
       have Ny340 := Aside0.mk hy340
       clear hy340
       obtain rfl := Option.some.inj H
       go_wp2_with (((with_reducible refine gate_dst (N := 26) rfl ?_); refine Kd.R_lit (Kd.int .u8) _ 5 ?hg (N := 26) ?hd (xs := ([120] : List Int)) (inner := [.int .u8 120]) (ok := fun _ => True) (okp := fun _ => True) ?hr ?hp (fun _ hk => hk) trivial (Below.refl _ _) (Nat.le_refl _) (by simp) ?_; (case hd => rfl); (case hg => rfl); (case hr => (go_simp; done)); (case hp => exact (Reps.one (show Kd.M (Kd.int .u8) _ _ _ 120 [.int .u8 120] from rfl) (Reps.none _ _))); intro v341 w11 ho12 hb hg_ hnew_; clear hg_ hnew_; (rw [← Ny340.out] at ho12); have HO342 := Aside0.mk (Kd.R_lower ho12 (below_size HB.out)); replace HB := hb1 HB hb; clear hb ho12))
       go_ret
       exact ⟨_, by rfl, by exact HO342.out, by repeat (with_reducible exact HB.out)⟩
      ·obtain ⟨y343, hy343⟩ : ∃ y_ : List Int, y_ = ([x5_1] : List Int) := ⟨_, rfl⟩
       replace H : (some y343) = some r := by (rw [hy343]; with_reducible exact H)
       have Ny343 := Aside0.mk hy343
       clear hy343
       obtain rfl := Option.some.inj H
       go_wp2_with (((with_reducible refine gate_dst (N := 26) rfl ?_); refine Kd.R_lit (Kd.int .u8) _ 5 ?hg (N := 26) ?hd (xs := ([x5_1] : List Int)) (inner := [.int .u8 x5_1]) (ok := fun _ => True) (okp := fun _ => True) ?hr ?hp (fun _ hk => hk) trivial (Below.refl _ _) (Nat.le_refl _) (by simp) ?_; (case hd => rfl); (case hg => rfl); (case hr => (go_simp; done)); (case hp => exact (Reps.one (show Kd.M (Kd.int .u8) _ _ _ x5_1 [.int .u8 x5_1] from rfl) (Reps.none _ _))); intro v344 w13 ho14 hb hg_ hnew_; clear hg_ hnew_; (rw [← Ny343.out] at ho14); have HO345 := Aside0.mk (Kd.R_lower ho14 (below_size HB.out)); replace HB := hb1 HB hb; clear hb ho14))
       go_ret
       exact ⟨_, by rfl, by exact HO345.out, by repeat (with_reducible exact HB.out)⟩
  ·rw [if_neg c4] at H
   exact absurd H (by simp)
 ·rw [if_neg c3] at H
  exact absurd H (by simp)
end Go.Proofs.YtfigblfjogpojaaGreatDoor.PBits
end
section
namespace Go.Proofs.YtfigblfjogpojaaGreatDoor.PBits
open Go.RowKit Go.Proofs.YtfigblfjogpojaaGreatDoorW.PrintWords Go.Proofs.YtfigblfjogpojaaGreatDoorW.PrintLast Go.Proofs.YtfigblfjogpojaaGreatDoorW.PrintMore
attribute [local go_sem] max2_int min2_int max_two min_two max_three min_three max_four min_four
set_option linter.unusedVariables false
set_option linter.unusedSimpArgs false
def maskref1_fold__XorOf.l0 : Nat → Int → List Int → Int → Int → Option (List Int)
 | 0, _, _, _, _ => none
 | k + 1, x5, x12, x13, x14 => if x14 < x13 then (if 0 ≤ x14 then (if x14 < (x12.length : Int) then ((maskref1_XorOf.f k x5 (rd x12 x14)).bind fun t349 => (maskref1_fold__XorOf.l0 k t349 x12 x13 (wrap64 (x14 + 1)))) else (none)) else (none)) else (if x5 = 122 then (some (([120] : List Int))) else (some (([x5] : List Int))))
def maskref1_fold__XorOf.f (k : Nat) (l0 : List Int)  : Option (List Int) := if 0 < (l0.length : Int) then (if 1 ≤ (l0.length : Int) then (maskref1_fold__XorOf.l0 k (rd l0 0) (l0.drop 1) ((l0.drop 1).length : Int) 0) else (none)) else (none)
set_option maxHeartbeats 8000000 in
set_option maxRecDepth 100000 in
theorem maskref1_fold__XorOf.calls (k : Nat) (A0 : Option Addr) (c0 : Nat) (l0 : List Int)  (r : List Int) (w : World) (hr0 : Kd.C (Kd.int .u8) w A0 l0.length l0) (hc0 : l0.length ≤ c0) (h : maskref1_fold__XorOf.f k l0 = some r) :
  Calls Tryz.prog 32 #[.slice A0 l0.length c0, .func (.func 35) #[] #[]] w fun e w' => ∃ v0_ : Value, e = .returned (v0_) ∧ Kd.R (Kd.int .u8) 5 w' w.heap.size (fun _ => True) v0_ r ∧ Below w.heap.size w w' := by
 have HR0 := Aside0.mk hr0
 have HC0 := Aside0.mk hc0
 clear hr0 hc0
 have HB := Aside0.mk (Below.refl w.heap.size w)
 have H := h
 clear h
 unfold maskref1_fold__XorOf.f at H
 by_cases c3 : 0 < (l0.length : Int)
 ·rw [if_pos c3] at H
  have c3b0 : decide (0 < (l0.length : Int)) = true := decide_eq_true c3
  have c3b1 : decide (0 < l0.length) = true := decide_eq_true (by omega)
  clear c3
  by_cases c4 : 1 ≤ (l0.length : Int)
  ·rw [if_pos c4] at H
   have c4b0 := eq_true c4
   have c4b1 : decide (1 ≤ (l0.length : Int)) = true := decide_eq_true c4
   clear c4
   have H' := Aside0.mk H
   clear H
   have p346 : 0 ≤ (0 : Int) := (by omega)
   have q346 : 0 < (l0.length : Int) := of_decide_eq_true (by (with_reducible assumption))
   obtain ⟨ad346, e346, hx346_0⟩ := Kd.at_int HR0.out 0 p346 q346
   cases e346
   have qi346 : (0 < l0.length) = True := eq_true (by omega)
   (try rw [show (0 : Int).toNat = 0 from rfl] at hx346_0)
   (try rw [Addr.add_zero'] at hx346_0)
   replace p346 := eq_true p346
   replace q346 := eq_true q346
   obtain ⟨i05, hi05, _, hsz5, _⟩ := info_parts info5
   obtain ⟨A5, hcut5, hA5, hC5⟩ := print_drop_of (P := Tryz.prog) (Value.int .u8) 0 30 5 .i64 Tryz.underlying30 hi05 hsz5 (some ad346) c0 l0 1 (by omega) (of_decide_eq_true (by (with_reducible assumption))) HC0.out
   have HR347 := Aside0.mk (Kd.C_of_reads (h1 := fun _ => rfl) (hA5 _ (Kd.reads_of_C HR0.out)))
   have HC347 := Aside0.mk hC5
   clear hA5 hC5 hi05 hsz5
   go_enter Tryz.func32, Tryz.ntmps32
   go_wp2
   go_loopg [5, 14] k (fun kq v5 v14 w' => ∃ (x5_1 : Int) (x14_1 : Int), v5 = .int .u8 x5_1 ∧ v14 = .int .i64 x14_1 ∧ Aside0 (maskref1_fold__XorOf.l0 kq x5_1 (l0.drop 1) ((l0.drop 1).length : Int) x14_1 = some r) ∧ Aside0 (kq ≤ k) ∧ Aside0 (Below w.heap.size w w'))
   case atStart => exact ⟨(rd l0 0), (0), (by rfl), (by rfl), H', ⟨Nat.le_refl _⟩, ⟨by repeat (with_reducible exact HB.out)⟩⟩
   case round =>
    clear H'
    (try clear c3b0); (try clear c3b1); (try clear c4b0); (try clear c4b1); (try clear hx346_0); (try clear p346); (try clear q346)
    obtain ⟨x5_1, x14_1, rfl, rfl, HA, HK1, HB⟩ := hrel
    cases gk with
    | zero => exact absurd HA.out (by simp [maskref1_fold__XorOf.l0])
    | succ k1 =>
     have H := HA.out
     clear HA
     simp only [maskref1_fold__XorOf.l0] at H
     by_cases c6 : x14_1 < ((l0.drop 1).length : Int)
     ·rw [if_pos c6] at H
      have c6b0 : decide (x14_1 < ((l0.drop 1).length : Int)) = true := decide_eq_true c6
      (try (have c6b1 : decide (x14_1 < ((l0.length - 1 : Nat) : Int)) = true := by have h_ := c6; rw [List.length_drop] at h_; exact decide_eq_true h_))
      clear c6
      replace H := iN H; obtain ⟨c7b0, H⟩ := H
      by_cases c8 : x14_1 < ((l0.drop 1).length : Int)
      ·rw [if_pos c8] at H
       have c8b0 : decide (x14_1 < ((l0.drop 1).length : Int)) = true := decide_eq_true c8
       (try (have c8b1 : decide (x14_1 < ((l0.length - 1 : Nat) : Int)) = true := by have h_ := c8; rw [List.length_drop] at h_; exact decide_eq_true h_))
       clear c8
       replace H := bN H; obtain ⟨t349, A9, H⟩ := H
       have H' := Aside0.mk H
       clear H
       have p348 : 0 ≤ (x14_1 : Int) := of_decide_eq_true (by (with_reducible assumption))
       have q348 : x14_1 < ((l0.drop 1).length : Int) := of_decide_eq_true (by (with_reducible assumption))
       obtain ⟨ad348, e348, hx348_0⟩ := Kd.at_int HR347.out x14_1 p348 q348
       cases e348
       replace hx348_0 := (HB.out.cell (World.block_lt_of_cell? w _ hx348_0)).trans hx348_0
       replace p348 := eq_true p348
       replace q348 := eq_true q348
       try have q348d : (x14_1 < ((l0.length - 1 : Nat) : Int)) = True := by have h_ := q348; rw [List.length_drop] at h_; exact h_
       go_wp2_with ((go_at_call 35; (try simp only [← List.drop_one]); (with_reducible refine (maskref1_XorOf.calls k1 x5_1 (rd (l0.drop 1) x14_1) t349 _ A9.out).mono ?_); rintro e w' ⟨rfl, ⟨nd, rfl⟩⟩))
       go_roundg k1
       case measure => have := HK1.out; omega
       case rel => exact ⟨(t349), (wrap64 (x14_1 + 1)), (by rfl), (by rfl), H', ⟨by have := HK1.out; omega⟩, ⟨by repeat (with_reducible first | exact HB.out | apply pw_below_drewN)⟩⟩
      ·rw [if_neg c8] at H
       exact absurd H (by simp)
     ·rw [if_neg c6] at H
      have c6b0 : decide (x14_1 < ((l0.drop 1).length : Int)) = false := decide_eq_false c6
      (try (have c6b1 : decide (x14_1 < ((l0.length - 1 : Nat) : Int)) = false := by have h_ := c6; rw [List.length_drop] at h_; exact decide_eq_false h_))
      clear c6
      replace H := iE H; rcases H with ⟨c10b0, c10b1, H⟩ | ⟨c10, c10b0, c10b1, H⟩
      ·obtain ⟨y350, hy350⟩ : ∃ y_ : List Int, y_ = ([120] : List Int) := ⟨_, rfl⟩
       replace H : (some y350) = some r := by (rw [hy350]; with_reducible exact H)
       have Ny350 := Aside0.mk hy350
       clear hy350
       obtain rfl := Option.some.inj H
       go_wp2_with (((with_reducible refine gate_dst (N := 26) rfl ?_); refine Kd.R_lit (Kd.int .u8) _ 5 ?hg (N := 26) ?hd (xs := ([120] : List Int)) (inner := [.int .u8 120]) (ok := fun _ => True) (okp := fun _ => True) ?hr ?hp (fun _ hk => hk) trivial (Below.refl _ _) (Nat.le_refl _) (by simp) ?_; (case hd => rfl); (case hg => rfl); (case hr => (go_simp; done)); (case hp => exact (Reps.one (show Kd.M (Kd.int .u8) _ _ _ 120 [.int .u8 120] from rfl) (Reps.none _ _))); intro v351 w11 ho12 hb hg_ hnew_; clear hg_ hnew_; (rw [← Ny350.out] at ho12); have HO352 := Aside0.mk (Kd.R_lower ho12 (below_size HB.out)); replace HB := hb1 HB hb; clear hb ho12))
       go_ret
       exact ⟨_, by rfl, by exact HO352.out, by repeat (with_reducible exact HB.out)⟩
      ·obtain ⟨y353, hy353⟩ : ∃ y_ : List Int, y_ = ([x5_1] : List Int) := ⟨_, rfl⟩
       replace H : (some y353) = some r := by (rw [hy353]; with_reducible exact H)
       have Ny353 := Aside0.mk hy353
       clear hy353
       obtain rfl := Option.some.inj H
       go_wp2_with (((with_reducible refine gate_dst (N := 26) rfl ?_); refine Kd.R_lit (Kd.int .u8) _ 5 ?hg (N := 26) ?hd (xs := ([x5_1] : List Int)) (inner := [.int .u8 x5_1]) (ok := fun _ => True) (okp := fun _ => True) ?hr ?hp (fun _ hk => hk) trivial (Below.refl _ _) (Nat.le_refl _) (by simp) ?_; (case hd => rfl); (case hg => rfl); (case hr => (go_simp; done)); (case hp => exact (Reps.one (show Kd.M (Kd.int .u8) _ _ _ x5_1 [.int .u8 x5_1] from rfl) (Reps.none _ _))); intro v354 w13 ho14 hb hg_ hnew_; clear hg_ hnew_; (rw [← Ny353.out] at ho14); have HO355 := Aside0.mk (Kd.R_lower ho14 (below_size HB.out)); replace HB := hb1 HB hb; clear hb ho14))
       go_ret
       exact ⟨_, by rfl, by exact HO355.out, by repeat (with_reducible exact HB.out)⟩
  ·rw [if_neg c4] at H
   exact absurd H (by simp)
 ·rw [if_neg c3] at H
  exact absurd H (by simp)
end Go.Proofs.YtfigblfjogpojaaGreatDoor.PBits
end
section
namespace Go.Proofs.YtfigblfjogpojaaGreatDoor.PBits
open Go.RowKit Go.Proofs.YtfigblfjogpojaaGreatDoorW.PrintWords Go.Proofs.YtfigblfjogpojaaGreatDoorW.PrintLast Go.Proofs.YtfigblfjogpojaaGreatDoorW.PrintMore
attribute [local go_sem] max2_int min2_int max_two min_two max_three min_three max_four min_four
set_option linter.unusedVariables false
set_option linter.unusedSimpArgs false
def maskref1_each__AndOf.l0 : Nat → List Int → List Int → List Int → Int → Int → Option (List Int)
 | 0, _, _, _, _, _ => none
 | k + 1, x0, x1, x7, x10, x11 => if x11 < x10 then (if 0 ≤ x11 then (if x11 < (x0.length : Int) then (if x11 < (x1.length : Int) then ((maskref1_AndOf.f k (rd x0 x11) (rd x1 x11)).bind fun t540 => (if x7.length < 140737488355328 then (maskref1_each__AndOf.l0 k x0 x1 (x7 ++ [t540]) x10 (wrap64 (x11 + 1))) else (none))) else (none)) else (none)) else (none)) else (some x7)
def maskref1_each__AndOf.f (k : Nat) (l0 : List Int) (l1 : List Int)  : Option (List Int) := maskref1_each__AndOf.l0 k l0 l1 ([] : List Int) (l0.length : Int) 0
def maskref1_each__AndOf.T5 : Bool × List (List Nat × List Nat) := (true, [([], []), ([], []), ([], []), ([], []), ([2, 3], [2, 3]), ([4], [4]), ([], []), ([], []), ([6, 7], [6, 7]), ([8], [8]), ([1, 5, 9], [1, 5, 9]), ([10], [10]), ([0, 11, 10], [0, 11]), ([12, 12, 0, 1, 2, 3, 4, 5, 6, 7, 8, 9, 10, 11, 12], [0, 12])])
def maskref1_each__AndOf.B5 : List Nat := [0, 0, 0, 0, 12, 28, 0, 0, 192, 448, 1022, 2046, 4095, 8191]
theorem maskref1_each__AndOf.tab5 : rtab .any (opsOf Tryz.f47 5) = maskref1_each__AndOf.T5 := by kernel_rfl
theorem maskref1_each__AndOf.bits5 : waitsOk maskref1_each__AndOf.T5.2 maskref1_each__AndOf.B5 = true := by kernel_rfl
set_option maxHeartbeats 8000000 in
set_option maxRecDepth 100000 in
theorem maskref1_each__AndOf.calls (k : Nat) (A0 : Option Addr) (c0 : Nat) (l0 : List Int) (A1 : Option Addr) (c1 : Nat) (l1 : List Int)  (r : List Int) (w : World) (hr0 : Kd.C (Kd.int .u8) w A0 l0.length l0) (hc0 : l0.length ≤ c0) (hr1 : Kd.C (Kd.int .u8) w A1 l1.length l1) (hc1 : l1.length ≤ c1) (h : maskref1_each__AndOf.f k l0 l1 = some r) :
  Calls Tryz.prog 47 #[.slice A0 l0.length c0, .slice A1 l1.length c1, .func (.func 33) #[] #[]] w fun e w' => ∃ v0_ : Value, e = .returned (v0_) ∧ Kd.R (Kd.int .u8) 5 w' w.heap.size (fun _ => True) v0_ r ∧ Below w.heap.size w w' := by
 have HR0 := Aside0.mk hr0
 have HC0 := Aside0.mk hc0
 clear hr0 hc0
 have HR1 := Aside0.mk hr1
 have HC1 := Aside0.mk hc1
 clear hr1 hc1
 have HB := Aside0.mk (Below.refl w.heap.size w)
 have H := h
 clear h
 unfold maskref1_each__AndOf.f at H
 have H' := Aside0.mk H
 clear H
 go_enter Tryz.func47, Tryz.ntmps47
 go_wp2
 go_loopg [7, 11] k (fun kq v7 v11 w' => ∃ (x7_1 : List Int) (x11_1 : Int), v11 = .int .i64 x11_1 ∧ Aside0 (maskref1_each__AndOf.l0 kq l0 l1 x7_1 (l0.length : Int) x11_1 = some r) ∧ Aside0 (kq ≤ k) ∧ Aside0 (Kd.R (Kd.int .u8) 5 w' w.heap.size (fun _ => True) v7 x7_1) ∧ Aside0 (Below w.heap.size w w'))
 case atStart => exact ⟨([] : List Int), (0), (by rfl), H', ⟨Nat.le_refl _⟩, ⟨by exact Kd.R_nil _ _ _ _ _⟩, ⟨by repeat (with_reducible exact HB.out)⟩⟩
 case round =>
  clear H'
  obtain ⟨x7_1, x11_1, rfl, HA, HK1, HO_7, HB⟩ := hrel
  cases gk with
  | zero => exact absurd HA.out (by simp [maskref1_each__AndOf.l0])
  | succ k1 =>
   have H := HA.out
   clear HA
   simp only [maskref1_each__AndOf.l0] at H
   replace H := iD H; rcases H with ⟨c4b0, H⟩ | ⟨c4b0, H⟩
   ·replace H := iN H; obtain ⟨c5b0, H⟩ := H
    replace H := iN H; obtain ⟨c6b0, H⟩ := H
    replace H := iN H; obtain ⟨c7b0, H⟩ := H
    replace H := bN H; obtain ⟨t540, A8, H⟩ := H
    by_cases c9 : x7_1.length < 140737488355328
    ·rw [if_pos c9] at H
     have LMc9 := Aside0.mk c9
     clear c9
     obtain ⟨y541, hy541⟩ : ∃ y_ : List Int, y_ = (x7_1 ++ [t540]) := ⟨_, rfl⟩
     replace H : (maskref1_each__AndOf.l0 k1 l0 l1 y541 (l0.length : Int) (wrap64 (x11_1 + 1))) = some r := by (rw [hy541]; with_reducible exact H)
     have Ny541 := Aside0.mk hy541
     clear hy541
     have H' := Aside0.mk H
     clear H
     try go_wp2
     replace HO_7 := Aside0.mk (Kd.R_drew HO_7.out)
     replace HB := hbd HB
     have p538 : 0 ≤ (x11_1 : Int) := of_decide_eq_true (by (with_reducible assumption))
     have q538 : x11_1 < (l0.length : Int) := of_decide_eq_true (by (with_reducible assumption))
     obtain ⟨ad538, e538, hx538_0⟩ := Kd.at_int HR0.out x11_1 p538 q538
     have hw538_0 := hx538_0
     cases e538
     replace hx538_0 := (HB.out.cell (World.block_lt_of_cell? w _ hx538_0)).trans hx538_0
     replace p538 := eq_true p538
     replace q538 := eq_true q538
     have p539 : 0 ≤ (x11_1 : Int) := of_decide_eq_true (by (with_reducible assumption))
     have q539 : x11_1 < (l1.length : Int) := of_decide_eq_true (by (with_reducible assumption))
     obtain ⟨ad539, e539, hx539_0⟩ := Kd.at_int HR1.out x11_1 p539 q539
     have hw539_0 := hx539_0
     cases e539
     replace hx539_0 := (HB.out.cell (World.block_lt_of_cell? w _ hx539_0)).trans hx539_0
     replace p539 := eq_true p539
     replace q539 := eq_true q539
     refine start_ (n := 14) (S := fun w' => w'.cell? (ad538.add (x11_1).toNat) = some (.int .u8 (rd l0 x11_1)) ∧ w'.cell? (ad539.add (x11_1).toNat) = some (.int .u8 (rd l1 x11_1))) (ds := []) (tb 14 0) (by kernel_rfl) rfl (by kernel_rfl) ⟨((HB.out.cell (World.block_lt_of_cell? w _ hw538_0)).trans hw538_0), ((HB.out.cell (World.block_lt_of_cell? w _ hw539_0)).trans hw539_0)⟩ (fun hHeld => ?_); refine with_tabW maskref1_each__AndOf.tab5 maskref1_each__AndOf.bits5 (fun HT_ HW_ => ?_)
     generalize wr.drew = w10 at HO_7 HB hx538_0 hx539_0 hHeld ⊢
     refine pA 0 14 (tb 14 1) HT_ ?_
     refine pA 1 15 (tb 14 3) HT_ ?_
     refine pA 2 16 (tb 14 7) HT_ ?_
     refine pA 3 17 (tb 14 15) HT_ ?_
     refine pA 4 18 (tb 14 31) HT_ ?_
     refine pA 6 20 (tb 14 95) HT_ ?_
     refine pA 7 21 (tb 14 223) HT_ ?_
     refine pA 8 22 (tb 14 479) HT_ ?_
     refine tA 5 19 (tb 14 511) HT_ HW_ hHeld ?_
     refine tA 9 23 (tb 14 1023) HT_ HW_ hHeld ?_
     refine oA 10 (some 24) (tb 14 2047) HT_ (fun K hK => ?_)
     refine sq_goesT Tryz.func33 (by kernel_rfl) rfl #[.int .u8 (rd l0 x11_1), .int .u8 (rd l1 x11_1)] (by rfl) rfl rfl rfl (by (try simp only [List.map_toArray, List.map_cons, List.map_nil]); rfl) ?_
     with_reducible refine (maskref1_AndOf.calls k1 (rd l0 x11_1) (rd l1 x11_1) t540 _ A8.out).mono ?_
     rintro e w' ⟨rfl, ⟨nd, rfl⟩⟩
     refine ⟨_, rfl, ?_⟩
     refine hK.out _ _ ⟨((HB.out.cell (World.block_lt_of_cell? w _ hw538_0)).trans hw538_0), ((HB.out.cell (World.block_lt_of_cell? w _ hw539_0)).trans hw539_0)⟩ (fun hHeld => ?_)
     clear hK K
     refine nA ?_
     refine oA 11 (some 25) (tb 14 4095) HT_ (fun K hK => ?_)
     refine value_ (w1 := ?_) (v := ?_) (by rfl) rfl ?_ ?_
     rotate_left 2
     ·go_simp
      constructor
      ·rfl
      ·rfl
     refine hK.out _ _ ⟨(World.cell?_alloc_lt _ _ _ (World.block_lt_of_cell? _ _ (((HB.out.cell (World.block_lt_of_cell? w _ hw538_0)).trans hw538_0)))).trans (((HB.out.cell (World.block_lt_of_cell? w _ hw538_0)).trans hw538_0)), (World.cell?_alloc_lt _ _ _ (World.block_lt_of_cell? _ _ (((HB.out.cell (World.block_lt_of_cell? w _ hw539_0)).trans hw539_0)))).trans (((HB.out.cell (World.block_lt_of_cell? w _ hw539_0)).trans hw539_0))⟩ (fun hHeld => ?_)
     clear hK K
     refine nA ?_
     refine oA 12 (some 26) (tb 14 8191) HT_ (fun K hK => ?_)
     refine Kd.R_append_step (Kd.int .u8) (w0 := w) w.heap.size (by rfl) (.tmp 14) (.tmp 25) 30 5 (.int .u8 0) 1 rfl Tryz.underlying30 info5 rfl (by decide) (by omega) u7 x7_1 t540 [.int .u8 t540] (fun _ => True) (fun _ => False) rfl rfl ?aP (fun _ hk => hk.elim) ?aF ?aO ?aB ?aS ?aL ?_
     (case aP => exact rfl)
     (case aB => exact (by repeat (with_reducible first | exact HB.out | apply pw_below_drewN)))
     (case aF => exact (fun _ _ => trivial))
     (case aO => exact (by (with_reducible repeat (apply Kd.R_drewN)); exact HO_7.out))
     (case aS => exact (below_size (by repeat (with_reducible first | exact HB.out | apply pw_below_drewN))))
     (case aL => have := LMc9.out; omega)
     intro v542 w11 ho hb hg hat
     rw [← Ny541.out] at ho
     replace HB := Aside0.mk (hb)
     have HO543 := Aside0.mk (ho)
     clear HO_7
     clear ho hb hg hat
     refine hK.out _ _ ⟨((HB.out.cell (World.block_lt_of_cell? w _ hw538_0)).trans hw538_0), ((HB.out.cell (World.block_lt_of_cell? w _ hw539_0)).trans hw539_0)⟩ (fun hHeld => ?_)
     clear hK K
     refine nA ?_
     refine pA 13 7 (tb 14 16383) HT_ ?_
     refine done_ (done_of HT_.out (by kernel_rfl)) ?_
     try go_wp2
     go_roundg k1
     case measure => have := HK1.out; omega
     case rel => exact ⟨(y541), (wrap64 (x11_1 + 1)), (by rfl), H', ⟨by have := HK1.out; omega⟩, ⟨by exact HO543.out⟩, ⟨by repeat (with_reducible exact HB.out)⟩⟩
    ·rw [if_neg c9] at H
     exact absurd H (by simp)
   ·obtain rfl := Option.some.inj H
    go_wp2
    go_ret
    exact ⟨_, by rfl, by exact HO_7.out, by repeat (with_reducible exact HB.out)⟩
end Go.Proofs.YtfigblfjogpojaaGreatDoor.PBits
end
section
namespace Go.Proofs.YtfigblfjogpojaaGreatDoor.PBits
open Go.RowKit Go.Proofs.YtfigblfjogpojaaGreatDoorW.PrintWords Go.Proofs.YtfigblfjogpojaaGreatDoorW.PrintLast Go.Proofs.YtfigblfjogpojaaGreatDoorW.PrintMore
attribute [local go_sem] max2_int min2_int max_two min_two max_three min_three max_four min_four
set_option linter.unusedVariables false
set_option linter.unusedSimpArgs false
def maskref1_each__OrOf.l0 : Nat → List Int → List Int → List Int → Int → Int → Option (List Int)
 | 0, _, _, _, _, _ => none
 | k + 1, x0, x1, x7, x10, x11 => if x11 < x10 then (if 0 ≤ x11 then (if x11 < (x0.length : Int) then (if x11 < (x1.length : Int) then ((maskref1_OrOf.f k (rd x0 x11) (rd x1 x11)).bind fun t546 => (if x7.length < 140737488355328 then (maskref1_each__OrOf.l0 k x0 x1 (x7 ++ [t546]) x10 (wrap64 (x11 + 1))) else (none))) else (none)) else (none)) else (none)) else (some x7)
def maskref1_each__OrOf.f (k : Nat) (l0 : List Int) (l1 : List Int)  : Option (List Int) := maskref1_each__OrOf.l0 k l0 l1 ([] : List Int) (l0.length : Int) 0
def maskref1_each__OrOf.T5 : Bool × List (List Nat × List Nat) := (true, [([], []), ([], []), ([], []), ([], []), ([2, 3], [2, 3]), ([4], [4]), ([], []), ([], []), ([6, 7], [6, 7]), ([8], [8]), ([1, 5, 9], [1, 5, 9]), ([10], [10]), ([0, 11, 10], [0, 11]), ([12, 12, 0, 1, 2, 3, 4, 5, 6, 7, 8, 9, 10, 11, 12], [0, 12])])
def maskref1_each__OrOf.B5 : List Nat := [0, 0, 0, 0, 12, 28, 0, 0, 192, 448, 1022, 2046, 4095, 8191]
theorem maskref1_each__OrOf.tab5 : rtab .any (opsOf Tryz.f47 5) = maskref1_each__OrOf.T5 := by kernel_rfl
theorem maskref1_each__OrOf.bits5 : waitsOk maskref1_each__OrOf.T5.2 maskref1_each__OrOf.B5 = true := by kernel_rfl
set_option maxHeartbeats 8000000 in
set_option maxRecDepth 100000 in
theorem maskref1_each__OrOf.calls (k : Nat) (A0 : Option Addr) (c0 : Nat) (l0 : List Int) (A1 : Option Addr) (c1 : Nat) (l1 : List Int)  (r : List Int) (w : World) (hr0 : Kd.C (Kd.int .u8) w A0 l0.length l0) (hc0 : l0.length ≤ c0) (hr1 : Kd.C (Kd.int .u8) w A1 l1.length l1) (hc1 : l1.length ≤ c1) (h : maskref1_each__OrOf.f k l0 l1 = some r) :
  Calls Tryz.prog 47 #[.slice A0 l0.length c0, .slice A1 l1.length c1, .func (.func 34) #[] #[]] w fun e w' => ∃ v0_ : Value, e = .returned (v0_) ∧ Kd.R (Kd.int .u8) 5 w' w.heap.size (fun _ => True) v0_ r ∧ Below w.heap.size w w' := by
 have HR0 := Aside0.mk hr0
 have HC0 := Aside0.mk hc0
 clear hr0 hc0
 have HR1 := Aside0.mk hr1
 have HC1 := Aside0.mk hc1
 clear hr1 hc1
 have HB := Aside0.mk (Below.refl w.heap.size w)
 have H := h
 clear h
 unfold maskref1_each__OrOf.f at H
 have H' := Aside0.mk H
 clear H
 go_enter Tryz.func47, Tryz.ntmps47
 go_wp2
 go_loopg [7, 11] k (fun kq v7 v11 w' => ∃ (x7_1 : List Int) (x11_1 : Int), v11 = .int .i64 x11_1 ∧ Aside0 (maskref1_each__OrOf.l0 kq l0 l1 x7_1 (l0.length : Int) x11_1 = some r) ∧ Aside0 (kq ≤ k) ∧ Aside0 (Kd.R (Kd.int .u8) 5 w' w.heap.size (fun _ => True) v7 x7_1) ∧ Aside0 (Below w.heap.size w w'))
 case atStart => exact ⟨([] : List Int), (0), (by rfl), H', ⟨Nat.le_refl _⟩, ⟨by exact Kd.R_nil _ _ _ _ _⟩, ⟨by repeat (with_reducible exact HB.out)⟩⟩
 case round =>
  clear H'
  obtain ⟨x7_1, x11_1, rfl, HA, HK1, HO_7, HB⟩ := hrel
  cases gk with
  | zero => exact absurd HA.out (by simp [maskref1_each__OrOf.l0])
  | succ k1 =>
   have H := HA.out
   clear HA
   simp only [maskref1_each__OrOf.l0] at H
   replace H := iD H; rcases H with ⟨c4b0, H⟩ | ⟨c4b0, H⟩
   ·replace H := iN H; obtain ⟨c5b0, H⟩ := H
    replace H := iN H; obtain ⟨c6b0, H⟩ := H
    replace H := iN H; obtain ⟨c7b0, H⟩ := H
    replace H := bN H; obtain ⟨t546, A8, H⟩ := H
    by_cases c9 : x7_1.length < 140737488355328
    ·rw [if_pos c9] at H
     have LMc9 := Aside0.mk c9
     clear c9
     obtain ⟨y547, hy547⟩ : ∃ y_ : List Int, y_ = (x7_1 ++ [t546]) := ⟨_, rfl⟩
     replace H : (maskref1_each__OrOf.l0 k1 l0 l1 y547 (l0.length : Int) (wrap64 (x11_1 + 1))) = some r := by (rw [hy547]; with_reducible exact H)
     have Ny547 := Aside0.mk hy547
     clear hy547
     have H' := Aside0.mk H
     clear H
     try go_wp2
     replace HO_7 := Aside0.mk (Kd.R_drew HO_7.out)
     replace HB := hbd HB
     have p544 : 0 ≤ (x11_1 : Int) := of_decide_eq_true (by (with_reducible assumption))
     have q544 : x11_1 < (l0.length : Int) := of_decide_eq_true (by (with_reducible assumption))
     obtain ⟨ad544, e544, hx544_0⟩ := Kd.at_int HR0.out x11_1 p544 q544
     have hw544_0 := hx544_0
     cases e544
     replace hx544_0 := (HB.out.cell (World.block_lt_of_cell? w _ hx544_0)).trans hx544_0
     replace p544 := eq_true p544
     replace q544 := eq_true q544
     have p545 : 0 ≤ (x11_1 : Int) := of_decide_eq_true (by (with_reducible assumption))
     have q545 : x11_1 < (l1.length : Int) := of_decide_eq_true (by (with_reducible assumption))
     obtain ⟨ad545, e545, hx545_0⟩ := Kd.at_int HR1.out x11_1 p545 q545
     have hw545_0 := hx545_0
     cases e545
     replace hx545_0 := (HB.out.cell (World.block_lt_of_cell? w _ hx545_0)).trans hx545_0
     replace p545 := eq_true p545
     replace q545 := eq_true q545
     refine start_ (n := 14) (S := fun w' => w'.cell? (ad544.add (x11_1).toNat) = some (.int .u8 (rd l0 x11_1)) ∧ w'.cell? (ad545.add (x11_1).toNat) = some (.int .u8 (rd l1 x11_1))) (ds := []) (tb 14 0) (by kernel_rfl) rfl (by kernel_rfl) ⟨((HB.out.cell (World.block_lt_of_cell? w _ hw544_0)).trans hw544_0), ((HB.out.cell (World.block_lt_of_cell? w _ hw545_0)).trans hw545_0)⟩ (fun hHeld => ?_); refine with_tabW maskref1_each__OrOf.tab5 maskref1_each__OrOf.bits5 (fun HT_ HW_ => ?_)
     generalize wr.drew = w10 at HO_7 HB hx544_0 hx545_0 hHeld ⊢
     refine pA 0 14 (tb 14 1) HT_ ?_
     refine pA 1 15 (tb 14 3) HT_ ?_
     refine pA 2 16 (tb 14 7) HT_ ?_
     refine pA 3 17 (tb 14 15) HT_ ?_
     refine pA 4 18 (tb 14 31) HT_ ?_
     refine pA 6 20 (tb 14 95) HT_ ?_
     refine pA 7 21 (tb 14 223) HT_ ?_
     refine pA 8 22 (tb 14 479) HT_ ?_
     refine tA 5 19 (tb 14 511) HT_ HW_ hHeld ?_
     refine tA 9 23 (tb 14 1023) HT_ HW_ hHeld ?_
     refine oA 10 (some 24) (tb 14 2047) HT_ (fun K hK => ?_)
     refine sq_goesT Tryz.func34 (by kernel_rfl) rfl #[.int .u8 (rd l0 x11_1), .int .u8 (rd l1 x11_1)] (by rfl) rfl rfl rfl (by (try simp only [List.map_toArray, List.map_cons, List.map_nil]); rfl) ?_
     with_reducible refine (maskref1_OrOf.calls k1 (rd l0 x11_1) (rd l1 x11_1) t546 _ A8.out).mono ?_
     rintro e w' ⟨rfl, ⟨nd, rfl⟩⟩
     refine ⟨_, rfl, ?_⟩
     refine hK.out _ _ ⟨((HB.out.cell (World.block_lt_of_cell? w _ hw544_0)).trans hw544_0), ((HB.out.cell (World.block_lt_of_cell? w _ hw545_0)).trans hw545_0)⟩ (fun hHeld => ?_)
     clear hK K
     refine nA ?_
     refine oA 11 (some 25) (tb 14 4095) HT_ (fun K hK => ?_)
     refine value_ (w1 := ?_) (v := ?_) (by rfl) rfl ?_ ?_
     rotate_left 2
     ·go_simp
      constructor
      ·rfl
      ·rfl
     refine hK.out _ _ ⟨(World.cell?_alloc_lt _ _ _ (World.block_lt_of_cell? _ _ (((HB.out.cell (World.block_lt_of_cell? w _ hw544_0)).trans hw544_0)))).trans (((HB.out.cell (World.block_lt_of_cell? w _ hw544_0)).trans hw544_0)), (World.cell?_alloc_lt _ _ _ (World.block_lt_of_cell? _ _ (((HB.out.cell (World.block_lt_of_cell? w _ hw545_0)).trans hw545_0)))).trans (((HB.out.cell (World.block_lt_of_cell? w _ hw545_0)).trans hw545_0))⟩ (fun hHeld => ?_)
     clear hK K
     refine nA ?_
     refine oA 12 (some 26) (tb 14 8191) HT_ (fun K hK => ?_)
     refine Kd.R_append_step (Kd.int .u8) (w0 := w) w.heap.size (by rfl) (.tmp 14) (.tmp 25) 30 5 (.int .u8 0) 1 rfl Tryz.underlying30 info5 rfl (by decide) (by omega) u7 x7_1 t546 [.int .u8 t546] (fun _ => True) (fun _ => False) rfl rfl ?aP (fun _ hk => hk.elim) ?aF ?aO ?aB ?aS ?aL ?_
     (case aP => exact rfl)
     (case aB => exact (by repeat (with_reducible first | exact HB.out | apply pw_below_drewN)))
     (case aF => exact (fun _ _ => trivial))
     (case aO => exact (by (with_reducible repeat (apply Kd.R_drewN)); exact HO_7.out))
     (case aS => exact (below_size (by repeat (with_reducible first | exact HB.out | apply pw_below_drewN))))
     (case aL => have := LMc9.out; omega)
     intro v548 w11 ho hb hg hat
     rw [← Ny547.out] at ho
     replace HB := Aside0.mk (hb)
     have HO549 := Aside0.mk (ho)
     clear HO_7
     clear ho hb hg hat
     refine hK.out _ _ ⟨((HB.out.cell (World.block_lt_of_cell? w _ hw544_0)).trans hw544_0), ((HB.out.cell (World.block_lt_of_cell? w _ hw545_0)).trans hw545_0)⟩ (fun hHeld => ?_)
     clear hK K
     refine nA ?_
     refine pA 13 7 (tb 14 16383) HT_ ?_
     refine done_ (done_of HT_.out (by kernel_rfl)) ?_
     try go_wp2
     go_roundg k1
     case measure => have := HK1.out; omega
     case rel => exact ⟨(y547), (wrap64 (x11_1 + 1)), (by rfl), H', ⟨by have := HK1.out; omega⟩, ⟨by exact HO549.out⟩, ⟨by repeat (with_reducible exact HB.out)⟩⟩
    ·rw [if_neg c9] at H
     exact absurd H (by simp)
   ·obtain rfl := Option.some.inj H
    go_wp2
    go_ret
    exact ⟨_, by rfl, by exact HO_7.out, by repeat (with_reducible exact HB.out)⟩
end Go.Proofs.YtfigblfjogpojaaGreatDoor.PBits
end
section
namespace Go.Proofs.YtfigblfjogpojaaGreatDoor.PBits
open Go.RowKit Go.Proofs.YtfigblfjogpojaaGreatDoorW.PrintWords Go.Proofs.YtfigblfjogpojaaGreatDoorW.PrintLast Go.Proofs.YtfigblfjogpojaaGreatDoorW.PrintMore
attribute [local go_sem] max2_int min2_int max_two min_two max_three min_three max_four min_four
set_option linter.unusedVariables false
set_option linter.unusedSimpArgs false
def maskref1_each__XorOf.l0 : Nat → List Int → List Int → List Int → Int → Int → Option (List Int)
 | 0, _, _, _, _, _ => none
 | k + 1, x0, x1, x7, x10, x11 => if x11 < x10 then (if 0 ≤ x11 then (if x11 < (x0.length : Int) then (if x11 < (x1.length : Int) then ((maskref1_XorOf.f k (rd x0 x11) (rd x1 x11)).bind fun t552 => (if x7.length < 140737488355328 then (maskref1_each__XorOf.l0 k x0 x1 (x7 ++ [t552]) x10 (wrap64 (x11 + 1))) else (none))) else (none)) else (none)) else (none)) else (some x7)
def maskref1_each__XorOf.f (k : Nat) (l0 : List Int) (l1 : List Int)  : Option (List Int) := maskref1_each__XorOf.l0 k l0 l1 ([] : List Int) (l0.length : Int) 0
def maskref1_each__XorOf.T5 : Bool × List (List Nat × List Nat) := (true, [([], []), ([], []), ([], []), ([], []), ([2, 3], [2, 3]), ([4], [4]), ([], []), ([], []), ([6, 7], [6, 7]), ([8], [8]), ([1, 5, 9], [1, 5, 9]), ([10], [10]), ([0, 11, 10], [0, 11]), ([12, 12, 0, 1, 2, 3, 4, 5, 6, 7, 8, 9, 10, 11, 12], [0, 12])])
def maskref1_each__XorOf.B5 : List Nat := [0, 0, 0, 0, 12, 28, 0, 0, 192, 448, 1022, 2046, 4095, 8191]
theorem maskref1_each__XorOf.tab5 : rtab .any (opsOf Tryz.f47 5) = maskref1_each__XorOf.T5 := by kernel_rfl
theorem maskref1_each__XorOf.bits5 : waitsOk maskref1_each__XorOf.T5.2 maskref1_each__XorOf.B5 = true := by kernel_rfl
set_option maxHeartbeats 8000000 in
set_option maxRecDepth 100000 in
theorem maskref1_each__XorOf.calls (k : Nat) (A0 : Option Addr) (c0 : Nat) (l0 : List Int) (A1 : Option Addr) (c1 : Nat) (l1 : List Int)  (r : List Int) (w : World) (hr0 : Kd.C (Kd.int .u8) w A0 l0.length l0) (hc0 : l0.length ≤ c0) (hr1 : Kd.C (Kd.int .u8) w A1 l1.length l1) (hc1 : l1.length ≤ c1) (h : maskref1_each__XorOf.f k l0 l1 = some r) :
  Calls Tryz.prog 47 #[.slice A0 l0.length c0, .slice A1 l1.length c1, .func (.func 35) #[] #[]] w fun e w' => ∃ v0_ : Value, e = .returned (v0_) ∧ Kd.R (Kd.int .u8) 5 w' w.heap.size (fun _ => True) v0_ r ∧ Below w.heap.size w w' := by
 have HR0 := Aside0.mk hr0
 have HC0 := Aside0.mk hc0
 clear hr0 hc0
 have HR1 := Aside0.mk hr1
 have HC1 := Aside0.mk hc1
 clear hr1 hc1
 have HB := Aside0.mk (Below.refl w.heap.size w)
 have H := h
 clear h
 unfold maskref1_each__XorOf.f at H
 have H' := Aside0.mk H
 clear H
 go_enter Tryz.func47, Tryz.ntmps47
 go_wp2
 go_loopg [7, 11] k (fun kq v7 v11 w' => ∃ (x7_1 : List Int) (x11_1 : Int), v11 = .int .i64 x11_1 ∧ Aside0 (maskref1_each__XorOf.l0 kq l0 l1 x7_1 (l0.length : Int) x11_1 = some r) ∧ Aside0 (kq ≤ k) ∧ Aside0 (Kd.R (Kd.int .u8) 5 w' w.heap.size (fun _ => True) v7 x7_1) ∧ Aside0 (Below w.heap.size w w'))
 case atStart => exact ⟨([] : List Int), (0), (by rfl), H', ⟨Nat.le_refl _⟩, ⟨by exact Kd.R_nil _ _ _ _ _⟩, ⟨by repeat (with_reducible exact HB.out)⟩⟩
 case round =>
  clear H'
  obtain ⟨x7_1, x11_1, rfl, HA, HK1, HO_7, HB⟩ := hrel
  cases gk with
  | zero => exact absurd HA.out (by simp [maskref1_each__XorOf.l0])
  | succ k1 =>
   have H := HA.out
   clear HA
   simp only [maskref1_each__XorOf.l0] at H
   replace H := iD H; rcases H with ⟨c4b0, H⟩ | ⟨c4b0, H⟩
   ·replace H := iN H; obtain ⟨c5b0, H⟩ := H
    replace H := iN H; obtain ⟨c6b0, H⟩ := H
    replace H := iN H; obtain ⟨c7b0, H⟩ := H
    replace H := bN H; obtain ⟨t552, A8, H⟩ := H
    by_cases c9 : x7_1.length < 140737488355328
    ·rw [if_pos c9] at H
     have LMc9 := Aside0.mk c9
     clear c9
     obtain ⟨y553, hy553⟩ : ∃ y_ : List Int, y_ = (x7_1 ++ [t552]) := ⟨_, rfl⟩
     replace H : (maskref1_each__XorOf.l0 k1 l0 l1 y553 (l0.length : Int) (wrap64 (x11_1 + 1))) = some r := by (rw [hy553]; with_reducible exact H)
     have Ny553 := Aside0.mk hy553
     clear hy553
     have H' := Aside0.mk H
     clear H
     try go_wp2
     replace HO_7 := Aside0.mk (Kd.R_drew HO_7.out)
     replace HB := hbd HB
     have p550 : 0 ≤ (x11_1 : Int) := of_decide_eq_true (by (with_reducible assumption))
     have q550 : x11_1 < (l0.length : Int) := of_decide_eq_true (by (with_reducible assumption))
     obtain ⟨ad550, e550, hx550_0⟩ := Kd.at_int HR0.out x11_1 p550 q550
     have hw550_0 := hx550_0
     cases e550
     replace hx550_0 := (HB.out.cell (World.block_lt_of_cell? w _ hx550_0)).trans hx550_0
     replace p550 := eq_true p550
     replace q550 := eq_true q550
     have p551 : 0 ≤ (x11_1 : Int) := of_decide_eq_true (by (with_reducible assumption))
     have q551 : x11_1 < (l1.length : Int) := of_decide_eq_true (by (with_reducible assumption))
     obtain ⟨ad551, e551, hx551_0⟩ := Kd.at_int HR1.out x11_1 p551 q551
     have hw551_0 := hx551_0
     cases e551
     replace hx551_0 := (HB.out.cell (World.block_lt_of_cell? w _ hx551_0)).trans hx551_0
     replace p551 := eq_true p551
     replace q551 := eq_true q551
     refine start_ (n := 14) (S := fun w' => w'.cell? (ad550.add (x11_1).toNat) = some (.int .u8 (rd l0 x11_1)) ∧ w'.cell? (ad551.add (x11_1).toNat) = some (.int .u8 (rd l1 x11_1))) (ds := []) (tb 14 0) (by kernel_rfl) rfl (by kernel_rfl) ⟨((HB.out.cell (World.block_lt_of_cell? w _ hw550_0)).trans hw550_0), ((HB.out.cell (World.block_lt_of_cell? w _ hw551_0)).trans hw551_0)⟩ (fun hHeld => ?_); refine with_tabW maskref1_each__XorOf.tab5 maskref1_each__XorOf.bits5 (fun HT_ HW_ => ?_)
     generalize wr.drew = w10 at HO_7 HB hx550_0 hx551_0 hHeld ⊢
     refine pA 0 14 (tb 14 1) HT_ ?_
     refine pA 1 15 (tb 14 3) HT_ ?_
     refine pA 2 16 (tb 14 7) HT_ ?_
     refine pA 3 17 (tb 14 15) HT_ ?_
     refine pA 4 18 (tb 14 31) HT_ ?_
     refine pA 6 20 (tb 14 95) HT_ ?_
     refine pA 7 21 (tb 14 223) HT_ ?_
     refine pA 8 22 (tb 14 479) HT_ ?_
     refine tA 5 19 (tb 14 511) HT_ HW_ hHeld ?_
     refine tA 9 23 (tb 14 1023) HT_ HW_ hHeld ?_
     refine oA 10 (some 24) (tb 14 2047) HT_ (fun K hK => ?_)
     refine sq_goesT Tryz.func35 (by kernel_rfl) rfl #[.int .u8 (rd l0 x11_1), .int .u8 (rd l1 x11_1)] (by rfl) rfl rfl rfl (by (try simp only [List.map_toArray, List.map_cons, List.map_nil]); rfl) ?_
     with_reducible refine (maskref1_XorOf.calls k1 (rd l0 x11_1) (rd l1 x11_1) t552 _ A8.out).mono ?_
     rintro e w' ⟨rfl, ⟨nd, rfl⟩⟩
     refine ⟨_, rfl, ?_⟩
     refine hK.out _ _ ⟨((HB.out.cell (World.block_lt_of_cell? w _ hw550_0)).trans hw550_0), ((HB.out.cell (World.block_lt_of_cell? w _ hw551_0)).trans hw551_0)⟩ (fun hHeld => ?_)
     clear hK K
     refine nA ?_
     refine oA 11 (some 25) (tb 14 4095) HT_ (fun K hK => ?_)
     refine value_ (w1 := ?_) (v := ?_) (by rfl) rfl ?_ ?_
     rotate_left 2
     ·go_simp
      constructor
      ·rfl
      ·rfl
     refine hK.out _ _ ⟨(World.cell?_alloc_lt _ _ _ (World.block_lt_of_cell? _ _ (((HB.out.cell (World.block_lt_of_cell? w _ hw550_0)).trans hw550_0)))).trans (((HB.out.cell (World.block_lt_of_cell? w _ hw550_0)).trans hw550_0)), (World.cell?_alloc_lt _ _ _ (World.block_lt_of_cell? _ _ (((HB.out.cell (World.block_lt_of_cell? w _ hw551_0)).trans hw551_0)))).trans (((HB.out.cell (World.block_lt_of_cell? w _ hw551_0)).trans hw551_0))⟩ (fun hHeld => ?_)
     clear hK K
     refine nA ?_
     refine oA 12 (some 26) (tb 14 8191) HT_ (fun K hK => ?_)
     refine Kd.R_append_step (Kd.int .u8) (w0 := w) w.heap.size (by rfl) (.tmp 14) (.tmp 25) 30 5 (.int .u8 0) 1 rfl Tryz.underlying30 info5 rfl (by decide) (by omega) u7 x7_1 t552 [.int .u8 t552] (fun _ => True) (fun _ => False) rfl rfl ?aP (fun _ hk => hk.elim) ?aF ?aO ?aB ?aS ?aL ?_
     (case aP => exact rfl)
     (case aB => exact (by repeat (with_reducible first | exact HB.out | apply pw_below_drewN)))
     (case aF => exact (fun _ _ => trivial))
     (case aO => exact (by (with_reducible repeat (apply Kd.R_drewN)); exact HO_7.out))
     (case aS => exact (below_size (by repeat (with_reducible first | exact HB.out | apply pw_below_drewN))))
     (case aL => have := LMc9.out; omega)
     intro v554 w11 ho hb hg hat
     rw [← Ny553.out] at ho
     replace HB := Aside0.mk (hb)
     have HO555 := Aside0.mk (ho)
     clear HO_7
     clear ho hb hg hat
     refine hK.out _ _ ⟨((HB.out.cell (World.block_lt_of_cell? w _ hw550_0)).trans hw550_0), ((HB.out.cell (World.block_lt_of_cell? w _ hw551_0)).trans hw551_0)⟩ (fun hHeld => ?_)
     clear hK K
     refine nA ?_
     refine pA 13 7 (tb 14 16383) HT_ ?_
     refine done_ (done_of HT_.out (by kernel_rfl)) ?_
     try go_wp2
     go_roundg k1
     case measure => have := HK1.out; omega
     case rel => exact ⟨(y553), (wrap64 (x11_1 + 1)), (by rfl), H', ⟨by have := HK1.out; omega⟩, ⟨by exact HO555.out⟩, ⟨by repeat (with_reducible exact HB.out)⟩⟩
    ·rw [if_neg c9] at H
     exact absurd H (by simp)
   ·obtain rfl := Option.some.inj H
    go_wp2
    go_ret
    exact ⟨_, by rfl, by exact HO_7.out, by repeat (with_reducible exact HB.out)⟩
end Go.Proofs.YtfigblfjogpojaaGreatDoor.PBits
end
section
namespace Go.Proofs.YtfigblfjogpojaaGreatDoor.PBits
open Go.RowKit Go.Proofs.YtfigblfjogpojaaGreatDoorW.PrintWords Go.Proofs.YtfigblfjogpojaaGreatDoorW.PrintLast Go.Proofs.YtfigblfjogpojaaGreatDoorW.PrintMore
attribute [local go_sem] max2_int min2_int max_two min_two max_three min_three max_four min_four
set_option linter.unusedVariables false
set_option linter.unusedSimpArgs false
@[go_sem] theorem sq_max54 : (if IntKind.u64.signed = true then (-1 : Int) else IntKind.u64.max) = 18446744073709551615 := rfl
def bits_And.f (k : Nat) (a0_0 : Int) (a0_1 : Int) (a0_2 : Int) (a1_0 : Int) (a1_1 : Int) (a1_2 : Int) : Option (Int × Int × Int) := (bits_alike.f k a0_0 a0_1 a0_2 a1_0 a1_1 a1_2).bind fun t647 => (if t647 = true then ((bits_make3.f a0_0 (Go.bits .andNot .u64 (Go.bits .andNot .u64 (Go.bits .and .u64 a0_1 a1_1) a0_2) a1_2) (Go.bits .andNot .u64 (Go.bits .or .u64 a0_2 a1_2) (Go.bits .or .u64 (Go.bits .andNot .u64 (Go.bits .xor .u64 18446744073709551615 a0_1) a0_2) (Go.bits .andNot .u64 (Go.bits .xor .u64 18446744073709551615 a1_1) a1_2)))).bind fun bt648 => (some (bt648.1, bt648.2.1, bt648.2.2))) else (some (0, 0, 0)))
set_option maxHeartbeats 8000000 in
set_option maxRecDepth 100000 in
theorem bits_And.calls (k : Nat) (a0_0 : Int) (a0_1 : Int) (a0_2 : Int) (a1_0 : Int) (a1_1 : Int) (a1_2 : Int) (r1 : Int) (r2 : Int) (r3 : Int) (w : World) (h : bits_And.f k a0_0 a0_1 a0_2 a1_0 a1_1 a1_2 = some (r1, r2, r3)) :
  Calls Tryz.prog 54 #[.agg #[.int .i64 a0_0, .int .u64 a0_1, .int .u64 a0_2], .agg #[.int .i64 a1_0, .int .u64 a1_1, .int .u64 a1_2]] w fun e w' => e = .returned (.agg #[.int .i64 r1, .int .u64 r2, .int .u64 r3]) ∧ Below w.heap.size w w' := by
 have hu24 := Tryz.underlying24
 have HB := Aside0.mk (Below.refl w.heap.size w)
 have H := h
 clear h
 unfold bits_And.f at H
 replace H := bN H; obtain ⟨t647, A3, H⟩ := H
 replace H := iB H; rcases H with ⟨rfl, H⟩ | ⟨rfl, H⟩
 ·replace H := bN H; obtain ⟨⟨t648, t649, t650⟩, A5, H⟩ := H; dsimp only at H
  replace H := s3 H; obtain ⟨rfl, rfl, rfl⟩ := H
  go_enter Tryz.func54, Tryz.ntmps54
  go_wp2_with (first | (refine boxA HB 2 #[.int .i64 a0_0, .int .u64 a0_1, .int .u64 a0_2] 24 ?_; clear HB; intro gb644 w6 BK644 GE644 hg hb HB; clear hb hg) | (refine boxA HB 3 #[.int .i64 a1_0, .int .u64 a1_1, .int .u64 a1_2] 24 ?_; clear HB; intro gb645 w7 BK645 GE645 hg hb HB; have NB644_645 := nbA BK644 hg; have NB645_644 := nbB BK644 hg; replace BK644 := bk1 BK644 hb; clear hb hg) | (refine boxA HB 4 #[.int .i64 0, .int .u64 0, .int .u64 0] 24 ?_; clear HB; intro gb646 w8 BK646 GE646 hg hb HB; have NB644_646 := nbA BK644 hg; have NB646_644 := nbB BK644 hg; replace BK644 := bk1 BK644 hb; have NB645_646 := nbA BK645 hg; have NB646_645 := nbB BK645 hg; replace BK645 := bk1 BK645 hb; clear hb hg; have hnb9 := NB644_645.out; have hnc9 := NB645_644.out; have hnb10 := NB644_646.out; have hnc10 := NB646_644.out; obtain ⟨hcz11_0, hcz11_1, hcz11_2, hfz11_0, hfz11_1, hfz11_2⟩ := cf3 BK644; have hnb12 := NB645_646.out; have hnc12 := NB646_645.out; obtain ⟨hcz13_0, hcz13_1, hcz13_2, hfz13_0, hfz13_1, hfz13_2⟩ := cf3 BK645) | (refine callA (some 8) Tryz.func82 #[.agg #[.int .i64 a0_0, .int .u64 a0_1, .int .u64 a0_2], .agg #[.int .i64 a1_0, .int .u64 a1_1, .int .u64 a1_2]] ?_; (with_reducible refine (bits_alike.calls k a0_0 a0_1 a0_2 a1_0 a1_1 a1_2 true _ A3.out).mono ?_); rintro e w14 ⟨rfl, hb⟩; refine ⟨_, rfl, ?_⟩; replace BK644 := bk1 BK644 hb; replace BK645 := bk1 BK645 hb; replace BK646 := bk1 BK646 hb; replace HB := hb1 HB hb; (try clear hb); obtain ⟨hcz15_0, hcz15_1, hcz15_2, hfz15_0, hfz15_1, hfz15_2⟩ := cf3 BK644; obtain ⟨hcz16_0, hcz16_1, hcz16_2, hfz16_0, hfz16_1, hfz16_2⟩ := cf3 BK645) | (refine callA (some 44) Tryz.func16 #[.int .i64 a0_0, .int .u64 (Go.bits .andNot .u64 (Go.bits .andNot .u64 (Go.bits .and .u64 a0_1 a1_1) a0_2) a1_2), .int .u64 (Go.bits .andNot .u64 (Go.bits .or .u64 a0_2 a1_2) (Go.bits .or .u64 (Go.bits .andNot .u64 (Go.bits .xor .u64 18446744073709551615 a0_1) a0_2) (Go.bits .andNot .u64 (Go.bits .xor .u64 18446744073709551615 a1_1) a1_2)))] ?_; (with_reducible refine (bits_make3.calls a0_0 (Go.bits .andNot .u64 (Go.bits .andNot .u64 (Go.bits .and .u64 a0_1 a1_1) a0_2) a1_2) (Go.bits .andNot .u64 (Go.bits .or .u64 a0_2 a1_2) (Go.bits .or .u64 (Go.bits .andNot .u64 (Go.bits .xor .u64 18446744073709551615 a0_1) a0_2) (Go.bits .andNot .u64 (Go.bits .xor .u64 18446744073709551615 a1_1) a1_2))) t648 t649 t650 _ A5.out).mono ?_); rintro e w17 ⟨rfl, hb⟩; refine ⟨_, rfl, ?_⟩; replace BK644 := bk1 BK644 hb; replace BK645 := bk1 BK645 hb; replace BK646 := bk1 BK646 hb; replace HB := hb1 HB hb; (try clear hb); obtain ⟨hcz18_0, hcz18_1, hcz18_2, hfz18_0, hfz18_1, hfz18_2⟩ := cf3 BK646))
  refine retA gb646 24 #[.int .i64 t648, .int .u64 t649, .int .u64 t650] (put3 BK646) Tryz.underlying24 ?_
  exact ⟨by rfl, by repeat (with_reducible first | exact HB.out | refine below_set ?_ GE646.out)⟩
 ·replace H := s3 H; obtain ⟨rfl, rfl, rfl⟩ := H
  go_enter Tryz.func54, Tryz.ntmps54
  go_wp2_with (first | (refine boxA HB 2 #[.int .i64 a0_0, .int .u64 a0_1, .int .u64 a0_2] 24 ?_; clear HB; intro gb644 w19 BK644 GE644 hg hb HB; clear hb hg) | (refine boxA HB 3 #[.int .i64 a1_0, .int .u64 a1_1, .int .u64 a1_2] 24 ?_; clear HB; intro gb645 w20 BK645 GE645 hg hb HB; have NB644_645 := nbA BK644 hg; have NB645_644 := nbB BK644 hg; replace BK644 := bk1 BK644 hb; clear hb hg) | (refine boxA HB 4 #[.int .i64 0, .int .u64 0, .int .u64 0] 24 ?_; clear HB; intro gb646 w21 BK646 GE646 hg hb HB; have NB644_646 := nbA BK644 hg; have NB646_644 := nbB BK644 hg; replace BK644 := bk1 BK644 hb; have NB645_646 := nbA BK645 hg; have NB646_645 := nbB BK645 hg; replace BK645 := bk1 BK645 hb; clear hb hg; have hnb22 := NB644_645.out; have hnc22 := NB645_644.out; have hnb23 := NB644_646.out; have hnc23 := NB646_644.out; obtain ⟨hcz24_0, hcz24_1, hcz24_2, hfz24_0, hfz24_1, hfz24_2⟩ := cf3 BK644; have hnb25 := NB645_646.out; have hnc25 := NB646_645.out; obtain ⟨hcz26_0, hcz26_1, hcz26_2, hfz26_0, hfz26_1, hfz26_2⟩ := cf3 BK645) | (refine callA (some 8) Tryz.func82 #[.agg #[.int .i64 a0_0, .int .u64 a0_1, .int .u64 a0_2], .agg #[.int .i64 a1_0, .int .u64 a1_1, .int .u64 a1_2]] ?_; (with_reducible refine (bits_alike.calls k a0_0 a0_1 a0_2 a1_0 a1_1 a1_2 false _ A3.out).mono ?_); rintro e w27 ⟨rfl, hb⟩; refine ⟨_, rfl, ?_⟩; replace BK644 := bk1 BK644 hb; replace BK645 := bk1 BK645 hb; replace BK646 := bk1 BK646 hb; replace HB := hb1 HB hb; (try clear hb); obtain ⟨hcz28_0, hcz28_1, hcz28_2, hfz28_0, hfz28_1, hfz28_2⟩ := cf3 BK646))
  refine retA gb646 24 #[.int .i64 0, .int .u64 0, .int .u64 0] (put3 BK646) Tryz.underlying24 ?_
  exact ⟨by rfl, by repeat (with_reducible first | exact HB.out | refine below_set ?_ GE646.out)⟩
end Go.Proofs.YtfigblfjogpojaaGreatDoor.PBits
end
section
namespace Go.Proofs.YtfigblfjogpojaaGreatDoor.PBits
open Go.RowKit Go.Proofs.YtfigblfjogpojaaGreatDoorW.PrintWords Go.Proofs.YtfigblfjogpojaaGreatDoorW.PrintLast Go.Proofs.YtfigblfjogpojaaGreatDoorW.PrintMore
attribute [local go_sem] max2_int min2_int max_two min_two max_three min_three max_four min_four
set_option linter.unusedVariables false
set_option linter.unusedSimpArgs false
def bits_Or.f (k : Nat) (a0_0 : Int) (a0_1 : Int) (a0_2 : Int) (a1_0 : Int) (a1_1 : Int) (a1_2 : Int) : Option (Int × Int × Int) := (bits_alike.f k a0_0 a0_1 a0_2 a1_0 a1_1 a1_2).bind fun t654 => (if t654 = true then ((bits_make3.f a0_0 (Go.bits .or .u64 (Go.bits .andNot .u64 a0_1 a0_2) (Go.bits .andNot .u64 a1_1 a1_2)) (Go.bits .andNot .u64 (Go.bits .or .u64 a0_2 a1_2) (Go.bits .or .u64 (Go.bits .andNot .u64 a0_1 a0_2) (Go.bits .andNot .u64 a1_1 a1_2)))).bind fun bt655 => (some (bt655.1, bt655.2.1, bt655.2.2))) else (some (0, 0, 0)))
set_option maxHeartbeats 8000000 in
set_option maxRecDepth 100000 in
theorem bits_Or.calls (k : Nat) (a0_0 : Int) (a0_1 : Int) (a0_2 : Int) (a1_0 : Int) (a1_1 : Int) (a1_2 : Int) (r1 : Int) (r2 : Int) (r3 : Int) (w : World) (h : bits_Or.f k a0_0 a0_1 a0_2 a1_0 a1_1 a1_2 = some (r1, r2, r3)) :
  Calls Tryz.prog 55 #[.agg #[.int .i64 a0_0, .int .u64 a0_1, .int .u64 a0_2], .agg #[.int .i64 a1_0, .int .u64 a1_1, .int .u64 a1_2]] w fun e w' => e = .returned (.agg #[.int .i64 r1, .int .u64 r2, .int .u64 r3]) ∧ Below w.heap.size w w' := by
 have hu24 := Tryz.underlying24
 have HB := Aside0.mk (Below.refl w.heap.size w)
 have H := h
 clear h
 unfold bits_Or.f at H
 replace H := bN H; obtain ⟨t654, A3, H⟩ := H
 replace H := iB H; rcases H with ⟨rfl, H⟩ | ⟨rfl, H⟩
 ·replace H := bN H; obtain ⟨⟨t655, t656, t657⟩, A5, H⟩ := H; dsimp only at H
  replace H := s3 H; obtain ⟨rfl, rfl, rfl⟩ := H
  go_enter Tryz.func55, Tryz.ntmps55
  go_wp2_with (first | (refine boxA HB 2 #[.int .i64 a0_0, .int .u64 a0_1, .int .u64 a0_2] 24 ?_; clear HB; intro gb651 w6 BK651 GE651 hg hb HB; clear hb hg) | (refine boxA HB 3 #[.int .i64 a1_0, .int .u64 a1_1, .int .u64 a1_2] 24 ?_; clear HB; intro gb652 w7 BK652 GE652 hg hb HB; have NB651_652 := nbA BK651 hg; have NB652_651 := nbB BK651 hg; replace BK651 := bk1 BK651 hb; clear hb hg) | (refine boxA HB 4 #[.int .i64 0, .int .u64 0, .int .u64 0] 24 ?_; clear HB; intro gb653 w8 BK653 GE653 hg hb HB; have NB651_653 := nbA BK651 hg; have NB653_651 := nbB BK651 hg; replace BK651 := bk1 BK651 hb; have NB652_653 := nbA BK652 hg; have NB653_652 := nbB BK652 hg; replace BK652 := bk1 BK652 hb; clear hb hg; have hnb9 := NB651_652.out; have hnc9 := NB652_651.out; have hnb10 := NB651_653.out; have hnc10 := NB653_651.out; obtain ⟨hcz11_0, hcz11_1, hcz11_2, hfz11_0, hfz11_1, hfz11_2⟩ := cf3 BK651; have hnb12 := NB652_653.out; have hnc12 := NB653_652.out; obtain ⟨hcz13_0, hcz13_1, hcz13_2, hfz13_0, hfz13_1, hfz13_2⟩ := cf3 BK652) | (refine callA (some 8) Tryz.func82 #[.agg #[.int .i64 a0_0, .int .u64 a0_1, .int .u64 a0_2], .agg #[.int .i64 a1_0, .int .u64 a1_1, .int .u64 a1_2]] ?_; (with_reducible refine (bits_alike.calls k a0_0 a0_1 a0_2 a1_0 a1_1 a1_2 true _ A3.out).mono ?_); rintro e w14 ⟨rfl, hb⟩; refine ⟨_, rfl, ?_⟩; replace BK651 := bk1 BK651 hb; replace BK652 := bk1 BK652 hb; replace BK653 := bk1 BK653 hb; replace HB := hb1 HB hb; (try clear hb); obtain ⟨hcz15_0, hcz15_1, hcz15_2, hfz15_0, hfz15_1, hfz15_2⟩ := cf3 BK651; obtain ⟨hcz16_0, hcz16_1, hcz16_2, hfz16_0, hfz16_1, hfz16_2⟩ := cf3 BK652) | (refine callA (some 32) Tryz.func16 #[.int .i64 a0_0, .int .u64 (Go.bits .or .u64 (Go.bits .andNot .u64 a0_1 a0_2) (Go.bits .andNot .u64 a1_1 a1_2)), .int .u64 (Go.bits .andNot .u64 (Go.bits .or .u64 a0_2 a1_2) (Go.bits .or .u64 (Go.bits .andNot .u64 a0_1 a0_2) (Go.bits .andNot .u64 a1_1 a1_2)))] ?_; (with_reducible refine (bits_make3.calls a0_0 (Go.bits .or .u64 (Go.bits .andNot .u64 a0_1 a0_2) (Go.bits .andNot .u64 a1_1 a1_2)) (Go.bits .andNot .u64 (Go.bits .or .u64 a0_2 a1_2) (Go.bits .or .u64 (Go.bits .andNot .u64 a0_1 a0_2) (Go.bits .andNot .u64 a1_1 a1_2))) t655 t656 t657 _ A5.out).mono ?_); rintro e w17 ⟨rfl, hb⟩; refine ⟨_, rfl, ?_⟩; replace BK651 := bk1 BK651 hb; replace BK652 := bk1 BK652 hb; replace BK653 := bk1 BK653 hb; replace HB := hb1 HB hb; (try clear hb); obtain ⟨hcz18_0, hcz18_1, hcz18_2, hfz18_0, hfz18_1, hfz18_2⟩ := cf3 BK653))
  refine retA gb653 24 #[.int .i64 t655, .int .u64 t656, .int .u64 t657] (put3 BK653) Tryz.underlying24 ?_
  exact ⟨by rfl, by repeat (with_reducible first | exact HB.out | refine below_set ?_ GE653.out)⟩
 ·replace H := s3 H; obtain ⟨rfl, rfl, rfl⟩ := H
  go_enter Tryz.func55, Tryz.ntmps55
  go_wp2_with (first | (refine boxA HB 2 #[.int .i64 a0_0, .int .u64 a0_1, .int .u64 a0_2] 24 ?_; clear HB; intro gb651 w19 BK651 GE651 hg hb HB; clear hb hg) | (refine boxA HB 3 #[.int .i64 a1_0, .int .u64 a1_1, .int .u64 a1_2] 24 ?_; clear HB; intro gb652 w20 BK652 GE652 hg hb HB; have NB651_652 := nbA BK651 hg; have NB652_651 := nbB BK651 hg; replace BK651 := bk1 BK651 hb; clear hb hg) | (refine boxA HB 4 #[.int .i64 0, .int .u64 0, .int .u64 0] 24 ?_; clear HB; intro gb653 w21 BK653 GE653 hg hb HB; have NB651_653 := nbA BK651 hg; have NB653_651 := nbB BK651 hg; replace BK651 := bk1 BK651 hb; have NB652_653 := nbA BK652 hg; have NB653_652 := nbB BK652 hg; replace BK652 := bk1 BK652 hb; clear hb hg; have hnb22 := NB651_652.out; have hnc22 := NB652_651.out; have hnb23 := NB651_653.out; have hnc23 := NB653_651.out; obtain ⟨hcz24_0, hcz24_1, hcz24_2, hfz24_0, hfz24_1, hfz24_2⟩ := cf3 BK651; have hnb25 := NB652_653.out; have hnc25 := NB653_652.out; obtain ⟨hcz26_0, hcz26_1, hcz26_2, hfz26_0, hfz26_1, hfz26_2⟩ := cf3 BK652) | (refine callA (some 8) Tryz.func82 #[.agg #[.int .i64 a0_0, .int .u64 a0_1, .int .u64 a0_2], .agg #[.int .i64 a1_0, .int .u64 a1_1, .int .u64 a1_2]] ?_; (with_reducible refine (bits_alike.calls k a0_0 a0_1 a0_2 a1_0 a1_1 a1_2 false _ A3.out).mono ?_); rintro e w27 ⟨rfl, hb⟩; refine ⟨_, rfl, ?_⟩; replace BK651 := bk1 BK651 hb; replace BK652 := bk1 BK652 hb; replace BK653 := bk1 BK653 hb; replace HB := hb1 HB hb; (try clear hb); obtain ⟨hcz28_0, hcz28_1, hcz28_2, hfz28_0, hfz28_1, hfz28_2⟩ := cf3 BK653))
  refine retA gb653 24 #[.int .i64 0, .int .u64 0, .int .u64 0] (put3 BK653) Tryz.underlying24 ?_
  exact ⟨by rfl, by repeat (with_reducible first | exact HB.out | refine below_set ?_ GE653.out)⟩
end Go.Proofs.YtfigblfjogpojaaGreatDoor.PBits
end
section
namespace Go.Proofs.YtfigblfjogpojaaGreatDoor.PBits
open Go.RowKit Go.Proofs.YtfigblfjogpojaaGreatDoorW.PrintWords Go.Proofs.YtfigblfjogpojaaGreatDoorW.PrintLast Go.Proofs.YtfigblfjogpojaaGreatDoorW.PrintMore
attribute [local go_sem] max2_int min2_int max_two min_two max_three min_three max_four min_four
set_option linter.unusedVariables false
set_option linter.unusedSimpArgs false
def bits_Xor.f (k : Nat) (a0_0 : Int) (a0_1 : Int) (a0_2 : Int) (a1_0 : Int) (a1_1 : Int) (a1_2 : Int) : Option (Int × Int × Int) := (bits_alike.f k a0_0 a0_1 a0_2 a1_0 a1_1 a1_2).bind fun t661 => (if t661 = true then ((bits_make3.f a0_0 (Go.bits .andNot .u64 (Go.bits .xor .u64 a0_1 a1_1) (Go.bits .or .u64 a0_2 a1_2)) (Go.bits .or .u64 a0_2 a1_2)).bind fun bt662 => (some (bt662.1, bt662.2.1, bt662.2.2))) else (some (0, 0, 0)))
set_option maxHeartbeats 8000000 in
set_option maxRecDepth 100000 in
theorem bits_Xor.calls (k : Nat) (a0_0 : Int) (a0_1 : Int) (a0_2 : Int) (a1_0 : Int) (a1_1 : Int) (a1_2 : Int) (r1 : Int) (r2 : Int) (r3 : Int) (w : World) (h : bits_Xor.f k a0_0 a0_1 a0_2 a1_0 a1_1 a1_2 = some (r1, r2, r3)) :
  Calls Tryz.prog 56 #[.agg #[.int .i64 a0_0, .int .u64 a0_1, .int .u64 a0_2], .agg #[.int .i64 a1_0, .int .u64 a1_1, .int .u64 a1_2]] w fun e w' => e = .returned (.agg #[.int .i64 r1, .int .u64 r2, .int .u64 r3]) ∧ Below w.heap.size w w' := by
 have hu24 := Tryz.underlying24
 have HB := Aside0.mk (Below.refl w.heap.size w)
 have H := h
 clear h
 unfold bits_Xor.f at H
 replace H := bN H; obtain ⟨t661, A3, H⟩ := H
 replace H := iB H; rcases H with ⟨rfl, H⟩ | ⟨rfl, H⟩
 ·replace H := bN H; obtain ⟨⟨t662, t663, t664⟩, A5, H⟩ := H; dsimp only at H
  replace H := s3 H; obtain ⟨rfl, rfl, rfl⟩ := H
  go_enter Tryz.func56, Tryz.ntmps56
  go_wp2_with (first | (refine boxA HB 2 #[.int .i64 a0_0, .int .u64 a0_1, .int .u64 a0_2] 24 ?_; clear HB; intro gb658 w6 BK658 GE658 hg hb HB; clear hb hg) | (refine boxA HB 3 #[.int .i64 a1_0, .int .u64 a1_1, .int .u64 a1_2] 24 ?_; clear HB; intro gb659 w7 BK659 GE659 hg hb HB; have NB658_659 := nbA BK658 hg; have NB659_658 := nbB BK658 hg; replace BK658 := bk1 BK658 hb; clear hb hg) | (refine boxA HB 4 #[.int .i64 0, .int .u64 0, .int .u64 0] 24 ?_; clear HB; intro gb660 w8 BK660 GE660 hg hb HB; have NB658_660 := nbA BK658 hg; have NB660_658 := nbB BK658 hg; replace BK658 := bk1 BK658 hb; have NB659_660 := nbA BK659 hg; have NB660_659 := nbB BK659 hg; replace BK659 := bk1 BK659 hb; clear hb hg; have hnb9 := NB658_659.out; have hnc9 := NB659_658.out; have hnb10 := NB658_660.out; have hnc10 := NB660_658.out; obtain ⟨hcz11_0, hcz11_1, hcz11_2, hfz11_0, hfz11_1, hfz11_2⟩ := cf3 BK658; have hnb12 := NB659_660.out; have hnc12 := NB660_659.out; obtain ⟨hcz13_0, hcz13_1, hcz13_2, hfz13_0, hfz13_1, hfz13_2⟩ := cf3 BK659) | (refine callA (some 7) Tryz.func82 #[.agg #[.int .i64 a0_0, .int .u64 a0_1, .int .u64 a0_2], .agg #[.int .i64 a1_0, .int .u64 a1_1, .int .u64 a1_2]] ?_; (with_reducible refine (bits_alike.calls k a0_0 a0_1 a0_2 a1_0 a1_1 a1_2 true _ A3.out).mono ?_); rintro e w14 ⟨rfl, hb⟩; refine ⟨_, rfl, ?_⟩; replace BK658 := bk1 BK658 hb; replace BK659 := bk1 BK659 hb; replace BK660 := bk1 BK660 hb; replace HB := hb1 HB hb; (try clear hb); obtain ⟨hcz15_0, hcz15_1, hcz15_2, hfz15_0, hfz15_1, hfz15_2⟩ := cf3 BK658; obtain ⟨hcz16_0, hcz16_1, hcz16_2, hfz16_0, hfz16_1, hfz16_2⟩ := cf3 BK659) | (refine callA (some 28) Tryz.func16 #[.int .i64 a0_0, .int .u64 (Go.bits .andNot .u64 (Go.bits .xor .u64 a0_1 a1_1) (Go.bits .or .u64 a0_2 a1_2)), .int .u64 (Go.bits .or .u64 a0_2 a1_2)] ?_; (with_reducible refine (bits_make3.calls a0_0 (Go.bits .andNot .u64 (Go.bits .xor .u64 a0_1 a1_1) (Go.bits .or .u64 a0_2 a1_2)) (Go.bits .or .u64 a0_2 a1_2) t662 t663 t664 _ A5.out).mono ?_); rintro e w17 ⟨rfl, hb⟩; refine ⟨_, rfl, ?_⟩; replace BK658 := bk1 BK658 hb; replace BK659 := bk1 BK659 hb; replace BK660 := bk1 BK660 hb; replace HB := hb1 HB hb; (try clear hb); obtain ⟨hcz18_0, hcz18_1, hcz18_2, hfz18_0, hfz18_1, hfz18_2⟩ := cf3 BK660))
  refine retA gb660 24 #[.int .i64 t662, .int .u64 t663, .int .u64 t664] (put3 BK660) Tryz.underlying24 ?_
  exact ⟨by rfl, by repeat (with_reducible first | exact HB.out | refine below_set ?_ GE660.out)⟩
 ·replace H := s3 H; obtain ⟨rfl, rfl, rfl⟩ := H
  go_enter Tryz.func56, Tryz.ntmps56
  go_wp2_with (first | (refine boxA HB 2 #[.int .i64 a0_0, .int .u64 a0_1, .int .u64 a0_2] 24 ?_; clear HB; intro gb658 w19 BK658 GE658 hg hb HB; clear hb hg) | (refine boxA HB 3 #[.int .i64 a1_0, .int .u64 a1_1, .int .u64 a1_2] 24 ?_; clear HB; intro gb659 w20 BK659 GE659 hg hb HB; have NB658_659 := nbA BK658 hg; have NB659_658 := nbB BK658 hg; replace BK658 := bk1 BK658 hb; clear hb hg) | (refine boxA HB 4 #[.int .i64 0, .int .u64 0, .int .u64 0] 24 ?_; clear HB; intro gb660 w21 BK660 GE660 hg hb HB; have NB658_660 := nbA BK658 hg; have NB660_658 := nbB BK658 hg; replace BK658 := bk1 BK658 hb; have NB659_660 := nbA BK659 hg; have NB660_659 := nbB BK659 hg; replace BK659 := bk1 BK659 hb; clear hb hg; have hnb22 := NB658_659.out; have hnc22 := NB659_658.out; have hnb23 := NB658_660.out; have hnc23 := NB660_658.out; obtain ⟨hcz24_0, hcz24_1, hcz24_2, hfz24_0, hfz24_1, hfz24_2⟩ := cf3 BK658; have hnb25 := NB659_660.out; have hnc25 := NB660_659.out; obtain ⟨hcz26_0, hcz26_1, hcz26_2, hfz26_0, hfz26_1, hfz26_2⟩ := cf3 BK659) | (refine callA (some 7) Tryz.func82 #[.agg #[.int .i64 a0_0, .int .u64 a0_1, .int .u64 a0_2], .agg #[.int .i64 a1_0, .int .u64 a1_1, .int .u64 a1_2]] ?_; (with_reducible refine (bits_alike.calls k a0_0 a0_1 a0_2 a1_0 a1_1 a1_2 false _ A3.out).mono ?_); rintro e w27 ⟨rfl, hb⟩; refine ⟨_, rfl, ?_⟩; replace BK658 := bk1 BK658 hb; replace BK659 := bk1 BK659 hb; replace BK660 := bk1 BK660 hb; replace HB := hb1 HB hb; (try clear hb); obtain ⟨hcz28_0, hcz28_1, hcz28_2, hfz28_0, hfz28_1, hfz28_2⟩ := cf3 BK660))
  refine retA gb660 24 #[.int .i64 0, .int .u64 0, .int .u64 0] (put3 BK660) Tryz.underlying24 ?_
  exact ⟨by rfl, by repeat (with_reducible first | exact HB.out | refine below_set ?_ GE660.out)⟩
end Go.Proofs.YtfigblfjogpojaaGreatDoor.PBits
end
section
namespace Go.Proofs.YtfigblfjogpojaaGreatDoor.PBits
open Go.RowKit Go.Proofs.YtfigblfjogpojaaGreatDoorW.PrintWords Go.Proofs.YtfigblfjogpojaaGreatDoorW.PrintLast Go.Proofs.YtfigblfjogpojaaGreatDoorW.PrintMore
attribute [local go_sem] max2_int min2_int max_two min_two max_three min_three max_four min_four
set_option linter.unusedVariables false
set_option linter.unusedSimpArgs false
def bits_LAnd.j0 : Nat → Int → Int → Bool → Option (Int × Int × Int)
 | 0, _, _, _ => none
 | k + 1, x5, x6, x22 => if x22 = true then ((bits_truth.f 0).bind fun bt674 => (some (bt674.1, bt674.2.1, bt674.2.2))) else ((bits_truth.f (mn x5 x6)).bind fun bt677 => (some (bt677.1, bt677.2.1, bt677.2.2)))
def bits_LAnd.f (k : Nat) (a0_0 : Int) (a0_1 : Int) (a0_2 : Int) (a1_0 : Int) (a1_1 : Int) (a1_2 : Int) : Option (Int × Int × Int) := (bits_valid.f k (([(⟨a0_0, a0_1, a0_2⟩ : S24), (⟨a1_0, a1_1, a1_2⟩ : S24)] : List (S24)))).bind fun t671 => (if t671 = true then ((bits_True.f k a0_0 a0_1 a0_2).bind fun t672 => ((bits_True.f k a1_0 a1_1 a1_2).bind fun t673 => (if t672 = 0 then (bits_LAnd.j0 k t672 t673 true) else (bits_LAnd.j0 k t672 t673 (t673 == 0))))) else (some (0, 0, 0)))
set_option maxHeartbeats 8000000 in
set_option maxRecDepth 100000 in
theorem bits_LAnd.calls (k : Nat) (a0_0 : Int) (a0_1 : Int) (a0_2 : Int) (a1_0 : Int) (a1_1 : Int) (a1_2 : Int) (r1 : Int) (r2 : Int) (r3 : Int) (w : World) (h : bits_LAnd.f k a0_0 a0_1 a0_2 a1_0 a1_1 a1_2 = some (r1, r2, r3)) :
  Calls Tryz.prog 57 #[.agg #[.int .i64 a0_0, .int .u64 a0_1, .int .u64 a0_2], .agg #[.int .i64 a1_0, .int .u64 a1_1, .int .u64 a1_2]] w fun e w' => e = .returned (.agg #[.int .i64 r1, .int .u64 r2, .int .u64 r3]) ∧ Below w.heap.size w w' := by
 have hu24 := Tryz.underlying24
 have HB := Aside0.mk (Below.refl w.heap.size w)
 have H := h
 clear h
 unfold bits_LAnd.f at H
 obtain ⟨y668, hy668⟩ : ∃ y_ : List (S24), y_ = ([(⟨a0_0, a0_1, a0_2⟩ : S24), (⟨a1_0, a1_1, a1_2⟩ : S24)] : List (S24)) := ⟨_, rfl⟩
 replace H : ((bits_valid.f k y668).bind fun t671 => (if t671 = true then ((bits_True.f k a0_0 a0_1 a0_2).bind fun t672 => ((bits_True.f k a1_0 a1_1 a1_2).bind fun t673 => (if t672 = 0 then (bits_LAnd.j0 k t672 t673 true) else (bits_LAnd.j0 k t672 t673 (t673 == 0))))) else (some (0, 0, 0)))) = some (r1, r2, r3) := by (rw [hy668]; with_reducible exact H)
 have Ny668 := Aside0.mk hy668
 clear hy668
 replace H := bN H; obtain ⟨t671, A3, H⟩ := H
 replace H := iB H; rcases H with ⟨rfl, H⟩ | ⟨rfl, H⟩
 ·replace H := bN H; obtain ⟨t672, A5, H⟩ := H
  replace H := bN H; obtain ⟨t673, A6, H⟩ := H
  have HC7 := Aside0.mk H
  clear H
  go_enter Tryz.func57, Tryz.ntmps57
  try go_wp2_with (first | (refine boxA HB 2 #[.int .i64 a0_0, .int .u64 a0_1, .int .u64 a0_2] 24 ?_; clear HB; intro gb665 w8 BK665 GE665 hg hb HB; clear hb hg) | (refine boxA HB 3 #[.int .i64 a1_0, .int .u64 a1_1, .int .u64 a1_2] 24 ?_; clear HB; intro gb666 w9 BK666 GE666 hg hb HB; have NB665_666 := nbA BK665 hg; have NB666_665 := nbB BK665 hg; replace BK665 := bk1 BK665 hb; clear hb hg) | (refine boxA HB 4 #[.int .i64 0, .int .u64 0, .int .u64 0] 24 ?_; clear HB; intro gb667 w10 BK667 GE667 hg hb HB; have NB665_667 := nbA BK665 hg; have NB667_665 := nbB BK665 hg; replace BK665 := bk1 BK665 hb; have NB666_667 := nbA BK666 hg; have NB667_666 := nbB BK666 hg; replace BK666 := bk1 BK666 hb; clear hb hg; have hnb11 := NB665_666.out; have hnc11 := NB666_665.out; have hnb12 := NB665_667.out; have hnc12 := NB667_665.out; obtain ⟨hcz13_0, hcz13_1, hcz13_2, hfz13_0, hfz13_1, hfz13_2⟩ := cf3 BK665; have hnb14 := NB666_667.out; have hnc14 := NB667_666.out; obtain ⟨hcz15_0, hcz15_1, hcz15_2, hfz15_0, hfz15_1, hfz15_2⟩ := cf3 BK666) | ((with_reducible refine gate_dst (N := 9) rfl ?_); refine Kd.R_lit k24 _ 24 ?hg (N := 9) ?hd (xs := ([(⟨a0_0, a0_1, a0_2⟩ : S24), (⟨a1_0, a1_1, a1_2⟩ : S24)] : List (S24))) (inner := [.int .i64 a0_0, .int .u64 a0_1, .int .u64 a0_2, .int .i64 a1_0, .int .u64 a1_1, .int .u64 a1_2]) (ok := fun _ => True) (okp := fun _ => True) ?hr ?hp (fun _ hk => hk) trivial (Below.refl _ _) (Nat.le_refl _) (by simp) ?_; (case hd => rfl); (case hg => rfl); (case hr => (go_simp; done)); (case hp => exact (Reps.c3 (show Kd.M k24 _ _ _ (⟨a0_0, a0_1, a0_2⟩ : S24) [.int .i64 a0_0, .int .u64 a0_1, .int .u64 a0_2] from (k24_mkM _ _ _ (⟨a0_0, a0_1, a0_2⟩ : S24) )) (Reps.c3 (show Kd.M k24 _ _ _ (⟨a1_0, a1_1, a1_2⟩ : S24) [.int .i64 a1_0, .int .u64 a1_1, .int .u64 a1_2] from (k24_mkM _ _ _ (⟨a1_0, a1_1, a1_2⟩ : S24) )) (Reps.none _ _)))); intro v669 w16 ho17 hb hg_ hnew_; clear hg_ hnew_; (rw [← Ny668.out] at ho17); have HO670 := Aside0.mk (Kd.R_lower (Kd.R_newB (Kd.R_newB (Kd.R_newB ho17 BK665.out) BK666.out) BK667.out) (below_size HB.out)); replace BK665 := bk1 BK665 hb; replace BK666 := bk1 BK666 hb; replace BK667 := bk1 BK667 hb; replace HB := hb1 HB hb; clear hb ho17; obtain ⟨Ao18, co18, eo18⟩ := Kd.R_slice HO670.out; subst eo18) | (refine callA (some 10) Tryz.func15 #[.slice Ao18 y668.length co18] ?_; (with_reducible refine (bits_valid.calls k _ _ y668 true _ ?side1 ?side2 A3.out).mono ?_); (case side1 => exact (Kd.R_reads' HO670.out).2.2); (case side2 => exact (Kd.R_reads' HO670.out).2.1); rintro e w19 ⟨rfl, hb⟩; refine ⟨_, rfl, ?_⟩; replace HO670 := Kd.rb1 HO670 hb; replace BK665 := bk1 BK665 hb; replace BK666 := bk1 BK666 hb; replace BK667 := bk1 BK667 hb; replace HB := hb1 HB hb; (try clear hb)))
  replace HO670 := Aside0.mk (Kd.R_drew HO670.out)
  replace BK665 := bkd BK665
  replace BK666 := bkd BK666
  replace BK667 := bkd BK667
  replace HB := hbd HB
  refine start_ (n := 6) (S := fun w' => w'.cell? ⟨gb665, 0, none⟩ = some (.int .i64 a0_0) ∧ w'.cell? ⟨gb665, 1, none⟩ = some (.int .u64 a0_1) ∧ w'.cell? ⟨gb665, 2, none⟩ = some (.int .u64 a0_2) ∧ w'.cell? ⟨gb666, 0, none⟩ = some (.int .i64 a1_0) ∧ w'.cell? ⟨gb666, 1, none⟩ = some (.int .u64 a1_1) ∧ w'.cell? ⟨gb666, 2, none⟩ = some (.int .u64 a1_2)) (ds := []) (tb 6 0) (by kernel_rfl) rfl (by kernel_rfl) (c3 BK665 (d3 BK666)) (fun hHeld => ?_)
  generalize w19.drew = w20 at HO670 BK665 BK666 BK667 HB hHeld ⊢
  refine take_ (i := 0) (N := some 13) (v := ?_) (a' := ?_) #[true, false, false, false, false, false] rfl rfl (by kernel_rfl) (fun _ _ _ h => h) (Or.inl ⟨by rfl, ?_⟩) hHeld ?_ ?_
  rotate_left
  ·rintro w' ⟨s0, s1, s2, s3, s4, s5⟩
   go_simp
   with_reducible rfl
  rotate_left
  ·simp only [Act.put, List.setIfInBounds_toArray, List.set_cons_zero, List.set_cons_succ, i64_w, i32_w]
   rfl
  refine take_ (i := 2) (N := some 15) (v := ?_) (a' := ?_) #[true, false, true, false, false, false] rfl rfl (by kernel_rfl) (fun _ _ _ h => h) (Or.inl ⟨by rfl, ?_⟩) hHeld ?_ ?_
  rotate_left
  ·rintro w' ⟨s0, s1, s2, s3, s4, s5⟩
   go_simp
   with_reducible rfl
  rotate_left
  ·simp only [Act.put, List.setIfInBounds_toArray, List.set_cons_zero, List.set_cons_succ, i64_w, i32_w]
   rfl
  refine one_ (i := 1) (N := some 14) #[true, true, true, false, false, false] rfl rfl (by kernel_rfl) (by decide) (fun K hK => ?_)
  refine gA Tryz.func19 #[.agg #[.int .i64 a0_0, .int .u64 a0_1, .int .u64 a0_2]] ?_
  with_reducible refine (bits_True.calls k a0_0 a0_1 a0_2 t672 _ A5.out).mono ?_
  rintro e w21 ⟨rfl, hb⟩
  refine ⟨_, rfl, ?_⟩
  replace HO670 := Kd.rb1 HO670 hb
  replace BK665 := bk1 BK665 hb
  replace BK666 := bk1 BK666 hb
  replace BK667 := bk1 BK667 hb
  replace HB := hb1 HB hb
  (try clear hb)
  refine hK.out _ _ (c3 BK665 (d3 BK666)) (fun hHeld => ?_)
  clear hK K
  refine nA ?_
  refine one_ (i := 3) (N := some 16) #[true, true, true, true, false, false] rfl rfl (by kernel_rfl) (by decide) (fun K hK => ?_)
  refine gA Tryz.func19 #[.agg #[.int .i64 a1_0, .int .u64 a1_1, .int .u64 a1_2]] ?_
  with_reducible refine (bits_True.calls k a1_0 a1_1 a1_2 t673 _ A6.out).mono ?_
  rintro e w22 ⟨rfl, hb⟩
  refine ⟨_, rfl, ?_⟩
  replace HO670 := Kd.rb1 HO670 hb
  replace BK665 := bk1 BK665 hb
  replace BK666 := bk1 BK666 hb
  replace BK667 := bk1 BK667 hb
  replace HB := hb1 HB hb
  (try clear hb)
  refine hK.out _ _ (c3 BK665 (d3 BK666)) (fun hHeld => ?_)
  clear hK K
  refine nA ?_
  refine pure_ (i := 4) (N := some 5) (v := ?_) (a' := ?_) #[true, true, true, true, true, false] rfl rfl (by kernel_rfl) (fun _ _ _ h => h) (Or.inl ⟨by rfl, ?_⟩) ?_ ?_
  rotate_left
  ·intro w'
   go_simp
   with_reducible rfl
  rotate_left
  ·simp only [Act.put, List.setIfInBounds_toArray, List.set_cons_zero, List.set_cons_succ, i64_w, i32_w]
   rfl
  refine pure_ (i := 5) (N := some 6) (v := ?_) (a' := ?_) #[true, true, true, true, true, true] rfl rfl (by kernel_rfl) (fun _ _ _ h => h) (Or.inl ⟨by rfl, ?_⟩) ?_ ?_
  rotate_left
  ·intro w'
   go_simp
   with_reducible rfl
  rotate_left
  ·simp only [Act.put, List.setIfInBounds_toArray, List.set_cons_zero, List.set_cons_succ, i64_w, i32_w]
   rfl
  refine done_ (by kernel_rfl) ?_
  go_upto_region 4 with (fail)
  go_cut [22] (fun v22 wc => ∃ (kq : Nat) (x22_6 : Bool), v22 = .bool x22_6 ∧ Aside0 (bits_LAnd.j0 kq t672 t673 x22_6 = some (r1, r2, r3)) ∧ Aside0 (kq ≤ k) ∧ Aside0 (wc.heap[gb665]? = some (.cells #[.int .i64 a0_0, .int .u64 a0_1, .int .u64 a0_2] 24 (0, 0))) ∧ Aside0 (wc.heap[gb666]? = some (.cells #[.int .i64 a1_0, .int .u64 a1_1, .int .u64 a1_2] 24 (0, 0))) ∧ Aside0 (wc.heap[gb667]? = some (.cells #[.int .i64 0, .int .u64 0, .int .u64 0] 24 (0, 0))) ∧ Aside0 (Below w.heap.size w wc))
  case first =>
   have H := HC7.out
   clear HC7
   replace H := iE H; rcases H with ⟨c23b0, c23b1, H⟩ | ⟨c23, c23b0, c23b1, H⟩
   ·(skip)
    have H' := Aside0.mk H
    clear H
    go_wp2
    go_meet
    case rel => exact ⟨_, (true), (by rfl), H', ⟨by omega⟩, ⟨by exact BK665.out⟩, ⟨by exact BK666.out⟩, ⟨by exact BK667.out⟩, ⟨by repeat (with_reducible exact HB.out)⟩⟩
   ·(skip)
    have H' := Aside0.mk H
    clear H
    go_wp2
    go_meet
    case rel => exact ⟨_, (t673 == 0), (by rfl), H', ⟨by omega⟩, ⟨by exact BK665.out⟩, ⟨by exact BK666.out⟩, ⟨by exact BK667.out⟩, ⟨by repeat (with_reducible exact HB.out)⟩⟩
  case rest =>
   clear HC7
   (try clear hcz13_0 hcz13_1 hcz13_2); (try clear hcz15_0 hcz15_1 hcz15_2); (try clear hfz13_0 hfz13_1 hfz13_2); (try clear hfz15_0 hfz15_1 hfz15_2)
   obtain ⟨kq, x22_6, rfl, HA, HJ6, BK665, BK666, BK667, HB⟩ := hcut
   cases kq with
   | zero => exact absurd HA.out (by simp [bits_LAnd.j0])
   | succ kj6 =>
    have H := HA.out
    clear HA
    simp only [bits_LAnd.j0] at H
    replace H := iB H; rcases H with ⟨rfl, H⟩ | ⟨rfl, H⟩
    ·replace H := bN H; obtain ⟨⟨t674, t675, t676⟩, A25, H⟩ := H; dsimp only at H
     replace H := s3 H; obtain ⟨rfl, rfl, rfl⟩ := H
     go_wp2_with ((refine callA (some 23) Tryz.func18 #[.int .i64 0] ?_; (with_reducible refine (bits_truth.calls 0 t674 t675 t676 _ A25.out).mono ?_); rintro e w26 ⟨rfl, hb⟩; refine ⟨_, rfl, ?_⟩; replace BK665 := bk1 BK665 hb; replace BK666 := bk1 BK666 hb; replace BK667 := bk1 BK667 hb; replace HB := hb1 HB hb; (try clear hb); have hnb27 := NB667_665.out; have hnc27 := NB665_667.out; have hnb28 := NB667_666.out; have hnc28 := NB666_667.out; obtain ⟨hcz29_0, hcz29_1, hcz29_2, hfz29_0, hfz29_1, hfz29_2⟩ := cf3 BK667))
     refine retA gb667 24 #[.int .i64 t674, .int .u64 t675, .int .u64 t676] (put3 BK667) Tryz.underlying24 ?_
     exact ⟨by rfl, by repeat (with_reducible first | exact HB.out | refine below_set ?_ GE667.out)⟩
    ·obtain ⟨ji30, hji30⟩ : ∃ j_ : Int, (mn t672 t673) = j_ := ⟨_, rfl⟩
     replace H : ((bits_truth.f (ji30)).bind fun bt677 => (some (bt677.1, bt677.2.1, bt677.2.2))) = some (r1, r2, r3) := by (rw [hji30] at H; exact H)
     have hji30_ : (if t673 < t672 then t673 else t672) = ji30 := hji30
     replace H := bN H; obtain ⟨⟨t677, t678, t679⟩, A31, H⟩ := H; dsimp only at H
     replace H := s3 H; obtain ⟨rfl, rfl, rfl⟩ := H
     go_wp2_with ((refine callA (some 27) Tryz.func18 #[.int .i64 ji30] ?_; (with_reducible refine (bits_truth.calls ji30 t677 t678 t679 _ A31.out).mono ?_); rintro e w32 ⟨rfl, hb⟩; refine ⟨_, rfl, ?_⟩; replace BK665 := bk1 BK665 hb; replace BK666 := bk1 BK666 hb; replace BK667 := bk1 BK667 hb; replace HB := hb1 HB hb; (try clear hb); have hnb33 := NB667_665.out; have hnc33 := NB665_667.out; have hnb34 := NB667_666.out; have hnc34 := NB666_667.out; obtain ⟨hcz35_0, hcz35_1, hcz35_2, hfz35_0, hfz35_1, hfz35_2⟩ := cf3 BK667))
     refine retA gb667 24 #[.int .i64 t677, .int .u64 t678, .int .u64 t679] (put3 BK667) Tryz.underlying24 ?_
     exact ⟨by rfl, by repeat (with_reducible first | exact HB.out | refine below_set ?_ GE667.out)⟩
 ·replace H := s3 H; obtain ⟨rfl, rfl, rfl⟩ := H
  go_enter Tryz.func57, Tryz.ntmps57
  go_wp2_with (first | (refine boxA HB 2 #[.int .i64 a0_0, .int .u64 a0_1, .int .u64 a0_2] 24 ?_; clear HB; intro gb665 w36 BK665 GE665 hg hb HB; clear hb hg) | (refine boxA HB 3 #[.int .i64 a1_0, .int .u64 a1_1, .int .u64 a1_2] 24 ?_; clear HB; intro gb666 w37 BK666 GE666 hg hb HB; have NB665_666 := nbA BK665 hg; have NB666_665 := nbB BK665 hg; replace BK665 := bk1 BK665 hb; clear hb hg) | (refine boxA HB 4 #[.int .i64 0, .int .u64 0, .int .u64 0] 24 ?_; clear HB; intro gb667 w38 BK667 GE667 hg hb HB; have NB665_667 := nbA BK665 hg; have NB667_665 := nbB BK665 hg; replace BK665 := bk1 BK665 hb; have NB666_667 := nbA BK666 hg; have NB667_666 := nbB BK666 hg; replace BK666 := bk1 BK666 hb; clear hb hg; have hnb39 := NB665_666.out; have hnc39 := NB666_665.out; have hnb40 := NB665_667.out; have hnc40 := NB667_665.out; obtain ⟨hcz41_0, hcz41_1, hcz41_2, hfz41_0, hfz41_1, hfz41_2⟩ := cf3 BK665; have hnb42 := NB666_667.out; have hnc42 := NB667_666.out; obtain ⟨hcz43_0, hcz43_1, hcz43_2, hfz43_0, hfz43_1, hfz43_2⟩ := cf3 BK666) | ((with_reducible refine gate_dst (N := 9) rfl ?_); refine Kd.R_lit k24 _ 24 ?hg (N := 9) ?hd (xs := ([(⟨a0_0, a0_1, a0_2⟩ : S24), (⟨a1_0, a1_1, a1_2⟩ : S24)] : List (S24))) (inner := [.int .i64 a0_0, .int .u64 a0_1, .int .u64 a0_2, .int .i64 a1_0, .int .u64 a1_1, .int .u64 a1_2]) (ok := fun _ => True) (okp := fun _ => True) ?hr ?hp (fun _ hk => hk) trivial (Below.refl _ _) (Nat.le_refl _) (by simp) ?_; (case hd => rfl); (case hg => rfl); (case hr => (go_simp; done)); (case hp => exact (Reps.c3 (show Kd.M k24 _ _ _ (⟨a0_0, a0_1, a0_2⟩ : S24) [.int .i64 a0_0, .int .u64 a0_1, .int .u64 a0_2] from (k24_mkM _ _ _ (⟨a0_0, a0_1, a0_2⟩ : S24) )) (Reps.c3 (show Kd.M k24 _ _ _ (⟨a1_0, a1_1, a1_2⟩ : S24) [.int .i64 a1_0, .int .u64 a1_1, .int .u64 a1_2] from (k24_mkM _ _ _ (⟨a1_0, a1_1, a1_2⟩ : S24) )) (Reps.none _ _)))); intro v669 w44 ho45 hb hg_ hnew_; clear hg_ hnew_; (rw [← Ny668.out] at ho45); have HO670 := Aside0.mk (Kd.R_lower (Kd.R_newB (Kd.R_newB (Kd.R_newB ho45 BK665.out) BK666.out) BK667.out) (below_size HB.out)); replace BK665 := bk1 BK665 hb; replace BK666 := bk1 BK666 hb; replace BK667 := bk1 BK667 hb; replace HB := hb1 HB hb; clear hb ho45; obtain ⟨Ao46, co46, eo46⟩ := Kd.R_slice HO670.out; subst eo46) | (refine callA (some 10) Tryz.func15 #[.slice Ao46 y668.length co46] ?_; (with_reducible refine (bits_valid.calls k _ _ y668 false _ ?side1 ?side2 A3.out).mono ?_); (case side1 => exact (Kd.R_reads' HO670.out).2.2); (case side2 => exact (Kd.R_reads' HO670.out).2.1); rintro e w47 ⟨rfl, hb⟩; refine ⟨_, rfl, ?_⟩; replace HO670 := Kd.rb1 HO670 hb; replace BK665 := bk1 BK665 hb; replace BK666 := bk1 BK666 hb; replace BK667 := bk1 BK667 hb; replace HB := hb1 HB hb; (try clear hb); obtain ⟨hcz48_0, hcz48_1, hcz48_2, hfz48_0, hfz48_1, hfz48_2⟩ := cf3 BK667))
  refine retA gb667 24 #[.int .i64 0, .int .u64 0, .int .u64 0] (put3 BK667) Tryz.underlying24 ?_
  exact ⟨by rfl, by repeat (with_reducible first | exact HB.out | refine below_set ?_ GE667.out)⟩
end Go.Proofs.YtfigblfjogpojaaGreatDoor.PBits
end
section
namespace Go.Proofs.YtfigblfjogpojaaGreatDoor.PBits
open Go.RowKit Go.Proofs.YtfigblfjogpojaaGreatDoorW.PrintWords Go.Proofs.YtfigblfjogpojaaGreatDoorW.PrintLast Go.Proofs.YtfigblfjogpojaaGreatDoorW.PrintMore
attribute [local go_sem] max2_int min2_int max_two min_two max_three min_three max_four min_four
set_option linter.unusedVariables false
set_option linter.unusedSimpArgs false
def bits_LOr.j0 : Nat → Int → Int → Bool → Option (Int × Int × Int)
 | 0, _, _, _ => none
 | k + 1, x5, x6, x22 => if x22 = true then ((bits_truth.f 1).bind fun bt689 => (some (bt689.1, bt689.2.1, bt689.2.2))) else ((bits_truth.f (mn x5 x6)).bind fun bt692 => (some (bt692.1, bt692.2.1, bt692.2.2)))
def bits_LOr.f (k : Nat) (a0_0 : Int) (a0_1 : Int) (a0_2 : Int) (a1_0 : Int) (a1_1 : Int) (a1_2 : Int) : Option (Int × Int × Int) := (bits_valid.f k (([(⟨a0_0, a0_1, a0_2⟩ : S24), (⟨a1_0, a1_1, a1_2⟩ : S24)] : List (S24)))).bind fun t686 => (if t686 = true then ((bits_True.f k a0_0 a0_1 a0_2).bind fun t687 => ((bits_True.f k a1_0 a1_1 a1_2).bind fun t688 => (if t687 = 1 then (bits_LOr.j0 k t687 t688 true) else (bits_LOr.j0 k t687 t688 (t688 == 1))))) else (some (0, 0, 0)))
set_option maxHeartbeats 8000000 in
set_option maxRecDepth 100000 in
theorem bits_LOr.calls (k : Nat) (a0_0 : Int) (a0_1 : Int) (a0_2 : Int) (a1_0 : Int) (a1_1 : Int) (a1_2 : Int) (r1 : Int) (r2 : Int) (r3 : Int) (w : World) (h : bits_LOr.f k a0_0 a0_1 a0_2 a1_0 a1_1 a1_2 = some (r1, r2, r3)) :
  Calls Tryz.prog 58 #[.agg #[.int .i64 a0_0, .int .u64 a0_1, .int .u64 a0_2], .agg #[.int .i64 a1_0, .int .u64 a1_1, .int .u64 a1_2]] w fun e w' => e = .returned (.agg #[.int .i64 r1, .int .u64 r2, .int .u64 r3]) ∧ Below w.heap.size w w' := by
 have hu24 := Tryz.underlying24
 have HB := Aside0.mk (Below.refl w.heap.size w)
 have H := h
 clear h
 unfold bits_LOr.f at H
 obtain ⟨y683, hy683⟩ : ∃ y_ : List (S24), y_ = ([(⟨a0_0, a0_1, a0_2⟩ : S24), (⟨a1_0, a1_1, a1_2⟩ : S24)] : List (S24)) := ⟨_, rfl⟩
 replace H : ((bits_valid.f k y683).bind fun t686 => (if t686 = true then ((bits_True.f k a0_0 a0_1 a0_2).bind fun t687 => ((bits_True.f k a1_0 a1_1 a1_2).bind fun t688 => (if t687 = 1 then (bits_LOr.j0 k t687 t688 true) else (bits_LOr.j0 k t687 t688 (t688 == 1))))) else (some (0, 0, 0)))) = some (r1, r2, r3) := by (rw [hy683]; with_reducible exact H)
 have Ny683 := Aside0.mk hy683
 clear hy683
 replace H := bN H; obtain ⟨t686, A3, H⟩ := H
 replace H := iB H; rcases H with ⟨rfl, H⟩ | ⟨rfl, H⟩
 ·replace H := bN H; obtain ⟨t687, A5, H⟩ := H
  replace H := bN H; obtain ⟨t688, A6, H⟩ := H
  have HC7 := Aside0.mk H
  clear H
  go_enter Tryz.func58, Tryz.ntmps58
  try go_wp2_with (first | (refine boxA HB 2 #[.int .i64 a0_0, .int .u64 a0_1, .int .u64 a0_2] 24 ?_; clear HB; intro gb680 w8 BK680 GE680 hg hb HB; clear hb hg) | (refine boxA HB 3 #[.int .i64 a1_0, .int .u64 a1_1, .int .u64 a1_2] 24 ?_; clear HB; intro gb681 w9 BK681 GE681 hg hb HB; have NB680_681 := nbA BK680 hg; have NB681_680 := nbB BK680 hg; replace BK680 := bk1 BK680 hb; clear hb hg) | (refine boxA HB 4 #[.int .i64 0, .int .u64 0, .int .u64 0] 24 ?_; clear HB; intro gb682 w10 BK682 GE682 hg hb HB; have NB680_682 := nbA BK680 hg; have NB682_680 := nbB BK680 hg; replace BK680 := bk1 BK680 hb; have NB681_682 := nbA BK681 hg; have NB682_681 := nbB BK681 hg; replace BK681 := bk1 BK681 hb; clear hb hg; have hnb11 := NB680_681.out; have hnc11 := NB681_680.out; have hnb12 := NB680_682.out; have hnc12 := NB682_680.out; obtain ⟨hcz13_0, hcz13_1, hcz13_2, hfz13_0, hfz13_1, hfz13_2⟩ := cf3 BK680; have hnb14 := NB681_682.out; have hnc14 := NB682_681.out; obtain ⟨hcz15_0, hcz15_1, hcz15_2, hfz15_0, hfz15_1, hfz15_2⟩ := cf3 BK681) | ((with_reducible refine gate_dst (N := 9) rfl ?_); refine Kd.R_lit k24 _ 24 ?hg (N := 9) ?hd (xs := ([(⟨a0_0, a0_1, a0_2⟩ : S24), (⟨a1_0, a1_1, a1_2⟩ : S24)] : List (S24))) (inner := [.int .i64 a0_0, .int .u64 a0_1, .int .u64 a0_2, .int .i64 a1_0, .int .u64 a1_1, .int .u64 a1_2]) (ok := fun _ => True) (okp := fun _ => True) ?hr ?hp (fun _ hk => hk) trivial (Below.refl _ _) (Nat.le_refl _) (by simp) ?_; (case hd => rfl); (case hg => rfl); (case hr => (go_simp; done)); (case hp => exact (Reps.c3 (show Kd.M k24 _ _ _ (⟨a0_0, a0_1, a0_2⟩ : S24) [.int .i64 a0_0, .int .u64 a0_1, .int .u64 a0_2] from (k24_mkM _ _ _ (⟨a0_0, a0_1, a0_2⟩ : S24) )) (Reps.c3 (show Kd.M k24 _ _ _ (⟨a1_0, a1_1, a1_2⟩ : S24) [.int .i64 a1_0, .int .u64 a1_1, .int .u64 a1_2] from (k24_mkM _ _ _ (⟨a1_0, a1_1, a1_2⟩ : S24) )) (Reps.none _ _)))); intro v684 w16 ho17 hb hg_ hnew_; clear hg_ hnew_; (rw [← Ny683.out] at ho17); have HO685 := Aside0.mk (Kd.R_lower (Kd.R_newB (Kd.R_newB (Kd.R_newB ho17 BK680.out) BK681.out) BK682.out) (below_size HB.out)); replace BK680 := bk1 BK680 hb; replace BK681 := bk1 BK681 hb; replace BK682 := bk1 BK682 hb; replace HB := hb1 HB hb; clear hb ho17; obtain ⟨Ao18, co18, eo18⟩ := Kd.R_slice HO685.out; subst eo18) | (refine callA (some 10) Tryz.func15 #[.slice Ao18 y683.length co18] ?_; (with_reducible refine (bits_valid.calls k _ _ y683 true _ ?side1 ?side2 A3.out).mono ?_); (case side1 => exact (Kd.R_reads' HO685.out).2.2); (case side2 => exact (Kd.R_reads' HO685.out).2.1); rintro e w19 ⟨rfl, hb⟩; refine ⟨_, rfl, ?_⟩; replace HO685 := Kd.rb1 HO685 hb; replace BK680 := bk1 BK680 hb; replace BK681 := bk1 BK681 hb; replace BK682 := bk1 BK682 hb; replace HB := hb1 HB hb; (try clear hb)))
  replace HO685 := Aside0.mk (Kd.R_drew HO685.out)
  replace BK680 := bkd BK680
  replace BK681 := bkd BK681
  replace BK682 := bkd BK682
  replace HB := hbd HB
  refine start_ (n := 6) (S := fun w' => w'.cell? ⟨gb680, 0, none⟩ = some (.int .i64 a0_0) ∧ w'.cell? ⟨gb680, 1, none⟩ = some (.int .u64 a0_1) ∧ w'.cell? ⟨gb680, 2, none⟩ = some (.int .u64 a0_2) ∧ w'.cell? ⟨gb681, 0, none⟩ = some (.int .i64 a1_0) ∧ w'.cell? ⟨gb681, 1, none⟩ = some (.int .u64 a1_1) ∧ w'.cell? ⟨gb681, 2, none⟩ = some (.int .u64 a1_2)) (ds := []) (tb 6 0) (by kernel_rfl) rfl (by kernel_rfl) (c3 BK680 (d3 BK681)) (fun hHeld => ?_)
  generalize w19.drew = w20 at HO685 BK680 BK681 BK682 HB hHeld ⊢
  refine take_ (i := 0) (N := some 13) (v := ?_) (a' := ?_) #[true, false, false, false, false, false] rfl rfl (by kernel_rfl) (fun _ _ _ h => h) (Or.inl ⟨by rfl, ?_⟩) hHeld ?_ ?_
  rotate_left
  ·rintro w' ⟨s0, s1, s2, s3, s4, s5⟩
   go_simp
   with_reducible rfl
  rotate_left
  ·simp only [Act.put, List.setIfInBounds_toArray, List.set_cons_zero, List.set_cons_succ, i64_w, i32_w]
   rfl
  refine take_ (i := 2) (N := some 15) (v := ?_) (a' := ?_) #[true, false, true, false, false, false] rfl rfl (by kernel_rfl) (fun _ _ _ h => h) (Or.inl ⟨by rfl, ?_⟩) hHeld ?_ ?_
  rotate_left
  ·rintro w' ⟨s0, s1, s2, s3, s4, s5⟩
   go_simp
   with_reducible rfl
  rotate_left
  ·simp only [Act.put, List.setIfInBounds_toArray, List.set_cons_zero, List.set_cons_succ, i64_w, i32_w]
   rfl
  refine one_ (i := 1) (N := some 14) #[true, true, true, false, false, false] rfl rfl (by kernel_rfl) (by decide) (fun K hK => ?_)
  refine gA Tryz.func19 #[.agg #[.int .i64 a0_0, .int .u64 a0_1, .int .u64 a0_2]] ?_
  with_reducible refine (bits_True.calls k a0_0 a0_1 a0_2 t687 _ A5.out).mono ?_
  rintro e w21 ⟨rfl, hb⟩
  refine ⟨_, rfl, ?_⟩
  replace HO685 := Kd.rb1 HO685 hb
  replace BK680 := bk1 BK680 hb
  replace BK681 := bk1 BK681 hb
  replace BK682 := bk1 BK682 hb
  replace HB := hb1 HB hb
  (try clear hb)
  refine hK.out _ _ (c3 BK680 (d3 BK681)) (fun hHeld => ?_)
  clear hK K
  refine nA ?_
  refine one_ (i := 3) (N := some 16) #[true, true, true, true, false, false] rfl rfl (by kernel_rfl) (by decide) (fun K hK => ?_)
  refine gA Tryz.func19 #[.agg #[.int .i64 a1_0, .int .u64 a1_1, .int .u64 a1_2]] ?_
  with_reducible refine (bits_True.calls k a1_0 a1_1 a1_2 t688 _ A6.out).mono ?_
  rintro e w22 ⟨rfl, hb⟩
  refine ⟨_, rfl, ?_⟩
  replace HO685 := Kd.rb1 HO685 hb
  replace BK680 := bk1 BK680 hb
  replace BK681 := bk1 BK681 hb
  replace BK682 := bk1 BK682 hb
  replace HB := hb1 HB hb
  (try clear hb)
  refine hK.out _ _ (c3 BK680 (d3 BK681)) (fun hHeld => ?_)
  clear hK K
  refine nA ?_
  refine pure_ (i := 4) (N := some 5) (v := ?_) (a' := ?_) #[true, true, true, true, true, false] rfl rfl (by kernel_rfl) (fun _ _ _ h => h) (Or.inl ⟨by rfl, ?_⟩) ?_ ?_
  rotate_left
  ·intro w'
   go_simp
   with_reducible rfl
  rotate_left
  ·simp only [Act.put, List.setIfInBounds_toArray, List.set_cons_zero, List.set_cons_succ, i64_w, i32_w]
   rfl
  refine pure_ (i := 5) (N := some 6) (v := ?_) (a' := ?_) #[true, true, true, true, true, true] rfl rfl (by kernel_rfl) (fun _ _ _ h => h) (Or.inl ⟨by rfl, ?_⟩) ?_ ?_
  rotate_left
  ·intro w'
   go_simp
   with_reducible rfl
  rotate_left
  ·simp only [Act.put, List.setIfInBounds_toArray, List.set_cons_zero, List.set_cons_succ, i64_w, i32_w]
   rfl
  refine done_ (by kernel_rfl) ?_
  go_upto_region 4 with (fail)
  go_cut [22] (fun v22 wc => ∃ (kq : Nat) (x22_6 : Bool), v22 = .bool x22_6 ∧ Aside0 (bits_LOr.j0 kq t687 t688 x22_6 = some (r1, r2, r3)) ∧ Aside0 (kq ≤ k) ∧ Aside0 (wc.heap[gb680]? = some (.cells #[.int .i64 a0_0, .int .u64 a0_1, .int .u64 a0_2] 24 (0, 0))) ∧ Aside0 (wc.heap[gb681]? = some (.cells #[.int .i64 a1_0, .int .u64 a1_1, .int .u64 a1_2] 24 (0, 0))) ∧ Aside0 (wc.heap[gb682]? = some (.cells #[.int .i64 0, .int .u64 0, .int .u64 0] 24 (0, 0))) ∧ Aside0 (Below w.heap.size w wc))
  case first =>
   have H := HC7.out
   clear HC7
   replace H := iE H; rcases H with ⟨c23b0, c23b1, H⟩ | ⟨c23, c23b0, c23b1, H⟩
   ·(skip)
    have H' := Aside0.mk H
    clear H
    go_wp2
    go_meet
    case rel => exact ⟨_, (true), (by rfl), H', ⟨by omega⟩, ⟨by exact BK680.out⟩, ⟨by exact BK681.out⟩, ⟨by exact BK682.out⟩, ⟨by repeat (with_reducible exact HB.out)⟩⟩
   ·(skip)
    have H' := Aside0.mk H
    clear H
    go_wp2
    go_meet
    case rel => exact ⟨_, (t688 == 1), (by rfl), H', ⟨by omega⟩, ⟨by exact BK680.out⟩, ⟨by exact BK681.out⟩, ⟨by exact BK682.out⟩, ⟨by repeat (with_reducible exact HB.out)⟩⟩
  case rest =>
   clear HC7
   (try clear hcz13_0 hcz13_1 hcz13_2); (try clear hcz15_0 hcz15_1 hcz15_2); (try clear hfz13_0 hfz13_1 hfz13_2); (try clear hfz15_0 hfz15_1 hfz15_2)
   obtain ⟨kq, x22_6, rfl, HA, HJ6, BK680, BK681, BK682, HB⟩ := hcut
   cases kq with
   | zero => exact absurd HA.out (by simp [bits_LOr.j0])
   | succ kj6 =>
    have H := HA.out
    clear HA
    simp only [bits_LOr.j0] at H
    replace H := iB H; rcases H with ⟨rfl, H⟩ | ⟨rfl, H⟩
    ·replace H := bN H; obtain ⟨⟨t689, t690, t691⟩, A25, H⟩ := H; dsimp only at H
     replace H := s3 H; obtain ⟨rfl, rfl, rfl⟩ := H
     go_wp2_with ((refine callA (some 23) Tryz.func18 #[.int .i64 1] ?_; (with_reducible refine (bits_truth.calls 1 t689 t690 t691 _ A25.out).mono ?_); rintro e w26 ⟨rfl, hb⟩; refine ⟨_, rfl, ?_⟩; replace BK680 := bk1 BK680 hb; replace BK681 := bk1 BK681 hb; replace BK682 := bk1 BK682 hb; replace HB := hb1 HB hb; (try clear hb); have hnb27 := NB682_680.out; have hnc27 := NB680_682.out; have hnb28 := NB682_681.out; have hnc28 := NB681_682.out; obtain ⟨hcz29_0, hcz29_1, hcz29_2, hfz29_0, hfz29_1, hfz29_2⟩ := cf3 BK682))
     refine retA gb682 24 #[.int .i64 t689, .int .u64 t690, .int .u64 t691] (put3 BK682) Tryz.underlying24 ?_
     exact ⟨by rfl, by repeat (with_reducible first | exact HB.out | refine below_set ?_ GE682.out)⟩
    ·obtain ⟨ji30, hji30⟩ : ∃ j_ : Int, (mn t687 t688) = j_ := ⟨_, rfl⟩
     replace H : ((bits_truth.f (ji30)).bind fun bt692 => (some (bt692.1, bt692.2.1, bt692.2.2))) = some (r1, r2, r3) := by (rw [hji30] at H; exact H)
     have hji30_ : (if t688 < t687 then t688 else t687) = ji30 := hji30
     replace H := bN H; obtain ⟨⟨t692, t693, t694⟩, A31, H⟩ := H; dsimp only at H
     replace H := s3 H; obtain ⟨rfl, rfl, rfl⟩ := H
     go_wp2_with ((refine callA (some 27) Tryz.func18 #[.int .i64 ji30] ?_; (with_reducible refine (bits_truth.calls ji30 t692 t693 t694 _ A31.out).mono ?_); rintro e w32 ⟨rfl, hb⟩; refine ⟨_, rfl, ?_⟩; replace BK680 := bk1 BK680 hb; replace BK681 := bk1 BK681 hb; replace BK682 := bk1 BK682 hb; replace HB := hb1 HB hb; (try clear hb); have hnb33 := NB682_680.out; have hnc33 := NB680_682.out; have hnb34 := NB682_681.out; have hnc34 := NB681_682.out; obtain ⟨hcz35_0, hcz35_1, hcz35_2, hfz35_0, hfz35_1, hfz35_2⟩ := cf3 BK682))
     refine retA gb682 24 #[.int .i64 t692, .int .u64 t693, .int .u64 t694] (put3 BK682) Tryz.underlying24 ?_
     exact ⟨by rfl, by repeat (with_reducible first | exact HB.out | refine below_set ?_ GE682.out)⟩
 ·replace H := s3 H; obtain ⟨rfl, rfl, rfl⟩ := H
  go_enter Tryz.func58, Tryz.ntmps58
  go_wp2_with (first | (refine boxA HB 2 #[.int .i64 a0_0, .int .u64 a0_1, .int .u64 a0_2] 24 ?_; clear HB; intro gb680 w36 BK680 GE680 hg hb HB; clear hb hg) | (refine boxA HB 3 #[.int .i64 a1_0, .int .u64 a1_1, .int .u64 a1_2] 24 ?_; clear HB; intro gb681 w37 BK681 GE681 hg hb HB; have NB680_681 := nbA BK680 hg; have NB681_680 := nbB BK680 hg; replace BK680 := bk1 BK680 hb; clear hb hg) | (refine boxA HB 4 #[.int .i64 0, .int .u64 0, .int .u64 0] 24 ?_; clear HB; intro gb682 w38 BK682 GE682 hg hb HB; have NB680_682 := nbA BK680 hg; have NB682_680 := nbB BK680 hg; replace BK680 := bk1 BK680 hb; have NB681_682 := nbA BK681 hg; have NB682_681 := nbB BK681 hg; replace BK681 := bk1 BK681 hb; clear hb hg; have hnb39 := NB680_681.out; have hnc39 := NB681_680.out; have hnb40 := NB680_682.out; have hnc40 := NB682_680.out; obtain ⟨hcz41_0, hcz41_1, hcz41_2, hfz41_0, hfz41_1, hfz41_2⟩ := cf3 BK680; have hnb42 := NB681_682.out; have hnc42 := NB682_681.out; obtain ⟨hcz43_0, hcz43_1, hcz43_2, hfz43_0, hfz43_1, hfz43_2⟩ := cf3 BK681) | ((with_reducible refine gate_dst (N := 9) rfl ?_); refine Kd.R_lit k24 _ 24 ?hg (N := 9) ?hd (xs := ([(⟨a0_0, a0_1, a0_2⟩ : S24), (⟨a1_0, a1_1, a1_2⟩ : S24)] : List (S24))) (inner := [.int .i64 a0_0, .int .u64 a0_1, .int .u64 a0_2, .int .i64 a1_0, .int .u64 a1_1, .int .u64 a1_2]) (ok := fun _ => True) (okp := fun _ => True) ?hr ?hp (fun _ hk => hk) trivial (Below.refl _ _) (Nat.le_refl _) (by simp) ?_; (case hd => rfl); (case hg => rfl); (case hr => (go_simp; done)); (case hp => exact (Reps.c3 (show Kd.M k24 _ _ _ (⟨a0_0, a0_1, a0_2⟩ : S24) [.int .i64 a0_0, .int .u64 a0_1, .int .u64 a0_2] from (k24_mkM _ _ _ (⟨a0_0, a0_1, a0_2⟩ : S24) )) (Reps.c3 (show Kd.M k24 _ _ _ (⟨a1_0, a1_1, a1_2⟩ : S24) [.int .i64 a1_0, .int .u64 a1_1, .int .u64 a1_2] from (k24_mkM _ _ _ (⟨a1_0, a1_1, a1_2⟩ : S24) )) (Reps.none _ _)))); intro v684 w44 ho45 hb hg_ hnew_; clear hg_ hnew_; (rw [← Ny683.out] at ho45); have HO685 := Aside0.mk (Kd.R_lower (Kd.R_newB (Kd.R_newB (Kd.R_newB ho45 BK680.out) BK681.out) BK682.out) (below_size HB.out)); replace BK680 := bk1 BK680 hb; replace BK681 := bk1 BK681 hb; replace BK682 := bk1 BK682 hb; replace HB := hb1 HB hb; clear hb ho45; obtain ⟨Ao46, co46, eo46⟩ := Kd.R_slice HO685.out; subst eo46) | (refine callA (some 10) Tryz.func15 #[.slice Ao46 y683.length co46] ?_; (with_reducible refine (bits_valid.calls k _ _ y683 false _ ?side1 ?side2 A3.out).mono ?_); (case side1 => exact (Kd.R_reads' HO685.out).2.2); (case side2 => exact (Kd.R_reads' HO685.out).2.1); rintro e w47 ⟨rfl, hb⟩; refine ⟨_, rfl, ?_⟩; replace HO685 := Kd.rb1 HO685 hb; replace BK680 := bk1 BK680 hb; replace BK681 := bk1 BK681 hb; replace BK682 := bk1 BK682 hb; replace HB := hb1 HB hb; (try clear hb); obtain ⟨hcz48_0, hcz48_1, hcz48_2, hfz48_0, hfz48_1, hfz48_2⟩ := cf3 BK682))
  refine retA gb682 24 #[.int .i64 0, .int .u64 0, .int .u64 0] (put3 BK682) Tryz.underlying24 ?_
  exact ⟨by rfl, by repeat (with_reducible first | exact HB.out | refine below_set ?_ GE682.out)⟩
end Go.Proofs.YtfigblfjogpojaaGreatDoor.PBits
end
