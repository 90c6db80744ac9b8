/- Part 30 of the proof of BitsJoinedCardSaid: The law BitsJoined: for all arguments it returns true; each argument reads behind the call as it read before. Out of the plain theorem of YtfigblfjogpojaaGreatDoorPureBitsJoined and the printed contract. -/
import Derived.Test.YtfigblfjogpojaaGreatDoorQBitsJoined13
import Derived.Test.YtfigblfjogpojaaGreatDoorQBitsJoined15
import Derived.Test.YtfigblfjogpojaaGreatDoorQBitsJoined16
import Derived.Test.YtfigblfjogpojaaGreatDoorQBitsJoined20
section
namespace Go.Proofs.YtfigblfjogpojaaGreatDoor.PBits
open Go.RowKit Go.Proofs.YtfigblfjogpojaaGreatDoorW.PrintWords Go.Proofs.YtfigblfjogpojaaGreatDoorW.PrintLast Go.Proofs.YtfigblfjogpojaaGreatDoorW.PrintMore
attribute [local go_sem] max2_int min2_int max_two min_two max_three min_three max_four min_four
set_option linter.unusedVariables false
set_option linter.unusedSimpArgs false
def maskref1_One.f (a0 : Int) : Option (List Int) := if a0 = 116 then (some (([49] : List Int))) else (if a0 = 102 then (some (([48] : List Int))) else (some (([120] : List Int))))
set_option maxHeartbeats 8000000 in
set_option maxRecDepth 100000 in
theorem maskref1_One.calls (a0 : Int) (r : List Int) (w : World) (h : maskref1_One.f a0 = some r) :
  Calls Tryz.prog 36 #[.int .u8 a0] w fun e w' => ∃ v0_ : Value, e = .returned (v0_) ∧ Kd.R (Kd.int .u8) 5 w' w.heap.size (fun _ => True) v0_ r ∧ Below w.heap.size w w' := by
 have HB := Aside0.mk (Below.refl w.heap.size w)
 have H := h
 clear h
 unfold maskref1_One.f at H
 replace H := iE H; rcases H with ⟨c2b0, c2b1, H⟩ | ⟨c2, c2b0, c2b1, H⟩
 ·obtain ⟨y317, hy317⟩ : ∃ y_ : List Int, y_ = ([49] : List Int) := ⟨_, rfl⟩
  replace H : (some y317) = some r := by (rw [hy317]; with_reducible exact H)
  have Ny317 := Aside0.mk hy317
  clear hy317
  obtain rfl := Option.some.inj H
  go_enter Tryz.func36, Tryz.ntmps36
  go_wp2_with (((with_reducible refine gate_dst (N := 6) rfl ?_); refine Kd.R_lit (Kd.int .u8) _ 5 ?hg (N := 6) ?hd (xs := ([49] : List Int)) (inner := [.int .u8 49]) (ok := fun _ => True) (okp := fun _ => True) ?hr ?hp (fun _ hk => hk) trivial (Below.refl _ _) (Nat.le_refl _) (by simp) ?_; (case hd => rfl); (case hg => rfl); (case hr => (go_simp; done)); (case hp => exact (Reps.one (show Kd.M (Kd.int .u8) _ _ _ 49 [.int .u8 49] from rfl) (Reps.none _ _))); intro v318 w3 ho4 hb hg_ hnew_; clear hg_ hnew_; (rw [← Ny317.out] at ho4); have HO319 := Aside0.mk (Kd.R_lower ho4 (below_size HB.out)); replace HB := hb1 HB hb; clear hb ho4))
  go_ret
  exact ⟨_, by rfl, by exact HO319.out, by repeat (with_reducible exact HB.out)⟩
 ·replace H := iE H; rcases H with ⟨c5b0, c5b1, H⟩ | ⟨c5, c5b0, c5b1, H⟩
  ·obtain ⟨y320, hy320⟩ : ∃ y_ : List Int, y_ = ([48] : List Int) := ⟨_, rfl⟩
   replace H : (some y320) = some r := by (rw [hy320]; with_reducible exact H)
   have Ny320 := Aside0.mk hy320
   clear hy320
   obtain rfl := Option.some.inj H
   go_enter Tryz.func36, Tryz.ntmps36
   go_wp2_with (((with_reducible refine gate_dst (N := 9) rfl ?_); refine Kd.R_lit (Kd.int .u8) _ 5 ?hg (N := 9) ?hd (xs := ([48] : List Int)) (inner := [.int .u8 48]) (ok := fun _ => True) (okp := fun _ => True) ?hr ?hp (fun _ hk => hk) trivial (Below.refl _ _) (Nat.le_refl _) (by simp) ?_; (case hd => rfl); (case hg => rfl); (case hr => (go_simp; done)); (case hp => exact (Reps.one (show Kd.M (Kd.int .u8) _ _ _ 48 [.int .u8 48] from rfl) (Reps.none _ _))); intro v321 w6 ho7 hb hg_ hnew_; clear hg_ hnew_; (rw [← Ny320.out] at ho7); have HO322 := Aside0.mk (Kd.R_lower ho7 (below_size HB.out)); replace HB := hb1 HB hb; clear hb ho7))
   go_ret
   exact ⟨_, by rfl, by exact HO322.out, by repeat (with_reducible exact HB.out)⟩
  ·obtain ⟨y323, hy323⟩ : ∃ y_ : List Int, y_ = ([120] : List Int) := ⟨_, rfl⟩
   replace H : (some y323) = some r := by (rw [hy323]; with_reducible exact H)
   have Ny323 := Aside0.mk hy323
   clear hy323
   obtain rfl := Option.some.inj H
   go_enter Tryz.func36, Tryz.ntmps36
   go_wp2_with (((with_reducible refine gate_dst (N := 10) rfl ?_); refine Kd.R_lit (Kd.int .u8) _ 5 ?hg (N := 10) ?hd (xs := ([120] : List Int)) (inner := [.int .u8 120]) (ok := fun _ => True) (okp := fun _ => True) ?hr ?hp (fun _ hk => hk) trivial (Below.refl _ _) (Nat.le_refl _) (by simp) ?_; (case hd => rfl); (case hg => rfl); (case hr => (go_simp; done)); (case hp => exact (Reps.one (show Kd.M (Kd.int .u8) _ _ _ 120 [.int .u8 120] from rfl) (Reps.none _ _))); intro v324 w8 ho9 hb hg_ hnew_; clear hg_ hnew_; (rw [← Ny323.out] at ho9); have HO325 := Aside0.mk (Kd.R_lower ho9 (below_size HB.out)); replace HB := hb1 HB hb; clear hb ho9))
   go_ret
   exact ⟨_, by rfl, by exact HO325.out, by repeat (with_reducible exact HB.out)⟩
end Go.Proofs.YtfigblfjogpojaaGreatDoor.PBits
end
section
namespace Go.Proofs.YtfigblfjogpojaaGreatDoor.PBits
open Go.RowKit Go.Proofs.YtfigblfjogpojaaGreatDoorW.PrintWords Go.Proofs.YtfigblfjogpojaaGreatDoorW.PrintLast Go.Proofs.YtfigblfjogpojaaGreatDoorW.PrintMore
attribute [local go_sem] max2_int min2_int max_two min_two max_three min_three max_four min_four
set_option linter.unusedVariables false
set_option linter.unusedSimpArgs false
def maskref1_Opposite.f (a0 : Int) : Option (Int) := if a0 = 116 then (some 102) else (if a0 = 102 then (some 116) else (some 117))
set_option maxHeartbeats 8000000 in
set_option maxRecDepth 100000 in
theorem maskref1_Opposite.calls (a0 : Int) (r : Int) (w : World) (h : maskref1_Opposite.f a0 = some r) :
  Calls Tryz.prog 37 #[.int .u8 a0] w fun e w' => e = .returned (.int .u8 r) ∧ Drawn0 w w' := by
 have H := h
 clear h
 unfold maskref1_Opposite.f at H
 replace H := iE H; rcases H with ⟨c2b0, c2b1, H⟩ | ⟨c2, c2b0, c2b1, H⟩
 ·obtain rfl := Option.some.inj H
  go_enter Tryz.func37, Tryz.ntmps37
  go_wp2
  go_ret
  exact ⟨by rfl, by repeat (exact Drawn0.refl _)⟩
 ·replace H := iE H; rcases H with ⟨c3b0, c3b1, H⟩ | ⟨c3, c3b0, c3b1, H⟩
  ·obtain rfl := Option.some.inj H
   go_enter Tryz.func37, Tryz.ntmps37
   go_wp2
   go_ret
   exact ⟨by rfl, by repeat (exact Drawn0.refl _)⟩
  ·obtain rfl := Option.some.inj H
   go_enter Tryz.func37, Tryz.ntmps37
   go_wp2
   go_ret
   exact ⟨by rfl, by repeat (exact Drawn0.refl _)⟩
end Go.Proofs.YtfigblfjogpojaaGreatDoor.PBits
end
section
namespace Go.Proofs.YtfigblfjogpojaaGreatDoor.PBits
open Go.RowKit Go.Proofs.YtfigblfjogpojaaGreatDoorW.PrintWords Go.Proofs.YtfigblfjogpojaaGreatDoorW.PrintLast Go.Proofs.YtfigblfjogpojaaGreatDoorW.PrintMore
attribute [local go_sem] max2_int min2_int max_two min_two max_three min_three max_four min_four
set_option linter.unusedVariables false
set_option linter.unusedSimpArgs false
def bits_truth.f (a0 : Int) : Option (Int × Int × Int) := if a0 < 0 then (some (1, 1, 1)) else (some (1, IntKind.u64.wrap (a0), 0))
set_option maxHeartbeats 8000000 in
set_option maxRecDepth 100000 in
theorem bits_truth.calls (a0 : Int) (r1 : Int) (r2 : Int) (r3 : Int) (w : World) (h : bits_truth.f a0 = some (r1, r2, r3)) :
  Calls Tryz.prog 18 #[.int .i64 a0] w fun e w' => e = .returned (.agg #[.int .i64 r1, .int .u64 r2, .int .u64 r3]) ∧ Below w.heap.size w w' := by
 have hu24 := Tryz.underlying24
 have HB := Aside0.mk (Below.refl w.heap.size w)
 have H := h
 clear h
 unfold bits_truth.f at H
 replace H := iD H; rcases H with ⟨c2b0, H⟩ | ⟨c2b0, H⟩
 ·replace H := s3 H; obtain ⟨rfl, rfl, rfl⟩ := H
  go_enter Tryz.func18, Tryz.ntmps18
  go_wp2_with ((refine boxA HB 2 #[.int .i64 0, .int .u64 0, .int .u64 0] 24 ?_; clear HB; intro gb118 w3 BK118 GE118 hg hb HB; clear hb hg; obtain ⟨hcz4_0, hcz4_1, hcz4_2, hfz4_0, hfz4_1, hfz4_2⟩ := cf3 BK118))
  refine retA gb118 24 #[.int .i64 1, .int .u64 1, .int .u64 1] (put3 BK118) Tryz.underlying24 ?_
  exact ⟨by rfl, by repeat (with_reducible first | exact HB.out | refine below_set ?_ GE118.out)⟩
 ·replace H := s3 H; obtain ⟨rfl, rfl, rfl⟩ := H
  go_enter Tryz.func18, Tryz.ntmps18
  go_wp2_with ((refine boxA HB 2 #[.int .i64 0, .int .u64 0, .int .u64 0] 24 ?_; clear HB; intro gb118 w5 BK118 GE118 hg hb HB; clear hb hg; obtain ⟨hcz6_0, hcz6_1, hcz6_2, hfz6_0, hfz6_1, hfz6_2⟩ := cf3 BK118))
  refine retA gb118 24 #[.int .i64 1, .int .u64 (IntKind.u64.wrap (a0)), .int .u64 0] (put3 BK118) Tryz.underlying24 ?_
  exact ⟨by rfl, by repeat (with_reducible first | exact HB.out | refine below_set ?_ GE118.out)⟩
end Go.Proofs.YtfigblfjogpojaaGreatDoor.PBits
end
section
namespace Go.Proofs.YtfigblfjogpojaaGreatDoor.PBits
open Go.RowKit Go.Proofs.YtfigblfjogpojaaGreatDoorW.PrintWords Go.Proofs.YtfigblfjogpojaaGreatDoorW.PrintLast Go.Proofs.YtfigblfjogpojaaGreatDoorW.PrintMore
attribute [local go_sem] max2_int min2_int max_two min_two max_three min_three max_four min_four
set_option linter.unusedVariables false
set_option linter.unusedSimpArgs false
def bits_LNot.f (k : Nat) (a0_0 : Int) (a0_1 : Int) (a0_2 : Int) : Option (Int × Int × Int) := (bits_valid.f k (([(⟨a0_0, a0_1, a0_2⟩ : S24)] : List (S24)))).bind fun t168 => (if t168 = true then ((bits_True.f k a0_0 a0_1 a0_2).bind fun t169 => (if t169 ≥ 0 then ((bits_truth.f (wrap64 (1 - t169))).bind fun bt170 => (some (bt170.1, bt170.2.1, bt170.2.2))) else ((bits_truth.f (-1)).bind fun bt173 => (some (bt173.1, bt173.2.1, bt173.2.2))))) else (some (0, 0, 0)))
set_option maxHeartbeats 8000000 in
set_option maxRecDepth 100000 in
theorem bits_LNot.calls (k : Nat) (a0_0 : Int) (a0_1 : Int) (a0_2 : Int) (r1 : Int) (r2 : Int) (r3 : Int) (w : World) (h : bits_LNot.f k a0_0 a0_1 a0_2 = some (r1, r2, r3)) :
  Calls Tryz.prog 8 #[.agg #[.int .i64 a0_0, .int .u64 a0_1, .int .u64 a0_2]] w fun e w' => e = .returned (.agg #[.int .i64 r1, .int .u64 r2, .int .u64 r3]) ∧ Below w.heap.size w w' := by
 have hu24 := Tryz.underlying24
 have HB := Aside0.mk (Below.refl w.heap.size w)
 have H := h
 clear h
 unfold bits_LNot.f at H
 obtain ⟨y165, hy165⟩ : ∃ y_ : List (S24), y_ = ([(⟨a0_0, a0_1, a0_2⟩ : S24)] : List (S24)) := ⟨_, rfl⟩
 replace H : ((bits_valid.f k y165).bind fun t168 => (if t168 = true then ((bits_True.f k a0_0 a0_1 a0_2).bind fun t169 => (if t169 ≥ 0 then ((bits_truth.f (wrap64 (1 - t169))).bind fun bt170 => (some (bt170.1, bt170.2.1, bt170.2.2))) else ((bits_truth.f (-1)).bind fun bt173 => (some (bt173.1, bt173.2.1, bt173.2.2))))) else (some (0, 0, 0)))) = some (r1, r2, r3) := by (rw [hy165]; with_reducible exact H)
 have Ny165 := Aside0.mk hy165
 clear hy165
 replace H := bN H; obtain ⟨t168, A2, H⟩ := H
 replace H := iB H; rcases H with ⟨rfl, H⟩ | ⟨rfl, H⟩
 ·replace H := bN H; obtain ⟨t169, A4, H⟩ := H
  replace H := iD H; rcases H with ⟨c5b0, H⟩ | ⟨c5b0, H⟩
  ·replace c5b0 : decide (0 ≤ t169) = true := c5b0
   replace H := bN H; obtain ⟨⟨t170, t171, t172⟩, A6, H⟩ := H; dsimp only at H
   replace H := s3 H; obtain ⟨rfl, rfl, rfl⟩ := H
   go_enter Tryz.func8, Tryz.ntmps8
   go_wp2_with (first | (refine boxA HB 1 #[.int .i64 a0_0, .int .u64 a0_1, .int .u64 a0_2] 24 ?_; clear HB; intro gb163 w7 BK163 GE163 hg hb HB; clear hb hg) | (refine boxA HB 2 #[.int .i64 0, .int .u64 0, .int .u64 0] 24 ?_; clear HB; intro gb164 w8 BK164 GE164 hg hb HB; have NB163_164 := nbA BK163 hg; have NB164_163 := nbB BK163 hg; replace BK163 := bk1 BK163 hb; clear hb hg; have hnb9 := NB163_164.out; have hnc9 := NB164_163.out; obtain ⟨hcz10_0, hcz10_1, hcz10_2, hfz10_0, hfz10_1, hfz10_2⟩ := cf3 BK163) | ((with_reducible refine gate_dst (N := 5) rfl ?_); refine Kd.R_lit k24 _ 24 ?hg (N := 5) ?hd (xs := ([(⟨a0_0, a0_1, a0_2⟩ : S24)] : List (S24))) (inner := [.int .i64 a0_0, .int .u64 a0_1, .int .u64 a0_2]) (ok := fun _ => True) (okp := fun _ => True) ?hr ?hp (fun _ hk => hk) trivial (Below.refl _ _) (Nat.le_refl _) (by simp) ?_; (case hd => rfl); (case hg => rfl); (case hr => (go_simp; done)); (case hp => exact (Reps.c3 (show Kd.M k24 _ _ _ (⟨a0_0, a0_1, a0_2⟩ : S24) [.int .i64 a0_0, .int .u64 a0_1, .int .u64 a0_2] from (k24_mkM _ _ _ (⟨a0_0, a0_1, a0_2⟩ : S24) )) (Reps.none _ _))); intro v166 w11 ho12 hb hg_ hnew_; clear hg_ hnew_; (rw [← Ny165.out] at ho12); have HO167 := Aside0.mk (Kd.R_lower (Kd.R_newB (Kd.R_newB ho12 BK163.out) BK164.out) (below_size HB.out)); replace BK163 := bk1 BK163 hb; replace BK164 := bk1 BK164 hb; replace HB := hb1 HB hb; clear hb ho12; obtain ⟨Ao13, co13, eo13⟩ := Kd.R_slice HO167.out; subst eo13) | (refine callA (some 6) Tryz.func15 #[.slice Ao13 y165.length co13] ?_; (with_reducible refine (bits_valid.calls k _ _ y165 true _ ?side1 ?side2 A2.out).mono ?_); (case side1 => exact (Kd.R_reads' HO167.out).2.2); (case side2 => exact (Kd.R_reads' HO167.out).2.1); rintro e w14 ⟨rfl, hb⟩; refine ⟨_, rfl, ?_⟩; replace HO167 := Kd.rb1 HO167 hb; replace BK163 := bk1 BK163 hb; replace BK164 := bk1 BK164 hb; replace HB := hb1 HB hb; (try clear hb); obtain ⟨hcz15_0, hcz15_1, hcz15_2, hfz15_0, hfz15_1, hfz15_2⟩ := cf3 BK163) | (refine callA (some 10) Tryz.func19 #[.agg #[.int .i64 a0_0, .int .u64 a0_1, .int .u64 a0_2]] ?_; (with_reducible refine (bits_True.calls k a0_0 a0_1 a0_2 t169 _ A4.out).mono ?_); rintro e w16 ⟨rfl, hb⟩; refine ⟨_, rfl, ?_⟩; replace HO167 := Kd.rb1 HO167 hb; replace BK163 := bk1 BK163 hb; replace BK164 := bk1 BK164 hb; replace HB := hb1 HB hb; (try clear hb)) | (refine callA (some 15) Tryz.func18 #[.int .i64 (wrap64 (1 - t169))] ?_; (with_reducible refine (bits_truth.calls (wrap64 (1 - t169)) t170 t171 t172 _ A6.out).mono ?_); rintro e w17 ⟨rfl, hb⟩; refine ⟨_, rfl, ?_⟩; replace HO167 := Kd.rb1 HO167 hb; replace BK163 := bk1 BK163 hb; replace BK164 := bk1 BK164 hb; replace HB := hb1 HB hb; (try clear hb); obtain ⟨hcz18_0, hcz18_1, hcz18_2, hfz18_0, hfz18_1, hfz18_2⟩ := cf3 BK164))
   refine retA gb164 24 #[.int .i64 t170, .int .u64 t171, .int .u64 t172] (put3 BK164) Tryz.underlying24 ?_
   exact ⟨by rfl, by repeat (with_reducible first | exact HB.out | refine below_set ?_ GE164.out)⟩
  ·replace c5b0 : decide (0 ≤ t169) = false := c5b0
   replace H := bN H; obtain ⟨⟨t173, t174, t175⟩, A19, H⟩ := H; dsimp only at H
   replace H := s3 H; obtain ⟨rfl, rfl, rfl⟩ := H
   go_enter Tryz.func8, Tryz.ntmps8
   go_wp2_with (first | (refine boxA HB 1 #[.int .i64 a0_0, .int .u64 a0_1, .int .u64 a0_2] 24 ?_; clear HB; intro gb163 w20 BK163 GE163 hg hb HB; clear hb hg) | (refine boxA HB 2 #[.int .i64 0, .int .u64 0, .int .u64 0] 24 ?_; clear HB; intro gb164 w21 BK164 GE164 hg hb HB; have NB163_164 := nbA BK163 hg; have NB164_163 := nbB BK163 hg; replace BK163 := bk1 BK163 hb; clear hb hg; have hnb22 := NB163_164.out; have hnc22 := NB164_163.out; obtain ⟨hcz23_0, hcz23_1, hcz23_2, hfz23_0, hfz23_1, hfz23_2⟩ := cf3 BK163) | ((with_reducible refine gate_dst (N := 5) rfl ?_); refine Kd.R_lit k24 _ 24 ?hg (N := 5) ?hd (xs := ([(⟨a0_0, a0_1, a0_2⟩ : S24)] : List (S24))) (inner := [.int .i64 a0_0, .int .u64 a0_1, .int .u64 a0_2]) (ok := fun _ => True) (okp := fun _ => True) ?hr ?hp (fun _ hk => hk) trivial (Below.refl _ _) (Nat.le_refl _) (by simp) ?_; (case hd => rfl); (case hg => rfl); (case hr => (go_simp; done)); (case hp => exact (Reps.c3 (show Kd.M k24 _ _ _ (⟨a0_0, a0_1, a0_2⟩ : S24) [.int .i64 a0_0, .int .u64 a0_1, .int .u64 a0_2] from (k24_mkM _ _ _ (⟨a0_0, a0_1, a0_2⟩ : S24) )) (Reps.none _ _))); intro v166 w24 ho25 hb hg_ hnew_; clear hg_ hnew_; (rw [← Ny165.out] at ho25); have HO167 := Aside0.mk (Kd.R_lower (Kd.R_newB (Kd.R_newB ho25 BK163.out) BK164.out) (below_size HB.out)); replace BK163 := bk1 BK163 hb; replace BK164 := bk1 BK164 hb; replace HB := hb1 HB hb; clear hb ho25; obtain ⟨Ao26, co26, eo26⟩ := Kd.R_slice HO167.out; subst eo26) | (refine callA (some 6) Tryz.func15 #[.slice Ao26 y165.length co26] ?_; (with_reducible refine (bits_valid.calls k _ _ y165 true _ ?side1 ?side2 A2.out).mono ?_); (case side1 => exact (Kd.R_reads' HO167.out).2.2); (case side2 => exact (Kd.R_reads' HO167.out).2.1); rintro e w27 ⟨rfl, hb⟩; refine ⟨_, rfl, ?_⟩; replace HO167 := Kd.rb1 HO167 hb; replace BK163 := bk1 BK163 hb; replace BK164 := bk1 BK164 hb; replace HB := hb1 HB hb; (try clear hb); obtain ⟨hcz28_0, hcz28_1, hcz28_2, hfz28_0, hfz28_1, hfz28_2⟩ := cf3 BK163) | (refine callA (some 10) Tryz.func19 #[.agg #[.int .i64 a0_0, .int .u64 a0_1, .int .u64 a0_2]] ?_; (with_reducible refine (bits_True.calls k a0_0 a0_1 a0_2 t169 _ A4.out).mono ?_); rintro e w29 ⟨rfl, hb⟩; refine ⟨_, rfl, ?_⟩; replace HO167 := Kd.rb1 HO167 hb; replace BK163 := bk1 BK163 hb; replace BK164 := bk1 BK164 hb; replace HB := hb1 HB hb; (try clear hb)) | (refine callA (some 16) Tryz.func18 #[.int .i64 (-1)] ?_; (with_reducible refine (bits_truth.calls (-1) t173 t174 t175 _ A19.out).mono ?_); rintro e w30 ⟨rfl, hb⟩; refine ⟨_, rfl, ?_⟩; replace HO167 := Kd.rb1 HO167 hb; replace BK163 := bk1 BK163 hb; replace BK164 := bk1 BK164 hb; replace HB := hb1 HB hb; (try clear hb); obtain ⟨hcz31_0, hcz31_1, hcz31_2, hfz31_0, hfz31_1, hfz31_2⟩ := cf3 BK164))
   refine retA gb164 24 #[.int .i64 t173, .int .u64 t174, .int .u64 t175] (put3 BK164) Tryz.underlying24 ?_
   exact ⟨by rfl, by repeat (with_reducible first | exact HB.out | refine below_set ?_ GE164.out)⟩
 ·replace H := s3 H; obtain ⟨rfl, rfl, rfl⟩ := H
  go_enter Tryz.func8, Tryz.ntmps8
  go_wp2_with (first | (refine boxA HB 1 #[.int .i64 a0_0, .int .u64 a0_1, .int .u64 a0_2] 24 ?_; clear HB; intro gb163 w32 BK163 GE163 hg hb HB; clear hb hg) | (refine boxA HB 2 #[.int .i64 0, .int .u64 0, .int .u64 0] 24 ?_; clear HB; intro gb164 w33 BK164 GE164 hg hb HB; have NB163_164 := nbA BK163 hg; have NB164_163 := nbB BK163 hg; replace BK163 := bk1 BK163 hb; clear hb hg; have hnb34 := NB163_164.out; have hnc34 := NB164_163.out; obtain ⟨hcz35_0, hcz35_1, hcz35_2, hfz35_0, hfz35_1, hfz35_2⟩ := cf3 BK163) | ((with_reducible refine gate_dst (N := 5) rfl ?_); refine Kd.R_lit k24 _ 24 ?hg (N := 5) ?hd (xs := ([(⟨a0_0, a0_1, a0_2⟩ : S24)] : List (S24))) (inner := [.int .i64 a0_0, .int .u64 a0_1, .int .u64 a0_2]) (ok := fun _ => True) (okp := fun _ => True) ?hr ?hp (fun _ hk => hk) trivial (Below.refl _ _) (Nat.le_refl _) (by simp) ?_; (case hd => rfl); (case hg => rfl); (case hr => (go_simp; done)); (case hp => exact (Reps.c3 (show Kd.M k24 _ _ _ (⟨a0_0, a0_1, a0_2⟩ : S24) [.int .i64 a0_0, .int .u64 a0_1, .int .u64 a0_2] from (k24_mkM _ _ _ (⟨a0_0, a0_1, a0_2⟩ : S24) )) (Reps.none _ _))); intro v166 w36 ho37 hb hg_ hnew_; clear hg_ hnew_; (rw [← Ny165.out] at ho37); have HO167 := Aside0.mk (Kd.R_lower (Kd.R_newB (Kd.R_newB ho37 BK163.out) BK164.out) (below_size HB.out)); replace BK163 := bk1 BK163 hb; replace BK164 := bk1 BK164 hb; replace HB := hb1 HB hb; clear hb ho37; obtain ⟨Ao38, co38, eo38⟩ := Kd.R_slice HO167.out; subst eo38) | (refine callA (some 6) Tryz.func15 #[.slice Ao38 y165.length co38] ?_; (with_reducible refine (bits_valid.calls k _ _ y165 false _ ?side1 ?side2 A2.out).mono ?_); (case side1 => exact (Kd.R_reads' HO167.out).2.2); (case side2 => exact (Kd.R_reads' HO167.out).2.1); rintro e w39 ⟨rfl, hb⟩; refine ⟨_, rfl, ?_⟩; replace HO167 := Kd.rb1 HO167 hb; replace BK163 := bk1 BK163 hb; replace BK164 := bk1 BK164 hb; replace HB := hb1 HB hb; (try clear hb); obtain ⟨hcz40_0, hcz40_1, hcz40_2, hfz40_0, hfz40_1, hfz40_2⟩ := cf3 BK164))
  refine retA gb164 24 #[.int .i64 0, .int .u64 0, .int .u64 0] (put3 BK164) Tryz.underlying24 ?_
  exact ⟨by rfl, by repeat (with_reducible first | exact HB.out | refine below_set ?_ GE164.out)⟩
end Go.Proofs.YtfigblfjogpojaaGreatDoor.PBits
end
