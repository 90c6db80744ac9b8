/- Part 18 of the proof of BitsMadeCardSaid: The law BitsMade: for all arguments it returns true; each argument reads behind the call as it read before. Out of the plain theorem of YtfigblfjogpojaaDoorPureBitsMade and the printed contract. -/
import Derived.Test.YtfigblfjogpojaaDoorQBitsMade15
import Derived.Test.YtfigblfjogpojaaDoorQBitsMade14
section
namespace Go.Proofs.YtfigblfjogpojaaDoor.PBits
open Go.RowKit Go.Proofs.YtfigblfjogpojaaDoorW.PrintWords Go.Proofs.YtfigblfjogpojaaDoorW.PrintLast Go.Proofs.YtfigblfjogpojaaDoorW.PrintMore
attribute [local go_sem] max2_int min2_int max_two min_two max_three min_three max_four min_four
set_option linter.unusedVariables false
set_option linter.unusedSimpArgs false
def maskref1_Truth.l0 : Nat → Int → List Int → Int → Int → Option (Int)
 | 0, _, _, _, _ => none
 | k + 1, x3, x6, x7, x8 => if x8 < x7 then (if 0 ≤ x8 then (if x8 < (x6.length : Int) then (if (rd x6 x8) = 49 then (some 116) else (if (rd x6 x8) = 48 then (maskref1_Truth.l0 k x3 x6 x7 (wrap64 (x8 + 1))) else (maskref1_Truth.l0 k 117 x6 x7 (wrap64 (x8 + 1))))) else (none)) else (none)) else (some x3)
def maskref1_Truth.f (k : Nat) (l0 : List Int) : Option (Int) := maskref1_Truth.l0 k 102 l0 (l0.length : Int) 0
set_option maxHeartbeats 8000000 in
set_option maxRecDepth 100000 in
theorem maskref1_Truth.calls (k : Nat) (A0 : Option Addr) (c0 : Nat) (l0 : List Int) (r : Int) (w : World) (hr0 : Kd.C (Kd.int .u8) w A0 l0.length l0) (hc0 : l0.length ≤ c0) (h : maskref1_Truth.f k l0 = some r) :
  Calls Tryd.prog 59 #[.slice A0 l0.length c0] w fun e w' => e = .returned (.int .u8 r) ∧ Drawn0 w w' := by
 have HR0 := Aside0.mk hr0
 have HC0 := Aside0.mk hc0
 clear hr0 hc0
 have H := h
 clear h
 unfold maskref1_Truth.f at H
 have H' := Aside0.mk H
 clear H
 go_enter Tryd.func59, Tryd.ntmps59
 go_wp2
 go_loopg [3, 8] k (fun kq v3 v8 w' => ∃ (x3_1 : Int) (x8_1 : Int), v3 = .int .u8 x3_1 ∧ v8 = .int .i64 x8_1 ∧ Aside0 (maskref1_Truth.l0 kq x3_1 l0 (l0.length : Int) x8_1 = some r) ∧ Aside0 (kq ≤ k) ∧ Drawn0 w w')
 case atStart => exact ⟨(102), (0), (by rfl), (by rfl), H', ⟨Nat.le_refl _⟩, by repeat (exact Drawn0.refl _)⟩
 case round =>
  clear H'
  obtain ⟨x3_1, x8_1, rfl, rfl, HA, HK1, ⟨m1, rfl⟩⟩ := hrel
  cases gk with
  | zero => exact absurd HA.out (by simp [maskref1_Truth.l0])
  | succ k1 =>
   have H := HA.out
   clear HA
   simp only [maskref1_Truth.l0] at H
   replace H := iD H; rcases H with ⟨c2b0, H⟩ | ⟨c2b0, H⟩
   ·replace H := iN H; obtain ⟨c3b0, H⟩ := H
    replace H := iN H; obtain ⟨c4b0, H⟩ := H
    replace H := iE H; rcases H with ⟨c5b0, c5b1, H⟩ | ⟨c5, c5b0, c5b1, H⟩
    ·obtain rfl := Option.some.inj H
     have p233 : 0 ≤ (x8_1 : Int) := of_decide_eq_true (by (with_reducible assumption))
     have q233 : x8_1 < (l0.length : Int) := of_decide_eq_true (by (with_reducible assumption))
     obtain ⟨ad233, e233, hx233_0⟩ := Kd.at_int HR0.out x8_1 p233 q233
     cases e233
     replace p233 := eq_true p233
     replace q233 := eq_true q233
     go_wp2
     go_ret
     exact ⟨by rfl, by repeat (first | exact Drawn0.refl _ | apply Drawn0.step)⟩
    ·replace H := iE H; rcases H with ⟨c6b0, c6b1, H⟩ | ⟨c6, c6b0, c6b1, H⟩
     ·have H' := Aside0.mk H
      clear H
      have p233 : 0 ≤ (x8_1 : Int) := of_decide_eq_true (by (with_reducible assumption))
      have q233 : x8_1 < (l0.length : Int) := of_decide_eq_true (by (with_reducible assumption))
      obtain ⟨ad233, e233, hx233_0⟩ := Kd.at_int HR0.out x8_1 p233 q233
      cases e233
      replace p233 := eq_true p233
      replace q233 := eq_true q233
      go_wp2
      go_roundg k1
      case measure => have := HK1.out; omega
      case rel => exact ⟨(x3_1), (wrap64 (x8_1 + 1)), (by rfl), (by rfl), H', ⟨by have := HK1.out; omega⟩, by repeat (first | exact Drawn0.refl _ | apply Drawn0.step)⟩
     ·have H' := Aside0.mk H
      clear H
      have p233 : 0 ≤ (x8_1 : Int) := of_decide_eq_true (by (with_reducible assumption))
      have q233 : x8_1 < (l0.length : Int) := of_decide_eq_true (by (with_reducible assumption))
      obtain ⟨ad233, e233, hx233_0⟩ := Kd.at_int HR0.out x8_1 p233 q233
      cases e233
      replace p233 := eq_true p233
      replace q233 := eq_true q233
      go_wp2
      go_roundg k1
      case measure => have := HK1.out; omega
      case rel => exact ⟨(117), (wrap64 (x8_1 + 1)), (by rfl), (by rfl), H', ⟨by have := HK1.out; omega⟩, by repeat (first | exact Drawn0.refl _ | apply Drawn0.step)⟩
   ·obtain rfl := Option.some.inj H
    go_wp2
    go_ret
    exact ⟨by rfl, by repeat (first | exact Drawn0.refl _ | apply Drawn0.step)⟩
end Go.Proofs.YtfigblfjogpojaaDoor.PBits
end
section
namespace Go.Proofs.YtfigblfjogpojaaDoor.PBits
open Go.RowKit Go.Proofs.YtfigblfjogpojaaDoorW.PrintWords Go.Proofs.YtfigblfjogpojaaDoorW.PrintLast Go.Proofs.YtfigblfjogpojaaDoorW.PrintMore
attribute [local go_sem] max2_int min2_int max_two min_two max_three min_three max_four min_four
set_option linter.unusedVariables false
set_option linter.unusedSimpArgs false
def bits_True.f (k : Nat) (a0_0 : Int) (a0_1 : Int) (a0_2 : Int) : Option (Int) := (bits_valid.f k (([(⟨a0_0, a0_1, a0_2⟩ : S24)] : List (S24)))).bind fun t397 => (if t397 = true then (if (Go.bits .andNot .u64 a0_1 a0_2) = 0 then (if a0_2 = 0 then (some 0) else (some (-1))) else (some 1)) else (some 0))
set_option maxHeartbeats 8000000 in
set_option maxRecDepth 100000 in
theorem bits_True.calls (k : Nat) (a0_0 : Int) (a0_1 : Int) (a0_2 : Int) (r : Int) (w : World) (h : bits_True.f k a0_0 a0_1 a0_2 = some r) :
  Calls Tryd.prog 22 #[.agg #[.int .i64 a0_0, .int .u64 a0_1, .int .u64 a0_2]] w fun e w' => e = .returned (.int .i64 r) ∧ Below w.heap.size w w' := by
 have hu24 := Tryd.underlying24
 have HB := Aside0.mk (Below.refl w.heap.size w)
 have H := h
 clear h
 unfold bits_True.f at H
 obtain ⟨y394, hy394⟩ : ∃ y_ : List (S24), y_ = ([(⟨a0_0, a0_1, a0_2⟩ : S24)] : List (S24)) := ⟨_, rfl⟩
 replace H : ((bits_valid.f k y394).bind fun t397 => (if t397 = true then (if (Go.bits .andNot .u64 a0_1 a0_2) = 0 then (if a0_2 = 0 then (some 0) else (some (-1))) else (some 1)) else (some 0))) = some r := by (rw [hy394]; with_reducible exact H)
 have Ny394 := Aside0.mk hy394
 clear hy394
 replace H := bN H; obtain ⟨t397, A2, H⟩ := H
 replace H := iB H; rcases H with ⟨rfl, H⟩ | ⟨rfl, H⟩
 ·replace H := iE H; rcases H with ⟨c4b0, c4b1, H⟩ | ⟨c4, c4b0, c4b1, H⟩
  ·replace H := iE H; rcases H with ⟨c5b0, c5b1, H⟩ | ⟨c5, c5b0, c5b1, H⟩
   ·obtain rfl := Option.some.inj H
    go_enter Tryd.func22, Tryd.ntmps22
    go_wp2_with (first | (refine boxA HB 1 #[.int .i64 a0_0, .int .u64 a0_1, .int .u64 a0_2] 24 ?_; clear HB; intro gb393 w6 BK393 GE393 hg hb HB; clear hb hg; obtain ⟨hcz7_0, hcz7_1, hcz7_2, hfz7_0, hfz7_1, hfz7_2⟩ := cf3 BK393) | ((with_reducible refine gate_dst (N := 5) rfl ?_); refine Kd.R_lit k24 _ 24 ?hg (N := 5) ?hd (xs := ([(⟨a0_0, a0_1, a0_2⟩ : S24)] : List (S24))) (inner := [.int .i64 a0_0, .int .u64 a0_1, .int .u64 a0_2]) (ok := fun _ => True) (okp := fun _ => True) ?hr ?hp (fun _ hk => hk) trivial (Below.refl _ _) (Nat.le_refl _) (by simp) ?_; (case hd => rfl); (case hg => rfl); (case hr => (go_simp; done)); (case hp => exact (Reps.c3 (show Kd.M k24 _ _ _ (⟨a0_0, a0_1, a0_2⟩ : S24) [.int .i64 a0_0, .int .u64 a0_1, .int .u64 a0_2] from (k24_mkM _ _ _ (⟨a0_0, a0_1, a0_2⟩ : S24) )) (Reps.none _ _))); intro v395 w8 ho9 hb hg_ hnew_; clear hg_ hnew_; (rw [← Ny394.out] at ho9); have HO396 := Aside0.mk (Kd.R_lower (Kd.R_newB ho9 BK393.out) (below_size HB.out)); replace BK393 := bk1 BK393 hb; replace HB := hb1 HB hb; clear hb ho9; obtain ⟨Ao10, co10, eo10⟩ := Kd.R_slice HO396.out; subst eo10) | (refine callA (some 6) Tryd.func56 #[.slice Ao10 y394.length co10] ?_; (with_reducible refine (bits_valid.calls k _ _ y394 true _ ?side1 ?side2 A2.out).mono ?_); (case side1 => exact (Kd.R_reads' HO396.out).2.2); (case side2 => exact (Kd.R_reads' HO396.out).2.1); rintro e w11 ⟨rfl, hb⟩; refine ⟨_, rfl, ?_⟩; replace HO396 := Kd.rb1 HO396 hb; replace BK393 := bk1 BK393 hb; replace HB := hb1 HB hb; (try clear hb); obtain ⟨hcz12_0, hcz12_1, hcz12_2, hfz12_0, hfz12_1, hfz12_2⟩ := cf3 BK393))
    go_ret
    exact ⟨by rfl, by repeat (with_reducible exact HB.out)⟩
   ·obtain rfl := Option.some.inj H
    go_enter Tryd.func22, Tryd.ntmps22
    go_wp2_with (first | (refine boxA HB 1 #[.int .i64 a0_0, .int .u64 a0_1, .int .u64 a0_2] 24 ?_; clear HB; intro gb393 w13 BK393 GE393 hg hb HB; clear hb hg; obtain ⟨hcz14_0, hcz14_1, hcz14_2, hfz14_0, hfz14_1, hfz14_2⟩ := cf3 BK393) | ((with_reducible refine gate_dst (N := 5) rfl ?_); refine Kd.R_lit k24 _ 24 ?hg (N := 5) ?hd (xs := ([(⟨a0_0, a0_1, a0_2⟩ : S24)] : List (S24))) (inner := [.int .i64 a0_0, .int .u64 a0_1, .int .u64 a0_2]) (ok := fun _ => True) (okp := fun _ => True) ?hr ?hp (fun _ hk => hk) trivial (Below.refl _ _) (Nat.le_refl _) (by simp) ?_; (case hd => rfl); (case hg => rfl); (case hr => (go_simp; done)); (case hp => exact (Reps.c3 (show Kd.M k24 _ _ _ (⟨a0_0, a0_1, a0_2⟩ : S24) [.int .i64 a0_0, .int .u64 a0_1, .int .u64 a0_2] from (k24_mkM _ _ _ (⟨a0_0, a0_1, a0_2⟩ : S24) )) (Reps.none _ _))); intro v395 w15 ho16 hb hg_ hnew_; clear hg_ hnew_; (rw [← Ny394.out] at ho16); have HO396 := Aside0.mk (Kd.R_lower (Kd.R_newB ho16 BK393.out) (below_size HB.out)); replace BK393 := bk1 BK393 hb; replace HB := hb1 HB hb; clear hb ho16; obtain ⟨Ao17, co17, eo17⟩ := Kd.R_slice HO396.out; subst eo17) | (refine callA (some 6) Tryd.func56 #[.slice Ao17 y394.length co17] ?_; (with_reducible refine (bits_valid.calls k _ _ y394 true _ ?side1 ?side2 A2.out).mono ?_); (case side1 => exact (Kd.R_reads' HO396.out).2.2); (case side2 => exact (Kd.R_reads' HO396.out).2.1); rintro e w18 ⟨rfl, hb⟩; refine ⟨_, rfl, ?_⟩; replace HO396 := Kd.rb1 HO396 hb; replace BK393 := bk1 BK393 hb; replace HB := hb1 HB hb; (try clear hb); obtain ⟨hcz19_0, hcz19_1, hcz19_2, hfz19_0, hfz19_1, hfz19_2⟩ := cf3 BK393))
    go_ret
    exact ⟨by rfl, by repeat (with_reducible exact HB.out)⟩
  ·obtain rfl := Option.some.inj H
   go_enter Tryd.func22, Tryd.ntmps22
   go_wp2_with (first | (refine boxA HB 1 #[.int .i64 a0_0, .int .u64 a0_1, .int .u64 a0_2] 24 ?_; clear HB; intro gb393 w20 BK393 GE393 hg hb HB; clear hb hg; obtain ⟨hcz21_0, hcz21_1, hcz21_2, hfz21_0, hfz21_1, hfz21_2⟩ := cf3 BK393) | ((with_reducible refine gate_dst (N := 5) rfl ?_); refine Kd.R_lit k24 _ 24 ?hg (N := 5) ?hd (xs := ([(⟨a0_0, a0_1, a0_2⟩ : S24)] : List (S24))) (inner := [.int .i64 a0_0, .int .u64 a0_1, .int .u64 a0_2]) (ok := fun _ => True) (okp := fun _ => True) ?hr ?hp (fun _ hk => hk) trivial (Below.refl _ _) (Nat.le_refl _) (by simp) ?_; (case hd => rfl); (case hg => rfl); (case hr => (go_simp; done)); (case hp => exact (Reps.c3 (show Kd.M k24 _ _ _ (⟨a0_0, a0_1, a0_2⟩ : S24) [.int .i64 a0_0, .int .u64 a0_1, .int .u64 a0_2] from (k24_mkM _ _ _ (⟨a0_0, a0_1, a0_2⟩ : S24) )) (Reps.none _ _))); intro v395 w22 ho23 hb hg_ hnew_; clear hg_ hnew_; (rw [← Ny394.out] at ho23); have HO396 := Aside0.mk (Kd.R_lower (Kd.R_newB ho23 BK393.out) (below_size HB.out)); replace BK393 := bk1 BK393 hb; replace HB := hb1 HB hb; clear hb ho23; obtain ⟨Ao24, co24, eo24⟩ := Kd.R_slice HO396.out; subst eo24) | (refine callA (some 6) Tryd.func56 #[.slice Ao24 y394.length co24] ?_; (with_reducible refine (bits_valid.calls k _ _ y394 true _ ?side1 ?side2 A2.out).mono ?_); (case side1 => exact (Kd.R_reads' HO396.out).2.2); (case side2 => exact (Kd.R_reads' HO396.out).2.1); rintro e w25 ⟨rfl, hb⟩; refine ⟨_, rfl, ?_⟩; replace HO396 := Kd.rb1 HO396 hb; replace BK393 := bk1 BK393 hb; replace HB := hb1 HB hb; (try clear hb); obtain ⟨hcz26_0, hcz26_1, hcz26_2, hfz26_0, hfz26_1, hfz26_2⟩ := cf3 BK393))
   go_ret
   exact ⟨by rfl, by repeat (with_reducible exact HB.out)⟩
 ·obtain rfl := Option.some.inj H
  go_enter Tryd.func22, Tryd.ntmps22
  go_wp2_with (first | (refine boxA HB 1 #[.int .i64 a0_0, .int .u64 a0_1, .int .u64 a0_2] 24 ?_; clear HB; intro gb393 w27 BK393 GE393 hg hb HB; clear hb hg; obtain ⟨hcz28_0, hcz28_1, hcz28_2, hfz28_0, hfz28_1, hfz28_2⟩ := cf3 BK393) | ((with_reducible refine gate_dst (N := 5) rfl ?_); refine Kd.R_lit k24 _ 24 ?hg (N := 5) ?hd (xs := ([(⟨a0_0, a0_1, a0_2⟩ : S24)] : List (S24))) (inner := [.int .i64 a0_0, .int .u64 a0_1, .int .u64 a0_2]) (ok := fun _ => True) (okp := fun _ => True) ?hr ?hp (fun _ hk => hk) trivial (Below.refl _ _) (Nat.le_refl _) (by simp) ?_; (case hd => rfl); (case hg => rfl); (case hr => (go_simp; done)); (case hp => exact (Reps.c3 (show Kd.M k24 _ _ _ (⟨a0_0, a0_1, a0_2⟩ : S24) [.int .i64 a0_0, .int .u64 a0_1, .int .u64 a0_2] from (k24_mkM _ _ _ (⟨a0_0, a0_1, a0_2⟩ : S24) )) (Reps.none _ _))); intro v395 w29 ho30 hb hg_ hnew_; clear hg_ hnew_; (rw [← Ny394.out] at ho30); have HO396 := Aside0.mk (Kd.R_lower (Kd.R_newB ho30 BK393.out) (below_size HB.out)); replace BK393 := bk1 BK393 hb; replace HB := hb1 HB hb; clear hb ho30; obtain ⟨Ao31, co31, eo31⟩ := Kd.R_slice HO396.out; subst eo31) | (refine callA (some 6) Tryd.func56 #[.slice Ao31 y394.length co31] ?_; (with_reducible refine (bits_valid.calls k _ _ y394 false _ ?side1 ?side2 A2.out).mono ?_); (case side1 => exact (Kd.R_reads' HO396.out).2.2); (case side2 => exact (Kd.R_reads' HO396.out).2.1); rintro e w32 ⟨rfl, hb⟩; refine ⟨_, rfl, ?_⟩; replace HO396 := Kd.rb1 HO396 hb; replace BK393 := bk1 BK393 hb; replace HB := hb1 HB hb; (try clear hb)))
  go_ret
  exact ⟨by rfl, by repeat (with_reducible exact HB.out)⟩
end Go.Proofs.YtfigblfjogpojaaDoor.PBits
end
