/- Part 18 of the proof of BitsChosenCardSaid: The law BitsChosen: for all arguments it returns true; each argument reads behind the call as it read before. Out of the plain theorem of YtfigblfjogpojaaDoorPureBitsChosen and the printed contract. -/
import Derived.Test.YtfigblfjogpojaaDoorQBitsChosen13
import Derived.Test.YtfigblfjogpojaaDoorQBitsChosen14
import Derived.Test.YtfigblfjogpojaaDoorQBitsChosen15
section
namespace Go.Proofs.YtfigblfjogpojaaDoor.PBits
open Go.RowKit Go.Proofs.YtfigblfjogpojaaDoorW.PrintWords Go.Proofs.YtfigblfjogpojaaDoorW.PrintLast Go.Proofs.YtfigblfjogpojaaDoorW.PrintMore
attribute [local go_sem] max2_int min2_int max_two min_two max_three min_three max_four min_four
set_option linter.unusedVariables false
set_option linter.unusedSimpArgs false
def maskref1_Truth.l0 : Nat → Int → List Int → Int → Int → Option (Int)
 | 0, _, _, _, _ => none
 | k + 1, x3, x6, x7, x8 => if x8 < x7 then (if 0 ≤ x8 then (if x8 < (x6.length : Int) then (if (rd x6 x8) = 49 then (some 116) else (if (rd x6 x8) = 48 then (maskref1_Truth.l0 k x3 x6 x7 (wrap64 (x8 + 1))) else (maskref1_Truth.l0 k 117 x6 x7 (wrap64 (x8 + 1))))) else (none)) else (none)) else (some x3)
def maskref1_Truth.f (k : Nat) (l0 : List Int) : Option (Int) := maskref1_Truth.l0 k 102 l0 (l0.length : Int) 0
set_option maxHeartbeats 8000000 in
set_option maxRecDepth 100000 in
theorem maskref1_Truth.calls (k : Nat) (A0 : Option Addr) (c0 : Nat) (l0 : List Int) (r : Int) (w : World) (hr0 : Kd.C (Kd.int .u8) w A0 l0.length l0) (hc0 : l0.length ≤ c0) (h : maskref1_Truth.f k l0 = some r) :
  Calls Tryd.prog 59 #[.slice A0 l0.length c0] w fun e w' => e = .returned (.int .u8 r) ∧ Drawn0 w w' := by
 have HR0 := Aside0.mk hr0
 have HC0 := Aside0.mk hc0
 clear hr0 hc0
 have H : (maskref1_Truth.l0 k 102 l0 (l0.length : Int) 0) = some r := h
 clear h
 have H' := Aside0.mk H
 clear H
 go_enter Tryd.func59, Tryd.ntmps59
 go_wp2
 go_loopg [3, 8] k (fun kq v3 v8 w' => ∃ (x3_1 : Int) (x8_1 : Int), v3 = .int .u8 x3_1 ∧ v8 = .int .i64 x8_1 ∧ Aside0 (maskref1_Truth.l0 kq x3_1 l0 (l0.length : Int) x8_1 = some r) ∧ Aside0 (kq ≤ k) ∧ Drawn0 w w')
 case atStart => exact ⟨(102), (0), (by rfl), (by rfl), H', ⟨Nat.le_refl _⟩, by repeat (exact Drawn0.refl _)⟩
 case round =>
  clear H'
  obtain ⟨x3_1, x8_1, rfl, rfl, HA, HK1, ⟨m1, rfl⟩⟩ := hrel
  cases gk with
  | zero => exact absurd HA.out (by simp [maskref1_Truth.l0])
  | succ k1 =>
   have H := HA.out
   clear HA
   simp only [maskref1_Truth.l0] at H
   by_cases c2 : x8_1 < (l0.length : Int)
   ·rw [if_pos c2] at H
    have c2b0 : decide (x8_1 < (l0.length : Int)) = true := decide_eq_true c2
    clear c2
    by_cases c3 : 0 ≤ x8_1
    ·rw [if_pos c3] at H
     have c3b0 : decide (0 ≤ x8_1) = true := decide_eq_true c3
     clear c3
     by_cases c4 : x8_1 < (l0.length : Int)
     ·rw [if_pos c4] at H
      have c4b0 : decide (x8_1 < (l0.length : Int)) = true := decide_eq_true c4
      clear c4
      by_cases c5 : (rd l0 x8_1) = 49
      ·rw [if_pos c5] at H
       have c5b0 : ((rd l0 x8_1) == 49) = true := beq_iff_eq.mpr c5
       have c5b1 : ((rd l0 x8_1) != 49) = false := bne_eq_false_iff_eq.mpr c5
       clear c5
       obtain rfl := Option.some.inj H
       have p233 : 0 ≤ (x8_1 : Int) := of_decide_eq_true (by (with_reducible assumption))
       have q233 : x8_1 < (l0.length : Int) := of_decide_eq_true (by (with_reducible assumption))
       obtain ⟨ad233, e233, hx233_0⟩ := Kd.at_int HR0.out x8_1 p233 q233
       cases e233
       replace p233 := eq_true p233
       replace q233 := eq_true q233
       go_wp2
       go_ret
       exact ⟨by rfl, by repeat (first | exact Drawn0.refl _ | apply Drawn0.step)⟩
      ·rw [if_neg c5] at H
       have c5b0 : ((rd l0 x8_1) == 49) = false := beq_eq_false_iff_ne.mpr c5
       have c5b1 : ((rd l0 x8_1) != 49) = true := bne_iff_ne.mpr c5
       by_cases c6 : (rd l0 x8_1) = 48
       ·rw [if_pos c6] at H
        have c6b0 : ((rd l0 x8_1) == 48) = true := beq_iff_eq.mpr c6
        have c6b1 : ((rd l0 x8_1) != 48) = false := bne_eq_false_iff_eq.mpr c6
        clear c6
        have H' := Aside0.mk H
        clear H
        have p233 : 0 ≤ (x8_1 : Int) := of_decide_eq_true (by (with_reducible assumption))
        have q233 : x8_1 < (l0.length : Int) := of_decide_eq_true (by (with_reducible assumption))
        obtain ⟨ad233, e233, hx233_0⟩ := Kd.at_int HR0.out x8_1 p233 q233
        cases e233
        replace p233 := eq_true p233
        replace q233 := eq_true q233
        go_wp2
        go_roundg k1
        case measure => have := HK1.out; omega
        case rel => exact ⟨(x3_1), (wrap64 (x8_1 + 1)), (by rfl), (by rfl), H', ⟨by have := HK1.out; omega⟩, by repeat (first | exact Drawn0.refl _ | apply Drawn0.step)⟩
       ·rw [if_neg c6] at H
        have c6b0 : ((rd l0 x8_1) == 48) = false := beq_eq_false_iff_ne.mpr c6
        have c6b1 : ((rd l0 x8_1) != 48) = true := bne_iff_ne.mpr c6
        have H' := Aside0.mk H
        clear H
        have p233 : 0 ≤ (x8_1 : Int) := of_decide_eq_true (by (with_reducible assumption))
        have q233 : x8_1 < (l0.length : Int) := of_decide_eq_true (by (with_reducible assumption))
        obtain ⟨ad233, e233, hx233_0⟩ := Kd.at_int HR0.out x8_1 p233 q233
        cases e233
        replace p233 := eq_true p233
        replace q233 := eq_true q233
        go_wp2
        go_roundg k1
        case measure => have := HK1.out; omega
        case rel => exact ⟨(117), (wrap64 (x8_1 + 1)), (by rfl), (by rfl), H', ⟨by have := HK1.out; omega⟩, by repeat (first | exact Drawn0.refl _ | apply Drawn0.step)⟩
     ·rw [if_neg c4] at H
      exact absurd H (by simp)
    ·rw [if_neg c3] at H
     exact absurd H (by simp)
   ·rw [if_neg c2] at H
    have c2b0 : decide (x8_1 < (l0.length : Int)) = false := decide_eq_false c2
    clear c2
    obtain rfl := Option.some.inj H
    go_wp2
    go_ret
    exact ⟨by rfl, by repeat (first | exact Drawn0.refl _ | apply Drawn0.step)⟩
end Go.Proofs.YtfigblfjogpojaaDoor.PBits
end
section
namespace Go.Proofs.YtfigblfjogpojaaDoor.PBits
open Go.RowKit Go.Proofs.YtfigblfjogpojaaDoorW.PrintWords Go.Proofs.YtfigblfjogpojaaDoorW.PrintLast Go.Proofs.YtfigblfjogpojaaDoorW.PrintMore
attribute [local go_sem] max2_int min2_int max_two min_two max_three min_three max_four min_four
set_option linter.unusedVariables false
set_option linter.unusedSimpArgs false
def bits_True.f (k : Nat) (a0_0 : Int) (a0_1 : Int) (a0_2 : Int) : Option (Int) := (bits_valid.f k (([(⟨a0_0, a0_1, a0_2⟩ : S24)] : List (S24)))).bind fun t397 => (if t397 = true then (if (Go.bits .andNot .u64 a0_1 a0_2) = 0 then (if a0_2 = 0 then (some 0) else (some (-1))) else (some 1)) else (some 0))
set_option maxHeartbeats 8000000 in
set_option maxRecDepth 100000 in
theorem bits_True.calls (k : Nat) (a0_0 : Int) (a0_1 : Int) (a0_2 : Int) (r : Int) (w : World) (h : bits_True.f k a0_0 a0_1 a0_2 = some r) :
  Calls Tryd.prog 22 #[.agg #[.int .i64 a0_0, .int .u64 a0_1, .int .u64 a0_2]] w fun e w' => e = .returned (.int .i64 r) ∧ Below w.heap.size w w' := by
 have hu24 := Tryd.underlying24
 have HB := Aside0.mk (Below.refl w.heap.size w)
 have H : ((bits_valid.f k ([(⟨a0_0, a0_1, a0_2⟩ : S24)] : List (S24))).bind fun t397 => (if t397 = true then (if (Go.bits .andNot .u64 a0_1 a0_2) = 0 then (if a0_2 = 0 then (some 0) else (some (-1))) else (some 1)) else (some 0))) = some r := h
 clear h
 obtain ⟨y394, hy394⟩ : ∃ y_ : List (S24), y_ = ([(⟨a0_0, a0_1, a0_2⟩ : S24)] : List (S24)) := ⟨_, rfl⟩
 replace H : ((bits_valid.f k y394).bind fun t397 => (if t397 = true then (if (Go.bits .andNot .u64 a0_1 a0_2) = 0 then (if a0_2 = 0 then (some 0) else (some (-1))) else (some 1)) else (some 0))) = some r := by (rw [hy394]; with_reducible exact H)
 have Ny394 := Aside0.mk hy394
 clear hy394
 replace H := Option.bind_eq_some_iff.mp H
 obtain ⟨t397, A20, H⟩ := H
 replace H : (if t397 = true then (if (Go.bits .andNot .u64 a0_1 a0_2) = 0 then (if a0_2 = 0 then (some 0) else (some (-1))) else (some 1)) else (some 0)) = some r := H
 have A2 := Aside0.mk A20
 clear A20
 by_cases c3 : t397 = true
 ·subst c3
  have H1 : (if (Go.bits .andNot .u64 a0_1 a0_2) = 0 then (if a0_2 = 0 then (some 0) else (some (-1))) else (some 1)) = some r := by rw [if_pos rfl] at H; exact H
  clear H
  have H := H1
  clear H1
  by_cases c4 : (Go.bits .andNot .u64 a0_1 a0_2) = 0
  ·rw [if_pos c4] at H
   have c4b0 : ((Go.bits .andNot .u64 a0_1 a0_2) == 0) = true := beq_iff_eq.mpr c4
   have c4b1 : ((Go.bits .andNot .u64 a0_1 a0_2) != 0) = false := bne_eq_false_iff_eq.mpr c4
   clear c4
   by_cases c5 : a0_2 = 0
   ·rw [if_pos c5] at H
    have c5b0 : (a0_2 == 0) = true := beq_iff_eq.mpr c5
    have c5b1 : (a0_2 != 0) = false := bne_eq_false_iff_eq.mpr c5
    clear c5
    obtain rfl := Option.some.inj H
    go_enter Tryd.func22, Tryd.ntmps22
    go_wp2_with (first | ((with_reducible refine gate_dst (N := 1) rfl ?_); refine box_event ?hg (N := 1) ?hd (cs := #[.int .i64 a0_0, .int .u64 a0_1, .int .u64 a0_2]) (t := 24) ?hr ?_; (case hd => rfl); (case hg => rfl); (case hr => (go_simp; done)); intro gb393 hg w6 hbox hb; have BK393 := Aside0.mk (hbox); have GW393 := ge1 HB hg; have GE393 := ge1 HB hg; replace HB := hb1 HB hb; clear hb hbox hg; have hcz7_0 : w6.cell? ⟨gb393, 0, none⟩ = some (.int .i64 a0_0) := (blk_cell BK393.out 0).trans rfl; have hcz7_1 : w6.cell? ⟨gb393, 1, none⟩ = some (.int .u64 a0_1) := (blk_cell BK393.out 1).trans rfl; have hcz7_2 : w6.cell? ⟨gb393, 2, none⟩ = some (.int .u64 a0_2) := (blk_cell BK393.out 2).trans rfl; have hfz7_0 := blk_frozen BK393.out 0; have hfz7_1 := blk_frozen BK393.out 1; have hfz7_2 := blk_frozen BK393.out 2) | ((with_reducible refine gate_dst (N := 5) rfl ?_); refine Kd.R_lit k24 _ 24 ?hg (N := 5) ?hd (xs := ([(⟨a0_0, a0_1, a0_2⟩ : S24)] : List (S24))) (inner := [.int .i64 a0_0, .int .u64 a0_1, .int .u64 a0_2]) (ok := fun _ => True) (okp := fun _ => True) ?hr ?hp (fun _ hk => hk) trivial (Below.refl _ _) (Nat.le_refl _) (by simp) ?_; (case hd => rfl); (case hg => rfl); (case hr => (go_simp; done)); (case hp => exact (Reps.c3 (show Kd.M k24 _ _ _ (⟨a0_0, a0_1, a0_2⟩ : S24) [.int .i64 a0_0, .int .u64 a0_1, .int .u64 a0_2] from (k24_mkM _ _ _ (⟨a0_0, a0_1, a0_2⟩ : S24) )) (Reps.none _ _))); intro v395 w8 ho9 hb hg_ hnew_; clear hg_ hnew_; (rw [← Ny394.out] at ho9); have HO396 := Aside0.mk (Kd.R_lower (Kd.R_newB ho9 BK393.out) (below_size HB.out)); replace BK393 := bk1 BK393 hb; replace HB := hb1 HB hb; clear hb ho9; obtain ⟨Ao10, co10, eo10⟩ := Kd.R_slice HO396.out; subst eo10) | ((with_reducible refine gate_callee (f := 56) rfl ?_); refine goesL_ (some 6) rfl rfl Tryd.func56 (by kernel_rfl) rfl #[.slice Ao10 y394.length co10] rfl (by (try simp only [List.map_toArray, List.map_cons, List.map_nil]); rfl) ?_; (with_reducible refine (bits_valid.calls k _ _ y394 true _ ?side1 ?side2 A2.out).mono ?_); (case side1 => repeat (exact (Kd.R_reads' HO396.out).2.2)); (case side2 => exact (Kd.R_reads' HO396.out).2.1); rintro e w11 ⟨rfl, hb⟩; refine ⟨_, rfl, ?_⟩; replace HO396 := Kd.rb1 HO396 hb; replace BK393 := bk1 BK393 hb; replace HB := hb1 HB hb; (try clear hb); have hcz12_0 : w11.cell? ⟨gb393, 0, none⟩ = some (.int .i64 a0_0) := (blk_cell BK393.out 0).trans rfl; have hcz12_1 : w11.cell? ⟨gb393, 1, none⟩ = some (.int .u64 a0_1) := (blk_cell BK393.out 1).trans rfl; have hcz12_2 : w11.cell? ⟨gb393, 2, none⟩ = some (.int .u64 a0_2) := (blk_cell BK393.out 2).trans rfl; have hfz12_0 := blk_frozen BK393.out 0; have hfz12_1 := blk_frozen BK393.out 1; have hfz12_2 := blk_frozen BK393.out 2))
    go_ret
    exact ⟨by rfl, by repeat (with_reducible exact HB.out)⟩
   ·rw [if_neg c5] at H
    have c5b0 : (a0_2 == 0) = false := beq_eq_false_iff_ne.mpr c5
    have c5b1 : (a0_2 != 0) = true := bne_iff_ne.mpr c5
    obtain rfl := Option.some.inj H
    go_enter Tryd.func22, Tryd.ntmps22
    go_wp2_with (first | ((with_reducible refine gate_dst (N := 1) rfl ?_); refine box_event ?hg (N := 1) ?hd (cs := #[.int .i64 a0_0, .int .u64 a0_1, .int .u64 a0_2]) (t := 24) ?hr ?_; (case hd => rfl); (case hg => rfl); (case hr => (go_simp; done)); intro gb393 hg w13 hbox hb; have BK393 := Aside0.mk (hbox); have GW393 := ge1 HB hg; have GE393 := ge1 HB hg; replace HB := hb1 HB hb; clear hb hbox hg; have hcz14_0 : w13.cell? ⟨gb393, 0, none⟩ = some (.int .i64 a0_0) := (blk_cell BK393.out 0).trans rfl; have hcz14_1 : w13.cell? ⟨gb393, 1, none⟩ = some (.int .u64 a0_1) := (blk_cell BK393.out 1).trans rfl; have hcz14_2 : w13.cell? ⟨gb393, 2, none⟩ = some (.int .u64 a0_2) := (blk_cell BK393.out 2).trans rfl; have hfz14_0 := blk_frozen BK393.out 0; have hfz14_1 := blk_frozen BK393.out 1; have hfz14_2 := blk_frozen BK393.out 2) | ((with_reducible refine gate_dst (N := 5) rfl ?_); refine Kd.R_lit k24 _ 24 ?hg (N := 5) ?hd (xs := ([(⟨a0_0, a0_1, a0_2⟩ : S24)] : List (S24))) (inner := [.int .i64 a0_0, .int .u64 a0_1, .int .u64 a0_2]) (ok := fun _ => True) (okp := fun _ => True) ?hr ?hp (fun _ hk => hk) trivial (Below.refl _ _) (Nat.le_refl _) (by simp) ?_; (case hd => rfl); (case hg => rfl); (case hr => (go_simp; done)); (case hp => exact (Reps.c3 (show Kd.M k24 _ _ _ (⟨a0_0, a0_1, a0_2⟩ : S24) [.int .i64 a0_0, .int .u64 a0_1, .int .u64 a0_2] from (k24_mkM _ _ _ (⟨a0_0, a0_1, a0_2⟩ : S24) )) (Reps.none _ _))); intro v395 w15 ho16 hb hg_ hnew_; clear hg_ hnew_; (rw [← Ny394.out] at ho16); have HO396 := Aside0.mk (Kd.R_lower (Kd.R_newB ho16 BK393.out) (below_size HB.out)); replace BK393 := bk1 BK393 hb; replace HB := hb1 HB hb; clear hb ho16; obtain ⟨Ao17, co17, eo17⟩ := Kd.R_slice HO396.out; subst eo17) | ((with_reducible refine gate_callee (f := 56) rfl ?_); refine goesL_ (some 6) rfl rfl Tryd.func56 (by kernel_rfl) rfl #[.slice Ao17 y394.length co17] rfl (by (try simp only [List.map_toArray, List.map_cons, List.map_nil]); rfl) ?_; (with_reducible refine (bits_valid.calls k _ _ y394 true _ ?side1 ?side2 A2.out).mono ?_); (case side1 => repeat (exact (Kd.R_reads' HO396.out).2.2)); (case side2 => exact (Kd.R_reads' HO396.out).2.1); rintro e w18 ⟨rfl, hb⟩; refine ⟨_, rfl, ?_⟩; replace HO396 := Kd.rb1 HO396 hb; replace BK393 := bk1 BK393 hb; replace HB := hb1 HB hb; (try clear hb); have hcz19_0 : w18.cell? ⟨gb393, 0, none⟩ = some (.int .i64 a0_0) := (blk_cell BK393.out 0).trans rfl; have hcz19_1 : w18.cell? ⟨gb393, 1, none⟩ = some (.int .u64 a0_1) := (blk_cell BK393.out 1).trans rfl; have hcz19_2 : w18.cell? ⟨gb393, 2, none⟩ = some (.int .u64 a0_2) := (blk_cell BK393.out 2).trans rfl; have hfz19_0 := blk_frozen BK393.out 0; have hfz19_1 := blk_frozen BK393.out 1; have hfz19_2 := blk_frozen BK393.out 2))
    go_ret
    exact ⟨by rfl, by repeat (with_reducible exact HB.out)⟩
  ·rw [if_neg c4] at H
   have c4b0 : ((Go.bits .andNot .u64 a0_1 a0_2) == 0) = false := beq_eq_false_iff_ne.mpr c4
   have c4b1 : ((Go.bits .andNot .u64 a0_1 a0_2) != 0) = true := bne_iff_ne.mpr c4
   obtain rfl := Option.some.inj H
   go_enter Tryd.func22, Tryd.ntmps22
   go_wp2_with (first | ((with_reducible refine gate_dst (N := 1) rfl ?_); refine box_event ?hg (N := 1) ?hd (cs := #[.int .i64 a0_0, .int .u64 a0_1, .int .u64 a0_2]) (t := 24) ?hr ?_; (case hd => rfl); (case hg => rfl); (case hr => (go_simp; done)); intro gb393 hg w20 hbox hb; have BK393 := Aside0.mk (hbox); have GW393 := ge1 HB hg; have GE393 := ge1 HB hg; replace HB := hb1 HB hb; clear hb hbox hg; have hcz21_0 : w20.cell? ⟨gb393, 0, none⟩ = some (.int .i64 a0_0) := (blk_cell BK393.out 0).trans rfl; have hcz21_1 : w20.cell? ⟨gb393, 1, none⟩ = some (.int .u64 a0_1) := (blk_cell BK393.out 1).trans rfl; have hcz21_2 : w20.cell? ⟨gb393, 2, none⟩ = some (.int .u64 a0_2) := (blk_cell BK393.out 2).trans rfl; have hfz21_0 := blk_frozen BK393.out 0; have hfz21_1 := blk_frozen BK393.out 1; have hfz21_2 := blk_frozen BK393.out 2) | ((with_reducible refine gate_dst (N := 5) rfl ?_); refine Kd.R_lit k24 _ 24 ?hg (N := 5) ?hd (xs := ([(⟨a0_0, a0_1, a0_2⟩ : S24)] : List (S24))) (inner := [.int .i64 a0_0, .int .u64 a0_1, .int .u64 a0_2]) (ok := fun _ => True) (okp := fun _ => True) ?hr ?hp (fun _ hk => hk) trivial (Below.refl _ _) (Nat.le_refl _) (by simp) ?_; (case hd => rfl); (case hg => rfl); (case hr => (go_simp; done)); (case hp => exact (Reps.c3 (show Kd.M k24 _ _ _ (⟨a0_0, a0_1, a0_2⟩ : S24) [.int .i64 a0_0, .int .u64 a0_1, .int .u64 a0_2] from (k24_mkM _ _ _ (⟨a0_0, a0_1, a0_2⟩ : S24) )) (Reps.none _ _))); intro v395 w22 ho23 hb hg_ hnew_; clear hg_ hnew_; (rw [← Ny394.out] at ho23); have HO396 := Aside0.mk (Kd.R_lower (Kd.R_newB ho23 BK393.out) (below_size HB.out)); replace BK393 := bk1 BK393 hb; replace HB := hb1 HB hb; clear hb ho23; obtain ⟨Ao24, co24, eo24⟩ := Kd.R_slice HO396.out; subst eo24) | ((with_reducible refine gate_callee (f := 56) rfl ?_); refine goesL_ (some 6) rfl rfl Tryd.func56 (by kernel_rfl) rfl #[.slice Ao24 y394.length co24] rfl (by (try simp only [List.map_toArray, List.map_cons, List.map_nil]); rfl) ?_; (with_reducible refine (bits_valid.calls k _ _ y394 true _ ?side1 ?side2 A2.out).mono ?_); (case side1 => repeat (exact (Kd.R_reads' HO396.out).2.2)); (case side2 => exact (Kd.R_reads' HO396.out).2.1); rintro e w25 ⟨rfl, hb⟩; refine ⟨_, rfl, ?_⟩; replace HO396 := Kd.rb1 HO396 hb; replace BK393 := bk1 BK393 hb; replace HB := hb1 HB hb; (try clear hb); have hcz26_0 : w25.cell? ⟨gb393, 0, none⟩ = some (.int .i64 a0_0) := (blk_cell BK393.out 0).trans rfl; have hcz26_1 : w25.cell? ⟨gb393, 1, none⟩ = some (.int .u64 a0_1) := (blk_cell BK393.out 1).trans rfl; have hcz26_2 : w25.cell? ⟨gb393, 2, none⟩ = some (.int .u64 a0_2) := (blk_cell BK393.out 2).trans rfl; have hfz26_0 := blk_frozen BK393.out 0; have hfz26_1 := blk_frozen BK393.out 1; have hfz26_2 := blk_frozen BK393.out 2))
   go_ret
   exact ⟨by rfl, by repeat (with_reducible exact HB.out)⟩
 ·replace c3 := Bool.eq_false_iff.mpr c3
  subst c3
  have H1 : (some 0) = some r := by rw [if_neg (show ¬ (false = true) by decide)] at H; exact H
  clear H
  have H := H1
  clear H1
  obtain rfl := Option.some.inj H
  go_enter Tryd.func22, Tryd.ntmps22
  go_wp2_with (first | ((with_reducible refine gate_dst (N := 1) rfl ?_); refine box_event ?hg (N := 1) ?hd (cs := #[.int .i64 a0_0, .int .u64 a0_1, .int .u64 a0_2]) (t := 24) ?hr ?_; (case hd => rfl); (case hg => rfl); (case hr => (go_simp; done)); intro gb393 hg w27 hbox hb; have BK393 := Aside0.mk (hbox); have GW393 := ge1 HB hg; have GE393 := ge1 HB hg; replace HB := hb1 HB hb; clear hb hbox hg; have hcz28_0 : w27.cell? ⟨gb393, 0, none⟩ = some (.int .i64 a0_0) := (blk_cell BK393.out 0).trans rfl; have hcz28_1 : w27.cell? ⟨gb393, 1, none⟩ = some (.int .u64 a0_1) := (blk_cell BK393.out 1).trans rfl; have hcz28_2 : w27.cell? ⟨gb393, 2, none⟩ = some (.int .u64 a0_2) := (blk_cell BK393.out 2).trans rfl; have hfz28_0 := blk_frozen BK393.out 0; have hfz28_1 := blk_frozen BK393.out 1; have hfz28_2 := blk_frozen BK393.out 2) | ((with_reducible refine gate_dst (N := 5) rfl ?_); refine Kd.R_lit k24 _ 24 ?hg (N := 5) ?hd (xs := ([(⟨a0_0, a0_1, a0_2⟩ : S24)] : List (S24))) (inner := [.int .i64 a0_0, .int .u64 a0_1, .int .u64 a0_2]) (ok := fun _ => True) (okp := fun _ => True) ?hr ?hp (fun _ hk => hk) trivial (Below.refl _ _) (Nat.le_refl _) (by simp) ?_; (case hd => rfl); (case hg => rfl); (case hr => (go_simp; done)); (case hp => exact (Reps.c3 (show Kd.M k24 _ _ _ (⟨a0_0, a0_1, a0_2⟩ : S24) [.int .i64 a0_0, .int .u64 a0_1, .int .u64 a0_2] from (k24_mkM _ _ _ (⟨a0_0, a0_1, a0_2⟩ : S24) )) (Reps.none _ _))); intro v395 w29 ho30 hb hg_ hnew_; clear hg_ hnew_; (rw [← Ny394.out] at ho30); have HO396 := Aside0.mk (Kd.R_lower (Kd.R_newB ho30 BK393.out) (below_size HB.out)); replace BK393 := bk1 BK393 hb; replace HB := hb1 HB hb; clear hb ho30; obtain ⟨Ao31, co31, eo31⟩ := Kd.R_slice HO396.out; subst eo31) | ((with_reducible refine gate_callee (f := 56) rfl ?_); refine goesL_ (some 6) rfl rfl Tryd.func56 (by kernel_rfl) rfl #[.slice Ao31 y394.length co31] rfl (by (try simp only [List.map_toArray, List.map_cons, List.map_nil]); rfl) ?_; (with_reducible refine (bits_valid.calls k _ _ y394 false _ ?side1 ?side2 A2.out).mono ?_); (case side1 => repeat (exact (Kd.R_reads' HO396.out).2.2)); (case side2 => exact (Kd.R_reads' HO396.out).2.1); rintro e w32 ⟨rfl, hb⟩; refine ⟨_, rfl, ?_⟩; replace HO396 := Kd.rb1 HO396 hb; replace BK393 := bk1 BK393 hb; replace HB := hb1 HB hb; (try clear hb)))
  go_ret
  exact ⟨by rfl, by repeat (with_reducible exact HB.out)⟩
end Go.Proofs.YtfigblfjogpojaaDoor.PBits
end
section
namespace Go.Proofs.YtfigblfjogpojaaDoor.PBits
open Go.RowKit Go.Proofs.YtfigblfjogpojaaDoorW.PrintWords Go.Proofs.YtfigblfjogpojaaDoorW.PrintLast Go.Proofs.YtfigblfjogpojaaDoorW.PrintMore
attribute [local go_sem] max2_int min2_int max_two min_two max_three min_three max_four min_four
set_option linter.unusedVariables false
set_option linter.unusedSimpArgs false
def maskref1_Resolved_1.j0 : Nat → Int → Int → Bool → Option (Int)
 | 0, _, _, _ => none
 | k + 1, x0, x1, x5 => if x5 = true then (some x1) else (if x1 = 122 then (some x0) else (some 120))
def maskref1_Resolved_1.f (k : Nat) (a0 : Int) (a1 : Int) : Option (Int) := if a0 = 122 then (maskref1_Resolved_1.j0 k a0 a1 true) else (maskref1_Resolved_1.j0 k a0 a1 (a0 == a1))
set_option maxHeartbeats 8000000 in
set_option maxRecDepth 100000 in
theorem maskref1_Resolved_1.calls (k : Nat) (a0 : Int) (a1 : Int) (r : Int) (w : World) (h : maskref1_Resolved_1.f k a0 a1 = some r) :
  Calls Tryd.prog 64 #[.int .u8 a0, .int .u8 a1] w fun e w' => e = .returned (.int .u8 r) ∧ Drawn0 w w' := by
 have H : (if a0 = 122 then (maskref1_Resolved_1.j0 k a0 a1 true) else (maskref1_Resolved_1.j0 k a0 a1 (a0 == a1))) = some r := h
 clear h
 have HC3 := Aside0.mk H
 clear H
 go_enter Tryd.func64, Tryd.ntmps64
 go_upto_region 1 with (fail)
 go_cut [5] (fun v5 wc => ∃ (kq : Nat) (x5_2 : Bool), v5 = .bool x5_2 ∧ Aside0 (maskref1_Resolved_1.j0 kq a0 a1 x5_2 = some r) ∧ Aside0 (kq ≤ k) ∧ Drawn0 w wc)
 case first =>
  have H := HC3.out
  clear HC3
  by_cases c4 : a0 = 122
  ·rw [if_pos c4] at H
   have c4b0 : (a0 == 122) = true := beq_iff_eq.mpr c4
   have c4b1 : (a0 != 122) = false := bne_eq_false_iff_eq.mpr c4
   clear c4
   (skip)
   have H' := Aside0.mk H
   clear H
   go_wp2
   go_meet
   case rel => exact ⟨_, (true), (by rfl), H', ⟨by omega⟩, by repeat (exact Drawn0.refl _)⟩
  ·rw [if_neg c4] at H
   have c4b0 : (a0 == 122) = false := beq_eq_false_iff_ne.mpr c4
   have c4b1 : (a0 != 122) = true := bne_iff_ne.mpr c4
   (skip)
   have H' := Aside0.mk H
   clear H
   go_wp2
   go_meet
   case rel => exact ⟨_, (a0 == a1), (by rfl), H', ⟨by omega⟩, by repeat (exact Drawn0.refl _)⟩
 case rest =>
  clear HC3
  obtain ⟨kq, x5_2, rfl, HA, HJ2, ⟨mc2, rfl⟩⟩ := hcut
  cases kq with
  | zero => exact absurd HA.out (by simp [maskref1_Resolved_1.j0])
  | succ kj2 =>
   have H := HA.out
   clear HA
   simp only [maskref1_Resolved_1.j0] at H
   by_cases c5 : x5_2 = true
   ·subst c5
    have H1 : (some a1) = some r := by rw [if_pos rfl] at H; exact H
    clear H
    have H := H1
    clear H1
    obtain rfl := Option.some.inj H
    go_wp2
    go_ret
    exact ⟨by rfl, by repeat (first | exact Drawn0.refl _ | apply Drawn0.step)⟩
   ·replace c5 := Bool.eq_false_iff.mpr c5
    subst c5
    have H1 : (if a1 = 122 then (some a0) else (some 120)) = some r := by rw [if_neg (show ¬ (false = true) by decide)] at H; exact H
    clear H
    have H := H1
    clear H1
    by_cases c6 : a1 = 122
    ·rw [if_pos c6] at H
     have c6b0 : (a1 == 122) = true := beq_iff_eq.mpr c6
     have c6b1 : (a1 != 122) = false := bne_eq_false_iff_eq.mpr c6
     clear c6
     obtain rfl := Option.some.inj H
     go_wp2
     go_ret
     exact ⟨by rfl, by repeat (first | exact Drawn0.refl _ | apply Drawn0.step)⟩
    ·rw [if_neg c6] at H
     have c6b0 : (a1 == 122) = false := beq_eq_false_iff_ne.mpr c6
     have c6b1 : (a1 != 122) = true := bne_iff_ne.mpr c6
     obtain rfl := Option.some.inj H
     go_wp2
     go_ret
     exact ⟨by rfl, by repeat (first | exact Drawn0.refl _ | apply Drawn0.step)⟩
end Go.Proofs.YtfigblfjogpojaaDoor.PBits
end
section
namespace Go.Proofs.YtfigblfjogpojaaDoor.PBits
open Go.RowKit Go.Proofs.YtfigblfjogpojaaDoorW.PrintWords Go.Proofs.YtfigblfjogpojaaDoorW.PrintLast Go.Proofs.YtfigblfjogpojaaDoorW.PrintMore
attribute [local go_sem] max2_int min2_int max_two min_two max_three min_three max_four min_four
set_option linter.unusedVariables false
set_option linter.unusedSimpArgs false
def maskref1_each__Resolved_1.l0 : Nat → List Int → List Int → List Int → Int → Int → Option (List Int)
 | 0, _, _, _, _, _ => none
 | k + 1, x0, x1, x7, x10, x11 => if x11 < x10 then (if 0 ≤ x11 then (if x11 < (x0.length : Int) then (if x11 < (x1.length : Int) then ((maskref1_Resolved_1.f k (rd x0 x11) (rd x1 x11)).bind fun t647 => (if x7.length < 140737488355328 then (maskref1_each__Resolved_1.l0 k x0 x1 (x7 ++ [t647]) x10 (wrap64 (x11 + 1))) else (none))) else (none)) else (none)) else (none)) else (some x7)
def maskref1_each__Resolved_1.f (k : Nat) (l0 : List Int) (l1 : List Int)  : Option (List Int) := maskref1_each__Resolved_1.l0 k l0 l1 ([] : List Int) (l0.length : Int) 0
def maskref1_each__Resolved_1.T5 : Bool × List (List Nat × List Nat) := (true, [([], []), ([], []), ([], []), ([], []), ([2, 3], [2, 3]), ([4], [4]), ([], []), ([], []), ([6, 7], [6, 7]), ([8], [8]), ([1, 5, 9], [1, 5, 9]), ([10], [10]), ([0, 11, 10], [0, 11]), ([12, 12, 0, 1, 2, 3, 4, 5, 6, 7, 8, 9, 10, 11, 12], [0, 12])])
def maskref1_each__Resolved_1.B5 : List Nat := [0, 0, 0, 0, 12, 28, 0, 0, 192, 448, 1022, 2046, 4095, 8191]
theorem maskref1_each__Resolved_1.tab5 : rtab .any (opsOf Tryd.f63 5) = maskref1_each__Resolved_1.T5 := by kernel_rfl
theorem maskref1_each__Resolved_1.bits5 : waitsOk maskref1_each__Resolved_1.T5.2 maskref1_each__Resolved_1.B5 = true := by kernel_rfl
set_option maxHeartbeats 8000000 in
set_option maxRecDepth 100000 in
theorem maskref1_each__Resolved_1.calls (k : Nat) (A0 : Option Addr) (c0 : Nat) (l0 : List Int) (A1 : Option Addr) (c1 : Nat) (l1 : List Int)  (r : List Int) (w : World) (hr0 : Kd.C (Kd.int .u8) w A0 l0.length l0) (hc0 : l0.length ≤ c0) (hr1 : Kd.C (Kd.int .u8) w A1 l1.length l1) (hc1 : l1.length ≤ c1) (h : maskref1_each__Resolved_1.f k l0 l1 = some r) :
  Calls Tryd.prog 63 #[.slice A0 l0.length c0, .slice A1 l1.length c1, .func (.func 64) #[] #[]] w fun e w' => ∃ v0_ : Value, e = .returned (v0_) ∧ Kd.R (Kd.int .u8) 5 w' w.heap.size (fun _ => True) v0_ r ∧ Below w.heap.size w w' := by
 have HR0 := Aside0.mk hr0
 have HC0 := Aside0.mk hc0
 clear hr0 hc0
 have HR1 := Aside0.mk hr1
 have HC1 := Aside0.mk hc1
 clear hr1 hc1
 have HB := Aside0.mk (Below.refl w.heap.size w)
 have H : (maskref1_each__Resolved_1.l0 k l0 l1 ([] : List Int) (l0.length : Int) 0) = some r := h
 clear h
 have H' := Aside0.mk H
 clear H
 go_enter Tryd.func63, Tryd.ntmps63
 go_wp2
 go_loopg [7, 11] k (fun kq v7 v11 w' => ∃ (x7_1 : List Int) (x11_1 : Int), v11 = .int .i64 x11_1 ∧ Aside0 (maskref1_each__Resolved_1.l0 kq l0 l1 x7_1 (l0.length : Int) x11_1 = some r) ∧ Aside0 (kq ≤ k) ∧ Aside0 (Kd.R (Kd.int .u8) 5 w' w.heap.size (fun _ => True) v7 x7_1) ∧ Aside0 (Below w.heap.size w w'))
 case atStart => exact ⟨([] : List Int), (0), (by rfl), H', ⟨Nat.le_refl _⟩, ⟨by exact Kd.R_nil _ _ _ _ _⟩, ⟨by repeat (with_reducible exact HB.out)⟩⟩
 case round =>
  clear H'
  obtain ⟨x7_1, x11_1, rfl, HA, HK1, HO_7, HB⟩ := hrel
  cases gk with
  | zero => exact absurd HA.out (by simp [maskref1_each__Resolved_1.l0])
  | succ k1 =>
   have H := HA.out
   clear HA
   simp only [maskref1_each__Resolved_1.l0] at H
   by_cases c4 : x11_1 < (l0.length : Int)
   ·rw [if_pos c4] at H
    have c4b0 : decide (x11_1 < (l0.length : Int)) = true := decide_eq_true c4
    clear c4
    by_cases c5 : 0 ≤ x11_1
    ·rw [if_pos c5] at H
     have c5b0 : decide (0 ≤ x11_1) = true := decide_eq_true c5
     clear c5
     by_cases c6 : x11_1 < (l0.length : Int)
     ·rw [if_pos c6] at H
      have c6b0 : decide (x11_1 < (l0.length : Int)) = true := decide_eq_true c6
      clear c6
      by_cases c7 : x11_1 < (l1.length : Int)
      ·rw [if_pos c7] at H
       have c7b0 : decide (x11_1 < (l1.length : Int)) = true := decide_eq_true c7
       clear c7
       replace H := Option.bind_eq_some_iff.mp H
       obtain ⟨t647, A80, H⟩ := H
       replace H : (if x7_1.length < 140737488355328 then (maskref1_each__Resolved_1.l0 k1 l0 l1 (x7_1 ++ [t647]) (l0.length : Int) (wrap64 (x11_1 + 1))) else (none)) = some r := H
       have A8 := Aside0.mk A80
       clear A80
       by_cases c9 : x7_1.length < 140737488355328
       ·rw [if_pos c9] at H
        have LMc9 := Aside0.mk c9
        clear c9
        obtain ⟨y648, hy648⟩ : ∃ y_ : List Int, y_ = (x7_1 ++ [t647]) := ⟨_, rfl⟩
        replace H : (maskref1_each__Resolved_1.l0 k1 l0 l1 y648 (l0.length : Int) (wrap64 (x11_1 + 1))) = some r := by (rw [hy648]; with_reducible exact H)
        have Ny648 := Aside0.mk hy648
        clear hy648
        have H' := Aside0.mk H
        clear H
        try go_wp2
        replace HO_7 := Aside0.mk (Kd.R_drew HO_7.out)
        replace HB := hbd HB
        have p645 : 0 ≤ (x11_1 : Int) := of_decide_eq_true (by (with_reducible assumption))
        have q645 : x11_1 < (l0.length : Int) := of_decide_eq_true (by (with_reducible assumption))
        obtain ⟨ad645, e645, hx645_0⟩ := Kd.at_int HR0.out x11_1 p645 q645
        have hw645_0 := hx645_0
        cases e645
        replace hx645_0 := (HB.out.cell (World.block_lt_of_cell? w _ hx645_0)).trans hx645_0
        replace p645 := eq_true p645
        replace q645 := eq_true q645
        have p646 : 0 ≤ (x11_1 : Int) := of_decide_eq_true (by (with_reducible assumption))
        have q646 : x11_1 < (l1.length : Int) := of_decide_eq_true (by (with_reducible assumption))
        obtain ⟨ad646, e646, hx646_0⟩ := Kd.at_int HR1.out x11_1 p646 q646
        have hw646_0 := hx646_0
        cases e646
        replace hx646_0 := (HB.out.cell (World.block_lt_of_cell? w _ hx646_0)).trans hx646_0
        replace p646 := eq_true p646
        replace q646 := eq_true q646
        refine start_ (n := 14) (S := fun w' => w'.cell? (ad645.add (x11_1).toNat) = some (.int .u8 (rd l0 x11_1)) ∧ w'.cell? (ad646.add (x11_1).toNat) = some (.int .u8 (rd l1 x11_1))) (ds := []) (tb 14 0) (by kernel_rfl) rfl (by kernel_rfl) ⟨((HB.out.cell (World.block_lt_of_cell? w _ hw645_0)).trans hw645_0), ((HB.out.cell (World.block_lt_of_cell? w _ hw646_0)).trans hw646_0)⟩ (fun hHeld => ?_); refine with_tabW maskref1_each__Resolved_1.tab5 maskref1_each__Resolved_1.bits5 (fun HT_ HW_ => ?_)
        generalize wr.drew = w10 at HO_7 HB hx645_0 hx646_0 hHeld ⊢
        refine pA 0 14 (tb 14 1) HT_ ?_
        refine pA 1 15 (tb 14 3) HT_ ?_
        refine pA 2 16 (tb 14 7) HT_ ?_
        refine pA 3 17 (tb 14 15) HT_ ?_
        refine pA 4 18 (tb 14 31) HT_ ?_
        refine pA 6 20 (tb 14 95) HT_ ?_
        refine pA 7 21 (tb 14 223) HT_ ?_
        refine pA 8 22 (tb 14 479) HT_ ?_
        refine tA 5 19 (tb 14 511) HT_ HW_ hHeld ?_
        refine tA 9 23 (tb 14 1023) HT_ HW_ hHeld ?_
        refine oA 10 (some 24) (tb 14 2047) HT_ (fun K hK => ?_)
        refine sq_goesT Tryd.func64 (by kernel_rfl) rfl #[.int .u8 (rd l0 x11_1), .int .u8 (rd l1 x11_1)] (by rfl) rfl rfl rfl (by (try simp only [List.map_toArray, List.map_cons, List.map_nil]); rfl) ?_
        with_reducible refine (maskref1_Resolved_1.calls k1 (rd l0 x11_1) (rd l1 x11_1) t647 _ A8.out).mono ?_
        rintro e w' ⟨rfl, ⟨nd, rfl⟩⟩
        refine ⟨_, rfl, ?_⟩
        refine hK.out _ _ ⟨((HB.out.cell (World.block_lt_of_cell? w _ hw645_0)).trans hw645_0), ((HB.out.cell (World.block_lt_of_cell? w _ hw646_0)).trans hw646_0)⟩ (fun hHeld => ?_)
        clear hK K
        refine nA ?_
        refine oA 11 (some 25) (tb 14 4095) HT_ (fun K hK => ?_)
        refine value_ (w1 := ?_) (v := ?_) (by rfl) rfl ?_ ?_
        rotate_left 2
        ·go_simp
         constructor
         ·rfl
         ·rfl
        refine hK.out _ _ ⟨(World.cell?_alloc_lt _ _ _ (World.block_lt_of_cell? _ _ (((HB.out.cell (World.block_lt_of_cell? w _ hw645_0)).trans hw645_0)))).trans (((HB.out.cell (World.block_lt_of_cell? w _ hw645_0)).trans hw645_0)), (World.cell?_alloc_lt _ _ _ (World.block_lt_of_cell? _ _ (((HB.out.cell (World.block_lt_of_cell? w _ hw646_0)).trans hw646_0)))).trans (((HB.out.cell (World.block_lt_of_cell? w _ hw646_0)).trans hw646_0))⟩ (fun hHeld => ?_)
        clear hK K
        refine nA ?_
        refine oA 12 (some 26) (tb 14 8191) HT_ (fun K hK => ?_)
        refine Kd.R_append_step (Kd.int .u8) (w0 := w) w.heap.size (by rfl) (.tmp 14) (.tmp 25) 43 5 (.int .u8 0) 1 rfl Tryd.underlying43 info5 rfl (by decide) (by omega) u7 x7_1 t647 [.int .u8 t647] (fun _ => True) (fun _ => False) rfl rfl ?aP (fun _ hk => hk.elim) ?aF ?aO ?aB ?aS ?aL ?_
        (case aP => exact rfl)
        (case aB => exact (by repeat (with_reducible first | exact HB.out | apply pw_below_drewN)))
        (case aF => exact (fun _ _ => trivial))
        (case aO => exact (by (with_reducible repeat (apply Kd.R_drewN)); exact HO_7.out))
        (case aS => exact (below_size (by repeat (with_reducible first | exact HB.out | apply pw_below_drewN))))
        (case aL => have := LMc9.out; omega)
        intro v649 w11 ho hb hg hat
        rw [← Ny648.out] at ho
        replace HB := Aside0.mk (hb)
        have HO650 := Aside0.mk (ho)
        clear HO_7
        clear ho hb hg hat
        refine hK.out _ _ ⟨((HB.out.cell (World.block_lt_of_cell? w _ hw645_0)).trans hw645_0), ((HB.out.cell (World.block_lt_of_cell? w _ hw646_0)).trans hw646_0)⟩ (fun hHeld => ?_)
        clear hK K
        refine nA ?_
        refine pA 13 7 (tb 14 16383) HT_ ?_
        refine done_ (done_of HT_.out (by kernel_rfl)) ?_
        try go_wp2
        go_roundg k1
        case measure => have := HK1.out; omega
        case rel => exact ⟨(y648), (wrap64 (x11_1 + 1)), (by rfl), H', ⟨by have := HK1.out; omega⟩, ⟨by exact HO650.out⟩, ⟨by repeat (with_reducible exact HB.out)⟩⟩
       ·rw [if_neg c9] at H
        exact absurd H (by simp)
      ·rw [if_neg c7] at H
       exact absurd H (by simp)
     ·rw [if_neg c6] at H
      exact absurd H (by simp)
    ·rw [if_neg c5] at H
     exact absurd H (by simp)
   ·rw [if_neg c4] at H
    have c4b0 : decide (x11_1 < (l0.length : Int)) = false := decide_eq_false c4
    clear c4
    obtain rfl := Option.some.inj H
    go_wp2
    go_ret
    exact ⟨_, by rfl, by exact HO_7.out, by repeat (with_reducible exact HB.out)⟩
end Go.Proofs.YtfigblfjogpojaaDoor.PBits
end
section
namespace Go.Proofs.YtfigblfjogpojaaDoor.PBits
open Go.RowKit Go.Proofs.YtfigblfjogpojaaDoorW.PrintWords Go.Proofs.YtfigblfjogpojaaDoorW.PrintLast Go.Proofs.YtfigblfjogpojaaDoorW.PrintMore
attribute [local go_sem] max2_int min2_int max_two min_two max_three min_three max_four min_four
set_option linter.unusedVariables false
set_option linter.unusedSimpArgs false
def maskref1_Resolved.f (k : Nat) (l0 : List Int) (l1 : List Int) : Option (List Int) := (maskref1_each__Resolved_1.f k l0 l1).bind fun t651 => (some t651)
set_option maxHeartbeats 8000000 in
set_option maxRecDepth 100000 in
theorem maskref1_Resolved.calls (k : Nat) (A0 : Option Addr) (c0 : Nat) (l0 : List Int) (A1 : Option Addr) (c1 : Nat) (l1 : List Int) (r : List Int) (w : World) (hr0 : Kd.C (Kd.int .u8) w A0 l0.length l0) (hc0 : l0.length ≤ c0) (hr1 : Kd.C (Kd.int .u8) w A1 l1.length l1) (hc1 : l1.length ≤ c1) (h : maskref1_Resolved.f k l0 l1 = some r) :
  Calls Tryd.prog 40 #[.slice A0 l0.length c0, .slice A1 l1.length c1] w fun e w' => ∃ v0_ : Value, e = .returned (v0_) ∧ Kd.R (Kd.int .u8) 5 w' w.heap.size (fun _ => True) v0_ r ∧ Below w.heap.size w w' := by
 have HR0 := Aside0.mk hr0
 have HC0 := Aside0.mk hc0
 clear hr0 hc0
 have HR1 := Aside0.mk hr1
 have HC1 := Aside0.mk hc1
 clear hr1 hc1
 have HB := Aside0.mk (Below.refl w.heap.size w)
 have H : ((maskref1_each__Resolved_1.f k l0 l1).bind fun t651 => (some t651)) = some r := h
 clear h
 replace H := Option.bind_eq_some_iff.mp H
 obtain ⟨t651, A30, H⟩ := H
 replace H : (some t651) = some r := H
 have A3 := Aside0.mk A30
 clear A30
 obtain rfl := Option.some.inj H
 go_enter Tryd.func40, Tryd.ntmps40
 go_wp2_with (((with_reducible refine gate_callee (f := 63) rfl ?_); refine goesL_ (some 7) rfl rfl Tryd.func63 (by kernel_rfl) rfl #[.slice A0 l0.length c0, .slice A1 l1.length c1, (.func (.func 64) #[] #[])] rfl (by (try simp only [List.map_toArray, List.map_cons, List.map_nil]); rfl) ?_; (with_reducible refine (maskref1_each__Resolved_1.calls k _ _ l0 _ _ l1  t651 _ ?side1 ?side2 ?side3 ?side4 A3.out).mono ?_); (case side1 => repeat (exact HR0.out)); (case side2 => exact HC0.out); (case side3 => repeat (exact HR1.out)); (case side4 => exact HC1.out); rintro e w4 ⟨v652, rfl, ho0, hb⟩; refine ⟨_, rfl, ?_⟩; have HO653 := Aside0.mk (Kd.R_lower ho0 (below_size HB.out)); replace HB := hb1 HB hb; (try clear hb); (try clear ho0)))
 go_ret
 exact ⟨_, by rfl, by exact HO653.out, by repeat (with_reducible exact HB.out)⟩
end Go.Proofs.YtfigblfjogpojaaDoor.PBits
end
section
namespace Go.Proofs.YtfigblfjogpojaaDoor.PBits
open Go.RowKit Go.Proofs.YtfigblfjogpojaaDoorW.PrintWords Go.Proofs.YtfigblfjogpojaaDoorW.PrintLast Go.Proofs.YtfigblfjogpojaaDoorW.PrintMore
attribute [local go_sem] max2_int min2_int max_two min_two max_three min_three max_four min_four
set_option linter.unusedVariables false
set_option linter.unusedSimpArgs false
def maskref1_Chosen_1.j0 : Nat → Int → Bool → Option (Int)
 | 0, _, _ => none
 | k + 1, x0, x15 => if x15 = true then (some x0) else (some 120)
def maskref1_Chosen_1.f (k : Nat) (a0 : Int) (a1 : Int) : Option (Int) := if a0 = a1 then (if a0 = 48 then (maskref1_Chosen_1.j0 k a0 true) else (maskref1_Chosen_1.j0 k a0 (a0 == 49))) else (maskref1_Chosen_1.j0 k a0 false)
set_option maxHeartbeats 8000000 in
set_option maxRecDepth 100000 in
theorem maskref1_Chosen_1.calls (k : Nat) (a0 : Int) (a1 : Int) (r : Int) (w : World) (h : maskref1_Chosen_1.f k a0 a1 = some r) :
  Calls Tryd.prog 65 #[.int .u8 a0, .int .u8 a1] w fun e w' => e = .returned (.int .u8 r) ∧ Drawn0 w w' := by
 have H : (if a0 = a1 then (if a0 = 48 then (maskref1_Chosen_1.j0 k a0 true) else (maskref1_Chosen_1.j0 k a0 (a0 == 49))) else (maskref1_Chosen_1.j0 k a0 false)) = some r := h
 clear h
 have HC3 := Aside0.mk H
 clear H
 go_enter Tryd.func65, Tryd.ntmps65
 go_upto_region 1 with (fail)
 go_cut [15] (fun v15 wc => ∃ (kq : Nat) (x15_2 : Bool), v15 = .bool x15_2 ∧ Aside0 (maskref1_Chosen_1.j0 kq a0 x15_2 = some r) ∧ Aside0 (kq ≤ k) ∧ Drawn0 w wc)
 case first =>
  have H := HC3.out
  clear HC3
  by_cases c4 : a0 = a1
  ·rw [if_pos c4] at H
   have c4b0 : (a0 == a1) = true := beq_iff_eq.mpr c4
   have c4b1 : (a0 != a1) = false := bne_eq_false_iff_eq.mpr c4
   clear c4
   (skip)
   by_cases c5 : a0 = 48
   ·rw [if_pos c5] at H
    have c5b0 : (a0 == 48) = true := beq_iff_eq.mpr c5
    have c5b1 : (a0 != 48) = false := bne_eq_false_iff_eq.mpr c5
    clear c5
    have H' := Aside0.mk H
    clear H
    go_wp2
    go_meet
    case rel => exact ⟨_, (true), (by rfl), H', ⟨by omega⟩, by repeat (exact Drawn0.refl _)⟩
   ·rw [if_neg c5] at H
    have c5b0 : (a0 == 48) = false := beq_eq_false_iff_ne.mpr c5
    have c5b1 : (a0 != 48) = true := bne_iff_ne.mpr c5
    have H' := Aside0.mk H
    clear H
    go_wp2
    go_meet
    case rel => exact ⟨_, (a0 == 49), (by rfl), H', ⟨by omega⟩, by repeat (exact Drawn0.refl _)⟩
  ·rw [if_neg c4] at H
   have c4b0 : (a0 == a1) = false := beq_eq_false_iff_ne.mpr c4
   have c4b1 : (a0 != a1) = true := bne_iff_ne.mpr c4
   (skip)
   have H' := Aside0.mk H
   clear H
   go_wp2
   go_meet
   case rel => exact ⟨_, (false), (by rfl), H', ⟨by omega⟩, by repeat (exact Drawn0.refl _)⟩
 case rest =>
  clear HC3
  obtain ⟨kq, x15_2, rfl, HA, HJ2, ⟨mc2, rfl⟩⟩ := hcut
  cases kq with
  | zero => exact absurd HA.out (by simp [maskref1_Chosen_1.j0])
  | succ kj2 =>
   have H := HA.out
   clear HA
   simp only [maskref1_Chosen_1.j0] at H
   by_cases c6 : x15_2 = true
   ·subst c6
    have H1 : (some a0) = some r := by rw [if_pos rfl] at H; exact H
    clear H
    have H := H1
    clear H1
    obtain rfl := Option.some.inj H
    go_wp2
    go_ret
    exact ⟨by rfl, by repeat (first | exact Drawn0.refl _ | apply Drawn0.step)⟩
   ·replace c6 := Bool.eq_false_iff.mpr c6
    subst c6
    have H1 : (some 120) = some r := by rw [if_neg (show ¬ (false = true) by decide)] at H; exact H
    clear H
    have H := H1
    clear H1
    obtain rfl := Option.some.inj H
    go_wp2
    go_ret
    exact ⟨by rfl, by repeat (first | exact Drawn0.refl _ | apply Drawn0.step)⟩
end Go.Proofs.YtfigblfjogpojaaDoor.PBits
end
section
namespace Go.Proofs.YtfigblfjogpojaaDoor.PBits
open Go.RowKit Go.Proofs.YtfigblfjogpojaaDoorW.PrintWords Go.Proofs.YtfigblfjogpojaaDoorW.PrintLast Go.Proofs.YtfigblfjogpojaaDoorW.PrintMore
attribute [local go_sem] max2_int min2_int max_two min_two max_three min_three max_four min_four
set_option linter.unusedVariables false
set_option linter.unusedSimpArgs false
def maskref1_each__Chosen_1.l0 : Nat → List Int → List Int → List Int → Int → Int → Option (List Int)
 | 0, _, _, _, _, _ => none
 | k + 1, x0, x1, x7, x10, x11 => if x11 < x10 then (if 0 ≤ x11 then (if x11 < (x0.length : Int) then (if x11 < (x1.length : Int) then ((maskref1_Chosen_1.f k (rd x0 x11) (rd x1 x11)).bind fun t656 => (if x7.length < 140737488355328 then (maskref1_each__Chosen_1.l0 k x0 x1 (x7 ++ [t656]) x10 (wrap64 (x11 + 1))) else (none))) else (none)) else (none)) else (none)) else (some x7)
def maskref1_each__Chosen_1.f (k : Nat) (l0 : List Int) (l1 : List Int)  : Option (List Int) := maskref1_each__Chosen_1.l0 k l0 l1 ([] : List Int) (l0.length : Int) 0
def maskref1_each__Chosen_1.T5 : Bool × List (List Nat × List Nat) := (true, [([], []), ([], []), ([], []), ([], []), ([2, 3], [2, 3]), ([4], [4]), ([], []), ([], []), ([6, 7], [6, 7]), ([8], [8]), ([1, 5, 9], [1, 5, 9]), ([10], [10]), ([0, 11, 10], [0, 11]), ([12, 12, 0, 1, 2, 3, 4, 5, 6, 7, 8, 9, 10, 11, 12], [0, 12])])
def maskref1_each__Chosen_1.B5 : List Nat := [0, 0, 0, 0, 12, 28, 0, 0, 192, 448, 1022, 2046, 4095, 8191]
theorem maskref1_each__Chosen_1.tab5 : rtab .any (opsOf Tryd.f63 5) = maskref1_each__Chosen_1.T5 := by kernel_rfl
theorem maskref1_each__Chosen_1.bits5 : waitsOk maskref1_each__Chosen_1.T5.2 maskref1_each__Chosen_1.B5 = true := by kernel_rfl
set_option maxHeartbeats 8000000 in
set_option maxRecDepth 100000 in
theorem maskref1_each__Chosen_1.calls (k : Nat) (A0 : Option Addr) (c0 : Nat) (l0 : List Int) (A1 : Option Addr) (c1 : Nat) (l1 : List Int)  (r : List Int) (w : World) (hr0 : Kd.C (Kd.int .u8) w A0 l0.length l0) (hc0 : l0.length ≤ c0) (hr1 : Kd.C (Kd.int .u8) w A1 l1.length l1) (hc1 : l1.length ≤ c1) (h : maskref1_each__Chosen_1.f k l0 l1 = some r) :
  Calls Tryd.prog 63 #[.slice A0 l0.length c0, .slice A1 l1.length c1, .func (.func 65) #[] #[]] w fun e w' => ∃ v0_ : Value, e = .returned (v0_) ∧ Kd.R (Kd.int .u8) 5 w' w.heap.size (fun _ => True) v0_ r ∧ Below w.heap.size w w' := by
 have HR0 := Aside0.mk hr0
 have HC0 := Aside0.mk hc0
 clear hr0 hc0
 have HR1 := Aside0.mk hr1
 have HC1 := Aside0.mk hc1
 clear hr1 hc1
 have HB := Aside0.mk (Below.refl w.heap.size w)
 have H : (maskref1_each__Chosen_1.l0 k l0 l1 ([] : List Int) (l0.length : Int) 0) = some r := h
 clear h
 have H' := Aside0.mk H
 clear H
 go_enter Tryd.func63, Tryd.ntmps63
 go_wp2
 go_loopg [7, 11] k (fun kq v7 v11 w' => ∃ (x7_1 : List Int) (x11_1 : Int), v11 = .int .i64 x11_1 ∧ Aside0 (maskref1_each__Chosen_1.l0 kq l0 l1 x7_1 (l0.length : Int) x11_1 = some r) ∧ Aside0 (kq ≤ k) ∧ Aside0 (Kd.R (Kd.int .u8) 5 w' w.heap.size (fun _ => True) v7 x7_1) ∧ Aside0 (Below w.heap.size w w'))
 case atStart => exact ⟨([] : List Int), (0), (by rfl), H', ⟨Nat.le_refl _⟩, ⟨by exact Kd.R_nil _ _ _ _ _⟩, ⟨by repeat (with_reducible exact HB.out)⟩⟩
 case round =>
  clear H'
  obtain ⟨x7_1, x11_1, rfl, HA, HK1, HO_7, HB⟩ := hrel
  cases gk with
  | zero => exact absurd HA.out (by simp [maskref1_each__Chosen_1.l0])
  | succ k1 =>
   have H := HA.out
   clear HA
   simp only [maskref1_each__Chosen_1.l0] at H
   by_cases c4 : x11_1 < (l0.length : Int)
   ·rw [if_pos c4] at H
    have c4b0 : decide (x11_1 < (l0.length : Int)) = true := decide_eq_true c4
    clear c4
    by_cases c5 : 0 ≤ x11_1
    ·rw [if_pos c5] at H
     have c5b0 : decide (0 ≤ x11_1) = true := decide_eq_true c5
     clear c5
     by_cases c6 : x11_1 < (l0.length : Int)
     ·rw [if_pos c6] at H
      have c6b0 : decide (x11_1 < (l0.length : Int)) = true := decide_eq_true c6
      clear c6
      by_cases c7 : x11_1 < (l1.length : Int)
      ·rw [if_pos c7] at H
       have c7b0 : decide (x11_1 < (l1.length : Int)) = true := decide_eq_true c7
       clear c7
       replace H := Option.bind_eq_some_iff.mp H
       obtain ⟨t656, A80, H⟩ := H
       replace H : (if x7_1.length < 140737488355328 then (maskref1_each__Chosen_1.l0 k1 l0 l1 (x7_1 ++ [t656]) (l0.length : Int) (wrap64 (x11_1 + 1))) else (none)) = some r := H
       have A8 := Aside0.mk A80
       clear A80
       by_cases c9 : x7_1.length < 140737488355328
       ·rw [if_pos c9] at H
        have LMc9 := Aside0.mk c9
        clear c9
        obtain ⟨y657, hy657⟩ : ∃ y_ : List Int, y_ = (x7_1 ++ [t656]) := ⟨_, rfl⟩
        replace H : (maskref1_each__Chosen_1.l0 k1 l0 l1 y657 (l0.length : Int) (wrap64 (x11_1 + 1))) = some r := by (rw [hy657]; with_reducible exact H)
        have Ny657 := Aside0.mk hy657
        clear hy657
        have H' := Aside0.mk H
        clear H
        try go_wp2
        replace HO_7 := Aside0.mk (Kd.R_drew HO_7.out)
        replace HB := hbd HB
        have p654 : 0 ≤ (x11_1 : Int) := of_decide_eq_true (by (with_reducible assumption))
        have q654 : x11_1 < (l0.length : Int) := of_decide_eq_true (by (with_reducible assumption))
        obtain ⟨ad654, e654, hx654_0⟩ := Kd.at_int HR0.out x11_1 p654 q654
        have hw654_0 := hx654_0
        cases e654
        replace hx654_0 := (HB.out.cell (World.block_lt_of_cell? w _ hx654_0)).trans hx654_0
        replace p654 := eq_true p654
        replace q654 := eq_true q654
        have p655 : 0 ≤ (x11_1 : Int) := of_decide_eq_true (by (with_reducible assumption))
        have q655 : x11_1 < (l1.length : Int) := of_decide_eq_true (by (with_reducible assumption))
        obtain ⟨ad655, e655, hx655_0⟩ := Kd.at_int HR1.out x11_1 p655 q655
        have hw655_0 := hx655_0
        cases e655
        replace hx655_0 := (HB.out.cell (World.block_lt_of_cell? w _ hx655_0)).trans hx655_0
        replace p655 := eq_true p655
        replace q655 := eq_true q655
        refine start_ (n := 14) (S := fun w' => w'.cell? (ad654.add (x11_1).toNat) = some (.int .u8 (rd l0 x11_1)) ∧ w'.cell? (ad655.add (x11_1).toNat) = some (.int .u8 (rd l1 x11_1))) (ds := []) (tb 14 0) (by kernel_rfl) rfl (by kernel_rfl) ⟨((HB.out.cell (World.block_lt_of_cell? w _ hw654_0)).trans hw654_0), ((HB.out.cell (World.block_lt_of_cell? w _ hw655_0)).trans hw655_0)⟩ (fun hHeld => ?_); refine with_tabW maskref1_each__Chosen_1.tab5 maskref1_each__Chosen_1.bits5 (fun HT_ HW_ => ?_)
        generalize wr.drew = w10 at HO_7 HB hx654_0 hx655_0 hHeld ⊢
        refine pA 0 14 (tb 14 1) HT_ ?_
        refine pA 1 15 (tb 14 3) HT_ ?_
        refine pA 2 16 (tb 14 7) HT_ ?_
        refine pA 3 17 (tb 14 15) HT_ ?_
        refine pA 4 18 (tb 14 31) HT_ ?_
        refine pA 6 20 (tb 14 95) HT_ ?_
        refine pA 7 21 (tb 14 223) HT_ ?_
        refine pA 8 22 (tb 14 479) HT_ ?_
        refine tA 5 19 (tb 14 511) HT_ HW_ hHeld ?_
        refine tA 9 23 (tb 14 1023) HT_ HW_ hHeld ?_
        refine oA 10 (some 24) (tb 14 2047) HT_ (fun K hK => ?_)
        refine sq_goesT Tryd.func65 (by kernel_rfl) rfl #[.int .u8 (rd l0 x11_1), .int .u8 (rd l1 x11_1)] (by rfl) rfl rfl rfl (by (try simp only [List.map_toArray, List.map_cons, List.map_nil]); rfl) ?_
        with_reducible refine (maskref1_Chosen_1.calls k1 (rd l0 x11_1) (rd l1 x11_1) t656 _ A8.out).mono ?_
        rintro e w' ⟨rfl, ⟨nd, rfl⟩⟩
        refine ⟨_, rfl, ?_⟩
        refine hK.out _ _ ⟨((HB.out.cell (World.block_lt_of_cell? w _ hw654_0)).trans hw654_0), ((HB.out.cell (World.block_lt_of_cell? w _ hw655_0)).trans hw655_0)⟩ (fun hHeld => ?_)
        clear hK K
        refine nA ?_
        refine oA 11 (some 25) (tb 14 4095) HT_ (fun K hK => ?_)
        refine value_ (w1 := ?_) (v := ?_) (by rfl) rfl ?_ ?_
        rotate_left 2
        ·go_simp
         constructor
         ·rfl
         ·rfl
        refine hK.out _ _ ⟨(World.cell?_alloc_lt _ _ _ (World.block_lt_of_cell? _ _ (((HB.out.cell (World.block_lt_of_cell? w _ hw654_0)).trans hw654_0)))).trans (((HB.out.cell (World.block_lt_of_cell? w _ hw654_0)).trans hw654_0)), (World.cell?_alloc_lt _ _ _ (World.block_lt_of_cell? _ _ (((HB.out.cell (World.block_lt_of_cell? w _ hw655_0)).trans hw655_0)))).trans (((HB.out.cell (World.block_lt_of_cell? w _ hw655_0)).trans hw655_0))⟩ (fun hHeld => ?_)
        clear hK K
        refine nA ?_
        refine oA 12 (some 26) (tb 14 8191) HT_ (fun K hK => ?_)
        refine Kd.R_append_step (Kd.int .u8) (w0 := w) w.heap.size (by rfl) (.tmp 14) (.tmp 25) 43 5 (.int .u8 0) 1 rfl Tryd.underlying43 info5 rfl (by decide) (by omega) u7 x7_1 t656 [.int .u8 t656] (fun _ => True) (fun _ => False) rfl rfl ?aP (fun _ hk => hk.elim) ?aF ?aO ?aB ?aS ?aL ?_
        (case aP => exact rfl)
        (case aB => exact (by repeat (with_reducible first | exact HB.out | apply pw_below_drewN)))
        (case aF => exact (fun _ _ => trivial))
        (case aO => exact (by (with_reducible repeat (apply Kd.R_drewN)); exact HO_7.out))
        (case aS => exact (below_size (by repeat (with_reducible first | exact HB.out | apply pw_below_drewN))))
        (case aL => have := LMc9.out; omega)
        intro v658 w11 ho hb hg hat
        rw [← Ny657.out] at ho
        replace HB := Aside0.mk (hb)
        have HO659 := Aside0.mk (ho)
        clear HO_7
        clear ho hb hg hat
        refine hK.out _ _ ⟨((HB.out.cell (World.block_lt_of_cell? w _ hw654_0)).trans hw654_0), ((HB.out.cell (World.block_lt_of_cell? w _ hw655_0)).trans hw655_0)⟩ (fun hHeld => ?_)
        clear hK K
        refine nA ?_
        refine pA 13 7 (tb 14 16383) HT_ ?_
        refine done_ (done_of HT_.out (by kernel_rfl)) ?_
        try go_wp2
        go_roundg k1
        case measure => have := HK1.out; omega
        case rel => exact ⟨(y657), (wrap64 (x11_1 + 1)), (by rfl), H', ⟨by have := HK1.out; omega⟩, ⟨by exact HO659.out⟩, ⟨by repeat (with_reducible exact HB.out)⟩⟩
       ·rw [if_neg c9] at H
        exact absurd H (by simp)
      ·rw [if_neg c7] at H
       exact absurd H (by simp)
     ·rw [if_neg c6] at H
      exact absurd H (by simp)
    ·rw [if_neg c5] at H
     exact absurd H (by simp)
   ·rw [if_neg c4] at H
    have c4b0 : decide (x11_1 < (l0.length : Int)) = false := decide_eq_false c4
    clear c4
    obtain rfl := Option.some.inj H
    go_wp2
    go_ret
    exact ⟨_, by rfl, by exact HO_7.out, by repeat (with_reducible exact HB.out)⟩
end Go.Proofs.YtfigblfjogpojaaDoor.PBits
end
section
namespace Go.Proofs.YtfigblfjogpojaaDoor.PBits
open Go.RowKit Go.Proofs.YtfigblfjogpojaaDoorW.PrintWords Go.Proofs.YtfigblfjogpojaaDoorW.PrintLast Go.Proofs.YtfigblfjogpojaaDoorW.PrintMore
attribute [local go_sem] max2_int min2_int max_two min_two max_three min_three max_four min_four
set_option linter.unusedVariables false
set_option linter.unusedSimpArgs false
def maskref1_Chosen.f (k : Nat) (l0 : List Int) (l1 : List Int) (l2 : List Int) : Option (List Int) := (maskref1_Truth.f k l0).bind fun t660 => (if t660 = 116 then (some l1) else (if t660 = 102 then (some l2) else ((maskref1_each__Chosen_1.f k l1 l2).bind fun t661 => (some t661))))
set_option maxHeartbeats 8000000 in
set_option maxRecDepth 100000 in
theorem maskref1_Chosen.calls (k : Nat) (A0 : Option Addr) (c0 : Nat) (l0 : List Int) (P1_ : Nat → Prop) (u9000_ : Value) (l1 : List Int) (P2_ : Nat → Prop) (u9001_ : Value) (l2 : List Int) (r : List Int) (w0 w : World) (hB : Below w0.heap.size w0 w) (hr0 : ∀ W_, Kept w W_ (fun k_ => P1_ k_ ∨ P2_ k_) → Kd.C (Kd.int .u8) W_ A0 l0.length l0) (hc0 : l0.length ≤ c0) (ho1 : Kd.R (Kd.int .u8) 5 w w0.heap.size P1_ u9000_ l1) (hp1_2 : ∀ k_, P1_ k_ → ¬ P2_ k_) (ho2 : Kd.R (Kd.int .u8) 5 w w0.heap.size P2_ u9001_ l2) (hp2_1 : ∀ k_, P2_ k_ → ¬ P1_ k_) (h : maskref1_Chosen.f k l0 l1 l2 = some r) :
  Calls Tryd.prog 41 #[.slice A0 l0.length c0, u9000_, u9001_] w fun e w' => ∃ v0_ : Value, e = .returned (v0_) ∧ Kd.R (Kd.int .u8) 5 w' w0.heap.size (fun k_ => ((P1_ k_ ∨ P2_ k_) ∨ w.heap.size ≤ k_)) v0_ r ∧ Below w0.heap.size w0 w' ∧ Kept w w' (fun k_ => P1_ k_ ∨ P2_ k_) := by
 have HR0 := Aside0.mk hr0
 have HC0 := Aside0.mk hc0
 clear hr0 hc0
 have HO1 := Aside0.mk (show Kd.R (Kd.int .u8) 5 w w0.heap.size (fun k_ => ((P1_ k_ ∨ P2_ k_) ∨ w.heap.size ≤ k_) ∧ some k_ ≠ (u9001_ : Value).ownBlock) u9000_ l1 from Kd.R_mono ho1 (fun k_ hk => ⟨(.inl (.inl hk)), fun e_ => hp1_2 k_ hk (ho2.1 k_ e_.symm)⟩))
 have HO2 := Aside0.mk (show Kd.R (Kd.int .u8) 5 w w0.heap.size (fun k_ => ((P1_ k_ ∨ P2_ k_) ∨ w.heap.size ≤ k_) ∧ some k_ ≠ (u9000_ : Value).ownBlock) u9001_ l2 from Kd.R_mono ho2 (fun k_ hk => ⟨(.inl (.inr hk)), fun e_ => hp2_1 k_ hk (ho1.1 k_ e_.symm)⟩))
 have HK := Aside0.mk (Kept.refl w (fun k_ => P1_ k_ ∨ P2_ k_))
 have HW0 := Aside0.mk hB.size
 have HB := Aside0.mk hB
 clear hB
 have H : ((maskref1_Truth.f k l0).bind fun t660 => (if t660 = 116 then (some l1) else (if t660 = 102 then (some l2) else ((maskref1_each__Chosen_1.f k l1 l2).bind fun t661 => (some t661))))) = some r := h
 clear h
 replace H := Option.bind_eq_some_iff.mp H
 obtain ⟨t660, A40, H⟩ := H
 replace H : (if t660 = 116 then (some l1) else (if t660 = 102 then (some l2) else ((maskref1_each__Chosen_1.f k l1 l2).bind fun t661 => (some t661)))) = some r := H
 have A4 := Aside0.mk A40
 clear A40
 by_cases c5 : t660 = 116
 ·rw [if_pos c5] at H
  have c5b0 : (t660 == 116) = true := beq_iff_eq.mpr c5
  have c5b1 : (t660 != 116) = false := bne_eq_false_iff_eq.mpr c5
  clear c5
  obtain rfl := Option.some.inj H
  go_enter Tryd.func41, Tryd.ntmps41
  go_wp2_with (((with_reducible refine gate_callee (f := 59) rfl ?_); refine goesL_ (some 8) rfl rfl Tryd.func59 (by kernel_rfl) rfl #[.slice A0 l0.length c0] rfl (by (try simp only [List.map_toArray, List.map_cons, List.map_nil]); rfl) ?_; (with_reducible refine (maskref1_Truth.calls k _ _ l0 t660 _ ?side1 ?side2 A4.out).mono ?_); (case side1 => exact Kd.C_kept_now HR0.out HK.out); (case side2 => exact HC0.out); rintro e w' ⟨rfl, ⟨nd, rfl⟩⟩; refine ⟨_, rfl, ?_⟩))
  go_ret
  exact ⟨_, by rfl, by (with_reducible repeat (apply Kd.R_drewN)); exact Kd.R_mono HO1.out (fun _ hk => hk.1), by repeat (with_reducible first | exact HB.out | apply pw_below_drewN), by repeat (with_reducible first | exact HK.out | apply Kept.drewN)⟩
 ·rw [if_neg c5] at H
  have c5b0 : (t660 == 116) = false := beq_eq_false_iff_ne.mpr c5
  have c5b1 : (t660 != 116) = true := bne_iff_ne.mpr c5
  by_cases c6 : t660 = 102
  ·rw [if_pos c6] at H
   have c6b0 : (t660 == 102) = true := beq_iff_eq.mpr c6
   have c6b1 : (t660 != 102) = false := bne_eq_false_iff_eq.mpr c6
   clear c6
   obtain rfl := Option.some.inj H
   go_enter Tryd.func41, Tryd.ntmps41
   go_wp2_with (((with_reducible refine gate_callee (f := 59) rfl ?_); refine goesL_ (some 8) rfl rfl Tryd.func59 (by kernel_rfl) rfl #[.slice A0 l0.length c0] rfl (by (try simp only [List.map_toArray, List.map_cons, List.map_nil]); rfl) ?_; (with_reducible refine (maskref1_Truth.calls k _ _ l0 t660 _ ?side1 ?side2 A4.out).mono ?_); (case side1 => exact Kd.C_kept_now HR0.out HK.out); (case side2 => exact HC0.out); rintro e w' ⟨rfl, ⟨nd, rfl⟩⟩; refine ⟨_, rfl, ?_⟩))
   go_ret
   exact ⟨_, by rfl, by (with_reducible repeat (apply Kd.R_drewN)); exact Kd.R_mono HO2.out (fun _ hk => hk.1), by repeat (with_reducible first | exact HB.out | apply pw_below_drewN), by repeat (with_reducible first | exact HK.out | apply Kept.drewN)⟩
  ·rw [if_neg c6] at H
   have c6b0 : (t660 == 102) = false := beq_eq_false_iff_ne.mpr c6
   have c6b1 : (t660 != 102) = true := bne_iff_ne.mpr c6
   replace H := Option.bind_eq_some_iff.mp H
   obtain ⟨t661, A70, H⟩ := H
   replace H : (some t661) = some r := H
   have A7 := Aside0.mk A70
   clear A70
   obtain rfl := Option.some.inj H
   go_enter Tryd.func41, Tryd.ntmps41
   go_wp2_with (first | ((with_reducible refine gate_callee (f := 59) rfl ?_); refine goesL_ (some 8) rfl rfl Tryd.func59 (by kernel_rfl) rfl #[.slice A0 l0.length c0] rfl (by (try simp only [List.map_toArray, List.map_cons, List.map_nil]); rfl) ?_; (with_reducible refine (maskref1_Truth.calls k _ _ l0 t660 _ ?side1 ?side2 A4.out).mono ?_); (case side1 => exact Kd.C_kept_now HR0.out HK.out); (case side2 => exact HC0.out); rintro e w' ⟨rfl, ⟨nd, rfl⟩⟩; refine ⟨_, rfl, ?_⟩; obtain ⟨Ao8, co8, eo8⟩ := Kd.R_slice HO1.out; subst eo8; obtain ⟨Ao9, co9, eo9⟩ := Kd.R_slice HO2.out; subst eo9) | ((with_reducible refine gate_callee (f := 63) rfl ?_); refine goesL_ (some 17) rfl rfl Tryd.func63 (by kernel_rfl) rfl #[.slice Ao8 l1.length co8, .slice Ao9 l2.length co9, (.func (.func 65) #[] #[])] rfl (by (try simp only [List.map_toArray, List.map_cons, List.map_nil]); rfl) ?_; (with_reducible refine (maskref1_each__Chosen_1.calls k _ _ l1 _ _ l2  t661 _ ?side1 ?side2 ?side3 ?side4 A7.out).mono ?_); (case side1 => repeat (exact (Kd.R_reads' HO1.out).2.2)); (case side2 => exact (Kd.R_reads' HO1.out).2.1); (case side3 => repeat (exact (Kd.R_reads' HO2.out).2.2)); (case side4 => exact (Kd.R_reads' HO2.out).2.1); rintro e w10 ⟨v662, rfl, ho0, hb⟩; refine ⟨_, rfl, ?_⟩; have HO663 := Aside0.mk (Kd.R_lower (Kd.R_new' (Kd.R_new' (Kd.R_newM (M := fun k_ => ((P1_ k_ ∨ P2_ k_) ∨ w.heap.size ≤ k_)) ho0 (by exact HK.out.1) (fun k_ h_ => .inr h_)) (Kd.R_lt (by (with_reducible repeat (apply Kd.R_drewN)); exact HO1.out))) (Kd.R_lt (by (with_reducible repeat (apply Kd.R_drewN)); exact HO2.out))) (below_size (by repeat (with_reducible first | exact HB.out | apply pw_below_drewN)))); replace HO1 := Aside0.mk (Kd.R_elder' (by (with_reducible repeat (apply Kd.R_drewN)); exact HO1.out) (Kd.R_base ho0) hb); replace HO2 := Aside0.mk (Kd.R_elder' (by (with_reducible repeat (apply Kd.R_drewN)); exact HO2.out) (Kd.R_base ho0) hb); replace HK := Aside0.mk (Kept.below (S := (fun k_ => P1_ k_ ∨ P2_ k_)) (by repeat (with_reducible first | exact HK.out | apply Kept.drewN)) hb); replace HB := hb1 HB hb; (try clear hb); (try clear ho0)))
   go_ret
   exact ⟨_, by rfl, by exact Kd.R_mono HO663.out (fun _ hk => hk.1.1.1), by repeat (with_reducible exact HB.out), by repeat (with_reducible exact HK.out)⟩
end Go.Proofs.YtfigblfjogpojaaDoor.PBits
end
section
namespace Go.Proofs.YtfigblfjogpojaaDoor.PBits
open Go.RowKit Go.Proofs.YtfigblfjogpojaaDoorW.PrintWords Go.Proofs.YtfigblfjogpojaaDoorW.PrintLast Go.Proofs.YtfigblfjogpojaaDoorW.PrintMore
attribute [local go_sem] max2_int min2_int max_two min_two max_three min_three max_four min_four
set_option linter.unusedVariables false
set_option linter.unusedSimpArgs false
def bits_Fits.f (k : Nat) (a0_0 : Int) (a0_1 : Int) (a0_2 : Int) (a1_0 : Int) (a1_1 : Int) (a1_2 : Int) (a2 : Int) : Option (Bool) := (bits_alike.f k a0_0 a0_1 a0_2 a1_0 a1_1 a1_2).bind fun t666 => (if t666 = true then (if a2 = 0 then (some ((Go.bits .andNot .u64 (Go.bits .or .u64 (Go.bits .xor .u64 a0_1 a1_1) (Go.bits .xor .u64 a0_2 a1_2)) 0) == 0)) else (if a2 = 1 then (some ((Go.bits .andNot .u64 (Go.bits .or .u64 (Go.bits .xor .u64 a0_1 a1_1) (Go.bits .xor .u64 a0_2 a1_2)) (Go.bits .or .u64 (Go.bits .andNot .u64 a0_2 a0_1) (Go.bits .andNot .u64 a1_2 a1_1))) == 0)) else (if a2 = 2 then (some ((Go.bits .andNot .u64 (Go.bits .or .u64 (Go.bits .xor .u64 a0_1 a1_1) (Go.bits .xor .u64 a0_2 a1_2)) (Go.bits .or .u64 a0_2 a1_2)) == 0)) else (some false)))) else (some false))
set_option maxHeartbeats 8000000 in
set_option maxRecDepth 100000 in
theorem bits_Fits.calls (k : Nat) (a0_0 : Int) (a0_1 : Int) (a0_2 : Int) (a1_0 : Int) (a1_1 : Int) (a1_2 : Int) (a2 : Int) (r : Bool) (w : World) (h : bits_Fits.f k a0_0 a0_1 a0_2 a1_0 a1_1 a1_2 a2 = some r) :
  Calls Tryd.prog 42 #[.agg #[.int .i64 a0_0, .int .u64 a0_1, .int .u64 a0_2], .agg #[.int .i64 a1_0, .int .u64 a1_1, .int .u64 a1_2], .int .i64 a2] w fun e w' => e = .returned (.bool r) ∧ Below w.heap.size w w' := by
 have hu24 := Tryd.underlying24
 have HB := Aside0.mk (Below.refl w.heap.size w)
 have H : ((bits_alike.f k a0_0 a0_1 a0_2 a1_0 a1_1 a1_2).bind fun t666 => (if t666 = true then (if a2 = 0 then (some ((Go.bits .andNot .u64 (Go.bits .or .u64 (Go.bits .xor .u64 a0_1 a1_1) (Go.bits .xor .u64 a0_2 a1_2)) 0) == 0)) else (if a2 = 1 then (some ((Go.bits .andNot .u64 (Go.bits .or .u64 (Go.bits .xor .u64 a0_1 a1_1) (Go.bits .xor .u64 a0_2 a1_2)) (Go.bits .or .u64 (Go.bits .andNot .u64 a0_2 a0_1) (Go.bits .andNot .u64 a1_2 a1_1))) == 0)) else (if a2 = 2 then (some ((Go.bits .andNot .u64 (Go.bits .or .u64 (Go.bits .xor .u64 a0_1 a1_1) (Go.bits .xor .u64 a0_2 a1_2)) (Go.bits .or .u64 a0_2 a1_2)) == 0)) else (some false)))) else (some false))) = some r := h
 clear h
 replace H := Option.bind_eq_some_iff.mp H
 obtain ⟨t666, A40, H⟩ := H
 replace H : (if t666 = true then (if a2 = 0 then (some ((Go.bits .andNot .u64 (Go.bits .or .u64 (Go.bits .xor .u64 a0_1 a1_1) (Go.bits .xor .u64 a0_2 a1_2)) 0) == 0)) else (if a2 = 1 then (some ((Go.bits .andNot .u64 (Go.bits .or .u64 (Go.bits .xor .u64 a0_1 a1_1) (Go.bits .xor .u64 a0_2 a1_2)) (Go.bits .or .u64 (Go.bits .andNot .u64 a0_2 a0_1) (Go.bits .andNot .u64 a1_2 a1_1))) == 0)) else (if a2 = 2 then (some ((Go.bits .andNot .u64 (Go.bits .or .u64 (Go.bits .xor .u64 a0_1 a1_1) (Go.bits .xor .u64 a0_2 a1_2)) (Go.bits .or .u64 a0_2 a1_2)) == 0)) else (some false)))) else (some false)) = some r := H
 have A4 := Aside0.mk A40
 clear A40
 by_cases c5 : t666 = true
 ·subst c5
  have H1 : (if a2 = 0 then (some ((Go.bits .andNot .u64 (Go.bits .or .u64 (Go.bits .xor .u64 a0_1 a1_1) (Go.bits .xor .u64 a0_2 a1_2)) 0) == 0)) else (if a2 = 1 then (some ((Go.bits .andNot .u64 (Go.bits .or .u64 (Go.bits .xor .u64 a0_1 a1_1) (Go.bits .xor .u64 a0_2 a1_2)) (Go.bits .or .u64 (Go.bits .andNot .u64 a0_2 a0_1) (Go.bits .andNot .u64 a1_2 a1_1))) == 0)) else (if a2 = 2 then (some ((Go.bits .andNot .u64 (Go.bits .or .u64 (Go.bits .xor .u64 a0_1 a1_1) (Go.bits .xor .u64 a0_2 a1_2)) (Go.bits .or .u64 a0_2 a1_2)) == 0)) else (some false)))) = some r := by rw [if_pos rfl] at H; exact H
  clear H
  have H := H1
  clear H1
  by_cases c6 : a2 = 0
  ·rw [if_pos c6] at H
   have c6b0 : (a2 == 0) = true := beq_iff_eq.mpr c6
   have c6b1 : (a2 != 0) = false := bne_eq_false_iff_eq.mpr c6
   clear c6
   obtain rfl := Option.some.inj H
   go_enter Tryd.func42, Tryd.ntmps42
   go_wp2_with (first | ((with_reducible refine gate_dst (N := 3) rfl ?_); refine box_event ?hg (N := 3) ?hd (cs := #[.int .i64 a0_0, .int .u64 a0_1, .int .u64 a0_2]) (t := 24) ?hr ?_; (case hd => rfl); (case hg => rfl); (case hr => (go_simp; done)); intro gb664 hg w7 hbox hb; have BK664 := Aside0.mk (hbox); have GW664 := ge1 HB hg; have GE664 := ge1 HB hg; replace HB := hb1 HB hb; clear hb hbox hg) | ((with_reducible refine gate_dst (N := 4) rfl ?_); refine box_event ?hg (N := 4) ?hd (cs := #[.int .i64 a1_0, .int .u64 a1_1, .int .u64 a1_2]) (t := 24) ?hr ?_; (case hd => rfl); (case hg => rfl); (case hr => (go_simp; done)); intro gb665 hg w8 hbox hb; have BK665 := Aside0.mk (hbox); have GW665 := ge1 HB hg; have GE665 := ge1 HB hg; replace HB := hb1 HB hb; have NB664_665 := Aside0.mk ((by rw [hg]; exact Nat.ne_of_lt (blk_lt BK664.out) : gb664 ≠ gb665)); have NB665_664 := Aside0.mk ((by rw [hg]; exact Nat.ne_of_gt (blk_lt BK664.out) : gb665 ≠ gb664)); replace BK664 := bk1 BK664 hb; clear hb hbox hg; have hnb9 := NB664_665.out; have hnc9 := NB665_664.out; have hcz10_0 : w8.cell? ⟨gb664, 0, none⟩ = some (.int .i64 a0_0) := (blk_cell BK664.out 0).trans rfl; have hcz10_1 : w8.cell? ⟨gb664, 1, none⟩ = some (.int .u64 a0_1) := (blk_cell BK664.out 1).trans rfl; have hcz10_2 : w8.cell? ⟨gb664, 2, none⟩ = some (.int .u64 a0_2) := (blk_cell BK664.out 2).trans rfl; have hfz10_0 := blk_frozen BK664.out 0; have hfz10_1 := blk_frozen BK664.out 1; have hfz10_2 := blk_frozen BK664.out 2; have hcz11_0 : w8.cell? ⟨gb665, 0, none⟩ = some (.int .i64 a1_0) := (blk_cell BK665.out 0).trans rfl; have hcz11_1 : w8.cell? ⟨gb665, 1, none⟩ = some (.int .u64 a1_1) := (blk_cell BK665.out 1).trans rfl; have hcz11_2 : w8.cell? ⟨gb665, 2, none⟩ = some (.int .u64 a1_2) := (blk_cell BK665.out 2).trans rfl; have hfz11_0 := blk_frozen BK665.out 0; have hfz11_1 := blk_frozen BK665.out 1; have hfz11_2 := blk_frozen BK665.out 2) | ((with_reducible refine gate_callee (f := 66) rfl ?_); refine goesL_ (some 10) rfl rfl Tryd.func66 (by kernel_rfl) rfl #[.agg #[.int .i64 a0_0, .int .u64 a0_1, .int .u64 a0_2], .agg #[.int .i64 a1_0, .int .u64 a1_1, .int .u64 a1_2]] rfl (by (try simp only [List.map_toArray, List.map_cons, List.map_nil]); rfl) ?_; (with_reducible refine (bits_alike.calls k a0_0 a0_1 a0_2 a1_0 a1_1 a1_2 true _ A4.out).mono ?_); rintro e w12 ⟨rfl, hb⟩; refine ⟨_, rfl, ?_⟩; replace BK664 := bk1 BK664 hb; replace BK665 := bk1 BK665 hb; replace HB := hb1 HB hb; (try clear hb); have hcz13_0 : w12.cell? ⟨gb664, 0, none⟩ = some (.int .i64 a0_0) := (blk_cell BK664.out 0).trans rfl; have hcz13_1 : w12.cell? ⟨gb664, 1, none⟩ = some (.int .u64 a0_1) := (blk_cell BK664.out 1).trans rfl; have hcz13_2 : w12.cell? ⟨gb664, 2, none⟩ = some (.int .u64 a0_2) := (blk_cell BK664.out 2).trans rfl; have hfz13_0 := blk_frozen BK664.out 0; have hfz13_1 := blk_frozen BK664.out 1; have hfz13_2 := blk_frozen BK664.out 2; have hcz14_0 : w12.cell? ⟨gb665, 0, none⟩ = some (.int .i64 a1_0) := (blk_cell BK665.out 0).trans rfl; have hcz14_1 : w12.cell? ⟨gb665, 1, none⟩ = some (.int .u64 a1_1) := (blk_cell BK665.out 1).trans rfl; have hcz14_2 : w12.cell? ⟨gb665, 2, none⟩ = some (.int .u64 a1_2) := (blk_cell BK665.out 2).trans rfl; have hfz14_0 := blk_frozen BK665.out 0; have hfz14_1 := blk_frozen BK665.out 1; have hfz14_2 := blk_frozen BK665.out 2))
   go_ret
   exact ⟨by rfl, by repeat (with_reducible exact HB.out)⟩
  ·rw [if_neg c6] at H
   have c6b0 : (a2 == 0) = false := beq_eq_false_iff_ne.mpr c6
   have c6b1 : (a2 != 0) = true := bne_iff_ne.mpr c6
   by_cases c15 : a2 = 1
   ·rw [if_pos c15] at H
    have c15b0 : (a2 == 1) = true := beq_iff_eq.mpr c15
    have c15b1 : (a2 != 1) = false := bne_eq_false_iff_eq.mpr c15
    clear c15
    obtain rfl := Option.some.inj H
    go_enter Tryd.func42, Tryd.ntmps42
    go_wp2_with (first | ((with_reducible refine gate_dst (N := 3) rfl ?_); refine box_event ?hg (N := 3) ?hd (cs := #[.int .i64 a0_0, .int .u64 a0_1, .int .u64 a0_2]) (t := 24) ?hr ?_; (case hd => rfl); (case hg => rfl); (case hr => (go_simp; done)); intro gb664 hg w16 hbox hb; have BK664 := Aside0.mk (hbox); have GW664 := ge1 HB hg; have GE664 := ge1 HB hg; replace HB := hb1 HB hb; clear hb hbox hg) | ((with_reducible refine gate_dst (N := 4) rfl ?_); refine box_event ?hg (N := 4) ?hd (cs := #[.int .i64 a1_0, .int .u64 a1_1, .int .u64 a1_2]) (t := 24) ?hr ?_; (case hd => rfl); (case hg => rfl); (case hr => (go_simp; done)); intro gb665 hg w17 hbox hb; have BK665 := Aside0.mk (hbox); have GW665 := ge1 HB hg; have GE665 := ge1 HB hg; replace HB := hb1 HB hb; have NB664_665 := Aside0.mk ((by rw [hg]; exact Nat.ne_of_lt (blk_lt BK664.out) : gb664 ≠ gb665)); have NB665_664 := Aside0.mk ((by rw [hg]; exact Nat.ne_of_gt (blk_lt BK664.out) : gb665 ≠ gb664)); replace BK664 := bk1 BK664 hb; clear hb hbox hg; have hnb18 := NB664_665.out; have hnc18 := NB665_664.out; have hcz19_0 : w17.cell? ⟨gb664, 0, none⟩ = some (.int .i64 a0_0) := (blk_cell BK664.out 0).trans rfl; have hcz19_1 : w17.cell? ⟨gb664, 1, none⟩ = some (.int .u64 a0_1) := (blk_cell BK664.out 1).trans rfl; have hcz19_2 : w17.cell? ⟨gb664, 2, none⟩ = some (.int .u64 a0_2) := (blk_cell BK664.out 2).trans rfl; have hfz19_0 := blk_frozen BK664.out 0; have hfz19_1 := blk_frozen BK664.out 1; have hfz19_2 := blk_frozen BK664.out 2; have hcz20_0 : w17.cell? ⟨gb665, 0, none⟩ = some (.int .i64 a1_0) := (blk_cell BK665.out 0).trans rfl; have hcz20_1 : w17.cell? ⟨gb665, 1, none⟩ = some (.int .u64 a1_1) := (blk_cell BK665.out 1).trans rfl; have hcz20_2 : w17.cell? ⟨gb665, 2, none⟩ = some (.int .u64 a1_2) := (blk_cell BK665.out 2).trans rfl; have hfz20_0 := blk_frozen BK665.out 0; have hfz20_1 := blk_frozen BK665.out 1; have hfz20_2 := blk_frozen BK665.out 2) | ((with_reducible refine gate_callee (f := 66) rfl ?_); refine goesL_ (some 10) rfl rfl Tryd.func66 (by kernel_rfl) rfl #[.agg #[.int .i64 a0_0, .int .u64 a0_1, .int .u64 a0_2], .agg #[.int .i64 a1_0, .int .u64 a1_1, .int .u64 a1_2]] rfl (by (try simp only [List.map_toArray, List.map_cons, List.map_nil]); rfl) ?_; (with_reducible refine (bits_alike.calls k a0_0 a0_1 a0_2 a1_0 a1_1 a1_2 true _ A4.out).mono ?_); rintro e w21 ⟨rfl, hb⟩; refine ⟨_, rfl, ?_⟩; replace BK664 := bk1 BK664 hb; replace BK665 := bk1 BK665 hb; replace HB := hb1 HB hb; (try clear hb); have hcz22_0 : w21.cell? ⟨gb664, 0, none⟩ = some (.int .i64 a0_0) := (blk_cell BK664.out 0).trans rfl; have hcz22_1 : w21.cell? ⟨gb664, 1, none⟩ = some (.int .u64 a0_1) := (blk_cell BK664.out 1).trans rfl; have hcz22_2 : w21.cell? ⟨gb664, 2, none⟩ = some (.int .u64 a0_2) := (blk_cell BK664.out 2).trans rfl; have hfz22_0 := blk_frozen BK664.out 0; have hfz22_1 := blk_frozen BK664.out 1; have hfz22_2 := blk_frozen BK664.out 2; have hcz23_0 : w21.cell? ⟨gb665, 0, none⟩ = some (.int .i64 a1_0) := (blk_cell BK665.out 0).trans rfl; have hcz23_1 : w21.cell? ⟨gb665, 1, none⟩ = some (.int .u64 a1_1) := (blk_cell BK665.out 1).trans rfl; have hcz23_2 : w21.cell? ⟨gb665, 2, none⟩ = some (.int .u64 a1_2) := (blk_cell BK665.out 2).trans rfl; have hfz23_0 := blk_frozen BK665.out 0; have hfz23_1 := blk_frozen BK665.out 1; have hfz23_2 := blk_frozen BK665.out 2))
    go_ret
    exact ⟨by rfl, by repeat (with_reducible exact HB.out)⟩
   ·rw [if_neg c15] at H
    have c15b0 : (a2 == 1) = false := beq_eq_false_iff_ne.mpr c15
    have c15b1 : (a2 != 1) = true := bne_iff_ne.mpr c15
    by_cases c24 : a2 = 2
    ·rw [if_pos c24] at H
     have c24b0 : (a2 == 2) = true := beq_iff_eq.mpr c24
     have c24b1 : (a2 != 2) = false := bne_eq_false_iff_eq.mpr c24
     clear c24
     obtain rfl := Option.some.inj H
     go_enter Tryd.func42, Tryd.ntmps42
     go_wp2_with (first | ((with_reducible refine gate_dst (N := 3) rfl ?_); refine box_event ?hg (N := 3) ?hd (cs := #[.int .i64 a0_0, .int .u64 a0_1, .int .u64 a0_2]) (t := 24) ?hr ?_; (case hd => rfl); (case hg => rfl); (case hr => (go_simp; done)); intro gb664 hg w25 hbox hb; have BK664 := Aside0.mk (hbox); have GW664 := ge1 HB hg; have GE664 := ge1 HB hg; replace HB := hb1 HB hb; clear hb hbox hg) | ((with_reducible refine gate_dst (N := 4) rfl ?_); refine box_event ?hg (N := 4) ?hd (cs := #[.int .i64 a1_0, .int .u64 a1_1, .int .u64 a1_2]) (t := 24) ?hr ?_; (case hd => rfl); (case hg => rfl); (case hr => (go_simp; done)); intro gb665 hg w26 hbox hb; have BK665 := Aside0.mk (hbox); have GW665 := ge1 HB hg; have GE665 := ge1 HB hg; replace HB := hb1 HB hb; have NB664_665 := Aside0.mk ((by rw [hg]; exact Nat.ne_of_lt (blk_lt BK664.out) : gb664 ≠ gb665)); have NB665_664 := Aside0.mk ((by rw [hg]; exact Nat.ne_of_gt (blk_lt BK664.out) : gb665 ≠ gb664)); replace BK664 := bk1 BK664 hb; clear hb hbox hg; have hnb27 := NB664_665.out; have hnc27 := NB665_664.out; have hcz28_0 : w26.cell? ⟨gb664, 0, none⟩ = some (.int .i64 a0_0) := (blk_cell BK664.out 0).trans rfl; have hcz28_1 : w26.cell? ⟨gb664, 1, none⟩ = some (.int .u64 a0_1) := (blk_cell BK664.out 1).trans rfl; have hcz28_2 : w26.cell? ⟨gb664, 2, none⟩ = some (.int .u64 a0_2) := (blk_cell BK664.out 2).trans rfl; have hfz28_0 := blk_frozen BK664.out 0; have hfz28_1 := blk_frozen BK664.out 1; have hfz28_2 := blk_frozen BK664.out 2; have hcz29_0 : w26.cell? ⟨gb665, 0, none⟩ = some (.int .i64 a1_0) := (blk_cell BK665.out 0).trans rfl; have hcz29_1 : w26.cell? ⟨gb665, 1, none⟩ = some (.int .u64 a1_1) := (blk_cell BK665.out 1).trans rfl; have hcz29_2 : w26.cell? ⟨gb665, 2, none⟩ = some (.int .u64 a1_2) := (blk_cell BK665.out 2).trans rfl; have hfz29_0 := blk_frozen BK665.out 0; have hfz29_1 := blk_frozen BK665.out 1; have hfz29_2 := blk_frozen BK665.out 2) | ((with_reducible refine gate_callee (f := 66) rfl ?_); refine goesL_ (some 10) rfl rfl Tryd.func66 (by kernel_rfl) rfl #[.agg #[.int .i64 a0_0, .int .u64 a0_1, .int .u64 a0_2], .agg #[.int .i64 a1_0, .int .u64 a1_1, .int .u64 a1_2]] rfl (by (try simp only [List.map_toArray, List.map_cons, List.map_nil]); rfl) ?_; (with_reducible refine (bits_alike.calls k a0_0 a0_1 a0_2 a1_0 a1_1 a1_2 true _ A4.out).mono ?_); rintro e w30 ⟨rfl, hb⟩; refine ⟨_, rfl, ?_⟩; replace BK664 := bk1 BK664 hb; replace BK665 := bk1 BK665 hb; replace HB := hb1 HB hb; (try clear hb); have hcz31_0 : w30.cell? ⟨gb664, 0, none⟩ = some (.int .i64 a0_0) := (blk_cell BK664.out 0).trans rfl; have hcz31_1 : w30.cell? ⟨gb664, 1, none⟩ = some (.int .u64 a0_1) := (blk_cell BK664.out 1).trans rfl; have hcz31_2 : w30.cell? ⟨gb664, 2, none⟩ = some (.int .u64 a0_2) := (blk_cell BK664.out 2).trans rfl; have hfz31_0 := blk_frozen BK664.out 0; have hfz31_1 := blk_frozen BK664.out 1; have hfz31_2 := blk_frozen BK664.out 2; have hcz32_0 : w30.cell? ⟨gb665, 0, none⟩ = some (.int .i64 a1_0) := (blk_cell BK665.out 0).trans rfl; have hcz32_1 : w30.cell? ⟨gb665, 1, none⟩ = some (.int .u64 a1_1) := (blk_cell BK665.out 1).trans rfl; have hcz32_2 : w30.cell? ⟨gb665, 2, none⟩ = some (.int .u64 a1_2) := (blk_cell BK665.out 2).trans rfl; have hfz32_0 := blk_frozen BK665.out 0; have hfz32_1 := blk_frozen BK665.out 1; have hfz32_2 := blk_frozen BK665.out 2))
     go_ret
     exact ⟨by rfl, by repeat (with_reducible exact HB.out)⟩
    ·rw [if_neg c24] at H
     have c24b0 : (a2 == 2) = false := beq_eq_false_iff_ne.mpr c24
     have c24b1 : (a2 != 2) = true := bne_iff_ne.mpr c24
     obtain rfl := Option.some.inj H
     go_enter Tryd.func42, Tryd.ntmps42
     go_wp2_with (first | ((with_reducible refine gate_dst (N := 3) rfl ?_); refine box_event ?hg (N := 3) ?hd (cs := #[.int .i64 a0_0, .int .u64 a0_1, .int .u64 a0_2]) (t := 24) ?hr ?_; (case hd => rfl); (case hg => rfl); (case hr => (go_simp; done)); intro gb664 hg w33 hbox hb; have BK664 := Aside0.mk (hbox); have GW664 := ge1 HB hg; have GE664 := ge1 HB hg; replace HB := hb1 HB hb; clear hb hbox hg) | ((with_reducible refine gate_dst (N := 4) rfl ?_); refine box_event ?hg (N := 4) ?hd (cs := #[.int .i64 a1_0, .int .u64 a1_1, .int .u64 a1_2]) (t := 24) ?hr ?_; (case hd => rfl); (case hg => rfl); (case hr => (go_simp; done)); intro gb665 hg w34 hbox hb; have BK665 := Aside0.mk (hbox); have GW665 := ge1 HB hg; have GE665 := ge1 HB hg; replace HB := hb1 HB hb; have NB664_665 := Aside0.mk ((by rw [hg]; exact Nat.ne_of_lt (blk_lt BK664.out) : gb664 ≠ gb665)); have NB665_664 := Aside0.mk ((by rw [hg]; exact Nat.ne_of_gt (blk_lt BK664.out) : gb665 ≠ gb664)); replace BK664 := bk1 BK664 hb; clear hb hbox hg; have hnb35 := NB664_665.out; have hnc35 := NB665_664.out; have hcz36_0 : w34.cell? ⟨gb664, 0, none⟩ = some (.int .i64 a0_0) := (blk_cell BK664.out 0).trans rfl; have hcz36_1 : w34.cell? ⟨gb664, 1, none⟩ = some (.int .u64 a0_1) := (blk_cell BK664.out 1).trans rfl; have hcz36_2 : w34.cell? ⟨gb664, 2, none⟩ = some (.int .u64 a0_2) := (blk_cell BK664.out 2).trans rfl; have hfz36_0 := blk_frozen BK664.out 0; have hfz36_1 := blk_frozen BK664.out 1; have hfz36_2 := blk_frozen BK664.out 2; have hcz37_0 : w34.cell? ⟨gb665, 0, none⟩ = some (.int .i64 a1_0) := (blk_cell BK665.out 0).trans rfl; have hcz37_1 : w34.cell? ⟨gb665, 1, none⟩ = some (.int .u64 a1_1) := (blk_cell BK665.out 1).trans rfl; have hcz37_2 : w34.cell? ⟨gb665, 2, none⟩ = some (.int .u64 a1_2) := (blk_cell BK665.out 2).trans rfl; have hfz37_0 := blk_frozen BK665.out 0; have hfz37_1 := blk_frozen BK665.out 1; have hfz37_2 := blk_frozen BK665.out 2) | ((with_reducible refine gate_callee (f := 66) rfl ?_); refine goesL_ (some 10) rfl rfl Tryd.func66 (by kernel_rfl) rfl #[.agg #[.int .i64 a0_0, .int .u64 a0_1, .int .u64 a0_2], .agg #[.int .i64 a1_0, .int .u64 a1_1, .int .u64 a1_2]] rfl (by (try simp only [List.map_toArray, List.map_cons, List.map_nil]); rfl) ?_; (with_reducible refine (bits_alike.calls k a0_0 a0_1 a0_2 a1_0 a1_1 a1_2 true _ A4.out).mono ?_); rintro e w38 ⟨rfl, hb⟩; refine ⟨_, rfl, ?_⟩; replace BK664 := bk1 BK664 hb; replace BK665 := bk1 BK665 hb; replace HB := hb1 HB hb; (try clear hb)))
     go_ret
     exact ⟨by rfl, by repeat (with_reducible exact HB.out)⟩
 ·replace c5 := Bool.eq_false_iff.mpr c5
  subst c5
  have H1 : (some false) = some r := by rw [if_neg (show ¬ (false = true) by decide)] at H; exact H
  clear H
  have H := H1
  clear H1
  obtain rfl := Option.some.inj H
  go_enter Tryd.func42, Tryd.ntmps42
  go_wp2_with (first | ((with_reducible refine gate_dst (N := 3) rfl ?_); refine box_event ?hg (N := 3) ?hd (cs := #[.int .i64 a0_0, .int .u64 a0_1, .int .u64 a0_2]) (t := 24) ?hr ?_; (case hd => rfl); (case hg => rfl); (case hr => (go_simp; done)); intro gb664 hg w39 hbox hb; have BK664 := Aside0.mk (hbox); have GW664 := ge1 HB hg; have GE664 := ge1 HB hg; replace HB := hb1 HB hb; clear hb hbox hg) | ((with_reducible refine gate_dst (N := 4) rfl ?_); refine box_event ?hg (N := 4) ?hd (cs := #[.int .i64 a1_0, .int .u64 a1_1, .int .u64 a1_2]) (t := 24) ?hr ?_; (case hd => rfl); (case hg => rfl); (case hr => (go_simp; done)); intro gb665 hg w40 hbox hb; have BK665 := Aside0.mk (hbox); have GW665 := ge1 HB hg; have GE665 := ge1 HB hg; replace HB := hb1 HB hb; have NB664_665 := Aside0.mk ((by rw [hg]; exact Nat.ne_of_lt (blk_lt BK664.out) : gb664 ≠ gb665)); have NB665_664 := Aside0.mk ((by rw [hg]; exact Nat.ne_of_gt (blk_lt BK664.out) : gb665 ≠ gb664)); replace BK664 := bk1 BK664 hb; clear hb hbox hg; have hnb41 := NB664_665.out; have hnc41 := NB665_664.out; have hcz42_0 : w40.cell? ⟨gb664, 0, none⟩ = some (.int .i64 a0_0) := (blk_cell BK664.out 0).trans rfl; have hcz42_1 : w40.cell? ⟨gb664, 1, none⟩ = some (.int .u64 a0_1) := (blk_cell BK664.out 1).trans rfl; have hcz42_2 : w40.cell? ⟨gb664, 2, none⟩ = some (.int .u64 a0_2) := (blk_cell BK664.out 2).trans rfl; have hfz42_0 := blk_frozen BK664.out 0; have hfz42_1 := blk_frozen BK664.out 1; have hfz42_2 := blk_frozen BK664.out 2; have hcz43_0 : w40.cell? ⟨gb665, 0, none⟩ = some (.int .i64 a1_0) := (blk_cell BK665.out 0).trans rfl; have hcz43_1 : w40.cell? ⟨gb665, 1, none⟩ = some (.int .u64 a1_1) := (blk_cell BK665.out 1).trans rfl; have hcz43_2 : w40.cell? ⟨gb665, 2, none⟩ = some (.int .u64 a1_2) := (blk_cell BK665.out 2).trans rfl; have hfz43_0 := blk_frozen BK665.out 0; have hfz43_1 := blk_frozen BK665.out 1; have hfz43_2 := blk_frozen BK665.out 2) | ((with_reducible refine gate_callee (f := 66) rfl ?_); refine goesL_ (some 10) rfl rfl Tryd.func66 (by kernel_rfl) rfl #[.agg #[.int .i64 a0_0, .int .u64 a0_1, .int .u64 a0_2], .agg #[.int .i64 a1_0, .int .u64 a1_1, .int .u64 a1_2]] rfl (by (try simp only [List.map_toArray, List.map_cons, List.map_nil]); rfl) ?_; (with_reducible refine (bits_alike.calls k a0_0 a0_1 a0_2 a1_0 a1_1 a1_2 false _ A4.out).mono ?_); rintro e w44 ⟨rfl, hb⟩; refine ⟨_, rfl, ?_⟩; replace BK664 := bk1 BK664 hb; replace BK665 := bk1 BK665 hb; replace HB := hb1 HB hb; (try clear hb)))
  go_ret
  exact ⟨by rfl, by repeat (with_reducible exact HB.out)⟩
end Go.Proofs.YtfigblfjogpojaaDoor.PBits
end
section
namespace Go.Proofs.YtfigblfjogpojaaDoor.PBits
open Go.RowKit Go.Proofs.YtfigblfjogpojaaDoorW.PrintWords Go.Proofs.YtfigblfjogpojaaDoorW.PrintLast Go.Proofs.YtfigblfjogpojaaDoorW.PrintMore
attribute [local go_sem] max2_int min2_int max_two min_two max_three min_three max_four min_four
set_option linter.unusedVariables false
set_option linter.unusedSimpArgs false
mutual
def maskref1_Fit.j0 : Nat → List Int → List Int → Int → Bool → Option (Bool)
 | 0, _, _, _, _ => none
 | k + 1, x0, x1, x2, x18 => if x18 = true then (some false) else (maskref1_Fit.l0 k x0 x1 x2 (x0.length : Int) 0)
def maskref1_Fit.l0 : Nat → List Int → List Int → Int → Int → Int → Option (Bool)
 | 0, _, _, _, _, _ => none
 | k + 1, x0, x1, x2, x20, x21 => if x21 < x20 then (if x2 = 0 then (if x2 = 2 then (if 0 ≤ x21 then (if x21 < (x0.length : Int) then (if (rd x0 x21) = 120 then (maskref1_Fit.j2 k x0 x1 x2 x21 true x20 x21) else (if x21 < (x1.length : Int) then (maskref1_Fit.j2 k x0 x1 x2 x21 ((rd x1 x21) == 120) x20 x21) else (none))) else (none)) else (none)) else (maskref1_Fit.j2 k x0 x1 x2 x21 false x20 x21)) else (if 0 ≤ x21 then (if x21 < (x0.length : Int) then (if (rd x0 x21) = 122 then (maskref1_Fit.j2 k x0 x1 x2 x21 true x20 x21) else (if x21 < (x1.length : Int) then (if (rd x1 x21) = 122 then (maskref1_Fit.j2 k x0 x1 x2 x21 true x20 x21) else (if x2 = 2 then (if (rd x0 x21) = 120 then (maskref1_Fit.j2 k x0 x1 x2 x21 true x20 x21) else (maskref1_Fit.j2 k x0 x1 x2 x21 ((rd x1 x21) == 120) x20 x21)) else (maskref1_Fit.j2 k x0 x1 x2 x21 false x20 x21))) else (none))) else (none)) else (none))) else (some true)
def maskref1_Fit.j2 : Nat → List Int → List Int → Int → Int → Bool → Int → Int → Option (Bool)
 | 0, _, _, _, _, _, _, _ => none
 | k + 1, x0, x1, x2, x7, x8, x20, x21 => if x8 = true then (maskref1_Fit.l0 k x0 x1 x2 x20 (wrap64 (x21 + 1))) else (if 0 ≤ x7 then (if x7 < (x0.length : Int) then (if x7 < (x1.length : Int) then (if (rd x0 x7) = (rd x1 x7) then (maskref1_Fit.l0 k x0 x1 x2 x20 (wrap64 (x21 + 1))) else (some false)) else (none)) else (none)) else (none))
end
def maskref1_Fit.f (k : Nat) (l0 : List Int) (l1 : List Int) (a2 : Int) : Option (Bool) := if a2 = 0 then (maskref1_Fit.j0 k l0 l1 a2 false) else (if a2 = 1 then (maskref1_Fit.j0 k l0 l1 a2 false) else (maskref1_Fit.j0 k l0 l1 a2 (a2 != 2)))
set_option maxHeartbeats 8000000 in
set_option maxRecDepth 100000 in
theorem maskref1_Fit.calls (k : Nat) (A0 : Option Addr) (c0 : Nat) (l0 : List Int) (A1 : Option Addr) (c1 : Nat) (l1 : List Int) (a2 : Int) (r : Bool) (w : World) (hr0 : Kd.C (Kd.int .u8) w A0 l0.length l0) (hc0 : l0.length ≤ c0) (hr1 : Kd.C (Kd.int .u8) w A1 l1.length l1) (hc1 : l1.length ≤ c1) (h : maskref1_Fit.f k l0 l1 a2 = some r) :
  Calls Tryd.prog 43 #[.slice A0 l0.length c0, .slice A1 l1.length c1, .int .i64 a2] w fun e w' => e = .returned (.bool r) ∧ Drawn0 w w' := by
 have HR0 := Aside0.mk hr0
 have HC0 := Aside0.mk hc0
 clear hr0 hc0
 have HR1 := Aside0.mk hr1
 have HC1 := Aside0.mk hc1
 clear hr1 hc1
 have H : (if a2 = 0 then (maskref1_Fit.j0 k l0 l1 a2 false) else (if a2 = 1 then (maskref1_Fit.j0 k l0 l1 a2 false) else (maskref1_Fit.j0 k l0 l1 a2 (a2 != 2)))) = some r := h
 clear h
 have HC4 := Aside0.mk H
 clear H
 go_enter Tryd.func43, Tryd.ntmps43
 go_upto_region 1 with (fail)
 go_cut [18] (fun v18 wc => ∃ (kq : Nat) (x18_3 : Bool), v18 = .bool x18_3 ∧ Aside0 (maskref1_Fit.j0 kq l0 l1 a2 x18_3 = some r) ∧ Aside0 (kq ≤ k) ∧ Drawn0 w wc)
 case first =>
  have H := HC4.out
  clear HC4
  by_cases c5 : a2 = 0
  ·rw [if_pos c5] at H
   have c5b0 : (a2 == 0) = true := beq_iff_eq.mpr c5
   have c5b1 : (a2 != 0) = false := bne_eq_false_iff_eq.mpr c5
   clear c5
   (skip)
   have H' := Aside0.mk H
   clear H
   go_wp2
   go_meet
   case rel => exact ⟨_, (false), (by rfl), H', ⟨by omega⟩, by repeat (exact Drawn0.refl _)⟩
  ·rw [if_neg c5] at H
   have c5b0 : (a2 == 0) = false := beq_eq_false_iff_ne.mpr c5
   have c5b1 : (a2 != 0) = true := bne_iff_ne.mpr c5
   (skip)
   by_cases c6 : a2 = 1
   ·rw [if_pos c6] at H
    have c6b0 : (a2 == 1) = true := beq_iff_eq.mpr c6
    have c6b1 : (a2 != 1) = false := bne_eq_false_iff_eq.mpr c6
    clear c6
    have H' := Aside0.mk H
    clear H
    go_wp2
    go_meet
    case rel => exact ⟨_, (false), (by rfl), H', ⟨by omega⟩, by repeat (exact Drawn0.refl _)⟩
   ·rw [if_neg c6] at H
    have c6b0 : (a2 == 1) = false := beq_eq_false_iff_ne.mpr c6
    have c6b1 : (a2 != 1) = true := bne_iff_ne.mpr c6
    have H' := Aside0.mk H
    clear H
    go_wp2
    go_meet
    case rel => exact ⟨_, (a2 != 2), (by rfl), H', ⟨by omega⟩, by repeat (exact Drawn0.refl _)⟩
 case rest =>
  clear HC4
  obtain ⟨kq, x18_3, rfl, HA, HJ3, ⟨mc3, rfl⟩⟩ := hcut
  cases kq with
  | zero => exact absurd HA.out (by simp [maskref1_Fit.j0])
  | succ kj3 =>
   have H := HA.out
   clear HA
   simp only [maskref1_Fit.j0] at H
   by_cases c7 : x18_3 = true
   ·subst c7
    have H1 : (some false) = some r := by rw [if_pos rfl] at H; exact H
    clear H
    have H := H1
    clear H1
    obtain rfl := Option.some.inj H
    go_wp2
    go_ret
    exact ⟨by rfl, by repeat (first | exact Drawn0.refl _ | apply Drawn0.step)⟩
   ·replace c7 := Bool.eq_false_iff.mpr c7
    subst c7
    have H1 : (maskref1_Fit.l0 kj3 l0 l1 a2 (l0.length : Int) 0) = some r := by rw [if_neg (show ¬ (false = true) by decide)] at H; exact H
    clear H
    have H := H1
    clear H1
    have H' := Aside0.mk H
    clear H
    go_wp2
    go_loopg [21] kj3 (fun kq v21 w' => ∃ (x21_2 : Int), v21 = .int .i64 x21_2 ∧ Aside0 (maskref1_Fit.l0 kq l0 l1 a2 (l0.length : Int) x21_2 = some r) ∧ Aside0 (kq ≤ kj3) ∧ Drawn0 w w')
    case atStart => exact ⟨(0), (by rfl), H', ⟨Nat.le_refl _⟩, by repeat (first | exact Drawn0.refl _ | apply Drawn0.step)⟩
    case round =>
     clear H'
     obtain ⟨x21_2, rfl, HA, HK2, ⟨m2, rfl⟩⟩ := hrel
     cases gk with
     | zero => exact absurd HA.out (by simp [maskref1_Fit.l0])
     | succ k2 =>
      have H := HA.out
      clear HA
      simp only [maskref1_Fit.l0] at H
      by_cases c8 : x21_2 < (l0.length : Int)
      ·rw [if_pos c8] at H
       have c8b0 : decide (x21_2 < (l0.length : Int)) = true := decide_eq_true c8
       clear c8
       have HC9 := Aside0.mk H
       clear H
       go_upto_region 6 with (fail)
       go_cut [8] (fun v8 wc => ∃ (kq : Nat) (x8_8 : Bool), v8 = .bool x8_8 ∧ Aside0 (maskref1_Fit.j2 kq l0 l1 a2 x21_2 x8_8 (l0.length : Int) x21_2 = some r) ∧ Aside0 (kq ≤ k2) ∧ Drawn0 w wc)
       case first =>
        have H := HC9.out
        clear HC9
        by_cases c10 : a2 = 0
        ·rw [if_pos c10] at H
         have c10b0 : (a2 == 0) = true := beq_iff_eq.mpr c10
         have c10b1 : (a2 != 0) = false := bne_eq_false_iff_eq.mpr c10
         clear c10
         (skip)
         by_cases c11 : a2 = 2
         ·rw [if_pos c11] at H
          have c11b0 : (a2 == 2) = true := beq_iff_eq.mpr c11
          have c11b1 : (a2 != 2) = false := bne_eq_false_iff_eq.mpr c11
          clear c11
          by_cases c12 : 0 ≤ x21_2
          ·rw [if_pos c12] at H
           have c12b0 : decide (0 ≤ x21_2) = true := decide_eq_true c12
           clear c12
           by_cases c13 : x21_2 < (l0.length : Int)
           ·rw [if_pos c13] at H
            have c13b0 : decide (x21_2 < (l0.length : Int)) = true := decide_eq_true c13
            clear c13
            by_cases c14 : (rd l0 x21_2) = 120
            ·rw [if_pos c14] at H
             have c14b0 : ((rd l0 x21_2) == 120) = true := beq_iff_eq.mpr c14
             have c14b1 : ((rd l0 x21_2) != 120) = false := bne_eq_false_iff_eq.mpr c14
             clear c14
             have H' := Aside0.mk H
             clear H
             have p667 : 0 ≤ (x21_2 : Int) := of_decide_eq_true (by (with_reducible assumption))
             have q667 : x21_2 < (l0.length : Int) := of_decide_eq_true (by (with_reducible assumption))
             obtain ⟨ad667, e667, hx667_0⟩ := Kd.at_int HR0.out x21_2 p667 q667
             cases e667
             replace p667 := eq_true p667
             replace q667 := eq_true q667
             go_wp2
             go_meet
             case rel => exact ⟨_, (true), (by rfl), H', ⟨by have := HJ3.out; have := HK2.out; omega⟩, by repeat (first | exact Drawn0.refl _ | apply Drawn0.step)⟩
            ·rw [if_neg c14] at H
             have c14b0 : ((rd l0 x21_2) == 120) = false := beq_eq_false_iff_ne.mpr c14
             have c14b1 : ((rd l0 x21_2) != 120) = true := bne_iff_ne.mpr c14
             by_cases c15 : x21_2 < (l1.length : Int)
             ·rw [if_pos c15] at H
              have c15b0 : decide (x21_2 < (l1.length : Int)) = true := decide_eq_true c15
              clear c15
              have H' := Aside0.mk H
              clear H
              have p667 : 0 ≤ (x21_2 : Int) := of_decide_eq_true (by (with_reducible assumption))
              have q667 : x21_2 < (l0.length : Int) := of_decide_eq_true (by (with_reducible assumption))
              obtain ⟨ad667, e667, hx667_0⟩ := Kd.at_int HR0.out x21_2 p667 q667
              cases e667
              replace p667 := eq_true p667
              replace q667 := eq_true q667
              have p668 : 0 ≤ (x21_2 : Int) := of_decide_eq_true (by (with_reducible assumption))
              have q668 : x21_2 < (l1.length : Int) := of_decide_eq_true (by (with_reducible assumption))
              obtain ⟨ad668, e668, hx668_0⟩ := Kd.at_int HR1.out x21_2 p668 q668
              cases e668
              replace p668 := eq_true p668
              replace q668 := eq_true q668
              go_wp2
              go_meet
              case rel => exact ⟨_, ((rd l1 x21_2) == 120), (by rfl), H', ⟨by have := HJ3.out; have := HK2.out; omega⟩, by repeat (first | exact Drawn0.refl _ | apply Drawn0.step)⟩
             ·rw [if_neg c15] at H
              exact absurd H (by simp)
           ·rw [if_neg c13] at H
            exact absurd H (by simp)
          ·rw [if_neg c12] at H
           exact absurd H (by simp)
         ·rw [if_neg c11] at H
          have c11b0 : (a2 == 2) = false := beq_eq_false_iff_ne.mpr c11
          have c11b1 : (a2 != 2) = true := bne_iff_ne.mpr c11
          have H' := Aside0.mk H
          clear H
          go_wp2
          go_meet
          case rel => exact ⟨_, (false), (by rfl), H', ⟨by have := HJ3.out; have := HK2.out; omega⟩, by repeat (first | exact Drawn0.refl _ | apply Drawn0.step)⟩
        ·rw [if_neg c10] at H
         have c10b0 : (a2 == 0) = false := beq_eq_false_iff_ne.mpr c10
         have c10b1 : (a2 != 0) = true := bne_iff_ne.mpr c10
         (skip)
         by_cases c16 : 0 ≤ x21_2
         ·rw [if_pos c16] at H
          have c16b0 : decide (0 ≤ x21_2) = true := decide_eq_true c16
          clear c16
          by_cases c17 : x21_2 < (l0.length : Int)
          ·rw [if_pos c17] at H
           have c17b0 : decide (x21_2 < (l0.length : Int)) = true := decide_eq_true c17
           clear c17
           by_cases c18 : (rd l0 x21_2) = 122
           ·rw [if_pos c18] at H
            have c18b0 : ((rd l0 x21_2) == 122) = true := beq_iff_eq.mpr c18
            have c18b1 : ((rd l0 x21_2) != 122) = false := bne_eq_false_iff_eq.mpr c18
            clear c18
            have H' := Aside0.mk H
            clear H
            have p669 : 0 ≤ (x21_2 : Int) := of_decide_eq_true (by (with_reducible assumption))
            have q669 : x21_2 < (l0.length : Int) := of_decide_eq_true (by (with_reducible assumption))
            obtain ⟨ad669, e669, hx669_0⟩ := Kd.at_int HR0.out x21_2 p669 q669
            cases e669
            replace p669 := eq_true p669
            replace q669 := eq_true q669
            go_wp2
            go_meet
            case rel => exact ⟨_, (true), (by rfl), H', ⟨by have := HJ3.out; have := HK2.out; omega⟩, by repeat (first | exact Drawn0.refl _ | apply Drawn0.step)⟩
           ·rw [if_neg c18] at H
            have c18b0 : ((rd l0 x21_2) == 122) = false := beq_eq_false_iff_ne.mpr c18
            have c18b1 : ((rd l0 x21_2) != 122) = true := bne_iff_ne.mpr c18
            by_cases c19 : x21_2 < (l1.length : Int)
            ·rw [if_pos c19] at H
             have c19b0 : decide (x21_2 < (l1.length : Int)) = true := decide_eq_true c19
             clear c19
             by_cases c20 : (rd l1 x21_2) = 122
             ·rw [if_pos c20] at H
              have c20b0 : ((rd l1 x21_2) == 122) = true := beq_iff_eq.mpr c20
              have c20b1 : ((rd l1 x21_2) != 122) = false := bne_eq_false_iff_eq.mpr c20
              clear c20
              have H' := Aside0.mk H
              clear H
              have p669 : 0 ≤ (x21_2 : Int) := of_decide_eq_true (by (with_reducible assumption))
              have q669 : x21_2 < (l0.length : Int) := of_decide_eq_true (by (with_reducible assumption))
              obtain ⟨ad669, e669, hx669_0⟩ := Kd.at_int HR0.out x21_2 p669 q669
              cases e669
              replace p669 := eq_true p669
              replace q669 := eq_true q669
              have p670 : 0 ≤ (x21_2 : Int) := of_decide_eq_true (by (with_reducible assumption))
              have q670 : x21_2 < (l1.length : Int) := of_decide_eq_true (by (with_reducible assumption))
              obtain ⟨ad670, e670, hx670_0⟩ := Kd.at_int HR1.out x21_2 p670 q670
              cases e670
              replace p670 := eq_true p670
              replace q670 := eq_true q670
              go_wp2
              go_meet
              case rel => exact ⟨_, (true), (by rfl), H', ⟨by have := HJ3.out; have := HK2.out; omega⟩, by repeat (first | exact Drawn0.refl _ | apply Drawn0.step)⟩
             ·rw [if_neg c20] at H
              have c20b0 : ((rd l1 x21_2) == 122) = false := beq_eq_false_iff_ne.mpr c20
              have c20b1 : ((rd l1 x21_2) != 122) = true := bne_iff_ne.mpr c20
              by_cases c21 : a2 = 2
              ·rw [if_pos c21] at H
               have c21b0 : (a2 == 2) = true := beq_iff_eq.mpr c21
               have c21b1 : (a2 != 2) = false := bne_eq_false_iff_eq.mpr c21
               clear c21
               by_cases c22 : (rd l0 x21_2) = 120
               ·rw [if_pos c22] at H
                have c22b0 : ((rd l0 x21_2) == 120) = true := beq_iff_eq.mpr c22
                have c22b1 : ((rd l0 x21_2) != 120) = false := bne_eq_false_iff_eq.mpr c22
                clear c22
                have H' := Aside0.mk H
                clear H
                have p669 : 0 ≤ (x21_2 : Int) := of_decide_eq_true (by (with_reducible assumption))
                have q669 : x21_2 < (l0.length : Int) := of_decide_eq_true (by (with_reducible assumption))
                obtain ⟨ad669, e669, hx669_0⟩ := Kd.at_int HR0.out x21_2 p669 q669
                cases e669
                replace p669 := eq_true p669
                replace q669 := eq_true q669
                have p670 : 0 ≤ (x21_2 : Int) := of_decide_eq_true (by (with_reducible assumption))
                have q670 : x21_2 < (l1.length : Int) := of_decide_eq_true (by (with_reducible assumption))
                obtain ⟨ad670, e670, hx670_0⟩ := Kd.at_int HR1.out x21_2 p670 q670
                cases e670
                replace p670 := eq_true p670
                replace q670 := eq_true q670
                have p671 : 0 ≤ (x21_2 : Int) := of_decide_eq_true (by (with_reducible assumption))
                have q671 : x21_2 < (l0.length : Int) := of_decide_eq_true (by (with_reducible assumption))
                obtain ⟨ad671, e671, hx671_0⟩ := Kd.at_int HR0.out x21_2 p671 q671
                obtain rfl : ad669 = ad671 := (by injection e671)
                replace p671 := eq_true p671
                replace q671 := eq_true q671
                go_wp2
                go_meet
                case rel => exact ⟨_, (true), (by rfl), H', ⟨by have := HJ3.out; have := HK2.out; omega⟩, by repeat (first | exact Drawn0.refl _ | apply Drawn0.step)⟩
               ·rw [if_neg c22] at H
                have c22b0 : ((rd l0 x21_2) == 120) = false := beq_eq_false_iff_ne.mpr c22
                have c22b1 : ((rd l0 x21_2) != 120) = true := bne_iff_ne.mpr c22
                have H' := Aside0.mk H
                clear H
                have p669 : 0 ≤ (x21_2 : Int) := of_decide_eq_true (by (with_reducible assumption))
                have q669 : x21_2 < (l0.length : Int) := of_decide_eq_true (by (with_reducible assumption))
                obtain ⟨ad669, e669, hx669_0⟩ := Kd.at_int HR0.out x21_2 p669 q669
                cases e669
                replace p669 := eq_true p669
                replace q669 := eq_true q669
                have p670 : 0 ≤ (x21_2 : Int) := of_decide_eq_true (by (with_reducible assumption))
                have q670 : x21_2 < (l1.length : Int) := of_decide_eq_true (by (with_reducible assumption))
                obtain ⟨ad670, e670, hx670_0⟩ := Kd.at_int HR1.out x21_2 p670 q670
                cases e670
                replace p670 := eq_true p670
                replace q670 := eq_true q670
                have p671 : 0 ≤ (x21_2 : Int) := of_decide_eq_true (by (with_reducible assumption))
                have q671 : x21_2 < (l0.length : Int) := of_decide_eq_true (by (with_reducible assumption))
                obtain ⟨ad671, e671, hx671_0⟩ := Kd.at_int HR0.out x21_2 p671 q671
                obtain rfl : ad669 = ad671 := (by injection e671)
                replace p671 := eq_true p671
                replace q671 := eq_true q671
                have p672 : 0 ≤ (x21_2 : Int) := of_decide_eq_true (by (with_reducible assumption))
                have q672 : x21_2 < (l1.length : Int) := of_decide_eq_true (by (with_reducible assumption))
                obtain ⟨ad672, e672, hx672_0⟩ := Kd.at_int HR1.out x21_2 p672 q672
                obtain rfl : ad670 = ad672 := (by injection e672)
                replace p672 := eq_true p672
                replace q672 := eq_true q672
                go_wp2
                go_meet
                case rel => exact ⟨_, ((rd l1 x21_2) == 120), (by rfl), H', ⟨by have := HJ3.out; have := HK2.out; omega⟩, by repeat (first | exact Drawn0.refl _ | apply Drawn0.step)⟩
              ·rw [if_neg c21] at H
               have c21b0 : (a2 == 2) = false := beq_eq_false_iff_ne.mpr c21
               have c21b1 : (a2 != 2) = true := bne_iff_ne.mpr c21
               have H' := Aside0.mk H
               clear H
               have p669 : 0 ≤ (x21_2 : Int) := of_decide_eq_true (by (with_reducible assumption))
               have q669 : x21_2 < (l0.length : Int) := of_decide_eq_true (by (with_reducible assumption))
               obtain ⟨ad669, e669, hx669_0⟩ := Kd.at_int HR0.out x21_2 p669 q669
               cases e669
               replace p669 := eq_true p669
               replace q669 := eq_true q669
               have p670 : 0 ≤ (x21_2 : Int) := of_decide_eq_true (by (with_reducible assumption))
               have q670 : x21_2 < (l1.length : Int) := of_decide_eq_true (by (with_reducible assumption))
               obtain ⟨ad670, e670, hx670_0⟩ := Kd.at_int HR1.out x21_2 p670 q670
               cases e670
               replace p670 := eq_true p670
               replace q670 := eq_true q670
               go_wp2
               go_meet
               case rel => exact ⟨_, (false), (by rfl), H', ⟨by have := HJ3.out; have := HK2.out; omega⟩, by repeat (first | exact Drawn0.refl _ | apply Drawn0.step)⟩
            ·rw [if_neg c19] at H
             exact absurd H (by simp)
          ·rw [if_neg c17] at H
           exact absurd H (by simp)
         ·rw [if_neg c16] at H
          exact absurd H (by simp)
       case rest =>
        clear HC9
        (try clear c8b0)
        obtain ⟨kq, x8_8, rfl, HA, HJ8, ⟨mc8, rfl⟩⟩ := hcut
        cases kq with
        | zero => exact absurd HA.out (by simp [maskref1_Fit.j2])
        | succ kj8 =>
         have H := HA.out
         clear HA
         simp only [maskref1_Fit.j2] at H
         by_cases c23 : x8_8 = true
         ·subst c23
          have H1 : (maskref1_Fit.l0 kj8 l0 l1 a2 (l0.length : Int) (wrap64 (x21_2 + 1))) = some r := by rw [if_pos rfl] at H; exact H
          clear H
          have H := H1
          clear H1
          have H' := Aside0.mk H
          clear H
          go_wp2
          repeat (go_quiet (fail); try go_wp2)
          go_roundg kj8
          case measure => have := HJ3.out; have := HK2.out; have := HJ8.out; omega
          case rel => exact ⟨(wrap64 (x21_2 + 1)), (by rfl), H', ⟨by have := HJ3.out; have := HK2.out; have := HJ8.out; omega⟩, by repeat (first | exact Drawn0.refl _ | apply Drawn0.step)⟩
         ·replace c23 := Bool.eq_false_iff.mpr c23
          subst c23
          have H1 : (if 0 ≤ x21_2 then (if x21_2 < (l0.length : Int) then (if x21_2 < (l1.length : Int) then (if (rd l0 x21_2) = (rd l1 x21_2) then (maskref1_Fit.l0 kj8 l0 l1 a2 (l0.length : Int) (wrap64 (x21_2 + 1))) else (some false)) else (none)) else (none)) else (none)) = some r := by rw [if_neg (show ¬ (false = true) by decide)] at H; exact H
          clear H
          have H := H1
          clear H1
          by_cases c24 : 0 ≤ x21_2
          ·rw [if_pos c24] at H
           have c24b0 : decide (0 ≤ x21_2) = true := decide_eq_true c24
           clear c24
           by_cases c25 : x21_2 < (l0.length : Int)
           ·rw [if_pos c25] at H
            have c25b0 : decide (x21_2 < (l0.length : Int)) = true := decide_eq_true c25
            clear c25
            by_cases c26 : x21_2 < (l1.length : Int)
            ·rw [if_pos c26] at H
             have c26b0 : decide (x21_2 < (l1.length : Int)) = true := decide_eq_true c26
             clear c26
             by_cases c27 : (rd l0 x21_2) = (rd l1 x21_2)
             ·rw [if_pos c27] at H
              have c27b0 : ((rd l0 x21_2) == (rd l1 x21_2)) = true := beq_iff_eq.mpr c27
              have c27b1 : ((rd l0 x21_2) != (rd l1 x21_2)) = false := bne_eq_false_iff_eq.mpr c27
              clear c27
              have H' := Aside0.mk H
              clear H
              have p673 : 0 ≤ (x21_2 : Int) := of_decide_eq_true (by (with_reducible assumption))
              have q673 : x21_2 < (l0.length : Int) := of_decide_eq_true (by (with_reducible assumption))
              obtain ⟨ad673, e673, hx673_0⟩ := Kd.at_int HR0.out x21_2 p673 q673
              cases e673
              replace p673 := eq_true p673
              replace q673 := eq_true q673
              have p674 : 0 ≤ (x21_2 : Int) := of_decide_eq_true (by (with_reducible assumption))
              have q674 : x21_2 < (l1.length : Int) := of_decide_eq_true (by (with_reducible assumption))
              obtain ⟨ad674, e674, hx674_0⟩ := Kd.at_int HR1.out x21_2 p674 q674
              cases e674
              replace p674 := eq_true p674
              replace q674 := eq_true q674
              go_wp2
              repeat (go_quiet (fail); try go_wp2)
              go_roundg kj8
              case measure => have := HJ3.out; have := HK2.out; have := HJ8.out; omega
              case rel => exact ⟨(wrap64 (x21_2 + 1)), (by rfl), H', ⟨by have := HJ3.out; have := HK2.out; have := HJ8.out; omega⟩, by repeat (first | exact Drawn0.refl _ | apply Drawn0.step)⟩
             ·rw [if_neg c27] at H
              have c27b0 : ((rd l0 x21_2) == (rd l1 x21_2)) = false := beq_eq_false_iff_ne.mpr c27
              have c27b1 : ((rd l0 x21_2) != (rd l1 x21_2)) = true := bne_iff_ne.mpr c27
              obtain rfl := Option.some.inj H
              have p673 : 0 ≤ (x21_2 : Int) := of_decide_eq_true (by (with_reducible assumption))
              have q673 : x21_2 < (l0.length : Int) := of_decide_eq_true (by (with_reducible assumption))
              obtain ⟨ad673, e673, hx673_0⟩ := Kd.at_int HR0.out x21_2 p673 q673
              cases e673
              replace p673 := eq_true p673
              replace q673 := eq_true q673
              have p674 : 0 ≤ (x21_2 : Int) := of_decide_eq_true (by (with_reducible assumption))
              have q674 : x21_2 < (l1.length : Int) := of_decide_eq_true (by (with_reducible assumption))
              obtain ⟨ad674, e674, hx674_0⟩ := Kd.at_int HR1.out x21_2 p674 q674
              cases e674
              replace p674 := eq_true p674
              replace q674 := eq_true q674
              go_wp2
              repeat (go_quiet (fail); try go_wp2)
              go_ret
              exact ⟨by rfl, by repeat (first | exact Drawn0.refl _ | apply Drawn0.step)⟩
            ·rw [if_neg c26] at H
             exact absurd H (by simp)
           ·rw [if_neg c25] at H
            exact absurd H (by simp)
          ·rw [if_neg c24] at H
           exact absurd H (by simp)
      ·rw [if_neg c8] at H
       have c8b0 : decide (x21_2 < (l0.length : Int)) = false := decide_eq_false c8
       clear c8
       obtain rfl := Option.some.inj H
       go_wp2
       go_ret
       exact ⟨by rfl, by repeat (first | exact Drawn0.refl _ | apply Drawn0.step)⟩
end Go.Proofs.YtfigblfjogpojaaDoor.PBits
end
section
namespace Go.Proofs.YtfigblfjogpojaaDoor.PBits
open Go.RowKit Go.Proofs.YtfigblfjogpojaaDoorW.PrintWords Go.Proofs.YtfigblfjogpojaaDoorW.PrintLast Go.Proofs.YtfigblfjogpojaaDoorW.PrintMore
attribute [local go_sem] max2_int min2_int max_two min_two max_three min_three max_four min_four
set_option linter.unusedVariables false
set_option linter.unusedSimpArgs false
def bits_Resolve.f (k : Nat) (a0_0 : Int) (a0_1 : Int) (a0_2 : Int) (a1_0 : Int) (a1_1 : Int) (a1_2 : Int) : Option (Int × Int × Int) := (bits_alike.f k a0_0 a0_1 a0_2 a1_0 a1_1 a1_2).bind fun t678 => (if t678 = true then ((bits_mask.f a0_0).bind fun t679 => ((bits_mask.f a0_0).bind fun t680 => (some (a0_0, Go.bits .and .u64 (Go.bits .or .u64 (Go.bits .or .u64 (Go.bits .or .u64 (Go.bits .and .u64 a0_1 (Go.bits .andNot .u64 a1_2 a1_1)) (Go.bits .and .u64 a1_1 (Go.bits .andNot .u64 a0_2 a0_1))) (Go.bits .and .u64 a0_1 a1_1)) (Go.bits .andNot .u64 (Go.bits .or .u64 (Go.bits .xor .u64 a0_1 a1_1) (Go.bits .xor .u64 a0_2 a1_2)) (Go.bits .or .u64 (Go.bits .andNot .u64 a0_2 a0_1) (Go.bits .andNot .u64 a1_2 a1_1)))) t679, Go.bits .and .u64 (Go.bits .or .u64 (Go.bits .or .u64 (Go.bits .or .u64 (Go.bits .and .u64 a0_2 (Go.bits .andNot .u64 a1_2 a1_1)) (Go.bits .and .u64 a1_2 (Go.bits .andNot .u64 a0_2 a0_1))) (Go.bits .and .u64 a0_2 a1_2)) (Go.bits .andNot .u64 (Go.bits .or .u64 (Go.bits .xor .u64 a0_1 a1_1) (Go.bits .xor .u64 a0_2 a1_2)) (Go.bits .or .u64 (Go.bits .andNot .u64 a0_2 a0_1) (Go.bits .andNot .u64 a1_2 a1_1)))) t680)))) else (some (0, 0, 0)))
def bits_Resolve.T3 : Bool × List (List Nat × List Nat) := (true, [([], []), ([0], [0]), ([], []), ([2], [2]), ([1, 3], [1, 3]), ([], []), ([5], [5]), ([], []), ([7], [7]), ([6, 8], [6, 8]), ([4, 0, 1, 2, 3, 4], [4]), ([9, 10, 0, 1, 2, 3, 4, 5, 6, 7, 8, 9, 10], [9])])
def bits_Resolve.B3 : List Nat := [0, 1, 0, 4, 15, 0, 32, 0, 128, 480, 31, 2047]
theorem bits_Resolve.tab3 : rtab .any (opsOf Tryd.f44 3) = bits_Resolve.T3 := by kernel_rfl
theorem bits_Resolve.bits3 : waitsOk bits_Resolve.T3.2 bits_Resolve.B3 = true := by kernel_rfl
def bits_Resolve.T7 : Bool × List (List Nat × List Nat) := (true, [([], []), ([0], [0]), ([], []), ([], []), ([2, 3], [2, 3]), ([], []), ([5], [5]), ([6], [6]), ([4, 7], [4, 7]), ([], []), ([], []), ([9, 10], [9, 10]), ([], []), ([12], [12]), ([13, 7], [13]), ([11, 14], [11, 14]), ([1, 8, 15], [1, 8, 15]), ([16, 14, 0, 1, 2, 3, 4, 5, 6, 7, 8, 9, 10, 11, 12, 13, 14, 15, 16], [16])])
def bits_Resolve.B7 : List Nat := [0, 1, 0, 0, 12, 0, 32, 96, 252, 0, 0, 1536, 0, 4096, 12512, 32480, 65535, 131071]
theorem bits_Resolve.tab7 : rtab .any (opsOf Tryd.f44 7) = bits_Resolve.T7 := by kernel_rfl
theorem bits_Resolve.bits7 : waitsOk bits_Resolve.T7.2 bits_Resolve.B7 = true := by kernel_rfl
set_option maxHeartbeats 8000000 in
set_option maxRecDepth 100000 in
theorem bits_Resolve.calls (k : Nat) (a0_0 : Int) (a0_1 : Int) (a0_2 : Int) (a1_0 : Int) (a1_1 : Int) (a1_2 : Int) (r1 : Int) (r2 : Int) (r3 : Int) (w : World) (h : bits_Resolve.f k a0_0 a0_1 a0_2 a1_0 a1_1 a1_2 = some (r1, r2, r3)) :
  Calls Tryd.prog 44 #[.agg #[.int .i64 a0_0, .int .u64 a0_1, .int .u64 a0_2], .agg #[.int .i64 a1_0, .int .u64 a1_1, .int .u64 a1_2]] w fun e w' => e = .returned (.agg #[.int .i64 r1, .int .u64 r2, .int .u64 r3]) ∧ Below w.heap.size w w' := by
 have hu24 := Tryd.underlying24
 have HB := Aside0.mk (Below.refl w.heap.size w)
 have H : ((bits_alike.f k a0_0 a0_1 a0_2 a1_0 a1_1 a1_2).bind fun t678 => (if t678 = true then ((bits_mask.f a0_0).bind fun t679 => ((bits_mask.f a0_0).bind fun t680 => (some (a0_0, Go.bits .and .u64 (Go.bits .or .u64 (Go.bits .or .u64 (Go.bits .or .u64 (Go.bits .and .u64 a0_1 (Go.bits .andNot .u64 a1_2 a1_1)) (Go.bits .and .u64 a1_1 (Go.bits .andNot .u64 a0_2 a0_1))) (Go.bits .and .u64 a0_1 a1_1)) (Go.bits .andNot .u64 (Go.bits .or .u64 (Go.bits .xor .u64 a0_1 a1_1) (Go.bits .xor .u64 a0_2 a1_2)) (Go.bits .or .u64 (Go.bits .andNot .u64 a0_2 a0_1) (Go.bits .andNot .u64 a1_2 a1_1)))) t679, Go.bits .and .u64 (Go.bits .or .u64 (Go.bits .or .u64 (Go.bits .or .u64 (Go.bits .and .u64 a0_2 (Go.bits .andNot .u64 a1_2 a1_1)) (Go.bits .and .u64 a1_2 (Go.bits .andNot .u64 a0_2 a0_1))) (Go.bits .and .u64 a0_2 a1_2)) (Go.bits .andNot .u64 (Go.bits .or .u64 (Go.bits .xor .u64 a0_1 a1_1) (Go.bits .xor .u64 a0_2 a1_2)) (Go.bits .or .u64 (Go.bits .andNot .u64 a0_2 a0_1) (Go.bits .andNot .u64 a1_2 a1_1)))) t680)))) else (some (0, 0, 0)))) = some (r1, r2, r3) := h
 clear h
 replace H := Option.bind_eq_some_iff.mp H
 obtain ⟨t678, A30, H⟩ := H
 replace H : (if t678 = true then ((bits_mask.f a0_0).bind fun t679 => ((bits_mask.f a0_0).bind fun t680 => (some (a0_0, Go.bits .and .u64 (Go.bits .or .u64 (Go.bits .or .u64 (Go.bits .or .u64 (Go.bits .and .u64 a0_1 (Go.bits .andNot .u64 a1_2 a1_1)) (Go.bits .and .u64 a1_1 (Go.bits .andNot .u64 a0_2 a0_1))) (Go.bits .and .u64 a0_1 a1_1)) (Go.bits .andNot .u64 (Go.bits .or .u64 (Go.bits .xor .u64 a0_1 a1_1) (Go.bits .xor .u64 a0_2 a1_2)) (Go.bits .or .u64 (Go.bits .andNot .u64 a0_2 a0_1) (Go.bits .andNot .u64 a1_2 a1_1)))) t679, Go.bits .and .u64 (Go.bits .or .u64 (Go.bits .or .u64 (Go.bits .or .u64 (Go.bits .and .u64 a0_2 (Go.bits .andNot .u64 a1_2 a1_1)) (Go.bits .and .u64 a1_2 (Go.bits .andNot .u64 a0_2 a0_1))) (Go.bits .and .u64 a0_2 a1_2)) (Go.bits .andNot .u64 (Go.bits .or .u64 (Go.bits .xor .u64 a0_1 a1_1) (Go.bits .xor .u64 a0_2 a1_2)) (Go.bits .or .u64 (Go.bits .andNot .u64 a0_2 a0_1) (Go.bits .andNot .u64 a1_2 a1_1)))) t680)))) else (some (0, 0, 0))) = some (r1, r2, r3) := H
 have A3 := Aside0.mk A30
 clear A30
 by_cases c4 : t678 = true
 ·subst c4
  have H1 : ((bits_mask.f a0_0).bind fun t679 => ((bits_mask.f a0_0).bind fun t680 => (some (a0_0, Go.bits .and .u64 (Go.bits .or .u64 (Go.bits .or .u64 (Go.bits .or .u64 (Go.bits .and .u64 a0_1 (Go.bits .andNot .u64 a1_2 a1_1)) (Go.bits .and .u64 a1_1 (Go.bits .andNot .u64 a0_2 a0_1))) (Go.bits .and .u64 a0_1 a1_1)) (Go.bits .andNot .u64 (Go.bits .or .u64 (Go.bits .xor .u64 a0_1 a1_1) (Go.bits .xor .u64 a0_2 a1_2)) (Go.bits .or .u64 (Go.bits .andNot .u64 a0_2 a0_1) (Go.bits .andNot .u64 a1_2 a1_1)))) t679, Go.bits .and .u64 (Go.bits .or .u64 (Go.bits .or .u64 (Go.bits .or .u64 (Go.bits .and .u64 a0_2 (Go.bits .andNot .u64 a1_2 a1_1)) (Go.bits .and .u64 a1_2 (Go.bits .andNot .u64 a0_2 a0_1))) (Go.bits .and .u64 a0_2 a1_2)) (Go.bits .andNot .u64 (Go.bits .or .u64 (Go.bits .xor .u64 a0_1 a1_1) (Go.bits .xor .u64 a0_2 a1_2)) (Go.bits .or .u64 (Go.bits .andNot .u64 a0_2 a0_1) (Go.bits .andNot .u64 a1_2 a1_1)))) t680)))) = some (r1, r2, r3) := by rw [if_pos rfl] at H; exact H
  clear H
  have H := H1
  clear H1
  replace H := Option.bind_eq_some_iff.mp H
  obtain ⟨t679, A50, H⟩ := H
  replace H : ((bits_mask.f a0_0).bind fun t680 => (some (a0_0, Go.bits .and .u64 (Go.bits .or .u64 (Go.bits .or .u64 (Go.bits .or .u64 (Go.bits .and .u64 a0_1 (Go.bits .andNot .u64 a1_2 a1_1)) (Go.bits .and .u64 a1_1 (Go.bits .andNot .u64 a0_2 a0_1))) (Go.bits .and .u64 a0_1 a1_1)) (Go.bits .andNot .u64 (Go.bits .or .u64 (Go.bits .xor .u64 a0_1 a1_1) (Go.bits .xor .u64 a0_2 a1_2)) (Go.bits .or .u64 (Go.bits .andNot .u64 a0_2 a0_1) (Go.bits .andNot .u64 a1_2 a1_1)))) t679, Go.bits .and .u64 (Go.bits .or .u64 (Go.bits .or .u64 (Go.bits .or .u64 (Go.bits .and .u64 a0_2 (Go.bits .andNot .u64 a1_2 a1_1)) (Go.bits .and .u64 a1_2 (Go.bits .andNot .u64 a0_2 a0_1))) (Go.bits .and .u64 a0_2 a1_2)) (Go.bits .andNot .u64 (Go.bits .or .u64 (Go.bits .xor .u64 a0_1 a1_1) (Go.bits .xor .u64 a0_2 a1_2)) (Go.bits .or .u64 (Go.bits .andNot .u64 a0_2 a0_1) (Go.bits .andNot .u64 a1_2 a1_1)))) t680))) = some (r1, r2, r3) := H
  have A5 := Aside0.mk A50
  clear A50
  replace H := Option.bind_eq_some_iff.mp H
  obtain ⟨t680, A60, H⟩ := H
  replace H : (some (a0_0, Go.bits .and .u64 (Go.bits .or .u64 (Go.bits .or .u64 (Go.bits .or .u64 (Go.bits .and .u64 a0_1 (Go.bits .andNot .u64 a1_2 a1_1)) (Go.bits .and .u64 a1_1 (Go.bits .andNot .u64 a0_2 a0_1))) (Go.bits .and .u64 a0_1 a1_1)) (Go.bits .andNot .u64 (Go.bits .or .u64 (Go.bits .xor .u64 a0_1 a1_1) (Go.bits .xor .u64 a0_2 a1_2)) (Go.bits .or .u64 (Go.bits .andNot .u64 a0_2 a0_1) (Go.bits .andNot .u64 a1_2 a1_1)))) t679, Go.bits .and .u64 (Go.bits .or .u64 (Go.bits .or .u64 (Go.bits .or .u64 (Go.bits .and .u64 a0_2 (Go.bits .andNot .u64 a1_2 a1_1)) (Go.bits .and .u64 a1_2 (Go.bits .andNot .u64 a0_2 a0_1))) (Go.bits .and .u64 a0_2 a1_2)) (Go.bits .andNot .u64 (Go.bits .or .u64 (Go.bits .xor .u64 a0_1 a1_1) (Go.bits .xor .u64 a0_2 a1_2)) (Go.bits .or .u64 (Go.bits .andNot .u64 a0_2 a0_1) (Go.bits .andNot .u64 a1_2 a1_1)))) t680)) = some (r1, r2, r3) := H
  have A6 := Aside0.mk A60
  clear A60
  simp only [Option.some.injEq, Prod.mk.injEq] at H
  obtain ⟨rfl, rfl, rfl⟩ := H
  go_enter Tryd.func44, Tryd.ntmps44
  try go_wp2_with (first | ((with_reducible refine gate_dst (N := 2) rfl ?_); refine box_event ?hg (N := 2) ?hd (cs := #[.int .i64 a0_0, .int .u64 a0_1, .int .u64 a0_2]) (t := 24) ?hr ?_; (case hd => rfl); (case hg => rfl); (case hr => (go_simp; done)); intro gb675 hg w7 hbox hb; have BK675 := Aside0.mk (hbox); have GW675 := ge1 HB hg; have GE675 := ge1 HB hg; replace HB := hb1 HB hb; clear hb hbox hg) | ((with_reducible refine gate_dst (N := 3) rfl ?_); refine box_event ?hg (N := 3) ?hd (cs := #[.int .i64 a1_0, .int .u64 a1_1, .int .u64 a1_2]) (t := 24) ?hr ?_; (case hd => rfl); (case hg => rfl); (case hr => (go_simp; done)); intro gb676 hg w8 hbox hb; have BK676 := Aside0.mk (hbox); have GW676 := ge1 HB hg; have GE676 := ge1 HB hg; replace HB := hb1 HB hb; have NB675_676 := Aside0.mk ((by rw [hg]; exact Nat.ne_of_lt (blk_lt BK675.out) : gb675 ≠ gb676)); have NB676_675 := Aside0.mk ((by rw [hg]; exact Nat.ne_of_gt (blk_lt BK675.out) : gb676 ≠ gb675)); replace BK675 := bk1 BK675 hb; clear hb hbox hg) | ((with_reducible refine gate_dst (N := 4) rfl ?_); refine box_event ?hg (N := 4) ?hd (cs := #[.int .i64 0, .int .u64 0, .int .u64 0]) (t := 24) ?hr ?_; (case hd => rfl); (case hg => rfl); (case hr => (go_simp; done)); intro gb677 hg w9 hbox hb; have BK677 := Aside0.mk (hbox); have GW677 := ge1 HB hg; have GE677 := ge1 HB hg; replace HB := hb1 HB hb; have NB675_677 := Aside0.mk ((by rw [hg]; exact Nat.ne_of_lt (blk_lt BK675.out) : gb675 ≠ gb677)); have NB677_675 := Aside0.mk ((by rw [hg]; exact Nat.ne_of_gt (blk_lt BK675.out) : gb677 ≠ gb675)); replace BK675 := bk1 BK675 hb; have NB676_677 := Aside0.mk ((by rw [hg]; exact Nat.ne_of_lt (blk_lt BK676.out) : gb676 ≠ gb677)); have NB677_676 := Aside0.mk ((by rw [hg]; exact Nat.ne_of_gt (blk_lt BK676.out) : gb677 ≠ gb676)); replace BK676 := bk1 BK676 hb; clear hb hbox hg; have hnb10 := NB675_676.out; have hnc10 := NB676_675.out; have hnb11 := NB675_677.out; have hnc11 := NB677_675.out; have hcz12_0 : w9.cell? ⟨gb675, 0, none⟩ = some (.int .i64 a0_0) := (blk_cell BK675.out 0).trans rfl; have hcz12_1 : w9.cell? ⟨gb675, 1, none⟩ = some (.int .u64 a0_1) := (blk_cell BK675.out 1).trans rfl; have hcz12_2 : w9.cell? ⟨gb675, 2, none⟩ = some (.int .u64 a0_2) := (blk_cell BK675.out 2).trans rfl; have hfz12_0 := blk_frozen BK675.out 0; have hfz12_1 := blk_frozen BK675.out 1; have hfz12_2 := blk_frozen BK675.out 2; have hnb13 := NB676_677.out; have hnc13 := NB677_676.out; have hcz14_0 : w9.cell? ⟨gb676, 0, none⟩ = some (.int .i64 a1_0) := (blk_cell BK676.out 0).trans rfl; have hcz14_1 : w9.cell? ⟨gb676, 1, none⟩ = some (.int .u64 a1_1) := (blk_cell BK676.out 1).trans rfl; have hcz14_2 : w9.cell? ⟨gb676, 2, none⟩ = some (.int .u64 a1_2) := (blk_cell BK676.out 2).trans rfl; have hfz14_0 := blk_frozen BK676.out 0; have hfz14_1 := blk_frozen BK676.out 1; have hfz14_2 := blk_frozen BK676.out 2) | ((with_reducible refine gate_callee (f := 66) rfl ?_); refine goesL_ (some 12) rfl rfl Tryd.func66 (by kernel_rfl) rfl #[.agg #[.int .i64 a0_0, .int .u64 a0_1, .int .u64 a0_2], .agg #[.int .i64 a1_0, .int .u64 a1_1, .int .u64 a1_2]] rfl (by (try simp only [List.map_toArray, List.map_cons, List.map_nil]); rfl) ?_; (with_reducible refine (bits_alike.calls k a0_0 a0_1 a0_2 a1_0 a1_1 a1_2 true _ A3.out).mono ?_); rintro e w15 ⟨rfl, hb⟩; refine ⟨_, rfl, ?_⟩; replace BK675 := bk1 BK675 hb; replace BK676 := bk1 BK676 hb; replace BK677 := bk1 BK677 hb; replace HB := hb1 HB hb; (try clear hb)))
  replace BK675 := bkd BK675
  replace BK676 := bkd BK676
  replace BK677 := bkd BK677
  replace HB := hbd HB
  refine start_ (n := 12) (S := fun w' => w'.cell? ⟨gb675, 0, none⟩ = some (.int .i64 a0_0) ∧ w'.cell? ⟨gb675, 1, none⟩ = some (.int .u64 a0_1) ∧ w'.cell? ⟨gb675, 2, none⟩ = some (.int .u64 a0_2) ∧ w'.cell? ⟨gb676, 0, none⟩ = some (.int .i64 a1_0) ∧ w'.cell? ⟨gb676, 1, none⟩ = some (.int .u64 a1_1) ∧ w'.cell? ⟨gb676, 2, none⟩ = some (.int .u64 a1_2)) (ds := []) (tb 12 0) (by kernel_rfl) rfl (by kernel_rfl) (c3 BK675 (d3 BK676)) (fun hHeld => ?_); refine with_tabW bits_Resolve.tab3 bits_Resolve.bits3 (fun HT_ HW_ => ?_)
  generalize w15.drew = w16 at BK675 BK676 BK677 HB hHeld ⊢
  refine pA 0 15 (tb 12 1) HT_ ?_
  refine pA 2 17 (tb 12 5) HT_ ?_
  refine pA 5 20 (tb 12 37) HT_ ?_
  refine pA 7 22 (tb 12 165) HT_ ?_
  refine tA 1 16 (tb 12 167) HT_ HW_ hHeld ?_
  refine tA 3 18 (tb 12 175) HT_ HW_ hHeld ?_
  refine pA 4 19 (tb 12 191) HT_ ?_
  refine pA 10 5 (tb 12 1215) HT_ ?_
  refine tA 6 21 (tb 12 1279) HT_ HW_ hHeld ?_
  refine tA 8 23 (tb 12 1535) HT_ HW_ hHeld ?_
  refine pA 9 24 (tb 12 2047) HT_ ?_
  refine pA 11 6 (tb 12 4095) HT_ ?_
  refine done_ (done_of HT_.out (by kernel_rfl)) ?_
  obtain ⟨hcz17_0, hcz17_1, hcz17_2⟩ := sq_cells3 (W := w16) (g := gb675) BK675.out; obtain ⟨hfz17_0, hfz17_1, hfz17_2⟩ := sq_frozen3 BK675.out
  obtain ⟨hcz18_0, hcz18_1, hcz18_2⟩ := sq_cells3 (W := w16) (g := gb676) BK676.out; obtain ⟨hfz18_0, hfz18_1, hfz18_2⟩ := sq_frozen3 BK676.out
  try go_wp2
  replace BK675 := bkd BK675
  replace BK676 := bkd BK676
  replace BK677 := bkd BK677
  replace HB := hbd HB
  refine start_ (n := 18) (S := fun w' => w'.cell? ⟨gb675, 0, none⟩ = some (.int .i64 a0_0) ∧ w'.cell? ⟨gb675, 1, none⟩ = some (.int .u64 a0_1) ∧ w'.cell? ⟨gb675, 2, none⟩ = some (.int .u64 a0_2)) (ds := []) (tb 18 0) (by kernel_rfl) rfl (by kernel_rfl) (d3 BK675) (fun hHeld => ?_); refine with_tabW bits_Resolve.tab7 bits_Resolve.bits7 (fun HT_ HW_ => ?_)
  generalize w16.drew = w19 at BK675 BK676 BK677 HB hHeld ⊢
  refine pA 0 70 (tb 18 1) HT_ ?_
  refine pA 2 72 (tb 18 5) HT_ ?_
  refine pA 3 73 (tb 18 13) HT_ ?_
  refine pA 4 74 (tb 18 29) HT_ ?_
  refine pA 5 75 (tb 18 61) HT_ ?_
  refine pA 9 79 (tb 18 573) HT_ ?_
  refine pA 10 80 (tb 18 1597) HT_ ?_
  refine pA 11 81 (tb 18 3645) HT_ ?_
  refine pA 12 82 (tb 18 7741) HT_ ?_
  refine tA 1 71 (tb 18 7743) HT_ HW_ hHeld ?_
  refine tA 6 76 (tb 18 7807) HT_ HW_ hHeld ?_
  refine tA 13 83 (tb 18 15999) HT_ HW_ hHeld ?_
  refine oA 7 (some 77) (tb 18 16127) HT_ (fun K hK => ?_)
  refine gA Tryd.func58 #[.int .i64 a0_0] ?_
  with_reducible refine (bits_mask.calls a0_0 t679 _ A5.out).mono ?_
  rintro e w' ⟨rfl, ⟨nd, rfl⟩⟩
  refine ⟨_, rfl, ?_⟩
  refine hK.out _ _ (d3 BK675) (fun hHeld => ?_)
  clear hK K
  refine nA ?_
  refine pA 8 78 (tb 18 16383) HT_ ?_
  refine oA 14 (some 84) (tb 18 32767) HT_ (fun K hK => ?_)
  refine gA Tryd.func58 #[.int .i64 a0_0] ?_
  with_reducible refine (bits_mask.calls a0_0 t680 _ A6.out).mono ?_
  rintro e w' ⟨rfl, ⟨nd, rfl⟩⟩
  refine ⟨_, rfl, ?_⟩
  refine hK.out _ _ (d3 BK675) (fun hHeld => ?_)
  clear hK K
  refine nA ?_
  refine pA 15 85 (tb 18 65535) HT_ ?_
  refine pA 16 86 (tb 18 131071) HT_ ?_
  refine oA 17 (none) (tb 18 262143) HT_ (fun K hK => ?_)
  have hs20 : w19.cell? ⟨gb677, 0, none⟩ = some (.int .i64 0) := (blk_cell BK677.out 0).trans rfl
  have hfs20 := blk_frozen BK677.out 0
  have hns20_0 := NB675_677.out
  have hns20_1 := NB676_677.out
  have hms20_0 := NB677_675.out
  have hms20_1 := NB677_676.out
  have hs21 : w19.cell? ⟨gb677, 1, none⟩ = some (.int .u64 0) := (blk_cell BK677.out 1).trans rfl
  have hfs21 := blk_frozen BK677.out 1
  have hns21_0 := NB675_677.out
  have hns21_1 := NB676_677.out
  have hms21_0 := NB677_675.out
  have hms21_1 := NB677_676.out
  have hs22 : w19.cell? ⟨gb677, 2, none⟩ = some (.int .u64 0) := (blk_cell BK677.out 2).trans rfl
  have hfs22 := blk_frozen BK677.out 2
  have hns22_0 := NB675_677.out
  have hns22_1 := NB676_677.out
  have hms22_0 := NB677_675.out
  have hms22_1 := NB677_676.out
  refine skip_ (w1 := ?_) (by rfl) rfl ?_ ?_
  rotate_left
  ·go_simp
   rfl
  refine hK.out _ _ ⟨((cell_far (p := ⟨gb677, _, none⟩) NB675_677.out _).trans (((cell_far (p := ⟨gb677, _, none⟩) NB675_677.out _).trans (((cell_far (p := ⟨gb677, _, none⟩) NB675_677.out _).trans (hHeld.1)))))), ((cell_far (p := ⟨gb677, _, none⟩) NB675_677.out _).trans (((cell_far (p := ⟨gb677, _, none⟩) NB675_677.out _).trans (((cell_far (p := ⟨gb677, _, none⟩) NB675_677.out _).trans (hHeld.2.1)))))), ((cell_far (p := ⟨gb677, _, none⟩) NB675_677.out _).trans (((cell_far (p := ⟨gb677, _, none⟩) NB675_677.out _).trans (((cell_far (p := ⟨gb677, _, none⟩) NB675_677.out _).trans (hHeld.2.2))))))⟩ (fun hHeld => ?_)
  clear hK K
  refine done_ (done_of HT_.out (by kernel_rfl)) ?_
  try go_wp2
  refine bodyPost_ret (results_cell_row rfl _ _ gb677 24 #[.int .i64 a0_0, .int .u64 (Go.bits .and .u64 (Go.bits .or .u64 (Go.bits .or .u64 (Go.bits .or .u64 (Go.bits .and .u64 a0_1 (Go.bits .andNot .u64 a1_2 a1_1)) (Go.bits .and .u64 a1_1 (Go.bits .andNot .u64 a0_2 a0_1))) (Go.bits .and .u64 a0_1 a1_1)) (Go.bits .andNot .u64 (Go.bits .or .u64 (Go.bits .xor .u64 a0_1 a1_1) (Go.bits .xor .u64 a0_2 a1_2)) (Go.bits .or .u64 (Go.bits .andNot .u64 a0_2 a0_1) (Go.bits .andNot .u64 a1_2 a1_1)))) t679), .int .u64 (Go.bits .and .u64 (Go.bits .or .u64 (Go.bits .or .u64 (Go.bits .or .u64 (Go.bits .and .u64 a0_2 (Go.bits .andNot .u64 a1_2 a1_1)) (Go.bits .and .u64 a1_2 (Go.bits .andNot .u64 a0_2 a0_1))) (Go.bits .and .u64 a0_2 a1_2)) (Go.bits .andNot .u64 (Go.bits .or .u64 (Go.bits .xor .u64 a0_1 a1_1) (Go.bits .xor .u64 a0_2 a1_2)) (Go.bits .or .u64 (Go.bits .andNot .u64 a0_2 a0_1) (Go.bits .andNot .u64 a1_2 a1_1)))) t680)] (0, 0) _ rfl (by refine blk_put (cs := #[.int .i64 a0_0, .int .u64 (Go.bits .and .u64 (Go.bits .or .u64 (Go.bits .or .u64 (Go.bits .or .u64 (Go.bits .and .u64 a0_1 (Go.bits .andNot .u64 a1_2 a1_1)) (Go.bits .and .u64 a1_1 (Go.bits .andNot .u64 a0_2 a0_1))) (Go.bits .and .u64 a0_1 a1_1)) (Go.bits .andNot .u64 (Go.bits .or .u64 (Go.bits .xor .u64 a0_1 a1_1) (Go.bits .xor .u64 a0_2 a1_2)) (Go.bits .or .u64 (Go.bits .andNot .u64 a0_2 a0_1) (Go.bits .andNot .u64 a1_2 a1_1)))) t679), .int .u64 0]) ?_ 2 _ rfl; refine blk_put (cs := #[.int .i64 a0_0, .int .u64 0, .int .u64 0]) ?_ 1 _ rfl; refine blk_put (cs := #[.int .i64 0, .int .u64 0, .int .u64 0]) ?_ 0 _ rfl; (with_reducible repeat (refine blk_drewN ?_ _)); exact BK677.out) Tryd.underlying24 rfl (by kernel_rfl)) rfl ?_
  exact ⟨by rfl, by repeat (with_reducible first | exact HB.out | apply pw_below_drewN | refine below_set ?_ GE677.out)⟩
 ·replace c4 := Bool.eq_false_iff.mpr c4
  subst c4
  have H1 : (some (0, 0, 0)) = some (r1, r2, r3) := by rw [if_neg (show ¬ (false = true) by decide)] at H; exact H
  clear H
  have H := H1
  clear H1
  simp only [Option.some.injEq, Prod.mk.injEq] at H
  obtain ⟨rfl, rfl, rfl⟩ := H
  go_enter Tryd.func44, Tryd.ntmps44
  go_wp2_with (first | ((with_reducible refine gate_dst (N := 2) rfl ?_); refine box_event ?hg (N := 2) ?hd (cs := #[.int .i64 a0_0, .int .u64 a0_1, .int .u64 a0_2]) (t := 24) ?hr ?_; (case hd => rfl); (case hg => rfl); (case hr => (go_simp; done)); intro gb675 hg w23 hbox hb; have BK675 := Aside0.mk (hbox); have GW675 := ge1 HB hg; have GE675 := ge1 HB hg; replace HB := hb1 HB hb; clear hb hbox hg) | ((with_reducible refine gate_dst (N := 3) rfl ?_); refine box_event ?hg (N := 3) ?hd (cs := #[.int .i64 a1_0, .int .u64 a1_1, .int .u64 a1_2]) (t := 24) ?hr ?_; (case hd => rfl); (case hg => rfl); (case hr => (go_simp; done)); intro gb676 hg w24 hbox hb; have BK676 := Aside0.mk (hbox); have GW676 := ge1 HB hg; have GE676 := ge1 HB hg; replace HB := hb1 HB hb; have NB675_676 := Aside0.mk ((by rw [hg]; exact Nat.ne_of_lt (blk_lt BK675.out) : gb675 ≠ gb676)); have NB676_675 := Aside0.mk ((by rw [hg]; exact Nat.ne_of_gt (blk_lt BK675.out) : gb676 ≠ gb675)); replace BK675 := bk1 BK675 hb; clear hb hbox hg) | ((with_reducible refine gate_dst (N := 4) rfl ?_); refine box_event ?hg (N := 4) ?hd (cs := #[.int .i64 0, .int .u64 0, .int .u64 0]) (t := 24) ?hr ?_; (case hd => rfl); (case hg => rfl); (case hr => (go_simp; done)); intro gb677 hg w25 hbox hb; have BK677 := Aside0.mk (hbox); have GW677 := ge1 HB hg; have GE677 := ge1 HB hg; replace HB := hb1 HB hb; have NB675_677 := Aside0.mk ((by rw [hg]; exact Nat.ne_of_lt (blk_lt BK675.out) : gb675 ≠ gb677)); have NB677_675 := Aside0.mk ((by rw [hg]; exact Nat.ne_of_gt (blk_lt BK675.out) : gb677 ≠ gb675)); replace BK675 := bk1 BK675 hb; have NB676_677 := Aside0.mk ((by rw [hg]; exact Nat.ne_of_lt (blk_lt BK676.out) : gb676 ≠ gb677)); have NB677_676 := Aside0.mk ((by rw [hg]; exact Nat.ne_of_gt (blk_lt BK676.out) : gb677 ≠ gb676)); replace BK676 := bk1 BK676 hb; clear hb hbox hg; have hnb26 := NB675_676.out; have hnc26 := NB676_675.out; have hnb27 := NB675_677.out; have hnc27 := NB677_675.out; have hcz28_0 : w25.cell? ⟨gb675, 0, none⟩ = some (.int .i64 a0_0) := (blk_cell BK675.out 0).trans rfl; have hcz28_1 : w25.cell? ⟨gb675, 1, none⟩ = some (.int .u64 a0_1) := (blk_cell BK675.out 1).trans rfl; have hcz28_2 : w25.cell? ⟨gb675, 2, none⟩ = some (.int .u64 a0_2) := (blk_cell BK675.out 2).trans rfl; have hfz28_0 := blk_frozen BK675.out 0; have hfz28_1 := blk_frozen BK675.out 1; have hfz28_2 := blk_frozen BK675.out 2; have hnb29 := NB676_677.out; have hnc29 := NB677_676.out; have hcz30_0 : w25.cell? ⟨gb676, 0, none⟩ = some (.int .i64 a1_0) := (blk_cell BK676.out 0).trans rfl; have hcz30_1 : w25.cell? ⟨gb676, 1, none⟩ = some (.int .u64 a1_1) := (blk_cell BK676.out 1).trans rfl; have hcz30_2 : w25.cell? ⟨gb676, 2, none⟩ = some (.int .u64 a1_2) := (blk_cell BK676.out 2).trans rfl; have hfz30_0 := blk_frozen BK676.out 0; have hfz30_1 := blk_frozen BK676.out 1; have hfz30_2 := blk_frozen BK676.out 2) | ((with_reducible refine gate_callee (f := 66) rfl ?_); refine goesL_ (some 12) rfl rfl Tryd.func66 (by kernel_rfl) rfl #[.agg #[.int .i64 a0_0, .int .u64 a0_1, .int .u64 a0_2], .agg #[.int .i64 a1_0, .int .u64 a1_1, .int .u64 a1_2]] rfl (by (try simp only [List.map_toArray, List.map_cons, List.map_nil]); rfl) ?_; (with_reducible refine (bits_alike.calls k a0_0 a0_1 a0_2 a1_0 a1_1 a1_2 false _ A3.out).mono ?_); rintro e w31 ⟨rfl, hb⟩; refine ⟨_, rfl, ?_⟩; replace BK675 := bk1 BK675 hb; replace BK676 := bk1 BK676 hb; replace BK677 := bk1 BK677 hb; replace HB := hb1 HB hb; (try clear hb); have hcz32_0 : w31.cell? ⟨gb677, 0, none⟩ = some (.int .i64 0) := (blk_cell BK677.out 0).trans rfl; have hcz32_1 : w31.cell? ⟨gb677, 1, none⟩ = some (.int .u64 0) := (blk_cell BK677.out 1).trans rfl; have hcz32_2 : w31.cell? ⟨gb677, 2, none⟩ = some (.int .u64 0) := (blk_cell BK677.out 2).trans rfl; have hfz32_0 := blk_frozen BK677.out 0; have hfz32_1 := blk_frozen BK677.out 1; have hfz32_2 := blk_frozen BK677.out 2))
  refine bodyPost_ret (results_cell_row rfl _ _ gb677 24 #[.int .i64 0, .int .u64 0, .int .u64 0] (0, 0) _ rfl (by refine blk_put (cs := #[.int .i64 0, .int .u64 0, .int .u64 0]) ?_ 2 _ rfl; refine blk_put (cs := #[.int .i64 0, .int .u64 0, .int .u64 0]) ?_ 1 _ rfl; refine blk_put (cs := #[.int .i64 0, .int .u64 0, .int .u64 0]) ?_ 0 _ rfl; exact BK677.out) Tryd.underlying24 rfl (by kernel_rfl)) rfl ?_
  exact ⟨by rfl, by repeat (with_reducible first | exact HB.out | refine below_set ?_ GE677.out)⟩
end Go.Proofs.YtfigblfjogpojaaDoor.PBits
end
section
namespace Go.Proofs.YtfigblfjogpojaaDoor.PBits
open Go.RowKit Go.Proofs.YtfigblfjogpojaaDoorW.PrintWords Go.Proofs.YtfigblfjogpojaaDoorW.PrintLast Go.Proofs.YtfigblfjogpojaaDoorW.PrintMore
attribute [local go_sem] max2_int min2_int max_two min_two max_three min_three max_four min_four
set_option linter.unusedVariables false
set_option linter.unusedSimpArgs false
def bits_make3.f (a0 : Int) (a1 : Int) (a2 : Int) : Option (Int × Int × Int) := (bits_mask.f a0).bind fun t682 => ((bits_mask.f a0).bind fun t683 => (some (a0, Go.bits .and .u64 (Go.bits .or .u64 a1 a2) t682, Go.bits .and .u64 a2 t683)))
set_option maxHeartbeats 8000000 in
set_option maxRecDepth 100000 in
theorem bits_make3.calls (a0 : Int) (a1 : Int) (a2 : Int) (r1 : Int) (r2 : Int) (r3 : Int) (w : World) (h : bits_make3.f a0 a1 a2 = some (r1, r2, r3)) :
  Calls Tryd.prog 67 #[.int .i64 a0, .int .u64 a1, .int .u64 a2] w fun e w' => e = .returned (.agg #[.int .i64 r1, .int .u64 r2, .int .u64 r3]) ∧ Below w.heap.size w w' := by
 have hu24 := Tryd.underlying24
 have HB := Aside0.mk (Below.refl w.heap.size w)
 have H : ((bits_mask.f a0).bind fun t682 => ((bits_mask.f a0).bind fun t683 => (some (a0, Go.bits .and .u64 (Go.bits .or .u64 a1 a2) t682, Go.bits .and .u64 a2 t683)))) = some (r1, r2, r3) := h
 clear h
 replace H := Option.bind_eq_some_iff.mp H
 obtain ⟨t682, A40, H⟩ := H
 replace H : ((bits_mask.f a0).bind fun t683 => (some (a0, Go.bits .and .u64 (Go.bits .or .u64 a1 a2) t682, Go.bits .and .u64 a2 t683))) = some (r1, r2, r3) := H
 have A4 := Aside0.mk A40
 clear A40
 replace H := Option.bind_eq_some_iff.mp H
 obtain ⟨t683, A50, H⟩ := H
 replace H : (some (a0, Go.bits .and .u64 (Go.bits .or .u64 a1 a2) t682, Go.bits .and .u64 a2 t683)) = some (r1, r2, r3) := H
 have A5 := Aside0.mk A50
 clear A50
 simp only [Option.some.injEq, Prod.mk.injEq] at H
 obtain ⟨rfl, rfl, rfl⟩ := H
 go_enter Tryd.func67, Tryd.ntmps67
 go_wp2_with (first | ((with_reducible refine gate_dst (N := 6) rfl ?_); refine box_event ?hg (N := 6) ?hd (cs := #[.int .i64 0, .int .u64 0, .int .u64 0]) (t := 24) ?hr ?_; (case hd => rfl); (case hg => rfl); (case hr => (go_simp; done)); intro gb681 hg w6 hbox hb; have BK681 := Aside0.mk (hbox); have GW681 := ge1 HB hg; have GE681 := ge1 HB hg; replace HB := hb1 HB hb; clear hb hbox hg) | ((with_reducible refine gate_callee (f := 58) rfl ?_); refine goesL_ (some 12) rfl rfl Tryd.func58 (by kernel_rfl) rfl #[.int .i64 a0] rfl (by (try simp only [List.map_toArray, List.map_cons, List.map_nil]); rfl) ?_; (with_reducible refine (bits_mask.calls a0 t682 _ A4.out).mono ?_); rintro e w' ⟨rfl, ⟨nd, rfl⟩⟩; refine ⟨_, rfl, ?_⟩; (try (rw [drewN_self w6]; generalize hq_ : World.drewN w6 _ = w6; have n0_ : Aside0 (w6.heap[gb681]? = some (.cells #[.int .i64 0, .int .u64 0, .int .u64 0] 24 (0, 0))) := ⟨by rw [← hq_]; exact (by (with_reducible repeat (refine blk_drewN ?_ _)); exact BK681.out)⟩; have n1_ : Aside0 (Below w.heap.size w w6) := ⟨by rw [← hq_]; exact (by repeat (with_reducible first | exact HB.out | apply pw_below_drewN))⟩; clear BK681 HB hq_; have BK681 := n0_; have HB := n1_; clear n0_ n1_))) | ((with_reducible refine gate_callee (f := 58) rfl ?_); refine goesL_ (some 16) rfl rfl Tryd.func58 (by kernel_rfl) rfl #[.int .i64 a0] rfl (by (try simp only [List.map_toArray, List.map_cons, List.map_nil]); rfl) ?_; (with_reducible refine (bits_mask.calls a0 t683 _ A5.out).mono ?_); rintro e w' ⟨rfl, ⟨nd, rfl⟩⟩; refine ⟨_, rfl, ?_⟩; (try (rw [drewN_self w6]; generalize hq_ : World.drewN w6 _ = w6; have n0_ : Aside0 (w6.heap[gb681]? = some (.cells #[.int .i64 0, .int .u64 0, .int .u64 0] 24 (0, 0))) := ⟨by rw [← hq_]; exact (by (with_reducible repeat (refine blk_drewN ?_ _)); exact BK681.out)⟩; have n1_ : Aside0 (Below w.heap.size w w6) := ⟨by rw [← hq_]; exact (by repeat (with_reducible first | exact HB.out | apply pw_below_drewN))⟩; clear BK681 HB hq_; have BK681 := n0_; have HB := n1_; clear n0_ n1_)); have hcz7_0 : w6.cell? ⟨gb681, 0, none⟩ = some (.int .i64 0) := (blk_cell BK681.out 0).trans rfl; have hcz7_1 : w6.cell? ⟨gb681, 1, none⟩ = some (.int .u64 0) := (blk_cell BK681.out 1).trans rfl; have hcz7_2 : w6.cell? ⟨gb681, 2, none⟩ = some (.int .u64 0) := (blk_cell BK681.out 2).trans rfl; have hfz7_0 := blk_frozen BK681.out 0; have hfz7_1 := blk_frozen BK681.out 1; have hfz7_2 := blk_frozen BK681.out 2))
 refine bodyPost_ret (results_cell_row rfl _ _ gb681 24 #[.int .i64 a0, .int .u64 (Go.bits .and .u64 (Go.bits .or .u64 a1 a2) t682), .int .u64 (Go.bits .and .u64 a2 t683)] (0, 0) _ rfl (by refine blk_put (cs := #[.int .i64 a0, .int .u64 (Go.bits .and .u64 (Go.bits .or .u64 a1 a2) t682), .int .u64 0]) ?_ 2 _ rfl; refine blk_put (cs := #[.int .i64 a0, .int .u64 0, .int .u64 0]) ?_ 1 _ rfl; refine blk_put (cs := #[.int .i64 0, .int .u64 0, .int .u64 0]) ?_ 0 _ rfl; exact BK681.out) Tryd.underlying24 rfl (by kernel_rfl)) rfl ?_
 exact ⟨by rfl, by repeat (with_reducible first | exact HB.out | refine below_set ?_ GE681.out)⟩
end Go.Proofs.YtfigblfjogpojaaDoor.PBits
end
section
namespace Go.Proofs.YtfigblfjogpojaaDoor.PBits
open Go.RowKit Go.Proofs.YtfigblfjogpojaaDoorW.PrintWords Go.Proofs.YtfigblfjogpojaaDoorW.PrintLast Go.Proofs.YtfigblfjogpojaaDoorW.PrintMore
attribute [local go_sem] max2_int min2_int max_two min_two max_three min_three max_four min_four
set_option linter.unusedVariables false
set_option linter.unusedSimpArgs false
def bits_Cond.j0 : Nat → Bool → Int → Int → Int → Int → Int → Int → Int → Int → Int → Option (Int × Int × Int)
 | 0, _, _, _, _, _, _, _, _, _, _ => none
 | k + 1, x16, x685000, x685001, x685002, x686000, x686001, x686002, x687000, x687001, x687002 => if x16 = true then (some (0, 0, 0)) else ((bits_True.f k x685000 x685001 x685002).bind fun t693 => (if t693 = 1 then (some (x686000, x686001, x686002)) else (if t693 = 0 then (some (x687000, x687001, x687002)) else ((bits_make3.f x686000 (Go.bits .andNot .u64 (Go.bits .andNot .u64 (Go.bits .and .u64 x686001 x687001) x686002) x687002) (Go.bits .or .u64 (Go.bits .or .u64 x686002 x687002) (Go.bits .xor .u64 x686001 x687001))).bind fun bt694 => (some (bt694.1, bt694.2.1, bt694.2.2))))))
def bits_Cond.f (k : Nat) (a0_0 : Int) (a0_1 : Int) (a0_2 : Int) (a1_0 : Int) (a1_1 : Int) (a1_2 : Int) (a2_0 : Int) (a2_1 : Int) (a2_2 : Int) : Option (Int × Int × Int) := (bits_valid.f k (([(⟨a0_0, a0_1, a0_2⟩ : S24)] : List (S24)))).bind fun t691 => (if t691 = true then ((bits_alike.f k a1_0 a1_1 a1_2 a2_0 a2_1 a2_2).bind fun t692 => (bits_Cond.j0 k (!t692) a0_0 a0_1 a0_2 a1_0 a1_1 a1_2 a2_0 a2_1 a2_2)) else (bits_Cond.j0 k true a0_0 a0_1 a0_2 a1_0 a1_1 a1_2 a2_0 a2_1 a2_2))
set_option maxHeartbeats 8000000 in
set_option maxRecDepth 100000 in
theorem bits_Cond.calls (k : Nat) (a0_0 : Int) (a0_1 : Int) (a0_2 : Int) (a1_0 : Int) (a1_1 : Int) (a1_2 : Int) (a2_0 : Int) (a2_1 : Int) (a2_2 : Int) (r1 : Int) (r2 : Int) (r3 : Int) (w : World) (h : bits_Cond.f k a0_0 a0_1 a0_2 a1_0 a1_1 a1_2 a2_0 a2_1 a2_2 = some (r1, r2, r3)) :
  Calls Tryd.prog 45 #[.agg #[.int .i64 a0_0, .int .u64 a0_1, .int .u64 a0_2], .agg #[.int .i64 a1_0, .int .u64 a1_1, .int .u64 a1_2], .agg #[.int .i64 a2_0, .int .u64 a2_1, .int .u64 a2_2]] w fun e w' => e = .returned (.agg #[.int .i64 r1, .int .u64 r2, .int .u64 r3]) ∧ Below w.heap.size w w' := by
 have hu24 := Tryd.underlying24
 have HB := Aside0.mk (Below.refl w.heap.size w)
 have H : ((bits_valid.f k ([(⟨a0_0, a0_1, a0_2⟩ : S24)] : List (S24))).bind fun t691 => (if t691 = true then ((bits_alike.f k a1_0 a1_1 a1_2 a2_0 a2_1 a2_2).bind fun t692 => (bits_Cond.j0 k (!t692) a0_0 a0_1 a0_2 a1_0 a1_1 a1_2 a2_0 a2_1 a2_2)) else (bits_Cond.j0 k true a0_0 a0_1 a0_2 a1_0 a1_1 a1_2 a2_0 a2_1 a2_2))) = some (r1, r2, r3) := h
 clear h
 have HC4 := Aside0.mk H
 clear H
 go_enter Tryd.func45, Tryd.ntmps45
 go_upto_region 1 with (first | ((with_reducible refine gate_dst (N := 3) rfl ?_); refine box_event ?hg (N := 3) ?hd (cs := #[.int .i64 a0_0, .int .u64 a0_1, .int .u64 a0_2]) (t := 24) ?hr ?_; (case hd => rfl); (case hg => rfl); (case hr => (go_simp; done)); intro gb684 hg w5 hbox hb; have BK684 := Aside0.mk (hbox); have GW684 := ge1 HB hg; have GE684 := ge1 HB hg; replace HB := hb1 HB hb; clear hb hbox hg) | ((with_reducible refine gate_dst (N := 4) rfl ?_); refine box_event ?hg (N := 4) ?hd (cs := #[.int .i64 a1_0, .int .u64 a1_1, .int .u64 a1_2]) (t := 24) ?hr ?_; (case hd => rfl); (case hg => rfl); (case hr => (go_simp; done)); intro gb685 hg w6 hbox hb; have BK685 := Aside0.mk (hbox); have GW685 := ge1 HB hg; have GE685 := ge1 HB hg; replace HB := hb1 HB hb; have NB684_685 := Aside0.mk ((by rw [hg]; exact Nat.ne_of_lt (blk_lt BK684.out) : gb684 ≠ gb685)); have NB685_684 := Aside0.mk ((by rw [hg]; exact Nat.ne_of_gt (blk_lt BK684.out) : gb685 ≠ gb684)); replace BK684 := bk1 BK684 hb; clear hb hbox hg) | ((with_reducible refine gate_dst (N := 5) rfl ?_); refine box_event ?hg (N := 5) ?hd (cs := #[.int .i64 a2_0, .int .u64 a2_1, .int .u64 a2_2]) (t := 24) ?hr ?_; (case hd => rfl); (case hg => rfl); (case hr => (go_simp; done)); intro gb686 hg w7 hbox hb; have BK686 := Aside0.mk (hbox); have GW686 := ge1 HB hg; have GE686 := ge1 HB hg; replace HB := hb1 HB hb; have NB684_686 := Aside0.mk ((by rw [hg]; exact Nat.ne_of_lt (blk_lt BK684.out) : gb684 ≠ gb686)); have NB686_684 := Aside0.mk ((by rw [hg]; exact Nat.ne_of_gt (blk_lt BK684.out) : gb686 ≠ gb684)); replace BK684 := bk1 BK684 hb; have NB685_686 := Aside0.mk ((by rw [hg]; exact Nat.ne_of_lt (blk_lt BK685.out) : gb685 ≠ gb686)); have NB686_685 := Aside0.mk ((by rw [hg]; exact Nat.ne_of_gt (blk_lt BK685.out) : gb686 ≠ gb685)); replace BK685 := bk1 BK685 hb; clear hb hbox hg) | ((with_reducible refine gate_dst (N := 6) rfl ?_); refine box_event ?hg (N := 6) ?hd (cs := #[.int .i64 0, .int .u64 0, .int .u64 0]) (t := 24) ?hr ?_; (case hd => rfl); (case hg => rfl); (case hr => (go_simp; done)); intro gb687 hg w8 hbox hb; have BK687 := Aside0.mk (hbox); have GW687 := ge1 HB hg; have GE687 := ge1 HB hg; replace HB := hb1 HB hb; have NB684_687 := Aside0.mk ((by rw [hg]; exact Nat.ne_of_lt (blk_lt BK684.out) : gb684 ≠ gb687)); have NB687_684 := Aside0.mk ((by rw [hg]; exact Nat.ne_of_gt (blk_lt BK684.out) : gb687 ≠ gb684)); replace BK684 := bk1 BK684 hb; have NB685_687 := Aside0.mk ((by rw [hg]; exact Nat.ne_of_lt (blk_lt BK685.out) : gb685 ≠ gb687)); have NB687_685 := Aside0.mk ((by rw [hg]; exact Nat.ne_of_gt (blk_lt BK685.out) : gb687 ≠ gb685)); replace BK685 := bk1 BK685 hb; have NB686_687 := Aside0.mk ((by rw [hg]; exact Nat.ne_of_lt (blk_lt BK686.out) : gb686 ≠ gb687)); have NB687_686 := Aside0.mk ((by rw [hg]; exact Nat.ne_of_gt (blk_lt BK686.out) : gb687 ≠ gb686)); replace BK686 := bk1 BK686 hb; clear hb hbox hg))
 (try simp only [Act.put, List.setIfInBounds_toArray, List.set_cons_zero, List.set_cons_succ])
 go_cut [16] (fun v16 wc => ∃ (kq : Nat) (x16_3 : Bool), v16 = .bool x16_3 ∧ Aside0 (bits_Cond.j0 kq x16_3 a0_0 a0_1 a0_2 a1_0 a1_1 a1_2 a2_0 a2_1 a2_2 = some (r1, r2, r3)) ∧ Aside0 (kq ≤ k) ∧ Aside0 (wc.heap[gb684]? = some (.cells #[.int .i64 a0_0, .int .u64 a0_1, .int .u64 a0_2] 24 (0, 0))) ∧ Aside0 (wc.heap[gb685]? = some (.cells #[.int .i64 a1_0, .int .u64 a1_1, .int .u64 a1_2] 24 (0, 0))) ∧ Aside0 (wc.heap[gb686]? = some (.cells #[.int .i64 a2_0, .int .u64 a2_1, .int .u64 a2_2] 24 (0, 0))) ∧ Aside0 (wc.heap[gb687]? = some (.cells #[.int .i64 0, .int .u64 0, .int .u64 0] 24 (0, 0))) ∧ Aside0 (Below w.heap.size w wc))
 case first =>
  have H := HC4.out
  clear HC4
  obtain ⟨y688, hy688⟩ : ∃ y_ : List (S24), y_ = ([(⟨a0_0, a0_1, a0_2⟩ : S24)] : List (S24)) := ⟨_, rfl⟩
  replace H : ((bits_valid.f k y688).bind fun t691 => (if t691 = true then ((bits_alike.f k a1_0 a1_1 a1_2 a2_0 a2_1 a2_2).bind fun t692 => (bits_Cond.j0 k (!t692) a0_0 a0_1 a0_2 a1_0 a1_1 a1_2 a2_0 a2_1 a2_2)) else (bits_Cond.j0 k true a0_0 a0_1 a0_2 a1_0 a1_1 a1_2 a2_0 a2_1 a2_2))) = some (r1, r2, r3) := by (rw [hy688]; with_reducible exact H)
  have Ny688 := Aside0.mk hy688
  clear hy688
  replace H := Option.bind_eq_some_iff.mp H
  obtain ⟨t691, A90, H⟩ := H
  replace H : (if t691 = true then ((bits_alike.f k a1_0 a1_1 a1_2 a2_0 a2_1 a2_2).bind fun t692 => (bits_Cond.j0 k (!t692) a0_0 a0_1 a0_2 a1_0 a1_1 a1_2 a2_0 a2_1 a2_2)) else (bits_Cond.j0 k true a0_0 a0_1 a0_2 a1_0 a1_1 a1_2 a2_0 a2_1 a2_2)) = some (r1, r2, r3) := H
  have A9 := Aside0.mk A90
  clear A90
  by_cases c10 : t691 = true
  ·subst c10
   have H1 : ((bits_alike.f k a1_0 a1_1 a1_2 a2_0 a2_1 a2_2).bind fun t692 => (bits_Cond.j0 k (!t692) a0_0 a0_1 a0_2 a1_0 a1_1 a1_2 a2_0 a2_1 a2_2)) = some (r1, r2, r3) := by rw [if_pos rfl] at H; exact H
   clear H
   have H := H1
   clear H1
   replace H := Option.bind_eq_some_iff.mp H
   obtain ⟨t692, A110, H⟩ := H
   replace H : (bits_Cond.j0 k (!t692) a0_0 a0_1 a0_2 a1_0 a1_1 a1_2 a2_0 a2_1 a2_2) = some (r1, r2, r3) := H
   have A11 := Aside0.mk A110
   clear A110
   have H' := Aside0.mk H
   clear H
   have hnb12 := NB684_685.out
   have hnc12 := NB685_684.out
   have hnb13 := NB684_686.out
   have hnc13 := NB686_684.out
   have hnb14 := NB684_687.out
   have hnc14 := NB687_684.out
   obtain ⟨hcz15_0, hcz15_1, hcz15_2⟩ := sq_cells3 (W := w8) (g := gb684) BK684.out; obtain ⟨hfz15_0, hfz15_1, hfz15_2⟩ := sq_frozen3 BK684.out
   go_wp2_with (first | ((with_reducible refine gate_dst (N := 8) rfl ?_); refine Kd.R_lit k24 _ 24 ?hg (N := 8) ?hd (xs := ([(⟨a0_0, a0_1, a0_2⟩ : S24)] : List (S24))) (inner := [.int .i64 a0_0, .int .u64 a0_1, .int .u64 a0_2]) (ok := fun _ => True) (okp := fun _ => True) ?hr ?hp (fun _ hk => hk) trivial (Below.refl _ _) (Nat.le_refl _) (by simp) ?_; (case hd => rfl); (case hg => rfl); (case hr => (go_simp; done)); (case hp => exact (Reps.c3 (show Kd.M k24 _ _ _ (⟨a0_0, a0_1, a0_2⟩ : S24) [.int .i64 a0_0, .int .u64 a0_1, .int .u64 a0_2] from (k24_mkM _ _ _ (⟨a0_0, a0_1, a0_2⟩ : S24) )) (Reps.none _ _))); intro v689 w16 ho17 hb hg_ hnew_; clear hg_ hnew_; (rw [← Ny688.out] at ho17); have HO690 := Aside0.mk (Kd.R_lower (Kd.R_newB (Kd.R_newB (Kd.R_newB (Kd.R_newB ho17 BK684.out) BK685.out) BK686.out) BK687.out) (below_size HB.out)); replace BK684 := bk1 BK684 hb; replace BK685 := bk1 BK685 hb; replace BK686 := bk1 BK686 hb; replace BK687 := bk1 BK687 hb; replace HB := hb1 HB hb; clear hb ho17; obtain ⟨Ao18, co18, eo18⟩ := Kd.R_slice HO690.out; subst eo18) | ((with_reducible refine gate_callee (f := 56) rfl ?_); refine goesL_ (some 9) rfl rfl Tryd.func56 (by kernel_rfl) rfl #[.slice Ao18 y688.length co18] rfl (by (try simp only [List.map_toArray, List.map_cons, List.map_nil]); rfl) ?_; (with_reducible refine (bits_valid.calls k _ _ y688 true _ ?side1 ?side2 A9.out).mono ?_); (case side1 => repeat (exact (Kd.R_reads' HO690.out).2.2)); (case side2 => exact (Kd.R_reads' HO690.out).2.1); rintro e w19 ⟨rfl, hb⟩; refine ⟨_, rfl, ?_⟩; replace HO690 := Kd.rb1 HO690 hb; replace BK684 := bk1 BK684 hb; replace BK685 := bk1 BK685 hb; replace BK686 := bk1 BK686 hb; replace BK687 := bk1 BK687 hb; replace HB := hb1 HB hb; (try clear hb); have hnb20 := NB685_686.out; have hnc20 := NB686_685.out; have hnb21 := NB685_687.out; have hnc21 := NB687_685.out; have hcz22_0 : w19.cell? ⟨gb685, 0, none⟩ = some (.int .i64 a1_0) := (blk_cell BK685.out 0).trans rfl; have hcz22_1 : w19.cell? ⟨gb685, 1, none⟩ = some (.int .u64 a1_1) := (blk_cell BK685.out 1).trans rfl; have hcz22_2 : w19.cell? ⟨gb685, 2, none⟩ = some (.int .u64 a1_2) := (blk_cell BK685.out 2).trans rfl; have hfz22_0 := blk_frozen BK685.out 0; have hfz22_1 := blk_frozen BK685.out 1; have hfz22_2 := blk_frozen BK685.out 2; have hnb23 := NB686_687.out; have hnc23 := NB687_686.out; have hcz24_0 : w19.cell? ⟨gb686, 0, none⟩ = some (.int .i64 a2_0) := (blk_cell BK686.out 0).trans rfl; have hcz24_1 : w19.cell? ⟨gb686, 1, none⟩ = some (.int .u64 a2_1) := (blk_cell BK686.out 1).trans rfl; have hcz24_2 : w19.cell? ⟨gb686, 2, none⟩ = some (.int .u64 a2_2) := (blk_cell BK686.out 2).trans rfl; have hfz24_0 := blk_frozen BK686.out 0; have hfz24_1 := blk_frozen BK686.out 1; have hfz24_2 := blk_frozen BK686.out 2) | (go_at_call 66; (with_reducible refine (bits_alike.calls k a1_0 a1_1 a1_2 a2_0 a2_1 a2_2 t692 _ A11.out).mono ?_); rintro e w25 ⟨rfl, hb⟩; replace HO690 := Kd.rb1 HO690 hb; replace BK684 := bk1 BK684 hb; replace BK685 := bk1 BK685 hb; replace BK686 := bk1 BK686 hb; replace BK687 := bk1 BK687 hb; replace HB := hb1 HB hb; (try clear hb)))
   go_meet
   case rel => exact ⟨_, (!t692), (by rfl), H', ⟨by omega⟩, ⟨by exact BK684.out⟩, ⟨by exact BK685.out⟩, ⟨by exact BK686.out⟩, ⟨by exact BK687.out⟩, ⟨by repeat (with_reducible exact HB.out)⟩⟩
  ·replace c10 := Bool.eq_false_iff.mpr c10
   subst c10
   have H1 : (bits_Cond.j0 k true a0_0 a0_1 a0_2 a1_0 a1_1 a1_2 a2_0 a2_1 a2_2) = some (r1, r2, r3) := by rw [if_neg (show ¬ (false = true) by decide)] at H; exact H
   clear H
   have H := H1
   clear H1
   have H' := Aside0.mk H
   clear H
   have hnb26 := NB684_685.out
   have hnc26 := NB685_684.out
   have hnb27 := NB684_686.out
   have hnc27 := NB686_684.out
   have hnb28 := NB684_687.out
   have hnc28 := NB687_684.out
   obtain ⟨hcz29_0, hcz29_1, hcz29_2⟩ := sq_cells3 (W := w8) (g := gb684) BK684.out; obtain ⟨hfz29_0, hfz29_1, hfz29_2⟩ := sq_frozen3 BK684.out
   go_wp2_with (first | ((with_reducible refine gate_dst (N := 8) rfl ?_); refine Kd.R_lit k24 _ 24 ?hg (N := 8) ?hd (xs := ([(⟨a0_0, a0_1, a0_2⟩ : S24)] : List (S24))) (inner := [.int .i64 a0_0, .int .u64 a0_1, .int .u64 a0_2]) (ok := fun _ => True) (okp := fun _ => True) ?hr ?hp (fun _ hk => hk) trivial (Below.refl _ _) (Nat.le_refl _) (by simp) ?_; (case hd => rfl); (case hg => rfl); (case hr => (go_simp; done)); (case hp => exact (Reps.c3 (show Kd.M k24 _ _ _ (⟨a0_0, a0_1, a0_2⟩ : S24) [.int .i64 a0_0, .int .u64 a0_1, .int .u64 a0_2] from (k24_mkM _ _ _ (⟨a0_0, a0_1, a0_2⟩ : S24) )) (Reps.none _ _))); intro v689 w30 ho31 hb hg_ hnew_; clear hg_ hnew_; (rw [← Ny688.out] at ho31); have HO690 := Aside0.mk (Kd.R_lower (Kd.R_newB (Kd.R_newB (Kd.R_newB (Kd.R_newB ho31 BK684.out) BK685.out) BK686.out) BK687.out) (below_size HB.out)); replace BK684 := bk1 BK684 hb; replace BK685 := bk1 BK685 hb; replace BK686 := bk1 BK686 hb; replace BK687 := bk1 BK687 hb; replace HB := hb1 HB hb; clear hb ho31; obtain ⟨Ao32, co32, eo32⟩ := Kd.R_slice HO690.out; subst eo32) | ((with_reducible refine gate_callee (f := 56) rfl ?_); refine goesL_ (some 9) rfl rfl Tryd.func56 (by kernel_rfl) rfl #[.slice Ao32 y688.length co32] rfl (by (try simp only [List.map_toArray, List.map_cons, List.map_nil]); rfl) ?_; (with_reducible refine (bits_valid.calls k _ _ y688 false _ ?side1 ?side2 A9.out).mono ?_); (case side1 => repeat (exact (Kd.R_reads' HO690.out).2.2)); (case side2 => exact (Kd.R_reads' HO690.out).2.1); rintro e w33 ⟨rfl, hb⟩; refine ⟨_, rfl, ?_⟩; replace HO690 := Kd.rb1 HO690 hb; replace BK684 := bk1 BK684 hb; replace BK685 := bk1 BK685 hb; replace BK686 := bk1 BK686 hb; replace BK687 := bk1 BK687 hb; replace HB := hb1 HB hb; (try clear hb)))
   go_meet
   case rel => exact ⟨_, (true), (by rfl), H', ⟨by omega⟩, ⟨by exact BK684.out⟩, ⟨by exact BK685.out⟩, ⟨by exact BK686.out⟩, ⟨by exact BK687.out⟩, ⟨by repeat (with_reducible exact HB.out)⟩⟩
 case rest =>
  clear HC4
  obtain ⟨kq, x16_3, rfl, HA, HJ3, BK684, BK685, BK686, BK687, HB⟩ := hcut
  cases kq with
  | zero => exact absurd HA.out (by simp [bits_Cond.j0])
  | succ kj3 =>
   have H := HA.out
   clear HA
   simp only [bits_Cond.j0] at H
   by_cases c34 : x16_3 = true
   ·subst c34
    have H1 : (some (0, 0, 0)) = some (r1, r2, r3) := by rw [if_pos rfl] at H; exact H
    clear H
    have H := H1
    clear H1
    simp only [Option.some.injEq, Prod.mk.injEq] at H
    obtain ⟨rfl, rfl, rfl⟩ := H
    have hnb35 := NB687_684.out
    have hnc35 := NB684_687.out
    have hnb36 := NB687_685.out
    have hnc36 := NB685_687.out
    have hnb37 := NB687_686.out
    have hnc37 := NB686_687.out
    obtain ⟨hcz38_0, hcz38_1, hcz38_2⟩ := sq_cells3 (W := wc) (g := gb687) BK687.out; obtain ⟨hfz38_0, hfz38_1, hfz38_2⟩ := sq_frozen3 BK687.out
    go_wp2
    refine bodyPost_ret (results_cell_row rfl _ _ gb687 24 #[.int .i64 0, .int .u64 0, .int .u64 0] (0, 0) _ rfl (by refine blk_put (cs := #[.int .i64 0, .int .u64 0, .int .u64 0]) ?_ 2 _ rfl; refine blk_put (cs := #[.int .i64 0, .int .u64 0, .int .u64 0]) ?_ 1 _ rfl; refine blk_put (cs := #[.int .i64 0, .int .u64 0, .int .u64 0]) ?_ 0 _ rfl; exact BK687.out) Tryd.underlying24 rfl (by kernel_rfl)) rfl ?_
    exact ⟨by rfl, by repeat (with_reducible first | exact HB.out | refine below_set ?_ GE687.out)⟩
   ·replace c34 := Bool.eq_false_iff.mpr c34
    subst c34
    have H1 : ((bits_True.f kj3 a0_0 a0_1 a0_2).bind fun t693 => (if t693 = 1 then (some (a1_0, a1_1, a1_2)) else (if t693 = 0 then (some (a2_0, a2_1, a2_2)) else ((bits_make3.f a1_0 (Go.bits .andNot .u64 (Go.bits .andNot .u64 (Go.bits .and .u64 a1_1 a2_1) a1_2) a2_2) (Go.bits .or .u64 (Go.bits .or .u64 a1_2 a2_2) (Go.bits .xor .u64 a1_1 a2_1))).bind fun bt694 => (some (bt694.1, bt694.2.1, bt694.2.2)))))) = some (r1, r2, r3) := by rw [if_neg (show ¬ (false = true) by decide)] at H; exact H
    clear H
    have H := H1
    clear H1
    replace H := Option.bind_eq_some_iff.mp H
    obtain ⟨t693, A390, H⟩ := H
    replace H : (if t693 = 1 then (some (a1_0, a1_1, a1_2)) else (if t693 = 0 then (some (a2_0, a2_1, a2_2)) else ((bits_make3.f a1_0 (Go.bits .andNot .u64 (Go.bits .andNot .u64 (Go.bits .and .u64 a1_1 a2_1) a1_2) a2_2) (Go.bits .or .u64 (Go.bits .or .u64 a1_2 a2_2) (Go.bits .xor .u64 a1_1 a2_1))).bind fun bt694 => (some (bt694.1, bt694.2.1, bt694.2.2))))) = some (r1, r2, r3) := H
    have A39 := Aside0.mk A390
    clear A390
    by_cases c40 : t693 = 1
    ·rw [if_pos c40] at H
     have c40b0 : (t693 == 1) = true := beq_iff_eq.mpr c40
     have c40b1 : (t693 != 1) = false := bne_eq_false_iff_eq.mpr c40
     clear c40
     simp only [Option.some.injEq, Prod.mk.injEq] at H
     obtain ⟨rfl, rfl, rfl⟩ := H
     have hnb41 := NB684_685.out
     have hnc41 := NB685_684.out
     have hnb42 := NB684_686.out
     have hnc42 := NB686_684.out
     have hnb43 := NB684_687.out
     have hnc43 := NB687_684.out
     obtain ⟨hcz44_0, hcz44_1, hcz44_2⟩ := sq_cells3 (W := wc) (g := gb684) BK684.out; obtain ⟨hfz44_0, hfz44_1, hfz44_2⟩ := sq_frozen3 BK684.out
     go_wp2_with (((with_reducible refine gate_callee (f := 22) rfl ?_); refine goesL_ (some 19) rfl rfl Tryd.func22 (by kernel_rfl) rfl #[.agg #[.int .i64 a0_0, .int .u64 a0_1, .int .u64 a0_2]] rfl (by (try simp only [List.map_toArray, List.map_cons, List.map_nil]); rfl) ?_; (with_reducible refine (bits_True.calls kj3 a0_0 a0_1 a0_2 t693 _ A39.out).mono ?_); rintro e w45 ⟨rfl, hb⟩; refine ⟨_, rfl, ?_⟩; replace BK684 := bk1 BK684 hb; replace BK685 := bk1 BK685 hb; replace BK686 := bk1 BK686 hb; replace BK687 := bk1 BK687 hb; replace HB := hb1 HB hb; (try clear hb); have hnb46 := NB685_686.out; have hnc46 := NB686_685.out; have hnb47 := NB685_687.out; have hnc47 := NB687_685.out; have hcz48_0 : w45.cell? ⟨gb685, 0, none⟩ = some (.int .i64 a1_0) := (blk_cell BK685.out 0).trans rfl; have hcz48_1 : w45.cell? ⟨gb685, 1, none⟩ = some (.int .u64 a1_1) := (blk_cell BK685.out 1).trans rfl; have hcz48_2 : w45.cell? ⟨gb685, 2, none⟩ = some (.int .u64 a1_2) := (blk_cell BK685.out 2).trans rfl; have hfz48_0 := blk_frozen BK685.out 0; have hfz48_1 := blk_frozen BK685.out 1; have hfz48_2 := blk_frozen BK685.out 2; have hnb49 := NB687_686.out; have hnc49 := NB686_687.out; have hcz50_0 : w45.cell? ⟨gb687, 0, none⟩ = some (.int .i64 0) := (blk_cell BK687.out 0).trans rfl; have hcz50_1 : w45.cell? ⟨gb687, 1, none⟩ = some (.int .u64 0) := (blk_cell BK687.out 1).trans rfl; have hcz50_2 : w45.cell? ⟨gb687, 2, none⟩ = some (.int .u64 0) := (blk_cell BK687.out 2).trans rfl; have hfz50_0 := blk_frozen BK687.out 0; have hfz50_1 := blk_frozen BK687.out 1; have hfz50_2 := blk_frozen BK687.out 2))
     refine bodyPost_ret (results_cell_row rfl _ _ gb687 24 #[.int .i64 a1_0, .int .u64 a1_1, .int .u64 a1_2] (0, 0) _ rfl (by refine blk_put (cs := #[.int .i64 a1_0, .int .u64 a1_1, .int .u64 0]) ?_ 2 _ rfl; refine blk_put (cs := #[.int .i64 a1_0, .int .u64 0, .int .u64 0]) ?_ 1 _ rfl; refine blk_put (cs := #[.int .i64 0, .int .u64 0, .int .u64 0]) ?_ 0 _ rfl; exact BK687.out) Tryd.underlying24 rfl (by kernel_rfl)) rfl ?_
     exact ⟨by rfl, by repeat (with_reducible first | exact HB.out | refine below_set ?_ GE687.out)⟩
    ·rw [if_neg c40] at H
     have c40b0 : (t693 == 1) = false := beq_eq_false_iff_ne.mpr c40
     have c40b1 : (t693 != 1) = true := bne_iff_ne.mpr c40
     by_cases c51 : t693 = 0
     ·rw [if_pos c51] at H
      have c51b0 : (t693 == 0) = true := beq_iff_eq.mpr c51
      have c51b1 : (t693 != 0) = false := bne_eq_false_iff_eq.mpr c51
      clear c51
      simp only [Option.some.injEq, Prod.mk.injEq] at H
      obtain ⟨rfl, rfl, rfl⟩ := H
      have hnb52 := NB684_685.out
      have hnc52 := NB685_684.out
      have hnb53 := NB684_686.out
      have hnc53 := NB686_684.out
      have hnb54 := NB684_687.out
      have hnc54 := NB687_684.out
      obtain ⟨hcz55_0, hcz55_1, hcz55_2⟩ := sq_cells3 (W := wc) (g := gb684) BK684.out; obtain ⟨hfz55_0, hfz55_1, hfz55_2⟩ := sq_frozen3 BK684.out
      go_wp2_with (((with_reducible refine gate_callee (f := 22) rfl ?_); refine goesL_ (some 19) rfl rfl Tryd.func22 (by kernel_rfl) rfl #[.agg #[.int .i64 a0_0, .int .u64 a0_1, .int .u64 a0_2]] rfl (by (try simp only [List.map_toArray, List.map_cons, List.map_nil]); rfl) ?_; (with_reducible refine (bits_True.calls kj3 a0_0 a0_1 a0_2 t693 _ A39.out).mono ?_); rintro e w56 ⟨rfl, hb⟩; refine ⟨_, rfl, ?_⟩; replace BK684 := bk1 BK684 hb; replace BK685 := bk1 BK685 hb; replace BK686 := bk1 BK686 hb; replace BK687 := bk1 BK687 hb; replace HB := hb1 HB hb; (try clear hb); have hnb57 := NB686_685.out; have hnc57 := NB685_686.out; have hnb58 := NB686_687.out; have hnc58 := NB687_686.out; have hcz59_0 : w56.cell? ⟨gb686, 0, none⟩ = some (.int .i64 a2_0) := (blk_cell BK686.out 0).trans rfl; have hcz59_1 : w56.cell? ⟨gb686, 1, none⟩ = some (.int .u64 a2_1) := (blk_cell BK686.out 1).trans rfl; have hcz59_2 : w56.cell? ⟨gb686, 2, none⟩ = some (.int .u64 a2_2) := (blk_cell BK686.out 2).trans rfl; have hfz59_0 := blk_frozen BK686.out 0; have hfz59_1 := blk_frozen BK686.out 1; have hfz59_2 := blk_frozen BK686.out 2; have hnb60 := NB687_685.out; have hnc60 := NB685_687.out; have hcz61_0 : w56.cell? ⟨gb687, 0, none⟩ = some (.int .i64 0) := (blk_cell BK687.out 0).trans rfl; have hcz61_1 : w56.cell? ⟨gb687, 1, none⟩ = some (.int .u64 0) := (blk_cell BK687.out 1).trans rfl; have hcz61_2 : w56.cell? ⟨gb687, 2, none⟩ = some (.int .u64 0) := (blk_cell BK687.out 2).trans rfl; have hfz61_0 := blk_frozen BK687.out 0; have hfz61_1 := blk_frozen BK687.out 1; have hfz61_2 := blk_frozen BK687.out 2))
      refine bodyPost_ret (results_cell_row rfl _ _ gb687 24 #[.int .i64 a2_0, .int .u64 a2_1, .int .u64 a2_2] (0, 0) _ rfl (by refine blk_put (cs := #[.int .i64 a2_0, .int .u64 a2_1, .int .u64 0]) ?_ 2 _ rfl; refine blk_put (cs := #[.int .i64 a2_0, .int .u64 0, .int .u64 0]) ?_ 1 _ rfl; refine blk_put (cs := #[.int .i64 0, .int .u64 0, .int .u64 0]) ?_ 0 _ rfl; exact BK687.out) Tryd.underlying24 rfl (by kernel_rfl)) rfl ?_
      exact ⟨by rfl, by repeat (with_reducible first | exact HB.out | refine below_set ?_ GE687.out)⟩
     ·rw [if_neg c51] at H
      have c51b0 : (t693 == 0) = false := beq_eq_false_iff_ne.mpr c51
      have c51b1 : (t693 != 0) = true := bne_iff_ne.mpr c51
      replace H := Option.bind_eq_some_iff.mp H
      obtain ⟨⟨t694, t695, t696⟩, A620, H⟩ := H
      replace H : (some (t694, t695, t696)) = some (r1, r2, r3) := H
      have A62 := Aside0.mk A620
      clear A620
      simp only [Option.some.injEq, Prod.mk.injEq] at H
      obtain ⟨rfl, rfl, rfl⟩ := H
      have hnb63 := NB684_685.out
      have hnc63 := NB685_684.out
      have hnb64 := NB684_686.out
      have hnc64 := NB686_684.out
      have hnb65 := NB684_687.out
      have hnc65 := NB687_684.out
      obtain ⟨hcz66_0, hcz66_1, hcz66_2⟩ := sq_cells3 (W := wc) (g := gb684) BK684.out; obtain ⟨hfz66_0, hfz66_1, hfz66_2⟩ := sq_frozen3 BK684.out
      go_wp2_with (first | ((with_reducible refine gate_callee (f := 22) rfl ?_); refine goesL_ (some 19) rfl rfl Tryd.func22 (by kernel_rfl) rfl #[.agg #[.int .i64 a0_0, .int .u64 a0_1, .int .u64 a0_2]] rfl (by (try simp only [List.map_toArray, List.map_cons, List.map_nil]); rfl) ?_; (with_reducible refine (bits_True.calls kj3 a0_0 a0_1 a0_2 t693 _ A39.out).mono ?_); rintro e w67 ⟨rfl, hb⟩; refine ⟨_, rfl, ?_⟩; replace BK684 := bk1 BK684 hb; replace BK685 := bk1 BK685 hb; replace BK686 := bk1 BK686 hb; replace BK687 := bk1 BK687 hb; replace HB := hb1 HB hb; (try clear hb); have hnb68 := NB685_686.out; have hnc68 := NB686_685.out; have hnb69 := NB685_687.out; have hnc69 := NB687_685.out; have hcz70_0 : w67.cell? ⟨gb685, 0, none⟩ = some (.int .i64 a1_0) := (blk_cell BK685.out 0).trans rfl; have hcz70_1 : w67.cell? ⟨gb685, 1, none⟩ = some (.int .u64 a1_1) := (blk_cell BK685.out 1).trans rfl; have hcz70_2 : w67.cell? ⟨gb685, 2, none⟩ = some (.int .u64 a1_2) := (blk_cell BK685.out 2).trans rfl; have hfz70_0 := blk_frozen BK685.out 0; have hfz70_1 := blk_frozen BK685.out 1; have hfz70_2 := blk_frozen BK685.out 2; have hnb71 := NB686_687.out; have hnc71 := NB687_686.out; have hcz72_0 : w67.cell? ⟨gb686, 0, none⟩ = some (.int .i64 a2_0) := (blk_cell BK686.out 0).trans rfl; have hcz72_1 : w67.cell? ⟨gb686, 1, none⟩ = some (.int .u64 a2_1) := (blk_cell BK686.out 1).trans rfl; have hcz72_2 : w67.cell? ⟨gb686, 2, none⟩ = some (.int .u64 a2_2) := (blk_cell BK686.out 2).trans rfl; have hfz72_0 := blk_frozen BK686.out 0; have hfz72_1 := blk_frozen BK686.out 1; have hfz72_2 := blk_frozen BK686.out 2) | ((with_reducible refine gate_callee (f := 67) rfl ?_); refine goesL_ (some 50) rfl rfl Tryd.func67 (by kernel_rfl) rfl #[.int .i64 a1_0, .int .u64 (Go.bits .andNot .u64 (Go.bits .andNot .u64 (Go.bits .and .u64 a1_1 a2_1) a1_2) a2_2), .int .u64 (Go.bits .or .u64 (Go.bits .or .u64 a1_2 a2_2) (Go.bits .xor .u64 a1_1 a2_1))] rfl (by (try simp only [List.map_toArray, List.map_cons, List.map_nil]); rfl) ?_; (with_reducible refine (bits_make3.calls a1_0 (Go.bits .andNot .u64 (Go.bits .andNot .u64 (Go.bits .and .u64 a1_1 a2_1) a1_2) a2_2) (Go.bits .or .u64 (Go.bits .or .u64 a1_2 a2_2) (Go.bits .xor .u64 a1_1 a2_1)) t694 t695 t696 _ A62.out).mono ?_); rintro e w73 ⟨rfl, hb⟩; refine ⟨_, rfl, ?_⟩; replace BK684 := bk1 BK684 hb; replace BK685 := bk1 BK685 hb; replace BK686 := bk1 BK686 hb; replace BK687 := bk1 BK687 hb; replace HB := hb1 HB hb; (try clear hb); have hcz74_0 : w73.cell? ⟨gb687, 0, none⟩ = some (.int .i64 0) := (blk_cell BK687.out 0).trans rfl; have hcz74_1 : w73.cell? ⟨gb687, 1, none⟩ = some (.int .u64 0) := (blk_cell BK687.out 1).trans rfl; have hcz74_2 : w73.cell? ⟨gb687, 2, none⟩ = some (.int .u64 0) := (blk_cell BK687.out 2).trans rfl; have hfz74_0 := blk_frozen BK687.out 0; have hfz74_1 := blk_frozen BK687.out 1; have hfz74_2 := blk_frozen BK687.out 2))
      refine bodyPost_ret (results_cell_row rfl _ _ gb687 24 #[.int .i64 t694, .int .u64 t695, .int .u64 t696] (0, 0) _ rfl (by refine blk_put (cs := #[.int .i64 t694, .int .u64 t695, .int .u64 0]) ?_ 2 _ rfl; refine blk_put (cs := #[.int .i64 t694, .int .u64 0, .int .u64 0]) ?_ 1 _ rfl; refine blk_put (cs := #[.int .i64 0, .int .u64 0, .int .u64 0]) ?_ 0 _ rfl; exact BK687.out) Tryd.underlying24 rfl (by kernel_rfl)) rfl ?_
      exact ⟨by rfl, by repeat (with_reducible first | exact HB.out | refine below_set ?_ GE687.out)⟩
end Go.Proofs.YtfigblfjogpojaaDoor.PBits
end
