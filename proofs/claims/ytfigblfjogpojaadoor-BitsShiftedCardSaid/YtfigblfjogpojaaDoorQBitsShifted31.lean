/- Part 32 of the proof of BitsShiftedCardSaid: The law BitsShifted: for all arguments it returns true; each argument reads behind the call as it read before. Out of the plain theorem of YtfigblfjogpojaaDoorPureBitsShifted and the printed contract. -/
import Derived.Test.YtfigblfjogpojaaDoorQBitsShifted14
import Derived.Test.YtfigblfjogpojaaDoorQBitsShifted16
import Derived.Test.YtfigblfjogpojaaDoorQBitsShifted28
import Derived.Test.YtfigblfjogpojaaDoorQBitsShifted30
import Derived.Test.YtfigblfjogpojaaDoorQBitsShifted15
import Derived.Test.YtfigblfjogpojaaDoorQBitsShifted23
import Derived.Test.YtfigblfjogpojaaDoorQBitsShifted21
section
namespace Go.Proofs.YtfigblfjogpojaaDoor.PBits
open Go.RowKit Go.Proofs.YtfigblfjogpojaaDoorW.PrintWords Go.Proofs.YtfigblfjogpojaaDoorW.PrintLast Go.Proofs.YtfigblfjogpojaaDoorW.PrintMore
attribute [local go_sem] max2_int min2_int max_two min_two max_three min_three max_four min_four
set_option linter.unusedVariables false
set_option linter.unusedSimpArgs false
def bits_Text.l0 : Nat → ByteArray → Int → Int → Int → Int → Option (ByteArray)
 | 0, _, _, _, _, _ => none
 | k + 1, x3, x4, x172000, x172001, x172002 => if x4 ≥ 0 then ((bits_Bit.f k x172000 x172001 x172002 x4).bind fun t177 => ((some (([t177] : List Int) : List Int)).bind fun y178 => (if x3.size + (strOfNums y178).size ≤ 9223372036854775807 then (bits_Text.l0 k (x3 ++ (strOfNums y178)) (wrap64 (x4 - 1)) x172000 x172001 x172002) else (none)))) else (some x3)
def bits_Text.f (k : Nat) (a0_0 : Int) (a0_1 : Int) (a0_2 : Int) : Option (ByteArray) := (bits_valid.f k (([(⟨a0_0, a0_1, a0_2⟩ : S24)] : List (S24)))).bind fun t175 => (if t175 = true then ((strconv_Itoa.f a0_0).bind fun t176 => (if t176.size + 2 ≤ 9223372036854775807 then (bits_Text.l0 k (t176 ++ (⟨#[39, 98]⟩ : ByteArray)) (wrap64 (a0_0 - 1)) a0_0 a0_1 a0_2) else (none))) else (some (⟨#[]⟩ : ByteArray)))
theorem bits_Text.mono_l : ∀ k, (∀ y0 y1 y2 y3 y4, LeO (bits_Text.l0 k y0 y1 y2 y3 y4) (bits_Text.l0 (k + 1) y0 y1 y2 y3 y4))
 | 0 => fun _ _ _ _ _ r h => by simp [bits_Text.l0] at h
 | k + 1 => by
  have ih0 := bits_Text.mono_l k
  ·intro y0 y1 y2 y3 y4
   unfold bits_Text.l0
   repeat' first
   | (with_reducible exact ih0 _ _ _ _ _)
   | (with_reducible exact bits_Bit.mono _ _ _ _ _)
   | (with_reducible exact bits_valid.mono _ _)
   | (with_reducible exact LeO.refl _)
   | (with_reducible exact LeO.none _)
   | (with_reducible refine LeO.ite ?_ ?_)
   | (with_reducible refine LeO.bind ?_ (fun _ => ?_))
   | exact ih0 _ _ _ _ _
   | exact bits_Bit.mono _ _ _ _ _
   | exact bits_valid.mono _ _
   | exact LeO.none _
   | refine LeO.ite ?_ ?_
   | refine LeO.bind ?_ (fun _ => ?_)
theorem bits_Text.mono : ∀ a0 a1 a2 k, LeO (bits_Text.f k a0 a1 a2) (bits_Text.f (k + 1) a0 a1 a2) := by
 intro a0 a1 a2 k
 have ih0 := bits_Text.mono_l k
 unfold bits_Text.f
 repeat' first
   | (with_reducible exact ih0 _ _ _ _ _)
   | (with_reducible exact bits_Bit.mono _ _ _ _ _)
   | (with_reducible exact bits_valid.mono _ _)
   | (with_reducible exact LeO.refl _)
   | (with_reducible exact LeO.none _)
   | (with_reducible refine LeO.ite ?_ ?_)
   | (with_reducible refine LeO.bind ?_ (fun _ => ?_))
   | exact ih0 _ _ _ _ _
   | exact bits_Bit.mono _ _ _ _ _
   | exact bits_valid.mono _ _
   | exact LeO.none _
   | refine LeO.ite ?_ ?_
   | refine LeO.bind ?_ (fun _ => ?_)
set_option maxHeartbeats 8000000 in
set_option maxRecDepth 100000 in
theorem bits_Text.calls (k : Nat) (a0_0 : Int) (a0_1 : Int) (a0_2 : Int) (r : ByteArray) (w : World) (h : bits_Text.f k a0_0 a0_1 a0_2 = some r) :
  Calls Tryd.prog 16 #[.agg #[.int .i64 a0_0, .int .u64 a0_1, .int .u64 a0_2]] w fun e w' => e = .returned (.string r) ∧ Below w.heap.size w w' := by
 have hu24 := Tryd.underlying24
 have HB := Aside0.mk (Below.refl w.heap.size w)
 have H : ((bits_valid.f k ([(⟨a0_0, a0_1, a0_2⟩ : S24)] : List (S24))).bind fun t175 => (if t175 = true then ((strconv_Itoa.f a0_0).bind fun t176 => (if t176.size + 2 ≤ 9223372036854775807 then (bits_Text.l0 k (t176 ++ (⟨#[39, 98]⟩ : ByteArray)) (wrap64 (a0_0 - 1)) a0_0 a0_1 a0_2) else (none))) else (some (⟨#[]⟩ : ByteArray)))) = some r := h
 clear h
 obtain ⟨y172, hy172⟩ : ∃ y_ : List (S24), y_ = ([(⟨a0_0, a0_1, a0_2⟩ : S24)] : List (S24)) := ⟨_, rfl⟩
 replace H : ((bits_valid.f k y172).bind fun t175 => (if t175 = true then ((strconv_Itoa.f a0_0).bind fun t176 => (if t176.size + 2 ≤ 9223372036854775807 then (bits_Text.l0 k (t176 ++ (⟨#[39, 98]⟩ : ByteArray)) (wrap64 (a0_0 - 1)) a0_0 a0_1 a0_2) else (none))) else (some (⟨#[]⟩ : ByteArray)))) = some r := by (rw [hy172]; with_reducible exact H)
 have Ny172 := Aside0.mk hy172
 clear hy172
 replace H := Option.bind_eq_some_iff.mp H
 obtain ⟨t175, A20, H⟩ := H
 replace H : (if t175 = true then ((strconv_Itoa.f a0_0).bind fun t176 => (if t176.size + 2 ≤ 9223372036854775807 then (bits_Text.l0 k (t176 ++ (⟨#[39, 98]⟩ : ByteArray)) (wrap64 (a0_0 - 1)) a0_0 a0_1 a0_2) else (none))) else (some (⟨#[]⟩ : ByteArray))) = some r := H
 have A2 := Aside0.mk A20
 clear A20
 by_cases c3 : t175 = true
 ·subst c3
  have H1 : ((strconv_Itoa.f a0_0).bind fun t176 => (if t176.size + 2 ≤ 9223372036854775807 then (bits_Text.l0 k (t176 ++ (⟨#[39, 98]⟩ : ByteArray)) (wrap64 (a0_0 - 1)) a0_0 a0_1 a0_2) else (none))) = some r := by rw [if_pos rfl] at H; exact H
  clear H
  have H := H1
  clear H1
  replace H := Option.bind_eq_some_iff.mp H
  obtain ⟨t176, A40, H⟩ := H
  replace H : (if t176.size + 2 ≤ 9223372036854775807 then (bits_Text.l0 k (t176 ++ (⟨#[39, 98]⟩ : ByteArray)) (wrap64 (a0_0 - 1)) a0_0 a0_1 a0_2) else (none)) = some r := H
  have A4 := Aside0.mk A40
  clear A40
  by_cases c5 : t176.size + 2 ≤ 9223372036854775807
  ·rw [if_pos c5] at H
   have c5b0 := eq_true c5
   have c5b1 : decide (t176.size + 2 ≤ 9223372036854775807) = true := decide_eq_true c5
   try have c5b2 : (9223372036854775807 < t176.size + 2) = False := eq_false (Nat.not_lt.2 c5)
   have H' := Aside0.mk H
   clear H
   go_enter Tryd.func16, Tryd.ntmps16
   go_wp2_with (first | ((with_reducible refine gate_dst (N := 1) rfl ?_); refine box_event ?hg (N := 1) ?hd (cs := #[.int .i64 a0_0, .int .u64 a0_1, .int .u64 a0_2]) (t := 24) ?hr ?_; (case hd => rfl); (case hg => rfl); (case hr => (go_simp; done)); intro gb171 hg w6 hbox hb; have BK171 := Aside0.mk (hbox); have GW171 := ge1 HB hg; have GE171 := ge1 HB hg; replace HB := hb1 HB hb; clear hb hbox hg; have hcz7_0 : w6.cell? ⟨gb171, 0, none⟩ = some (.int .i64 a0_0) := (blk_cell BK171.out 0).trans rfl; have hcz7_1 : w6.cell? ⟨gb171, 1, none⟩ = some (.int .u64 a0_1) := (blk_cell BK171.out 1).trans rfl; have hcz7_2 : w6.cell? ⟨gb171, 2, none⟩ = some (.int .u64 a0_2) := (blk_cell BK171.out 2).trans rfl; have hfz7_0 := blk_frozen BK171.out 0; have hfz7_1 := blk_frozen BK171.out 1; have hfz7_2 := blk_frozen BK171.out 2) | ((with_reducible refine gate_dst (N := 6) rfl ?_); refine Kd.R_lit k24 _ 24 ?hg (N := 6) ?hd (xs := ([(⟨a0_0, a0_1, a0_2⟩ : S24)] : List (S24))) (inner := [.int .i64 a0_0, .int .u64 a0_1, .int .u64 a0_2]) (ok := fun _ => True) (okp := fun _ => True) ?hr ?hp (fun _ hk => hk) trivial (Below.refl _ _) (Nat.le_refl _) (by simp) ?_; (case hd => rfl); (case hg => rfl); (case hr => (go_simp; done)); (case hp => exact (Reps.c3 (show Kd.M k24 _ _ _ (⟨a0_0, a0_1, a0_2⟩ : S24) [.int .i64 a0_0, .int .u64 a0_1, .int .u64 a0_2] from (k24_mkM _ _ _ (⟨a0_0, a0_1, a0_2⟩ : S24) )) (Reps.none _ _))); intro v173 w8 ho9 hb hg_ hnew_; clear hg_ hnew_; (rw [← Ny172.out] at ho9); have HO174 := Aside0.mk (Kd.R_lower (Kd.R_newB ho9 BK171.out) (below_size HB.out)); replace BK171 := bk1 BK171 hb; replace HB := hb1 HB hb; clear hb ho9; obtain ⟨Ao10, co10, eo10⟩ := Kd.R_slice HO174.out; subst eo10) | ((with_reducible refine gate_callee (f := 56) rfl ?_); refine goesL_ (some 7) rfl rfl Tryd.func56 (by kernel_rfl) rfl #[.slice Ao10 y172.length co10] rfl (by (try simp only [List.map_toArray, List.map_cons, List.map_nil]); rfl) ?_; (with_reducible refine (bits_valid.calls k _ _ y172 true _ ?side1 ?side2 A2.out).mono ?_); (case side1 => repeat (exact (Kd.R_reads' HO174.out).2.2)); (case side2 => exact (Kd.R_reads' HO174.out).2.1); rintro e w11 ⟨rfl, hb⟩; refine ⟨_, rfl, ?_⟩; replace HO174 := Kd.rb1 HO174 hb; replace BK171 := bk1 BK171 hb; replace HB := hb1 HB hb; (try clear hb); have hcz12_0 : w11.cell? ⟨gb171, 0, none⟩ = some (.int .i64 a0_0) := (blk_cell BK171.out 0).trans rfl; have hcz12_1 : w11.cell? ⟨gb171, 1, none⟩ = some (.int .u64 a0_1) := (blk_cell BK171.out 1).trans rfl; have hcz12_2 : w11.cell? ⟨gb171, 2, none⟩ = some (.int .u64 a0_2) := (blk_cell BK171.out 2).trans rfl; have hfz12_0 := blk_frozen BK171.out 0; have hfz12_1 := blk_frozen BK171.out 1; have hfz12_2 := blk_frozen BK171.out 2) | ((with_reducible refine gate_callee (f := 57) rfl ?_); refine goesL_ (some 11) rfl rfl Tryd.func57 (by kernel_rfl) rfl #[.int .i64 a0_0] rfl (by (try simp only [List.map_toArray, List.map_cons, List.map_nil]); rfl) ?_; (with_reducible refine (strconv_Itoa.calls a0_0 t176 _ A4.out).mono ?_); rintro e w' ⟨rfl, ⟨nd, rfl⟩⟩; refine ⟨_, rfl, ?_⟩))
   go_loopg [3, 4] k (fun kq v3 v4 w' => ∃ (x3_1 : ByteArray) (x4_1 : Int), v3 = .string x3_1 ∧ v4 = .int .i64 x4_1 ∧ Aside0 (bits_Text.l0 kq x3_1 x4_1 a0_0 a0_1 a0_2 = some r) ∧ Aside0 (kq ≤ k) ∧ Aside0 (w'.heap[gb171]? = some (.cells #[.int .i64 a0_0, .int .u64 a0_1, .int .u64 a0_2] 24 (0, 0))) ∧ Aside0 (Below w.heap.size w w'))
   case atStart => exact ⟨(t176 ++ (⟨#[39, 98]⟩ : ByteArray)), (wrap64 (a0_0 - 1)), (by rfl), (by rfl), H', ⟨Nat.le_refl _⟩, ⟨by (with_reducible repeat (refine blk_drewN ?_ _)); exact BK171.out⟩, ⟨by repeat (with_reducible first | exact HB.out | apply pw_below_drewN)⟩⟩
   case round =>
    clear H'
    (try clear c5); (try clear c5b0); (try clear c5b1); (try clear c5b2); (try clear hcz12_0 hcz12_1 hcz12_2); (try clear hcz7_0 hcz7_1 hcz7_2); (try clear hfz12_0 hfz12_1 hfz12_2); (try clear hfz7_0 hfz7_1 hfz7_2)
    obtain ⟨x3_1, x4_1, rfl, rfl, HA, HK1, BK171, HB⟩ := hrel
    cases gk with
    | zero => exact absurd HA.out (by simp [bits_Text.l0])
    | succ k1 =>
     have H := HA.out
     clear HA
     simp only [bits_Text.l0] at H
     by_cases c13 : x4_1 ≥ 0
     ·rw [if_pos c13] at H
      have c13b0 : decide (0 ≤ x4_1) = true := decide_eq_true c13
      clear c13
      replace H := Option.bind_eq_some_iff.mp H
      obtain ⟨t177, A140, H⟩ := H
      replace H : ((some (([t177] : List Int) : List Int)).bind fun y178 => (if x3_1.size + (strOfNums y178).size ≤ 9223372036854775807 then (bits_Text.l0 k1 (x3_1 ++ (strOfNums y178)) (wrap64 (x4_1 - 1)) a0_0 a0_1 a0_2) else (none))) = some r := H
      have A14 := Aside0.mk A140
      clear A140
      obtain ⟨y178, hy178⟩ : ∃ y_ : List Int, y_ = ([t177] : List Int) := ⟨_, rfl⟩
      replace H : (if x3_1.size + (strOfNums y178).size ≤ 9223372036854775807 then (bits_Text.l0 k1 (x3_1 ++ (strOfNums y178)) (wrap64 (x4_1 - 1)) a0_0 a0_1 a0_2) else (none)) = some r := by (have H2_ := (Option.bind_some _ _).symm.trans H; rw [hy178]; with_reducible exact H2_)
      have Ny178 := Aside0.mk hy178
      clear hy178
      by_cases c15 : x3_1.size + (strOfNums y178).size ≤ 9223372036854775807
      ·rw [if_pos c15] at H
       have c15b0 := eq_true c15
       have c15b1 : decide (x3_1.size + (strOfNums y178).size ≤ 9223372036854775807) = true := decide_eq_true c15
       try have c15b2 : (9223372036854775807 < x3_1.size + (strOfNums y178).size) = False := eq_false (Nat.not_lt.2 c15)
       have H' := Aside0.mk H
       clear H
       obtain ⟨hcz16_0, hcz16_1, hcz16_2⟩ := sq_cells3 (W := wr) (g := gb171) BK171.out; obtain ⟨hfz16_0, hfz16_1, hfz16_2⟩ := sq_frozen3 BK171.out
       go_wp2_with (first | ((with_reducible refine gate_callee (f := 20) rfl ?_); refine goesL_ (some 23) rfl rfl Tryd.func20 (by kernel_rfl) rfl #[.agg #[.int .i64 a0_0, .int .u64 a0_1, .int .u64 a0_2], .int .i64 x4_1] rfl (by (try simp only [List.map_toArray, List.map_cons, List.map_nil]); rfl) ?_; (with_reducible refine (bits_Bit.calls k1 a0_0 a0_1 a0_2 x4_1 t177 _ A14.out).mono ?_); rintro e w17 ⟨rfl, hb⟩; refine ⟨_, rfl, ?_⟩; replace BK171 := bk1 BK171 hb; replace HB := hb1 HB hb; (try clear hb)) | ((with_reducible refine gate_dst (N := 24) rfl ?_); refine Kd.R_lit (Kd.int .u8) _ 5 ?hg (N := 24) ?hd (xs := ([t177] : List Int)) (inner := [.int .u8 t177]) (ok := fun _ => True) (okp := fun _ => True) ?hr ?hp (fun _ hk => hk) trivial (Below.refl _ _) (Nat.le_refl _) (by simp) ?_; (case hd => rfl); (case hg => rfl); (case hr => (go_simp; done)); (case hp => exact (Reps.one (show Kd.M (Kd.int .u8) _ _ _ t177 [.int .u8 t177] from rfl) (Reps.none _ _))); intro v179 w18 ho19 hb hg_ hnew_; clear hg_ hnew_; (rw [← Ny178.out] at ho19); have HO180 := Aside0.mk (Kd.R_lower ho19 (below_size HB.out)); replace BK171 := bk1 BK171 hb; replace HB := hb1 HB hb; clear hb ho19; have hcv20 := own_string (P := Tryd.prog) Tryd.underlying43 Tryd.underlying5 Tryd.underlying9 (Kd.own_of_R HO180.out)))
       go_roundg k1
       case measure => have := HK1.out; omega
       case rel => exact ⟨(x3_1 ++ (strOfNums y178)), (wrap64 (x4_1 - 1)), (by rfl), (by rfl), H', ⟨by have := HK1.out; omega⟩, ⟨by exact BK171.out⟩, ⟨by repeat (with_reducible exact HB.out)⟩⟩
      ·rw [if_neg c15] at H
       exact absurd H (by simp)
     ·rw [if_neg c13] at H
      have c13b0 : decide (0 ≤ x4_1) = false := decide_eq_false c13
      clear c13
      obtain rfl := Option.some.inj H
      go_wp2
      go_ret
      exact ⟨by rfl, by repeat (with_reducible exact HB.out)⟩
  ·rw [if_neg c5] at H
   exact absurd H (by simp)
 ·replace c3 := Bool.eq_false_iff.mpr c3
  subst c3
  have H1 : (some (⟨#[]⟩ : ByteArray)) = some r := by rw [if_neg (show ¬ (false = true) by decide)] at H; exact H
  clear H
  have H := H1
  clear H1
  obtain rfl := Option.some.inj H
  go_enter Tryd.func16, Tryd.ntmps16
  go_wp2_with (first | ((with_reducible refine gate_dst (N := 1) rfl ?_); refine box_event ?hg (N := 1) ?hd (cs := #[.int .i64 a0_0, .int .u64 a0_1, .int .u64 a0_2]) (t := 24) ?hr ?_; (case hd => rfl); (case hg => rfl); (case hr => (go_simp; done)); intro gb171 hg w21 hbox hb; have BK171 := Aside0.mk (hbox); have GW171 := ge1 HB hg; have GE171 := ge1 HB hg; replace HB := hb1 HB hb; clear hb hbox hg; have hcz22_0 : w21.cell? ⟨gb171, 0, none⟩ = some (.int .i64 a0_0) := (blk_cell BK171.out 0).trans rfl; have hcz22_1 : w21.cell? ⟨gb171, 1, none⟩ = some (.int .u64 a0_1) := (blk_cell BK171.out 1).trans rfl; have hcz22_2 : w21.cell? ⟨gb171, 2, none⟩ = some (.int .u64 a0_2) := (blk_cell BK171.out 2).trans rfl; have hfz22_0 := blk_frozen BK171.out 0; have hfz22_1 := blk_frozen BK171.out 1; have hfz22_2 := blk_frozen BK171.out 2) | ((with_reducible refine gate_dst (N := 6) rfl ?_); refine Kd.R_lit k24 _ 24 ?hg (N := 6) ?hd (xs := ([(⟨a0_0, a0_1, a0_2⟩ : S24)] : List (S24))) (inner := [.int .i64 a0_0, .int .u64 a0_1, .int .u64 a0_2]) (ok := fun _ => True) (okp := fun _ => True) ?hr ?hp (fun _ hk => hk) trivial (Below.refl _ _) (Nat.le_refl _) (by simp) ?_; (case hd => rfl); (case hg => rfl); (case hr => (go_simp; done)); (case hp => exact (Reps.c3 (show Kd.M k24 _ _ _ (⟨a0_0, a0_1, a0_2⟩ : S24) [.int .i64 a0_0, .int .u64 a0_1, .int .u64 a0_2] from (k24_mkM _ _ _ (⟨a0_0, a0_1, a0_2⟩ : S24) )) (Reps.none _ _))); intro v173 w23 ho24 hb hg_ hnew_; clear hg_ hnew_; (rw [← Ny172.out] at ho24); have HO174 := Aside0.mk (Kd.R_lower (Kd.R_newB ho24 BK171.out) (below_size HB.out)); replace BK171 := bk1 BK171 hb; replace HB := hb1 HB hb; clear hb ho24; obtain ⟨Ao25, co25, eo25⟩ := Kd.R_slice HO174.out; subst eo25) | ((with_reducible refine gate_callee (f := 56) rfl ?_); refine goesL_ (some 7) rfl rfl Tryd.func56 (by kernel_rfl) rfl #[.slice Ao25 y172.length co25] rfl (by (try simp only [List.map_toArray, List.map_cons, List.map_nil]); rfl) ?_; (with_reducible refine (bits_valid.calls k _ _ y172 false _ ?side1 ?side2 A2.out).mono ?_); (case side1 => repeat (exact (Kd.R_reads' HO174.out).2.2)); (case side2 => exact (Kd.R_reads' HO174.out).2.1); rintro e w26 ⟨rfl, hb⟩; refine ⟨_, rfl, ?_⟩; replace HO174 := Kd.rb1 HO174 hb; replace BK171 := bk1 BK171 hb; replace HB := hb1 HB hb; (try clear hb)))
  go_ret
  exact ⟨by rfl, by repeat (with_reducible exact HB.out)⟩
end Go.Proofs.YtfigblfjogpojaaDoor.PBits
end
section
namespace Go.Proofs.YtfigblfjogpojaaDoor.PBits
open Go.RowKit Go.Proofs.YtfigblfjogpojaaDoorW.PrintWords Go.Proofs.YtfigblfjogpojaaDoorW.PrintLast Go.Proofs.YtfigblfjogpojaaDoorW.PrintMore
attribute [local go_sem] max2_int min2_int max_two min_two max_three min_three max_four min_four
set_option linter.unusedVariables false
set_option linter.unusedSimpArgs false
def bits_Add_1.f (a0 : Int) (a1 : Int) : Option (Int) := some (IntKind.u64.wrap (a0 + a1))
set_option maxHeartbeats 8000000 in
set_option maxRecDepth 100000 in
theorem bits_Add_1.calls (a0 : Int) (a1 : Int) (r : Int) (w : World) (h : bits_Add_1.f a0 a1 = some r) :
  Calls Tryd.prog 73 #[.int .u64 a0, .int .u64 a1] w fun e w' => e = .returned (.int .u64 r) ∧ Drawn0 w w' := by
 have H : (some (IntKind.u64.wrap (a0 + a1))) = some r := h
 clear h
 obtain rfl := Option.some.inj H
 go_enter Tryd.func73, Tryd.ntmps73
 go_wp2
 go_ret
 exact ⟨by rfl, by repeat (exact Drawn0.refl _)⟩
end Go.Proofs.YtfigblfjogpojaaDoor.PBits
end
section
namespace Go.Proofs.YtfigblfjogpojaaDoor.PBits
open Go.RowKit Go.Proofs.YtfigblfjogpojaaDoorW.PrintWords Go.Proofs.YtfigblfjogpojaaDoorW.PrintLast Go.Proofs.YtfigblfjogpojaaDoorW.PrintMore
attribute [local go_sem] max2_int min2_int max_two min_two max_three min_three max_four min_four
set_option linter.unusedVariables false
set_option linter.unusedSimpArgs false
def bits_number__Add_1.f (k : Nat) (a0_0 : Int) (a0_1 : Int) (a0_2 : Int) (a1_0 : Int) (a1_1 : Int) (a1_2 : Int)  : Option (Int × Int × Int) := (bits_alike.f k a0_0 a0_1 a0_2 a1_0 a1_1 a1_2).bind fun t197 => (if t197 = true then (if (Go.bits .or .u64 a0_2 a1_2) = 0 then ((bits_Add_1.f a0_1 a1_1).bind fun t201 => ((bits_Of.f a0_0 t201).bind fun bt202 => (some (bt202.1, bt202.2.1, bt202.2.2)))) else ((bits_All.f k a0_0 120).bind fun bt198 => (some (bt198.1, bt198.2.1, bt198.2.2)))) else (some (0, 0, 0)))
theorem bits_number__Add_1.mono : ∀ a0 a1 a2 a3 a4 a5 k, LeO (bits_number__Add_1.f k a0 a1 a2 a3 a4 a5) (bits_number__Add_1.f (k + 1) a0 a1 a2 a3 a4 a5) := by
 intro a0 a1 a2 a3 a4 a5 k
 unfold bits_number__Add_1.f
 repeat' first
   | (with_reducible exact bits_All.mono _ _ _)
   | (with_reducible exact bits_alike.mono _ _ _ _ _ _ _)
   | (with_reducible exact LeO.refl _)
   | (with_reducible exact LeO.none _)
   | (with_reducible refine LeO.ite ?_ ?_)
   | (with_reducible refine LeO.bind ?_ (fun _ => ?_))
   | exact bits_All.mono _ _ _
   | exact bits_alike.mono _ _ _ _ _ _ _
   | exact LeO.none _
   | refine LeO.ite ?_ ?_
   | refine LeO.bind ?_ (fun _ => ?_)
def bits_number__Add_1.T5 : Bool × List (List Nat × List Nat) := (true, [([], []), ([0], [0]), ([], []), ([], []), ([3], [3]), ([], []), ([5], [5]), ([2, 4, 6], [2, 4, 6]), ([1, 7, 7], [1, 7]), ([8, 8, 0, 1, 2, 3, 4, 5, 6, 7, 8], [8])])
def bits_number__Add_1.B5 : List Nat := [0, 1, 0, 0, 8, 0, 32, 124, 255, 511]
theorem bits_number__Add_1.tab5 : rtab .any (opsOf Tryd.f71 5) = bits_number__Add_1.T5 := by kernel_rfl
theorem bits_number__Add_1.bits5 : waitsOk bits_number__Add_1.T5.2 bits_number__Add_1.B5 = true := by kernel_rfl
set_option maxHeartbeats 8000000 in
set_option maxRecDepth 100000 in
theorem bits_number__Add_1.calls (k : Nat) (a0_0 : Int) (a0_1 : Int) (a0_2 : Int) (a1_0 : Int) (a1_1 : Int) (a1_2 : Int)  (r1 : Int) (r2 : Int) (r3 : Int) (w : World) (h : bits_number__Add_1.f k a0_0 a0_1 a0_2 a1_0 a1_1 a1_2 = some (r1, r2, r3)) :
  Calls Tryd.prog 71 #[.agg #[.int .i64 a0_0, .int .u64 a0_1, .int .u64 a0_2], .agg #[.int .i64 a1_0, .int .u64 a1_1, .int .u64 a1_2], .func (.func 73) #[] #[]] w fun e w' => e = .returned (.agg #[.int .i64 r1, .int .u64 r2, .int .u64 r3]) ∧ Below w.heap.size w w' := by
 have hu24 := Tryd.underlying24
 have HB := Aside0.mk (Below.refl w.heap.size w)
 have H : ((bits_alike.f k a0_0 a0_1 a0_2 a1_0 a1_1 a1_2).bind fun t197 => (if t197 = true then (if (Go.bits .or .u64 a0_2 a1_2) = 0 then ((bits_Add_1.f a0_1 a1_1).bind fun t201 => ((bits_Of.f a0_0 t201).bind fun bt202 => (some (bt202.1, bt202.2.1, bt202.2.2)))) else ((bits_All.f k a0_0 120).bind fun bt198 => (some (bt198.1, bt198.2.1, bt198.2.2)))) else (some (0, 0, 0)))) = some (r1, r2, r3) := h
 clear h
 replace H := Option.bind_eq_some_iff.mp H
 obtain ⟨t197, A40, H⟩ := H
 replace H : (if t197 = true then (if (Go.bits .or .u64 a0_2 a1_2) = 0 then ((bits_Add_1.f a0_1 a1_1).bind fun t201 => ((bits_Of.f a0_0 t201).bind fun bt202 => (some (bt202.1, bt202.2.1, bt202.2.2)))) else ((bits_All.f k a0_0 120).bind fun bt198 => (some (bt198.1, bt198.2.1, bt198.2.2)))) else (some (0, 0, 0))) = some (r1, r2, r3) := H
 have A4 := Aside0.mk A40
 clear A40
 by_cases c5 : t197 = true
 ·subst c5
  have H1 : (if (Go.bits .or .u64 a0_2 a1_2) = 0 then ((bits_Add_1.f a0_1 a1_1).bind fun t201 => ((bits_Of.f a0_0 t201).bind fun bt202 => (some (bt202.1, bt202.2.1, bt202.2.2)))) else ((bits_All.f k a0_0 120).bind fun bt198 => (some (bt198.1, bt198.2.1, bt198.2.2)))) = some (r1, r2, r3) := by rw [if_pos rfl] at H; exact H
  clear H
  have H := H1
  clear H1
  by_cases c6 : (Go.bits .or .u64 a0_2 a1_2) = 0
  ·rw [if_pos c6] at H
   have c6b0 : ((Go.bits .or .u64 a0_2 a1_2) == 0) = true := beq_iff_eq.mpr c6
   have c6b1 : ((Go.bits .or .u64 a0_2 a1_2) != 0) = false := bne_eq_false_iff_eq.mpr c6
   clear c6
   replace H := Option.bind_eq_some_iff.mp H
   obtain ⟨t201, A70, H⟩ := H
   replace H : ((bits_Of.f a0_0 t201).bind fun bt202 => (some (bt202.1, bt202.2.1, bt202.2.2))) = some (r1, r2, r3) := H
   have A7 := Aside0.mk A70
   clear A70
   replace H := Option.bind_eq_some_iff.mp H
   obtain ⟨⟨t202, t203, t204⟩, A80, H⟩ := H
   replace H : (some (t202, t203, t204)) = some (r1, r2, r3) := H
   have A8 := Aside0.mk A80
   clear A80
   simp only [Option.some.injEq, Prod.mk.injEq] at H
   obtain ⟨rfl, rfl, rfl⟩ := H
   go_enter Tryd.func71, Tryd.ntmps71
   try go_wp2_with (first | ((with_reducible refine gate_dst (N := 3) rfl ?_); refine box_event ?hg (N := 3) ?hd (cs := #[.int .i64 a0_0, .int .u64 a0_1, .int .u64 a0_2]) (t := 24) ?hr ?_; (case hd => rfl); (case hg => rfl); (case hr => (go_simp; done)); intro gb194 hg w9 hbox hb; have BK194 := Aside0.mk (hbox); have GW194 := ge1 HB hg; have GE194 := ge1 HB hg; replace HB := hb1 HB hb; clear hb hbox hg) | ((with_reducible refine gate_dst (N := 4) rfl ?_); refine box_event ?hg (N := 4) ?hd (cs := #[.int .i64 a1_0, .int .u64 a1_1, .int .u64 a1_2]) (t := 24) ?hr ?_; (case hd => rfl); (case hg => rfl); (case hr => (go_simp; done)); intro gb195 hg w10 hbox hb; have BK195 := Aside0.mk (hbox); have GW195 := ge1 HB hg; have GE195 := ge1 HB hg; replace HB := hb1 HB hb; have NB194_195 := Aside0.mk ((by rw [hg]; exact Nat.ne_of_lt (blk_lt BK194.out) : gb194 ≠ gb195)); have NB195_194 := Aside0.mk ((by rw [hg]; exact Nat.ne_of_gt (blk_lt BK194.out) : gb195 ≠ gb194)); replace BK194 := bk1 BK194 hb; clear hb hbox hg) | ((with_reducible refine gate_dst (N := 6) rfl ?_); refine box_event ?hg (N := 6) ?hd (cs := #[.int .i64 0, .int .u64 0, .int .u64 0]) (t := 24) ?hr ?_; (case hd => rfl); (case hg => rfl); (case hr => (go_simp; done)); intro gb196 hg w11 hbox hb; have BK196 := Aside0.mk (hbox); have GW196 := ge1 HB hg; have GE196 := ge1 HB hg; replace HB := hb1 HB hb; have NB194_196 := Aside0.mk ((by rw [hg]; exact Nat.ne_of_lt (blk_lt BK194.out) : gb194 ≠ gb196)); have NB196_194 := Aside0.mk ((by rw [hg]; exact Nat.ne_of_gt (blk_lt BK194.out) : gb196 ≠ gb194)); replace BK194 := bk1 BK194 hb; have NB195_196 := Aside0.mk ((by rw [hg]; exact Nat.ne_of_lt (blk_lt BK195.out) : gb195 ≠ gb196)); have NB196_195 := Aside0.mk ((by rw [hg]; exact Nat.ne_of_gt (blk_lt BK195.out) : gb196 ≠ gb195)); replace BK195 := bk1 BK195 hb; clear hb hbox hg; have hnb12 := NB194_195.out; have hnc12 := NB195_194.out; have hnb13 := NB194_196.out; have hnc13 := NB196_194.out; have hcz14_0 : w11.cell? ⟨gb194, 0, none⟩ = some (.int .i64 a0_0) := (blk_cell BK194.out 0).trans rfl; have hcz14_1 : w11.cell? ⟨gb194, 1, none⟩ = some (.int .u64 a0_1) := (blk_cell BK194.out 1).trans rfl; have hcz14_2 : w11.cell? ⟨gb194, 2, none⟩ = some (.int .u64 a0_2) := (blk_cell BK194.out 2).trans rfl; have hfz14_0 := blk_frozen BK194.out 0; have hfz14_1 := blk_frozen BK194.out 1; have hfz14_2 := blk_frozen BK194.out 2; have hnb15 := NB195_196.out; have hnc15 := NB196_195.out; have hcz16_0 : w11.cell? ⟨gb195, 0, none⟩ = some (.int .i64 a1_0) := (blk_cell BK195.out 0).trans rfl; have hcz16_1 : w11.cell? ⟨gb195, 1, none⟩ = some (.int .u64 a1_1) := (blk_cell BK195.out 1).trans rfl; have hcz16_2 : w11.cell? ⟨gb195, 2, none⟩ = some (.int .u64 a1_2) := (blk_cell BK195.out 2).trans rfl; have hfz16_0 := blk_frozen BK195.out 0; have hfz16_1 := blk_frozen BK195.out 1; have hfz16_2 := blk_frozen BK195.out 2) | ((with_reducible refine gate_callee (f := 66) rfl ?_); refine goesL_ (some 10) rfl rfl Tryd.func66 (by kernel_rfl) rfl #[.agg #[.int .i64 a0_0, .int .u64 a0_1, .int .u64 a0_2], .agg #[.int .i64 a1_0, .int .u64 a1_1, .int .u64 a1_2]] rfl (by (try simp only [List.map_toArray, List.map_cons, List.map_nil]); rfl) ?_; (with_reducible refine (bits_alike.calls k a0_0 a0_1 a0_2 a1_0 a1_1 a1_2 true _ A4.out).mono ?_); rintro e w17 ⟨rfl, hb⟩; refine ⟨_, rfl, ?_⟩; replace BK194 := bk1 BK194 hb; replace BK195 := bk1 BK195 hb; replace BK196 := bk1 BK196 hb; replace HB := hb1 HB hb; (try clear hb); have hcz18_0 : w17.cell? ⟨gb194, 0, none⟩ = some (.int .i64 a0_0) := (blk_cell BK194.out 0).trans rfl; have hcz18_1 : w17.cell? ⟨gb194, 1, none⟩ = some (.int .u64 a0_1) := (blk_cell BK194.out 1).trans rfl; have hcz18_2 : w17.cell? ⟨gb194, 2, none⟩ = some (.int .u64 a0_2) := (blk_cell BK194.out 2).trans rfl; have hfz18_0 := blk_frozen BK194.out 0; have hfz18_1 := blk_frozen BK194.out 1; have hfz18_2 := blk_frozen BK194.out 2; have hcz19_0 : w17.cell? ⟨gb195, 0, none⟩ = some (.int .i64 a1_0) := (blk_cell BK195.out 0).trans rfl; have hcz19_1 : w17.cell? ⟨gb195, 1, none⟩ = some (.int .u64 a1_1) := (blk_cell BK195.out 1).trans rfl; have hcz19_2 : w17.cell? ⟨gb195, 2, none⟩ = some (.int .u64 a1_2) := (blk_cell BK195.out 2).trans rfl; have hfz19_0 := blk_frozen BK195.out 0; have hfz19_1 := blk_frozen BK195.out 1; have hfz19_2 := blk_frozen BK195.out 2))
   replace BK194 := bkd BK194
   replace BK195 := bkd BK195
   replace BK196 := bkd BK196
   replace HB := hbd HB
   refine start_ (n := 10) (S := fun w' => w'.cell? ⟨gb194, 0, none⟩ = some (.int .i64 a0_0) ∧ w'.cell? ⟨gb194, 1, none⟩ = some (.int .u64 a0_1) ∧ w'.cell? ⟨gb194, 2, none⟩ = some (.int .u64 a0_2) ∧ w'.cell? ⟨gb195, 0, none⟩ = some (.int .i64 a1_0) ∧ w'.cell? ⟨gb195, 1, none⟩ = some (.int .u64 a1_1) ∧ w'.cell? ⟨gb195, 2, none⟩ = some (.int .u64 a1_2)) (ds := []) (tb 10 0) (by kernel_rfl) rfl (by kernel_rfl) (c3 BK194 (d3 BK195)) (fun hHeld => ?_); refine with_tabW bits_number__Add_1.tab5 bits_number__Add_1.bits5 (fun HT_ HW_ => ?_)
   generalize w17.drew = w20 at BK194 BK195 BK196 HB hHeld ⊢
   refine pA 0 23 (tb 10 1) HT_ ?_
   refine pA 2 25 (tb 10 5) HT_ ?_
   refine pA 3 26 (tb 10 13) HT_ ?_
   refine pA 5 28 (tb 10 45) HT_ ?_
   refine tA 1 24 (tb 10 47) HT_ HW_ hHeld ?_
   refine tA 4 27 (tb 10 63) HT_ HW_ hHeld ?_
   refine tA 6 29 (tb 10 127) HT_ HW_ hHeld ?_
   refine oA 7 (some 30) (tb 10 255) HT_ (fun K hK => ?_)
   refine sq_goesT Tryd.func73 (by kernel_rfl) rfl #[.int .u64 a0_1, .int .u64 a1_1] (by rfl) rfl rfl rfl (by (try simp only [List.map_toArray, List.map_cons, List.map_nil]); rfl) ?_
   with_reducible refine (bits_Add_1.calls a0_1 a1_1 t201 _ A7.out).mono ?_
   rintro e w' ⟨rfl, ⟨nd, rfl⟩⟩
   refine ⟨_, rfl, ?_⟩
   refine hK.out _ _ (c3 BK194 (d3 BK195)) (fun hHeld => ?_)
   clear hK K
   refine nA ?_
   refine oA 8 (some 31) (tb 10 511) HT_ (fun K hK => ?_)
   refine gA Tryd.func24 #[.int .i64 a0_0, .int .u64 t201] ?_
   with_reducible refine (bits_Of.calls a0_0 t201 t202 t203 t204 _ A8.out).mono ?_
   rintro e w21 ⟨rfl, hb⟩
   refine ⟨_, rfl, ?_⟩
   replace BK194 := bk1 BK194 hb
   replace BK195 := bk1 BK195 hb
   replace BK196 := bk1 BK196 hb
   replace HB := hb1 HB hb
   (try clear hb)
   refine hK.out _ _ (c3 BK194 (d3 BK195)) (fun hHeld => ?_)
   clear hK K
   refine nA ?_
   refine oA 9 (none) (tb 10 1023) HT_ (fun K hK => ?_)
   have hs22 : w21.cell? ⟨gb196, 0, none⟩ = some (.int .i64 0) := (blk_cell BK196.out 0).trans rfl
   have hfs22 := blk_frozen BK196.out 0
   have hns22_0 := NB194_196.out
   have hns22_1 := NB195_196.out
   have hms22_0 := NB196_194.out
   have hms22_1 := NB196_195.out
   have hs23 : w21.cell? ⟨gb196, 1, none⟩ = some (.int .u64 0) := (blk_cell BK196.out 1).trans rfl
   have hfs23 := blk_frozen BK196.out 1
   have hns23_0 := NB194_196.out
   have hns23_1 := NB195_196.out
   have hms23_0 := NB196_194.out
   have hms23_1 := NB196_195.out
   have hs24 : w21.cell? ⟨gb196, 2, none⟩ = some (.int .u64 0) := (blk_cell BK196.out 2).trans rfl
   have hfs24 := blk_frozen BK196.out 2
   have hns24_0 := NB194_196.out
   have hns24_1 := NB195_196.out
   have hms24_0 := NB196_194.out
   have hms24_1 := NB196_195.out
   refine skip_ (w1 := ?_) (by rfl) rfl ?_ ?_
   rotate_left
   ·go_simp
    rfl
   refine hK.out _ _ ⟨((cell_far (p := ⟨gb196, _, none⟩) NB194_196.out _).trans (((cell_far (p := ⟨gb196, _, none⟩) NB194_196.out _).trans (((cell_far (p := ⟨gb196, _, none⟩) NB194_196.out _).trans (hHeld.1)))))), ((cell_far (p := ⟨gb196, _, none⟩) NB194_196.out _).trans (((cell_far (p := ⟨gb196, _, none⟩) NB194_196.out _).trans (((cell_far (p := ⟨gb196, _, none⟩) NB194_196.out _).trans (hHeld.2.1)))))), ((cell_far (p := ⟨gb196, _, none⟩) NB194_196.out _).trans (((cell_far (p := ⟨gb196, _, none⟩) NB194_196.out _).trans (((cell_far (p := ⟨gb196, _, none⟩) NB194_196.out _).trans (hHeld.2.2.1)))))), ((cell_far (p := ⟨gb196, _, none⟩) NB195_196.out _).trans (((cell_far (p := ⟨gb196, _, none⟩) NB195_196.out _).trans (((cell_far (p := ⟨gb196, _, none⟩) NB195_196.out _).trans (hHeld.2.2.2.1)))))), ((cell_far (p := ⟨gb196, _, none⟩) NB195_196.out _).trans (((cell_far (p := ⟨gb196, _, none⟩) NB195_196.out _).trans (((cell_far (p := ⟨gb196, _, none⟩) NB195_196.out _).trans (hHeld.2.2.2.2.1)))))), ((cell_far (p := ⟨gb196, _, none⟩) NB195_196.out _).trans (((cell_far (p := ⟨gb196, _, none⟩) NB195_196.out _).trans (((cell_far (p := ⟨gb196, _, none⟩) NB195_196.out _).trans (hHeld.2.2.2.2.2))))))⟩ (fun hHeld => ?_)
   clear hK K
   refine done_ (done_of HT_.out (by kernel_rfl)) ?_
   try go_wp2
   refine bodyPost_ret (results_cell_row rfl _ _ gb196 24 #[.int .i64 t202, .int .u64 t203, .int .u64 t204] (0, 0) _ rfl (by refine blk_put (cs := #[.int .i64 t202, .int .u64 t203, .int .u64 0]) ?_ 2 _ rfl; refine blk_put (cs := #[.int .i64 t202, .int .u64 0, .int .u64 0]) ?_ 1 _ rfl; refine blk_put (cs := #[.int .i64 0, .int .u64 0, .int .u64 0]) ?_ 0 _ rfl; exact BK196.out) Tryd.underlying24 rfl (by kernel_rfl)) rfl ?_
   exact ⟨by rfl, by repeat (with_reducible first | exact HB.out | refine below_set ?_ GE196.out)⟩
  ·rw [if_neg c6] at H
   have c6b0 : ((Go.bits .or .u64 a0_2 a1_2) == 0) = false := beq_eq_false_iff_ne.mpr c6
   have c6b1 : ((Go.bits .or .u64 a0_2 a1_2) != 0) = true := bne_iff_ne.mpr c6
   replace H := Option.bind_eq_some_iff.mp H
   obtain ⟨⟨t198, t199, t200⟩, A250, H⟩ := H
   replace H : (some (t198, t199, t200)) = some (r1, r2, r3) := H
   have A25 := Aside0.mk A250
   clear A250
   simp only [Option.some.injEq, Prod.mk.injEq] at H
   obtain ⟨rfl, rfl, rfl⟩ := H
   go_enter Tryd.func71, Tryd.ntmps71
   go_wp2_with (first | ((with_reducible refine gate_dst (N := 3) rfl ?_); refine box_event ?hg (N := 3) ?hd (cs := #[.int .i64 a0_0, .int .u64 a0_1, .int .u64 a0_2]) (t := 24) ?hr ?_; (case hd => rfl); (case hg => rfl); (case hr => (go_simp; done)); intro gb194 hg w26 hbox hb; have BK194 := Aside0.mk (hbox); have GW194 := ge1 HB hg; have GE194 := ge1 HB hg; replace HB := hb1 HB hb; clear hb hbox hg) | ((with_reducible refine gate_dst (N := 4) rfl ?_); refine box_event ?hg (N := 4) ?hd (cs := #[.int .i64 a1_0, .int .u64 a1_1, .int .u64 a1_2]) (t := 24) ?hr ?_; (case hd => rfl); (case hg => rfl); (case hr => (go_simp; done)); intro gb195 hg w27 hbox hb; have BK195 := Aside0.mk (hbox); have GW195 := ge1 HB hg; have GE195 := ge1 HB hg; replace HB := hb1 HB hb; have NB194_195 := Aside0.mk ((by rw [hg]; exact Nat.ne_of_lt (blk_lt BK194.out) : gb194 ≠ gb195)); have NB195_194 := Aside0.mk ((by rw [hg]; exact Nat.ne_of_gt (blk_lt BK194.out) : gb195 ≠ gb194)); replace BK194 := bk1 BK194 hb; clear hb hbox hg) | ((with_reducible refine gate_dst (N := 6) rfl ?_); refine box_event ?hg (N := 6) ?hd (cs := #[.int .i64 0, .int .u64 0, .int .u64 0]) (t := 24) ?hr ?_; (case hd => rfl); (case hg => rfl); (case hr => (go_simp; done)); intro gb196 hg w28 hbox hb; have BK196 := Aside0.mk (hbox); have GW196 := ge1 HB hg; have GE196 := ge1 HB hg; replace HB := hb1 HB hb; have NB194_196 := Aside0.mk ((by rw [hg]; exact Nat.ne_of_lt (blk_lt BK194.out) : gb194 ≠ gb196)); have NB196_194 := Aside0.mk ((by rw [hg]; exact Nat.ne_of_gt (blk_lt BK194.out) : gb196 ≠ gb194)); replace BK194 := bk1 BK194 hb; have NB195_196 := Aside0.mk ((by rw [hg]; exact Nat.ne_of_lt (blk_lt BK195.out) : gb195 ≠ gb196)); have NB196_195 := Aside0.mk ((by rw [hg]; exact Nat.ne_of_gt (blk_lt BK195.out) : gb196 ≠ gb195)); replace BK195 := bk1 BK195 hb; clear hb hbox hg; have hnb29 := NB194_195.out; have hnc29 := NB195_194.out; have hnb30 := NB194_196.out; have hnc30 := NB196_194.out; have hcz31_0 : w28.cell? ⟨gb194, 0, none⟩ = some (.int .i64 a0_0) := (blk_cell BK194.out 0).trans rfl; have hcz31_1 : w28.cell? ⟨gb194, 1, none⟩ = some (.int .u64 a0_1) := (blk_cell BK194.out 1).trans rfl; have hcz31_2 : w28.cell? ⟨gb194, 2, none⟩ = some (.int .u64 a0_2) := (blk_cell BK194.out 2).trans rfl; have hfz31_0 := blk_frozen BK194.out 0; have hfz31_1 := blk_frozen BK194.out 1; have hfz31_2 := blk_frozen BK194.out 2; have hnb32 := NB195_196.out; have hnc32 := NB196_195.out; have hcz33_0 : w28.cell? ⟨gb195, 0, none⟩ = some (.int .i64 a1_0) := (blk_cell BK195.out 0).trans rfl; have hcz33_1 : w28.cell? ⟨gb195, 1, none⟩ = some (.int .u64 a1_1) := (blk_cell BK195.out 1).trans rfl; have hcz33_2 : w28.cell? ⟨gb195, 2, none⟩ = some (.int .u64 a1_2) := (blk_cell BK195.out 2).trans rfl; have hfz33_0 := blk_frozen BK195.out 0; have hfz33_1 := blk_frozen BK195.out 1; have hfz33_2 := blk_frozen BK195.out 2) | ((with_reducible refine gate_callee (f := 66) rfl ?_); refine goesL_ (some 10) rfl rfl Tryd.func66 (by kernel_rfl) rfl #[.agg #[.int .i64 a0_0, .int .u64 a0_1, .int .u64 a0_2], .agg #[.int .i64 a1_0, .int .u64 a1_1, .int .u64 a1_2]] rfl (by (try simp only [List.map_toArray, List.map_cons, List.map_nil]); rfl) ?_; (with_reducible refine (bits_alike.calls k a0_0 a0_1 a0_2 a1_0 a1_1 a1_2 true _ A4.out).mono ?_); rintro e w34 ⟨rfl, hb⟩; refine ⟨_, rfl, ?_⟩; replace BK194 := bk1 BK194 hb; replace BK195 := bk1 BK195 hb; replace BK196 := bk1 BK196 hb; replace HB := hb1 HB hb; (try clear hb); have hcz35_0 : w34.cell? ⟨gb194, 0, none⟩ = some (.int .i64 a0_0) := (blk_cell BK194.out 0).trans rfl; have hcz35_1 : w34.cell? ⟨gb194, 1, none⟩ = some (.int .u64 a0_1) := (blk_cell BK194.out 1).trans rfl; have hcz35_2 : w34.cell? ⟨gb194, 2, none⟩ = some (.int .u64 a0_2) := (blk_cell BK194.out 2).trans rfl; have hfz35_0 := blk_frozen BK194.out 0; have hfz35_1 := blk_frozen BK194.out 1; have hfz35_2 := blk_frozen BK194.out 2; have hcz36_0 : w34.cell? ⟨gb195, 0, none⟩ = some (.int .i64 a1_0) := (blk_cell BK195.out 0).trans rfl; have hcz36_1 : w34.cell? ⟨gb195, 1, none⟩ = some (.int .u64 a1_1) := (blk_cell BK195.out 1).trans rfl; have hcz36_2 : w34.cell? ⟨gb195, 2, none⟩ = some (.int .u64 a1_2) := (blk_cell BK195.out 2).trans rfl; have hfz36_0 := blk_frozen BK195.out 0; have hfz36_1 := blk_frozen BK195.out 1; have hfz36_2 := blk_frozen BK195.out 2) | ((with_reducible refine gate_callee (f := 25) rfl ?_); refine goesL_ (some 22) rfl rfl Tryd.func25 (by kernel_rfl) rfl #[.int .i64 a0_0, .int .u8 120] rfl (by (try simp only [List.map_toArray, List.map_cons, List.map_nil]); rfl) ?_; (with_reducible refine (bits_All.calls k a0_0 120 t198 t199 t200 _ A25.out).mono ?_); rintro e w37 ⟨rfl, hb⟩; refine ⟨_, rfl, ?_⟩; replace BK194 := bk1 BK194 hb; replace BK195 := bk1 BK195 hb; replace BK196 := bk1 BK196 hb; replace HB := hb1 HB hb; (try clear hb); have hcz38_0 : w37.cell? ⟨gb196, 0, none⟩ = some (.int .i64 0) := (blk_cell BK196.out 0).trans rfl; have hcz38_1 : w37.cell? ⟨gb196, 1, none⟩ = some (.int .u64 0) := (blk_cell BK196.out 1).trans rfl; have hcz38_2 : w37.cell? ⟨gb196, 2, none⟩ = some (.int .u64 0) := (blk_cell BK196.out 2).trans rfl; have hfz38_0 := blk_frozen BK196.out 0; have hfz38_1 := blk_frozen BK196.out 1; have hfz38_2 := blk_frozen BK196.out 2))
   refine bodyPost_ret (results_cell_row rfl _ _ gb196 24 #[.int .i64 t198, .int .u64 t199, .int .u64 t200] (0, 0) _ rfl (by refine blk_put (cs := #[.int .i64 t198, .int .u64 t199, .int .u64 0]) ?_ 2 _ rfl; refine blk_put (cs := #[.int .i64 t198, .int .u64 0, .int .u64 0]) ?_ 1 _ rfl; refine blk_put (cs := #[.int .i64 0, .int .u64 0, .int .u64 0]) ?_ 0 _ rfl; exact BK196.out) Tryd.underlying24 rfl (by kernel_rfl)) rfl ?_
   exact ⟨by rfl, by repeat (with_reducible first | exact HB.out | refine below_set ?_ GE196.out)⟩
 ·replace c5 := Bool.eq_false_iff.mpr c5
  subst c5
  have H1 : (some (0, 0, 0)) = some (r1, r2, r3) := by rw [if_neg (show ¬ (false = true) by decide)] at H; exact H
  clear H
  have H := H1
  clear H1
  simp only [Option.some.injEq, Prod.mk.injEq] at H
  obtain ⟨rfl, rfl, rfl⟩ := H
  go_enter Tryd.func71, Tryd.ntmps71
  go_wp2_with (first | ((with_reducible refine gate_dst (N := 3) rfl ?_); refine box_event ?hg (N := 3) ?hd (cs := #[.int .i64 a0_0, .int .u64 a0_1, .int .u64 a0_2]) (t := 24) ?hr ?_; (case hd => rfl); (case hg => rfl); (case hr => (go_simp; done)); intro gb194 hg w39 hbox hb; have BK194 := Aside0.mk (hbox); have GW194 := ge1 HB hg; have GE194 := ge1 HB hg; replace HB := hb1 HB hb; clear hb hbox hg) | ((with_reducible refine gate_dst (N := 4) rfl ?_); refine box_event ?hg (N := 4) ?hd (cs := #[.int .i64 a1_0, .int .u64 a1_1, .int .u64 a1_2]) (t := 24) ?hr ?_; (case hd => rfl); (case hg => rfl); (case hr => (go_simp; done)); intro gb195 hg w40 hbox hb; have BK195 := Aside0.mk (hbox); have GW195 := ge1 HB hg; have GE195 := ge1 HB hg; replace HB := hb1 HB hb; have NB194_195 := Aside0.mk ((by rw [hg]; exact Nat.ne_of_lt (blk_lt BK194.out) : gb194 ≠ gb195)); have NB195_194 := Aside0.mk ((by rw [hg]; exact Nat.ne_of_gt (blk_lt BK194.out) : gb195 ≠ gb194)); replace BK194 := bk1 BK194 hb; clear hb hbox hg) | ((with_reducible refine gate_dst (N := 6) rfl ?_); refine box_event ?hg (N := 6) ?hd (cs := #[.int .i64 0, .int .u64 0, .int .u64 0]) (t := 24) ?hr ?_; (case hd => rfl); (case hg => rfl); (case hr => (go_simp; done)); intro gb196 hg w41 hbox hb; have BK196 := Aside0.mk (hbox); have GW196 := ge1 HB hg; have GE196 := ge1 HB hg; replace HB := hb1 HB hb; have NB194_196 := Aside0.mk ((by rw [hg]; exact Nat.ne_of_lt (blk_lt BK194.out) : gb194 ≠ gb196)); have NB196_194 := Aside0.mk ((by rw [hg]; exact Nat.ne_of_gt (blk_lt BK194.out) : gb196 ≠ gb194)); replace BK194 := bk1 BK194 hb; have NB195_196 := Aside0.mk ((by rw [hg]; exact Nat.ne_of_lt (blk_lt BK195.out) : gb195 ≠ gb196)); have NB196_195 := Aside0.mk ((by rw [hg]; exact Nat.ne_of_gt (blk_lt BK195.out) : gb196 ≠ gb195)); replace BK195 := bk1 BK195 hb; clear hb hbox hg; have hnb42 := NB194_195.out; have hnc42 := NB195_194.out; have hnb43 := NB194_196.out; have hnc43 := NB196_194.out; have hcz44_0 : w41.cell? ⟨gb194, 0, none⟩ = some (.int .i64 a0_0) := (blk_cell BK194.out 0).trans rfl; have hcz44_1 : w41.cell? ⟨gb194, 1, none⟩ = some (.int .u64 a0_1) := (blk_cell BK194.out 1).trans rfl; have hcz44_2 : w41.cell? ⟨gb194, 2, none⟩ = some (.int .u64 a0_2) := (blk_cell BK194.out 2).trans rfl; have hfz44_0 := blk_frozen BK194.out 0; have hfz44_1 := blk_frozen BK194.out 1; have hfz44_2 := blk_frozen BK194.out 2; have hnb45 := NB195_196.out; have hnc45 := NB196_195.out; have hcz46_0 : w41.cell? ⟨gb195, 0, none⟩ = some (.int .i64 a1_0) := (blk_cell BK195.out 0).trans rfl; have hcz46_1 : w41.cell? ⟨gb195, 1, none⟩ = some (.int .u64 a1_1) := (blk_cell BK195.out 1).trans rfl; have hcz46_2 : w41.cell? ⟨gb195, 2, none⟩ = some (.int .u64 a1_2) := (blk_cell BK195.out 2).trans rfl; have hfz46_0 := blk_frozen BK195.out 0; have hfz46_1 := blk_frozen BK195.out 1; have hfz46_2 := blk_frozen BK195.out 2) | ((with_reducible refine gate_callee (f := 66) rfl ?_); refine goesL_ (some 10) rfl rfl Tryd.func66 (by kernel_rfl) rfl #[.agg #[.int .i64 a0_0, .int .u64 a0_1, .int .u64 a0_2], .agg #[.int .i64 a1_0, .int .u64 a1_1, .int .u64 a1_2]] rfl (by (try simp only [List.map_toArray, List.map_cons, List.map_nil]); rfl) ?_; (with_reducible refine (bits_alike.calls k a0_0 a0_1 a0_2 a1_0 a1_1 a1_2 false _ A4.out).mono ?_); rintro e w47 ⟨rfl, hb⟩; refine ⟨_, rfl, ?_⟩; replace BK194 := bk1 BK194 hb; replace BK195 := bk1 BK195 hb; replace BK196 := bk1 BK196 hb; replace HB := hb1 HB hb; (try clear hb); have hcz48_0 : w47.cell? ⟨gb196, 0, none⟩ = some (.int .i64 0) := (blk_cell BK196.out 0).trans rfl; have hcz48_1 : w47.cell? ⟨gb196, 1, none⟩ = some (.int .u64 0) := (blk_cell BK196.out 1).trans rfl; have hcz48_2 : w47.cell? ⟨gb196, 2, none⟩ = some (.int .u64 0) := (blk_cell BK196.out 2).trans rfl; have hfz48_0 := blk_frozen BK196.out 0; have hfz48_1 := blk_frozen BK196.out 1; have hfz48_2 := blk_frozen BK196.out 2))
  refine bodyPost_ret (results_cell_row rfl _ _ gb196 24 #[.int .i64 0, .int .u64 0, .int .u64 0] (0, 0) _ rfl (by refine blk_put (cs := #[.int .i64 0, .int .u64 0, .int .u64 0]) ?_ 2 _ rfl; refine blk_put (cs := #[.int .i64 0, .int .u64 0, .int .u64 0]) ?_ 1 _ rfl; refine blk_put (cs := #[.int .i64 0, .int .u64 0, .int .u64 0]) ?_ 0 _ rfl; exact BK196.out) Tryd.underlying24 rfl (by kernel_rfl)) rfl ?_
  exact ⟨by rfl, by repeat (with_reducible first | exact HB.out | refine below_set ?_ GE196.out)⟩
end Go.Proofs.YtfigblfjogpojaaDoor.PBits
end
section
namespace Go.Proofs.YtfigblfjogpojaaDoor.PBits
open Go.RowKit Go.Proofs.YtfigblfjogpojaaDoorW.PrintWords Go.Proofs.YtfigblfjogpojaaDoorW.PrintLast Go.Proofs.YtfigblfjogpojaaDoorW.PrintMore
attribute [local go_sem] max2_int min2_int max_two min_two max_three min_three max_four min_four
set_option linter.unusedVariables false
set_option linter.unusedSimpArgs false
def bits_Add.f (k : Nat) (a0_0 : Int) (a0_1 : Int) (a0_2 : Int) (a1_0 : Int) (a1_1 : Int) (a1_2 : Int) : Option (Int × Int × Int) := (bits_number__Add_1.f k a0_0 a0_1 a0_2 a1_0 a1_1 a1_2).bind fun bt208 => (some (bt208.1, bt208.2.1, bt208.2.2))
theorem bits_Add.mono : ∀ a0 a1 a2 a3 a4 a5 k, LeO (bits_Add.f k a0 a1 a2 a3 a4 a5) (bits_Add.f (k + 1) a0 a1 a2 a3 a4 a5) := by
 intro a0 a1 a2 a3 a4 a5 k
 unfold bits_Add.f
 repeat' first
   | (with_reducible exact bits_number__Add_1.mono _ _ _ _ _ _ _)
   | (with_reducible exact LeO.refl _)
   | (with_reducible exact LeO.none _)
   | (with_reducible refine LeO.ite ?_ ?_)
   | (with_reducible refine LeO.bind ?_ (fun _ => ?_))
   | exact bits_number__Add_1.mono _ _ _ _ _ _ _
   | exact LeO.none _
   | refine LeO.ite ?_ ?_
   | refine LeO.bind ?_ (fun _ => ?_)
set_option maxHeartbeats 8000000 in
set_option maxRecDepth 100000 in
theorem bits_Add.calls (k : Nat) (a0_0 : Int) (a0_1 : Int) (a0_2 : Int) (a1_0 : Int) (a1_1 : Int) (a1_2 : Int) (r1 : Int) (r2 : Int) (r3 : Int) (w : World) (h : bits_Add.f k a0_0 a0_1 a0_2 a1_0 a1_1 a1_2 = some (r1, r2, r3)) :
  Calls Tryd.prog 49 #[.agg #[.int .i64 a0_0, .int .u64 a0_1, .int .u64 a0_2], .agg #[.int .i64 a1_0, .int .u64 a1_1, .int .u64 a1_2]] w fun e w' => e = .returned (.agg #[.int .i64 r1, .int .u64 r2, .int .u64 r3]) ∧ Below w.heap.size w w' := by
 have hu24 := Tryd.underlying24
 have HB := Aside0.mk (Below.refl w.heap.size w)
 have H : ((bits_number__Add_1.f k a0_0 a0_1 a0_2 a1_0 a1_1 a1_2).bind fun bt208 => (some (bt208.1, bt208.2.1, bt208.2.2))) = some (r1, r2, r3) := h
 clear h
 replace H := Option.bind_eq_some_iff.mp H
 obtain ⟨⟨t208, t209, t210⟩, A30, H⟩ := H
 replace H : (some (t208, t209, t210)) = some (r1, r2, r3) := H
 have A3 := Aside0.mk A30
 clear A30
 simp only [Option.some.injEq, Prod.mk.injEq] at H
 obtain ⟨rfl, rfl, rfl⟩ := H
 go_enter Tryd.func49, Tryd.ntmps49
 go_wp2_with (first | ((with_reducible refine gate_dst (N := 2) rfl ?_); refine box_event ?hg (N := 2) ?hd (cs := #[.int .i64 a0_0, .int .u64 a0_1, .int .u64 a0_2]) (t := 24) ?hr ?_; (case hd => rfl); (case hg => rfl); (case hr => (go_simp; done)); intro gb205 hg w4 hbox hb; have BK205 := Aside0.mk (hbox); have GW205 := ge1 HB hg; have GE205 := ge1 HB hg; replace HB := hb1 HB hb; clear hb hbox hg) | ((with_reducible refine gate_dst (N := 3) rfl ?_); refine box_event ?hg (N := 3) ?hd (cs := #[.int .i64 a1_0, .int .u64 a1_1, .int .u64 a1_2]) (t := 24) ?hr ?_; (case hd => rfl); (case hg => rfl); (case hr => (go_simp; done)); intro gb206 hg w5 hbox hb; have BK206 := Aside0.mk (hbox); have GW206 := ge1 HB hg; have GE206 := ge1 HB hg; replace HB := hb1 HB hb; have NB205_206 := Aside0.mk ((by rw [hg]; exact Nat.ne_of_lt (blk_lt BK205.out) : gb205 ≠ gb206)); have NB206_205 := Aside0.mk ((by rw [hg]; exact Nat.ne_of_gt (blk_lt BK205.out) : gb206 ≠ gb205)); replace BK205 := bk1 BK205 hb; clear hb hbox hg) | ((with_reducible refine gate_dst (N := 4) rfl ?_); refine box_event ?hg (N := 4) ?hd (cs := #[.int .i64 0, .int .u64 0, .int .u64 0]) (t := 24) ?hr ?_; (case hd => rfl); (case hg => rfl); (case hr => (go_simp; done)); intro gb207 hg w6 hbox hb; have BK207 := Aside0.mk (hbox); have GW207 := ge1 HB hg; have GE207 := ge1 HB hg; replace HB := hb1 HB hb; have NB205_207 := Aside0.mk ((by rw [hg]; exact Nat.ne_of_lt (blk_lt BK205.out) : gb205 ≠ gb207)); have NB207_205 := Aside0.mk ((by rw [hg]; exact Nat.ne_of_gt (blk_lt BK205.out) : gb207 ≠ gb205)); replace BK205 := bk1 BK205 hb; have NB206_207 := Aside0.mk ((by rw [hg]; exact Nat.ne_of_lt (blk_lt BK206.out) : gb206 ≠ gb207)); have NB207_206 := Aside0.mk ((by rw [hg]; exact Nat.ne_of_gt (blk_lt BK206.out) : gb207 ≠ gb206)); replace BK206 := bk1 BK206 hb; clear hb hbox hg; have hnb7 := NB205_206.out; have hnc7 := NB206_205.out; have hnb8 := NB205_207.out; have hnc8 := NB207_205.out; have hcz9_0 : w6.cell? ⟨gb205, 0, none⟩ = some (.int .i64 a0_0) := (blk_cell BK205.out 0).trans rfl; have hcz9_1 : w6.cell? ⟨gb205, 1, none⟩ = some (.int .u64 a0_1) := (blk_cell BK205.out 1).trans rfl; have hcz9_2 : w6.cell? ⟨gb205, 2, none⟩ = some (.int .u64 a0_2) := (blk_cell BK205.out 2).trans rfl; have hfz9_0 := blk_frozen BK205.out 0; have hfz9_1 := blk_frozen BK205.out 1; have hfz9_2 := blk_frozen BK205.out 2; have hnb10 := NB206_207.out; have hnc10 := NB207_206.out; have hcz11_0 : w6.cell? ⟨gb206, 0, none⟩ = some (.int .i64 a1_0) := (blk_cell BK206.out 0).trans rfl; have hcz11_1 : w6.cell? ⟨gb206, 1, none⟩ = some (.int .u64 a1_1) := (blk_cell BK206.out 1).trans rfl; have hcz11_2 : w6.cell? ⟨gb206, 2, none⟩ = some (.int .u64 a1_2) := (blk_cell BK206.out 2).trans rfl; have hfz11_0 := blk_frozen BK206.out 0; have hfz11_1 := blk_frozen BK206.out 1; have hfz11_2 := blk_frozen BK206.out 2) | ((with_reducible refine gate_callee (f := 71) rfl ?_); refine goesL_ (some 7) rfl rfl Tryd.func71 (by kernel_rfl) rfl #[.agg #[.int .i64 a0_0, .int .u64 a0_1, .int .u64 a0_2], .agg #[.int .i64 a1_0, .int .u64 a1_1, .int .u64 a1_2], (.func (.func 73) #[] #[])] rfl (by (try simp only [List.map_toArray, List.map_cons, List.map_nil]); rfl) ?_; (with_reducible refine (bits_number__Add_1.calls k a0_0 a0_1 a0_2 a1_0 a1_1 a1_2  t208 t209 t210 _ A3.out).mono ?_); rintro e w12 ⟨rfl, hb⟩; refine ⟨_, rfl, ?_⟩; replace BK205 := bk1 BK205 hb; replace BK206 := bk1 BK206 hb; replace BK207 := bk1 BK207 hb; replace HB := hb1 HB hb; (try clear hb); have hcz13_0 : w12.cell? ⟨gb207, 0, none⟩ = some (.int .i64 0) := (blk_cell BK207.out 0).trans rfl; have hcz13_1 : w12.cell? ⟨gb207, 1, none⟩ = some (.int .u64 0) := (blk_cell BK207.out 1).trans rfl; have hcz13_2 : w12.cell? ⟨gb207, 2, none⟩ = some (.int .u64 0) := (blk_cell BK207.out 2).trans rfl; have hfz13_0 := blk_frozen BK207.out 0; have hfz13_1 := blk_frozen BK207.out 1; have hfz13_2 := blk_frozen BK207.out 2))
 refine bodyPost_ret (results_cell_row rfl _ _ gb207 24 #[.int .i64 t208, .int .u64 t209, .int .u64 t210] (0, 0) _ rfl (by refine blk_put (cs := #[.int .i64 t208, .int .u64 t209, .int .u64 0]) ?_ 2 _ rfl; refine blk_put (cs := #[.int .i64 t208, .int .u64 0, .int .u64 0]) ?_ 1 _ rfl; refine blk_put (cs := #[.int .i64 0, .int .u64 0, .int .u64 0]) ?_ 0 _ rfl; exact BK207.out) Tryd.underlying24 rfl (by kernel_rfl)) rfl ?_
 exact ⟨by rfl, by repeat (with_reducible first | exact HB.out | refine below_set ?_ GE207.out)⟩
end Go.Proofs.YtfigblfjogpojaaDoor.PBits
end
section
namespace Go.Proofs.YtfigblfjogpojaaDoor.PBits
open Go.RowKit Go.Proofs.YtfigblfjogpojaaDoorW.PrintWords Go.Proofs.YtfigblfjogpojaaDoorW.PrintLast Go.Proofs.YtfigblfjogpojaaDoorW.PrintMore
attribute [local go_sem] max2_int min2_int max_two min_two max_three min_three max_four min_four
set_option linter.unusedVariables false
set_option linter.unusedSimpArgs false
attribute [local go_sem high] eqA24
def masklaw1_vectors.f (k : Nat)  : Option (Bool) := (bits_Read.f k (⟨#[54, 39, 104, 122, 102]⟩ : ByteArray)).bind fun bt211 => ((bits_Read.f k (⟨#[56, 39, 115, 100, 50, 48, 48]⟩ : ByteArray)).bind fun bt216 => ((bits_Int.f k bt216.1 bt216.2.1 bt216.2.2.1).bind fun bt221 => (if bt211.2.2.2 = 0 then (if bt216.2.2.2 = 0 then ((bits_Text.f k bt211.1 bt211.2.1 bt211.2.2.1).bind fun t223 => (if t223.toList = ([54, 39, 98, 122, 122, 49, 49, 49, 49] : List UInt8) then (if bt221.1 = (-56) then ((bits_Add.f k bt216.1 bt216.2.1 bt216.2.2.1 bt216.1 bt216.2.1 bt216.2.2.1).bind fun bt224 => (some (bt224.1 == 8 && (bt224.2.1 == 144 && (bt224.2.2 == 0))))) else (some false)) else (some false))) else (some false)) else (some false))))
theorem masklaw1_vectors.mono : ∀ k, LeO (masklaw1_vectors.f k ) (masklaw1_vectors.f (k + 1) ) := by
 intro  k
 unfold masklaw1_vectors.f
 repeat' first
   | (with_reducible exact bits_Add.mono _ _ _ _ _ _ _)
   | (with_reducible exact bits_Int.mono _ _ _ _)
   | (with_reducible exact bits_Read.mono _ _)
   | (with_reducible exact bits_Text.mono _ _ _ _)
   | (with_reducible exact LeO.refl _)
   | (with_reducible exact LeO.none _)
   | (with_reducible refine LeO.ite ?_ ?_)
   | (with_reducible refine LeO.bind ?_ (fun _ => ?_))
   | exact bits_Add.mono _ _ _ _ _ _ _
   | exact bits_Int.mono _ _ _ _
   | exact bits_Read.mono _ _
   | exact bits_Text.mono _ _ _ _
   | exact LeO.none _
   | refine LeO.ite ?_ ?_
   | refine LeO.bind ?_ (fun _ => ?_)
set_option maxHeartbeats 8000000 in
set_option maxRecDepth 100000 in
theorem masklaw1_vectors.calls (k : Nat)  (r : Bool) (w : World) (h : masklaw1_vectors.f k  = some r) :
  Calls Tryd.prog 11 #[] w fun e w' => e = .returned (.bool r) ∧ Below w.heap.size w w' := by
 have hu24 := Tryd.underlying24
 have HB := Aside0.mk (Below.refl w.heap.size w)
 have H : ((bits_Read.f k (⟨#[54, 39, 104, 122, 102]⟩ : ByteArray)).bind fun bt211 => ((bits_Read.f k (⟨#[56, 39, 115, 100, 50, 48, 48]⟩ : ByteArray)).bind fun bt216 => ((bits_Int.f k bt216.1 bt216.2.1 bt216.2.2.1).bind fun bt221 => (if bt211.2.2.2 = 0 then (if bt216.2.2.2 = 0 then ((bits_Text.f k bt211.1 bt211.2.1 bt211.2.2.1).bind fun t223 => (if t223.toList = ([54, 39, 98, 122, 122, 49, 49, 49, 49] : List UInt8) then (if bt221.1 = (-56) then ((bits_Add.f k bt216.1 bt216.2.1 bt216.2.2.1 bt216.1 bt216.2.1 bt216.2.2.1).bind fun bt224 => (some (bt224.1 == 8 && (bt224.2.1 == 144 && (bt224.2.2 == 0))))) else (some false)) else (some false))) else (some false)) else (some false))))) = some r := h
 clear h
 replace H := Option.bind_eq_some_iff.mp H
 obtain ⟨⟨t211, t212, t213, t214⟩, A10, H⟩ := H
 replace H : ((bits_Read.f k (⟨#[56, 39, 115, 100, 50, 48, 48]⟩ : ByteArray)).bind fun bt216 => ((bits_Int.f k bt216.1 bt216.2.1 bt216.2.2.1).bind fun bt221 => (if t214 = 0 then (if bt216.2.2.2 = 0 then ((bits_Text.f k t211 t212 t213).bind fun t223 => (if t223.toList = ([54, 39, 98, 122, 122, 49, 49, 49, 49] : List UInt8) then (if bt221.1 = (-56) then ((bits_Add.f k bt216.1 bt216.2.1 bt216.2.2.1 bt216.1 bt216.2.1 bt216.2.2.1).bind fun bt224 => (some (bt224.1 == 8 && (bt224.2.1 == 144 && (bt224.2.2 == 0))))) else (some false)) else (some false))) else (some false)) else (some false)))) = some r := H
 have A1 := Aside0.mk A10
 clear A10
 replace H := Option.bind_eq_some_iff.mp H
 obtain ⟨⟨t216, t217, t218, t219⟩, A20, H⟩ := H
 replace H : ((bits_Int.f k t216 t217 t218).bind fun bt221 => (if t214 = 0 then (if t219 = 0 then ((bits_Text.f k t211 t212 t213).bind fun t223 => (if t223.toList = ([54, 39, 98, 122, 122, 49, 49, 49, 49] : List UInt8) then (if bt221.1 = (-56) then ((bits_Add.f k t216 t217 t218 t216 t217 t218).bind fun bt224 => (some (bt224.1 == 8 && (bt224.2.1 == 144 && (bt224.2.2 == 0))))) else (some false)) else (some false))) else (some false)) else (some false))) = some r := H
 have A2 := Aside0.mk A20
 clear A20
 replace H := Option.bind_eq_some_iff.mp H
 obtain ⟨⟨t221, t222⟩, A30, H⟩ := H
 replace H : (if t214 = 0 then (if t219 = 0 then ((bits_Text.f k t211 t212 t213).bind fun t223 => (if t223.toList = ([54, 39, 98, 122, 122, 49, 49, 49, 49] : List UInt8) then (if t221 = (-56) then ((bits_Add.f k t216 t217 t218 t216 t217 t218).bind fun bt224 => (some (bt224.1 == 8 && (bt224.2.1 == 144 && (bt224.2.2 == 0))))) else (some false)) else (some false))) else (some false)) else (some false)) = some r := H
 have A3 := Aside0.mk A30
 clear A30
 by_cases c4 : t214 = 0
 ·rw [if_pos c4] at H
  have c4b0 : (t214 == 0) = true := beq_iff_eq.mpr c4
  have c4b1 : (t214 != 0) = false := bne_eq_false_iff_eq.mpr c4
  clear c4
  by_cases c5 : t219 = 0
  ·rw [if_pos c5] at H
   have c5b0 : (t219 == 0) = true := beq_iff_eq.mpr c5
   have c5b1 : (t219 != 0) = false := bne_eq_false_iff_eq.mpr c5
   clear c5
   replace H := Option.bind_eq_some_iff.mp H
   obtain ⟨t223, A60, H⟩ := H
   replace H : (if t223.toList = ([54, 39, 98, 122, 122, 49, 49, 49, 49] : List UInt8) then (if t221 = (-56) then ((bits_Add.f k t216 t217 t218 t216 t217 t218).bind fun bt224 => (some (bt224.1 == 8 && (bt224.2.1 == 144 && (bt224.2.2 == 0))))) else (some false)) else (some false)) = some r := H
   have A6 := Aside0.mk A60
   clear A60
   by_cases c7 : t223.toList = ([54, 39, 98, 122, 122, 49, 49, 49, 49] : List UInt8)
   ·rw [if_pos c7] at H
    have c7b0 : (t223.toList == ([54, 39, 98, 122, 122, 49, 49, 49, 49] : List UInt8)) = true := beq_iff_eq.mpr c7
    have c7b1 : (t223.toList != ([54, 39, 98, 122, 122, 49, 49, 49, 49] : List UInt8)) = false := bne_eq_false_iff_eq.mpr c7
    clear c7
    by_cases c8 : t221 = (-56)
    ·rw [if_pos c8] at H
     have c8b0 : (t221 == (-56)) = true := beq_iff_eq.mpr c8
     have c8b1 : (t221 != (-56)) = false := bne_eq_false_iff_eq.mpr c8
     clear c8
     replace H := Option.bind_eq_some_iff.mp H
     obtain ⟨⟨t224, t225, t226⟩, A90, H⟩ := H
     replace H : (some (t224 == 8 && (t225 == 144 && (t226 == 0)))) = some r := H
     have A9 := Aside0.mk A90
     clear A90
     obtain rfl := Option.some.inj H
     go_enter Tryd.func11, Tryd.ntmps11
     go_wp2_with (first | ((with_reducible refine gate_callee (f := 12) rfl ?_); refine goesL_ (some 8) rfl rfl Tryd.func12 (by kernel_rfl) rfl #[.string (⟨#[54, 39, 104, 122, 102]⟩ : ByteArray)] rfl (by (try simp only [List.map_toArray, List.map_cons, List.map_nil]); rfl) ?_; (with_reducible refine (bits_Read.calls k (⟨#[54, 39, 104, 122, 102]⟩ : ByteArray) t211 t212 t213 t214 _ A1.out).mono ?_); rintro e w10 ⟨rfl, hb⟩; refine ⟨_, rfl, ?_⟩; replace HB := hb1 HB hb; (try clear hb)) | ((with_reducible refine gate_dst (N := 1) rfl ?_); refine box_event ?hg (N := 1) ?hd (cs := #[.int .i64 0, .int .u64 0, .int .u64 0]) (t := 24) ?hr ?_; (case hd => rfl); (case hg => rfl); (case hr => (go_simp; done)); intro gb215 hg w11 hbox hb; have BK215 := Aside0.mk (hbox); have GW215 := ge1 HB hg; have GE215 := ge1 HB hg; replace HB := hb1 HB hb; clear hb hbox hg; have hcz12_0 : w11.cell? ⟨gb215, 0, none⟩ = some (.int .i64 0) := (blk_cell BK215.out 0).trans rfl; have hcz12_1 : w11.cell? ⟨gb215, 1, none⟩ = some (.int .u64 0) := (blk_cell BK215.out 1).trans rfl; have hcz12_2 : w11.cell? ⟨gb215, 2, none⟩ = some (.int .u64 0) := (blk_cell BK215.out 2).trans rfl; have hfz12_0 := blk_frozen BK215.out 0; have hfz12_1 := blk_frozen BK215.out 1; have hfz12_2 := blk_frozen BK215.out 2) | ((with_reducible refine gate_callee (f := 12) rfl ?_); refine goesL_ (some 12) rfl rfl Tryd.func12 (by kernel_rfl) rfl #[.string (⟨#[56, 39, 115, 100, 50, 48, 48]⟩ : ByteArray)] rfl (by (try simp only [List.map_toArray, List.map_cons, List.map_nil]); rfl) ?_; (with_reducible refine (bits_Read.calls k (⟨#[56, 39, 115, 100, 50, 48, 48]⟩ : ByteArray) t216 t217 t218 t219 _ A2.out).mono ?_); rintro e w13 ⟨rfl, hb⟩; refine ⟨_, rfl, ?_⟩; replace BK215 := Aside0.mk (blk_below (g := gb215) (o := .cells #[.int .i64 t211, .int .u64 t212, .int .u64 t213] 24 (0, 0)) (by refine blk_put (cs := #[.int .i64 t211, .int .u64 t212, .int .u64 0]) ?_ 2 _ rfl; refine blk_put (cs := #[.int .i64 t211, .int .u64 0, .int .u64 0]) ?_ 1 _ rfl; refine blk_put (cs := #[.int .i64 0, .int .u64 0, .int .u64 0]) ?_ 0 _ rfl; exact BK215.out) hb); replace HB := hb1 HB hb; (try clear hb)) | ((with_reducible refine gate_dst (N := 3) rfl ?_); refine box_event ?hg (N := 3) ?hd (cs := #[.int .i64 0, .int .u64 0, .int .u64 0]) (t := 24) ?hr ?_; (case hd => rfl); (case hg => rfl); (case hr => (go_simp; done)); intro gb220 hg w14 hbox hb; have BK220 := Aside0.mk (hbox); have GW220 := ge1 HB hg; have GE220 := ge1 HB hg; replace HB := hb1 HB hb; have NB215_220 := Aside0.mk ((by rw [hg]; exact Nat.ne_of_lt (blk_lt BK215.out) : gb215 ≠ gb220)); have NB220_215 := Aside0.mk ((by rw [hg]; exact Nat.ne_of_gt (blk_lt BK215.out) : gb220 ≠ gb215)); replace BK215 := bk1 BK215 hb; clear hb hbox hg; have hnb15 := NB220_215.out; have hnc15 := NB215_220.out; have hcz16_0 : w14.cell? ⟨gb220, 0, none⟩ = some (.int .i64 0) := (blk_cell BK220.out 0).trans rfl; have hcz16_1 : w14.cell? ⟨gb220, 1, none⟩ = some (.int .u64 0) := (blk_cell BK220.out 1).trans rfl; have hcz16_2 : w14.cell? ⟨gb220, 2, none⟩ = some (.int .u64 0) := (blk_cell BK220.out 2).trans rfl; have hfz16_0 := blk_frozen BK220.out 0; have hfz16_1 := blk_frozen BK220.out 1; have hfz16_2 := blk_frozen BK220.out 2) | ((with_reducible refine gate_callee (f := 19) rfl ?_); refine goesL_ (some 17) rfl rfl Tryd.func19 (by kernel_rfl) rfl #[.agg #[.int .i64 t216, .int .u64 t217, .int .u64 t218]] rfl (by (try simp only [List.map_toArray, List.map_cons, List.map_nil]); rfl) ?_; (with_reducible refine (bits_Int.calls k t216 t217 t218 t221 t222 _ A3.out).mono ?_); rintro e w17 ⟨rfl, hb⟩; refine ⟨_, rfl, ?_⟩; replace BK215 := Aside0.mk (blk_below (g := gb215) (o := .cells #[.int .i64 t211, .int .u64 t212, .int .u64 t213] 24 (0, 0)) (by refine blk_far ?_ NB215_220.out _; refine blk_far ?_ NB215_220.out _; refine blk_far ?_ NB215_220.out _; exact BK215.out) hb); replace BK220 := Aside0.mk (blk_below (g := gb220) (o := .cells #[.int .i64 t216, .int .u64 t217, .int .u64 t218] 24 (0, 0)) (by refine blk_put (cs := #[.int .i64 t216, .int .u64 t217, .int .u64 0]) ?_ 2 _ rfl; refine blk_put (cs := #[.int .i64 t216, .int .u64 0, .int .u64 0]) ?_ 1 _ rfl; refine blk_put (cs := #[.int .i64 0, .int .u64 0, .int .u64 0]) ?_ 0 _ rfl; exact BK220.out) hb); replace HB := hb1 HB hb; (try clear hb); have hcz18_0 : w17.cell? ⟨gb215, 0, none⟩ = some (.int .i64 t211) := (blk_cell BK215.out 0).trans rfl; have hcz18_1 : w17.cell? ⟨gb215, 1, none⟩ = some (.int .u64 t212) := (blk_cell BK215.out 1).trans rfl; have hcz18_2 : w17.cell? ⟨gb215, 2, none⟩ = some (.int .u64 t213) := (blk_cell BK215.out 2).trans rfl; have hfz18_0 := blk_frozen BK215.out 0; have hfz18_1 := blk_frozen BK215.out 1; have hfz18_2 := blk_frozen BK215.out 2) | (go_at_call 16; (with_reducible refine (bits_Text.calls k t211 t212 t213 t223 _ A6.out).mono ?_); rintro e w19 ⟨rfl, hb⟩; replace BK215 := bk1 BK215 hb; replace BK220 := bk1 BK220 hb; replace HB := hb1 HB hb; (try clear hb); have hcz20_0 : w19.cell? ⟨gb220, 0, none⟩ = some (.int .i64 t216) := (blk_cell BK220.out 0).trans rfl; have hcz20_1 : w19.cell? ⟨gb220, 1, none⟩ = some (.int .u64 t217) := (blk_cell BK220.out 1).trans rfl; have hcz20_2 : w19.cell? ⟨gb220, 2, none⟩ = some (.int .u64 t218) := (blk_cell BK220.out 2).trans rfl; have hfz20_0 := blk_frozen BK220.out 0; have hfz20_1 := blk_frozen BK220.out 1; have hfz20_2 := blk_frozen BK220.out 2) | (go_at_call 49; (with_reducible refine (bits_Add.calls k t216 t217 t218 t216 t217 t218 t224 t225 t226 _ A9.out).mono ?_); rintro e w21 ⟨rfl, hb⟩; replace BK215 := bk1 BK215 hb; replace BK220 := bk1 BK220 hb; replace HB := hb1 HB hb; (try clear hb)))
     go_ret
     exact ⟨by rfl, by repeat (with_reducible exact HB.out)⟩
    ·rw [if_neg c8] at H
     have c8b0 : (t221 == (-56)) = false := beq_eq_false_iff_ne.mpr c8
     have c8b1 : (t221 != (-56)) = true := bne_iff_ne.mpr c8
     obtain rfl := Option.some.inj H
     go_enter Tryd.func11, Tryd.ntmps11
     go_wp2_with (first | ((with_reducible refine gate_callee (f := 12) rfl ?_); refine goesL_ (some 8) rfl rfl Tryd.func12 (by kernel_rfl) rfl #[.string (⟨#[54, 39, 104, 122, 102]⟩ : ByteArray)] rfl (by (try simp only [List.map_toArray, List.map_cons, List.map_nil]); rfl) ?_; (with_reducible refine (bits_Read.calls k (⟨#[54, 39, 104, 122, 102]⟩ : ByteArray) t211 t212 t213 t214 _ A1.out).mono ?_); rintro e w22 ⟨rfl, hb⟩; refine ⟨_, rfl, ?_⟩; replace HB := hb1 HB hb; (try clear hb)) | ((with_reducible refine gate_dst (N := 1) rfl ?_); refine box_event ?hg (N := 1) ?hd (cs := #[.int .i64 0, .int .u64 0, .int .u64 0]) (t := 24) ?hr ?_; (case hd => rfl); (case hg => rfl); (case hr => (go_simp; done)); intro gb215 hg w23 hbox hb; have BK215 := Aside0.mk (hbox); have GW215 := ge1 HB hg; have GE215 := ge1 HB hg; replace HB := hb1 HB hb; clear hb hbox hg; have hcz24_0 : w23.cell? ⟨gb215, 0, none⟩ = some (.int .i64 0) := (blk_cell BK215.out 0).trans rfl; have hcz24_1 : w23.cell? ⟨gb215, 1, none⟩ = some (.int .u64 0) := (blk_cell BK215.out 1).trans rfl; have hcz24_2 : w23.cell? ⟨gb215, 2, none⟩ = some (.int .u64 0) := (blk_cell BK215.out 2).trans rfl; have hfz24_0 := blk_frozen BK215.out 0; have hfz24_1 := blk_frozen BK215.out 1; have hfz24_2 := blk_frozen BK215.out 2) | ((with_reducible refine gate_callee (f := 12) rfl ?_); refine goesL_ (some 12) rfl rfl Tryd.func12 (by kernel_rfl) rfl #[.string (⟨#[56, 39, 115, 100, 50, 48, 48]⟩ : ByteArray)] rfl (by (try simp only [List.map_toArray, List.map_cons, List.map_nil]); rfl) ?_; (with_reducible refine (bits_Read.calls k (⟨#[56, 39, 115, 100, 50, 48, 48]⟩ : ByteArray) t216 t217 t218 t219 _ A2.out).mono ?_); rintro e w25 ⟨rfl, hb⟩; refine ⟨_, rfl, ?_⟩; replace BK215 := Aside0.mk (blk_below (g := gb215) (o := .cells #[.int .i64 t211, .int .u64 t212, .int .u64 t213] 24 (0, 0)) (by refine blk_put (cs := #[.int .i64 t211, .int .u64 t212, .int .u64 0]) ?_ 2 _ rfl; refine blk_put (cs := #[.int .i64 t211, .int .u64 0, .int .u64 0]) ?_ 1 _ rfl; refine blk_put (cs := #[.int .i64 0, .int .u64 0, .int .u64 0]) ?_ 0 _ rfl; exact BK215.out) hb); replace HB := hb1 HB hb; (try clear hb)) | ((with_reducible refine gate_dst (N := 3) rfl ?_); refine box_event ?hg (N := 3) ?hd (cs := #[.int .i64 0, .int .u64 0, .int .u64 0]) (t := 24) ?hr ?_; (case hd => rfl); (case hg => rfl); (case hr => (go_simp; done)); intro gb220 hg w26 hbox hb; have BK220 := Aside0.mk (hbox); have GW220 := ge1 HB hg; have GE220 := ge1 HB hg; replace HB := hb1 HB hb; have NB215_220 := Aside0.mk ((by rw [hg]; exact Nat.ne_of_lt (blk_lt BK215.out) : gb215 ≠ gb220)); have NB220_215 := Aside0.mk ((by rw [hg]; exact Nat.ne_of_gt (blk_lt BK215.out) : gb220 ≠ gb215)); replace BK215 := bk1 BK215 hb; clear hb hbox hg; have hnb27 := NB220_215.out; have hnc27 := NB215_220.out; have hcz28_0 : w26.cell? ⟨gb220, 0, none⟩ = some (.int .i64 0) := (blk_cell BK220.out 0).trans rfl; have hcz28_1 : w26.cell? ⟨gb220, 1, none⟩ = some (.int .u64 0) := (blk_cell BK220.out 1).trans rfl; have hcz28_2 : w26.cell? ⟨gb220, 2, none⟩ = some (.int .u64 0) := (blk_cell BK220.out 2).trans rfl; have hfz28_0 := blk_frozen BK220.out 0; have hfz28_1 := blk_frozen BK220.out 1; have hfz28_2 := blk_frozen BK220.out 2) | ((with_reducible refine gate_callee (f := 19) rfl ?_); refine goesL_ (some 17) rfl rfl Tryd.func19 (by kernel_rfl) rfl #[.agg #[.int .i64 t216, .int .u64 t217, .int .u64 t218]] rfl (by (try simp only [List.map_toArray, List.map_cons, List.map_nil]); rfl) ?_; (with_reducible refine (bits_Int.calls k t216 t217 t218 t221 t222 _ A3.out).mono ?_); rintro e w29 ⟨rfl, hb⟩; refine ⟨_, rfl, ?_⟩; replace BK215 := Aside0.mk (blk_below (g := gb215) (o := .cells #[.int .i64 t211, .int .u64 t212, .int .u64 t213] 24 (0, 0)) (by refine blk_far ?_ NB215_220.out _; refine blk_far ?_ NB215_220.out _; refine blk_far ?_ NB215_220.out _; exact BK215.out) hb); replace BK220 := Aside0.mk (blk_below (g := gb220) (o := .cells #[.int .i64 t216, .int .u64 t217, .int .u64 t218] 24 (0, 0)) (by refine blk_put (cs := #[.int .i64 t216, .int .u64 t217, .int .u64 0]) ?_ 2 _ rfl; refine blk_put (cs := #[.int .i64 t216, .int .u64 0, .int .u64 0]) ?_ 1 _ rfl; refine blk_put (cs := #[.int .i64 0, .int .u64 0, .int .u64 0]) ?_ 0 _ rfl; exact BK220.out) hb); replace HB := hb1 HB hb; (try clear hb); have hcz30_0 : w29.cell? ⟨gb215, 0, none⟩ = some (.int .i64 t211) := (blk_cell BK215.out 0).trans rfl; have hcz30_1 : w29.cell? ⟨gb215, 1, none⟩ = some (.int .u64 t212) := (blk_cell BK215.out 1).trans rfl; have hcz30_2 : w29.cell? ⟨gb215, 2, none⟩ = some (.int .u64 t213) := (blk_cell BK215.out 2).trans rfl; have hfz30_0 := blk_frozen BK215.out 0; have hfz30_1 := blk_frozen BK215.out 1; have hfz30_2 := blk_frozen BK215.out 2) | (go_at_call 16; (with_reducible refine (bits_Text.calls k t211 t212 t213 t223 _ A6.out).mono ?_); rintro e w31 ⟨rfl, hb⟩; replace BK215 := bk1 BK215 hb; replace BK220 := bk1 BK220 hb; replace HB := hb1 HB hb; (try clear hb)))
     go_ret
     exact ⟨by rfl, by repeat (with_reducible exact HB.out)⟩
   ·rw [if_neg c7] at H
    have c7b0 : (t223.toList == ([54, 39, 98, 122, 122, 49, 49, 49, 49] : List UInt8)) = false := beq_eq_false_iff_ne.mpr c7
    have c7b1 : (t223.toList != ([54, 39, 98, 122, 122, 49, 49, 49, 49] : List UInt8)) = true := bne_iff_ne.mpr c7
    obtain rfl := Option.some.inj H
    go_enter Tryd.func11, Tryd.ntmps11
    go_wp2_with (first | ((with_reducible refine gate_callee (f := 12) rfl ?_); refine goesL_ (some 8) rfl rfl Tryd.func12 (by kernel_rfl) rfl #[.string (⟨#[54, 39, 104, 122, 102]⟩ : ByteArray)] rfl (by (try simp only [List.map_toArray, List.map_cons, List.map_nil]); rfl) ?_; (with_reducible refine (bits_Read.calls k (⟨#[54, 39, 104, 122, 102]⟩ : ByteArray) t211 t212 t213 t214 _ A1.out).mono ?_); rintro e w32 ⟨rfl, hb⟩; refine ⟨_, rfl, ?_⟩; replace HB := hb1 HB hb; (try clear hb)) | ((with_reducible refine gate_dst (N := 1) rfl ?_); refine box_event ?hg (N := 1) ?hd (cs := #[.int .i64 0, .int .u64 0, .int .u64 0]) (t := 24) ?hr ?_; (case hd => rfl); (case hg => rfl); (case hr => (go_simp; done)); intro gb215 hg w33 hbox hb; have BK215 := Aside0.mk (hbox); have GW215 := ge1 HB hg; have GE215 := ge1 HB hg; replace HB := hb1 HB hb; clear hb hbox hg; have hcz34_0 : w33.cell? ⟨gb215, 0, none⟩ = some (.int .i64 0) := (blk_cell BK215.out 0).trans rfl; have hcz34_1 : w33.cell? ⟨gb215, 1, none⟩ = some (.int .u64 0) := (blk_cell BK215.out 1).trans rfl; have hcz34_2 : w33.cell? ⟨gb215, 2, none⟩ = some (.int .u64 0) := (blk_cell BK215.out 2).trans rfl; have hfz34_0 := blk_frozen BK215.out 0; have hfz34_1 := blk_frozen BK215.out 1; have hfz34_2 := blk_frozen BK215.out 2) | ((with_reducible refine gate_callee (f := 12) rfl ?_); refine goesL_ (some 12) rfl rfl Tryd.func12 (by kernel_rfl) rfl #[.string (⟨#[56, 39, 115, 100, 50, 48, 48]⟩ : ByteArray)] rfl (by (try simp only [List.map_toArray, List.map_cons, List.map_nil]); rfl) ?_; (with_reducible refine (bits_Read.calls k (⟨#[56, 39, 115, 100, 50, 48, 48]⟩ : ByteArray) t216 t217 t218 t219 _ A2.out).mono ?_); rintro e w35 ⟨rfl, hb⟩; refine ⟨_, rfl, ?_⟩; replace BK215 := Aside0.mk (blk_below (g := gb215) (o := .cells #[.int .i64 t211, .int .u64 t212, .int .u64 t213] 24 (0, 0)) (by refine blk_put (cs := #[.int .i64 t211, .int .u64 t212, .int .u64 0]) ?_ 2 _ rfl; refine blk_put (cs := #[.int .i64 t211, .int .u64 0, .int .u64 0]) ?_ 1 _ rfl; refine blk_put (cs := #[.int .i64 0, .int .u64 0, .int .u64 0]) ?_ 0 _ rfl; exact BK215.out) hb); replace HB := hb1 HB hb; (try clear hb)) | ((with_reducible refine gate_dst (N := 3) rfl ?_); refine box_event ?hg (N := 3) ?hd (cs := #[.int .i64 0, .int .u64 0, .int .u64 0]) (t := 24) ?hr ?_; (case hd => rfl); (case hg => rfl); (case hr => (go_simp; done)); intro gb220 hg w36 hbox hb; have BK220 := Aside0.mk (hbox); have GW220 := ge1 HB hg; have GE220 := ge1 HB hg; replace HB := hb1 HB hb; have NB215_220 := Aside0.mk ((by rw [hg]; exact Nat.ne_of_lt (blk_lt BK215.out) : gb215 ≠ gb220)); have NB220_215 := Aside0.mk ((by rw [hg]; exact Nat.ne_of_gt (blk_lt BK215.out) : gb220 ≠ gb215)); replace BK215 := bk1 BK215 hb; clear hb hbox hg; have hnb37 := NB220_215.out; have hnc37 := NB215_220.out; have hcz38_0 : w36.cell? ⟨gb220, 0, none⟩ = some (.int .i64 0) := (blk_cell BK220.out 0).trans rfl; have hcz38_1 : w36.cell? ⟨gb220, 1, none⟩ = some (.int .u64 0) := (blk_cell BK220.out 1).trans rfl; have hcz38_2 : w36.cell? ⟨gb220, 2, none⟩ = some (.int .u64 0) := (blk_cell BK220.out 2).trans rfl; have hfz38_0 := blk_frozen BK220.out 0; have hfz38_1 := blk_frozen BK220.out 1; have hfz38_2 := blk_frozen BK220.out 2) | ((with_reducible refine gate_callee (f := 19) rfl ?_); refine goesL_ (some 17) rfl rfl Tryd.func19 (by kernel_rfl) rfl #[.agg #[.int .i64 t216, .int .u64 t217, .int .u64 t218]] rfl (by (try simp only [List.map_toArray, List.map_cons, List.map_nil]); rfl) ?_; (with_reducible refine (bits_Int.calls k t216 t217 t218 t221 t222 _ A3.out).mono ?_); rintro e w39 ⟨rfl, hb⟩; refine ⟨_, rfl, ?_⟩; replace BK215 := Aside0.mk (blk_below (g := gb215) (o := .cells #[.int .i64 t211, .int .u64 t212, .int .u64 t213] 24 (0, 0)) (by refine blk_far ?_ NB215_220.out _; refine blk_far ?_ NB215_220.out _; refine blk_far ?_ NB215_220.out _; exact BK215.out) hb); replace BK220 := Aside0.mk (blk_below (g := gb220) (o := .cells #[.int .i64 t216, .int .u64 t217, .int .u64 t218] 24 (0, 0)) (by refine blk_put (cs := #[.int .i64 t216, .int .u64 t217, .int .u64 0]) ?_ 2 _ rfl; refine blk_put (cs := #[.int .i64 t216, .int .u64 0, .int .u64 0]) ?_ 1 _ rfl; refine blk_put (cs := #[.int .i64 0, .int .u64 0, .int .u64 0]) ?_ 0 _ rfl; exact BK220.out) hb); replace HB := hb1 HB hb; (try clear hb); have hcz40_0 : w39.cell? ⟨gb215, 0, none⟩ = some (.int .i64 t211) := (blk_cell BK215.out 0).trans rfl; have hcz40_1 : w39.cell? ⟨gb215, 1, none⟩ = some (.int .u64 t212) := (blk_cell BK215.out 1).trans rfl; have hcz40_2 : w39.cell? ⟨gb215, 2, none⟩ = some (.int .u64 t213) := (blk_cell BK215.out 2).trans rfl; have hfz40_0 := blk_frozen BK215.out 0; have hfz40_1 := blk_frozen BK215.out 1; have hfz40_2 := blk_frozen BK215.out 2) | (go_at_call 16; (with_reducible refine (bits_Text.calls k t211 t212 t213 t223 _ A6.out).mono ?_); rintro e w41 ⟨rfl, hb⟩; replace BK215 := bk1 BK215 hb; replace BK220 := bk1 BK220 hb; replace HB := hb1 HB hb; (try clear hb)))
    go_ret
    exact ⟨by rfl, by repeat (with_reducible exact HB.out)⟩
  ·rw [if_neg c5] at H
   have c5b0 : (t219 == 0) = false := beq_eq_false_iff_ne.mpr c5
   have c5b1 : (t219 != 0) = true := bne_iff_ne.mpr c5
   obtain rfl := Option.some.inj H
   go_enter Tryd.func11, Tryd.ntmps11
   go_wp2_with (first | ((with_reducible refine gate_callee (f := 12) rfl ?_); refine goesL_ (some 8) rfl rfl Tryd.func12 (by kernel_rfl) rfl #[.string (⟨#[54, 39, 104, 122, 102]⟩ : ByteArray)] rfl (by (try simp only [List.map_toArray, List.map_cons, List.map_nil]); rfl) ?_; (with_reducible refine (bits_Read.calls k (⟨#[54, 39, 104, 122, 102]⟩ : ByteArray) t211 t212 t213 t214 _ A1.out).mono ?_); rintro e w42 ⟨rfl, hb⟩; refine ⟨_, rfl, ?_⟩; replace HB := hb1 HB hb; (try clear hb)) | ((with_reducible refine gate_dst (N := 1) rfl ?_); refine box_event ?hg (N := 1) ?hd (cs := #[.int .i64 0, .int .u64 0, .int .u64 0]) (t := 24) ?hr ?_; (case hd => rfl); (case hg => rfl); (case hr => (go_simp; done)); intro gb215 hg w43 hbox hb; have BK215 := Aside0.mk (hbox); have GW215 := ge1 HB hg; have GE215 := ge1 HB hg; replace HB := hb1 HB hb; clear hb hbox hg; have hcz44_0 : w43.cell? ⟨gb215, 0, none⟩ = some (.int .i64 0) := (blk_cell BK215.out 0).trans rfl; have hcz44_1 : w43.cell? ⟨gb215, 1, none⟩ = some (.int .u64 0) := (blk_cell BK215.out 1).trans rfl; have hcz44_2 : w43.cell? ⟨gb215, 2, none⟩ = some (.int .u64 0) := (blk_cell BK215.out 2).trans rfl; have hfz44_0 := blk_frozen BK215.out 0; have hfz44_1 := blk_frozen BK215.out 1; have hfz44_2 := blk_frozen BK215.out 2) | ((with_reducible refine gate_callee (f := 12) rfl ?_); refine goesL_ (some 12) rfl rfl Tryd.func12 (by kernel_rfl) rfl #[.string (⟨#[56, 39, 115, 100, 50, 48, 48]⟩ : ByteArray)] rfl (by (try simp only [List.map_toArray, List.map_cons, List.map_nil]); rfl) ?_; (with_reducible refine (bits_Read.calls k (⟨#[56, 39, 115, 100, 50, 48, 48]⟩ : ByteArray) t216 t217 t218 t219 _ A2.out).mono ?_); rintro e w45 ⟨rfl, hb⟩; refine ⟨_, rfl, ?_⟩; replace BK215 := Aside0.mk (blk_below (g := gb215) (o := .cells #[.int .i64 t211, .int .u64 t212, .int .u64 t213] 24 (0, 0)) (by refine blk_put (cs := #[.int .i64 t211, .int .u64 t212, .int .u64 0]) ?_ 2 _ rfl; refine blk_put (cs := #[.int .i64 t211, .int .u64 0, .int .u64 0]) ?_ 1 _ rfl; refine blk_put (cs := #[.int .i64 0, .int .u64 0, .int .u64 0]) ?_ 0 _ rfl; exact BK215.out) hb); replace HB := hb1 HB hb; (try clear hb)) | ((with_reducible refine gate_dst (N := 3) rfl ?_); refine box_event ?hg (N := 3) ?hd (cs := #[.int .i64 0, .int .u64 0, .int .u64 0]) (t := 24) ?hr ?_; (case hd => rfl); (case hg => rfl); (case hr => (go_simp; done)); intro gb220 hg w46 hbox hb; have BK220 := Aside0.mk (hbox); have GW220 := ge1 HB hg; have GE220 := ge1 HB hg; replace HB := hb1 HB hb; have NB215_220 := Aside0.mk ((by rw [hg]; exact Nat.ne_of_lt (blk_lt BK215.out) : gb215 ≠ gb220)); have NB220_215 := Aside0.mk ((by rw [hg]; exact Nat.ne_of_gt (blk_lt BK215.out) : gb220 ≠ gb215)); replace BK215 := bk1 BK215 hb; clear hb hbox hg; have hnb47 := NB220_215.out; have hnc47 := NB215_220.out; have hcz48_0 : w46.cell? ⟨gb220, 0, none⟩ = some (.int .i64 0) := (blk_cell BK220.out 0).trans rfl; have hcz48_1 : w46.cell? ⟨gb220, 1, none⟩ = some (.int .u64 0) := (blk_cell BK220.out 1).trans rfl; have hcz48_2 : w46.cell? ⟨gb220, 2, none⟩ = some (.int .u64 0) := (blk_cell BK220.out 2).trans rfl; have hfz48_0 := blk_frozen BK220.out 0; have hfz48_1 := blk_frozen BK220.out 1; have hfz48_2 := blk_frozen BK220.out 2) | ((with_reducible refine gate_callee (f := 19) rfl ?_); refine goesL_ (some 17) rfl rfl Tryd.func19 (by kernel_rfl) rfl #[.agg #[.int .i64 t216, .int .u64 t217, .int .u64 t218]] rfl (by (try simp only [List.map_toArray, List.map_cons, List.map_nil]); rfl) ?_; (with_reducible refine (bits_Int.calls k t216 t217 t218 t221 t222 _ A3.out).mono ?_); rintro e w49 ⟨rfl, hb⟩; refine ⟨_, rfl, ?_⟩; replace BK215 := Aside0.mk (blk_below (g := gb215) (o := .cells #[.int .i64 t211, .int .u64 t212, .int .u64 t213] 24 (0, 0)) (by refine blk_far ?_ NB215_220.out _; refine blk_far ?_ NB215_220.out _; refine blk_far ?_ NB215_220.out _; exact BK215.out) hb); replace BK220 := Aside0.mk (blk_below (g := gb220) (o := .cells #[.int .i64 t216, .int .u64 t217, .int .u64 t218] 24 (0, 0)) (by refine blk_put (cs := #[.int .i64 t216, .int .u64 t217, .int .u64 0]) ?_ 2 _ rfl; refine blk_put (cs := #[.int .i64 t216, .int .u64 0, .int .u64 0]) ?_ 1 _ rfl; refine blk_put (cs := #[.int .i64 0, .int .u64 0, .int .u64 0]) ?_ 0 _ rfl; exact BK220.out) hb); replace HB := hb1 HB hb; (try clear hb)))
   go_ret
   exact ⟨by rfl, by repeat (with_reducible exact HB.out)⟩
 ·rw [if_neg c4] at H
  have c4b0 : (t214 == 0) = false := beq_eq_false_iff_ne.mpr c4
  have c4b1 : (t214 != 0) = true := bne_iff_ne.mpr c4
  obtain rfl := Option.some.inj H
  go_enter Tryd.func11, Tryd.ntmps11
  go_wp2_with (first | ((with_reducible refine gate_callee (f := 12) rfl ?_); refine goesL_ (some 8) rfl rfl Tryd.func12 (by kernel_rfl) rfl #[.string (⟨#[54, 39, 104, 122, 102]⟩ : ByteArray)] rfl (by (try simp only [List.map_toArray, List.map_cons, List.map_nil]); rfl) ?_; (with_reducible refine (bits_Read.calls k (⟨#[54, 39, 104, 122, 102]⟩ : ByteArray) t211 t212 t213 t214 _ A1.out).mono ?_); rintro e w50 ⟨rfl, hb⟩; refine ⟨_, rfl, ?_⟩; replace HB := hb1 HB hb; (try clear hb)) | ((with_reducible refine gate_dst (N := 1) rfl ?_); refine box_event ?hg (N := 1) ?hd (cs := #[.int .i64 0, .int .u64 0, .int .u64 0]) (t := 24) ?hr ?_; (case hd => rfl); (case hg => rfl); (case hr => (go_simp; done)); intro gb215 hg w51 hbox hb; have BK215 := Aside0.mk (hbox); have GW215 := ge1 HB hg; have GE215 := ge1 HB hg; replace HB := hb1 HB hb; clear hb hbox hg; have hcz52_0 : w51.cell? ⟨gb215, 0, none⟩ = some (.int .i64 0) := (blk_cell BK215.out 0).trans rfl; have hcz52_1 : w51.cell? ⟨gb215, 1, none⟩ = some (.int .u64 0) := (blk_cell BK215.out 1).trans rfl; have hcz52_2 : w51.cell? ⟨gb215, 2, none⟩ = some (.int .u64 0) := (blk_cell BK215.out 2).trans rfl; have hfz52_0 := blk_frozen BK215.out 0; have hfz52_1 := blk_frozen BK215.out 1; have hfz52_2 := blk_frozen BK215.out 2) | ((with_reducible refine gate_callee (f := 12) rfl ?_); refine goesL_ (some 12) rfl rfl Tryd.func12 (by kernel_rfl) rfl #[.string (⟨#[56, 39, 115, 100, 50, 48, 48]⟩ : ByteArray)] rfl (by (try simp only [List.map_toArray, List.map_cons, List.map_nil]); rfl) ?_; (with_reducible refine (bits_Read.calls k (⟨#[56, 39, 115, 100, 50, 48, 48]⟩ : ByteArray) t216 t217 t218 t219 _ A2.out).mono ?_); rintro e w53 ⟨rfl, hb⟩; refine ⟨_, rfl, ?_⟩; replace BK215 := Aside0.mk (blk_below (g := gb215) (o := .cells #[.int .i64 t211, .int .u64 t212, .int .u64 t213] 24 (0, 0)) (by refine blk_put (cs := #[.int .i64 t211, .int .u64 t212, .int .u64 0]) ?_ 2 _ rfl; refine blk_put (cs := #[.int .i64 t211, .int .u64 0, .int .u64 0]) ?_ 1 _ rfl; refine blk_put (cs := #[.int .i64 0, .int .u64 0, .int .u64 0]) ?_ 0 _ rfl; exact BK215.out) hb); replace HB := hb1 HB hb; (try clear hb)) | ((with_reducible refine gate_dst (N := 3) rfl ?_); refine box_event ?hg (N := 3) ?hd (cs := #[.int .i64 0, .int .u64 0, .int .u64 0]) (t := 24) ?hr ?_; (case hd => rfl); (case hg => rfl); (case hr => (go_simp; done)); intro gb220 hg w54 hbox hb; have BK220 := Aside0.mk (hbox); have GW220 := ge1 HB hg; have GE220 := ge1 HB hg; replace HB := hb1 HB hb; have NB215_220 := Aside0.mk ((by rw [hg]; exact Nat.ne_of_lt (blk_lt BK215.out) : gb215 ≠ gb220)); have NB220_215 := Aside0.mk ((by rw [hg]; exact Nat.ne_of_gt (blk_lt BK215.out) : gb220 ≠ gb215)); replace BK215 := bk1 BK215 hb; clear hb hbox hg; have hnb55 := NB220_215.out; have hnc55 := NB215_220.out; have hcz56_0 : w54.cell? ⟨gb220, 0, none⟩ = some (.int .i64 0) := (blk_cell BK220.out 0).trans rfl; have hcz56_1 : w54.cell? ⟨gb220, 1, none⟩ = some (.int .u64 0) := (blk_cell BK220.out 1).trans rfl; have hcz56_2 : w54.cell? ⟨gb220, 2, none⟩ = some (.int .u64 0) := (blk_cell BK220.out 2).trans rfl; have hfz56_0 := blk_frozen BK220.out 0; have hfz56_1 := blk_frozen BK220.out 1; have hfz56_2 := blk_frozen BK220.out 2) | ((with_reducible refine gate_callee (f := 19) rfl ?_); refine goesL_ (some 17) rfl rfl Tryd.func19 (by kernel_rfl) rfl #[.agg #[.int .i64 t216, .int .u64 t217, .int .u64 t218]] rfl (by (try simp only [List.map_toArray, List.map_cons, List.map_nil]); rfl) ?_; (with_reducible refine (bits_Int.calls k t216 t217 t218 t221 t222 _ A3.out).mono ?_); rintro e w57 ⟨rfl, hb⟩; refine ⟨_, rfl, ?_⟩; replace BK215 := Aside0.mk (blk_below (g := gb215) (o := .cells #[.int .i64 t211, .int .u64 t212, .int .u64 t213] 24 (0, 0)) (by refine blk_far ?_ NB215_220.out _; refine blk_far ?_ NB215_220.out _; refine blk_far ?_ NB215_220.out _; exact BK215.out) hb); replace BK220 := Aside0.mk (blk_below (g := gb220) (o := .cells #[.int .i64 t216, .int .u64 t217, .int .u64 t218] 24 (0, 0)) (by refine blk_put (cs := #[.int .i64 t216, .int .u64 t217, .int .u64 0]) ?_ 2 _ rfl; refine blk_put (cs := #[.int .i64 t216, .int .u64 0, .int .u64 0]) ?_ 1 _ rfl; refine blk_put (cs := #[.int .i64 0, .int .u64 0, .int .u64 0]) ?_ 0 _ rfl; exact BK220.out) hb); replace HB := hb1 HB hb; (try clear hb)))
  go_ret
  exact ⟨by rfl, by repeat (with_reducible exact HB.out)⟩
end Go.Proofs.YtfigblfjogpojaaDoor.PBits
end
