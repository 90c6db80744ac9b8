/- Part 34 of the proof of BitsTextsCardSaid: The law BitsTexts: for all arguments it returns true; each argument reads behind the call as it read before. Out of the plain theorem of YtfigblfjogpojaaDoorPureBitsTexts and the printed contract. -/
import Derived.Test.YtfigblfjogpojaaDoorQBitsTexts15
import Derived.Test.YtfigblfjogpojaaDoorQBitsTexts22
import Derived.Test.YtfigblfjogpojaaDoorQBitsTexts32
import Derived.Test.YtfigblfjogpojaaDoorQBitsTexts14
import Derived.Test.YtfigblfjogpojaaDoorQBitsTexts28
import Derived.Test.YtfigblfjogpojaaDoorQBitsTexts30
import Derived.Test.YtfigblfjogpojaaDoorQBitsTexts20
section
namespace Go.Proofs.YtfigblfjogpojaaDoor.PBits
open Go.RowKit Go.Proofs.YtfigblfjogpojaaDoorW.PrintWords Go.Proofs.YtfigblfjogpojaaDoorW.PrintLast Go.Proofs.YtfigblfjogpojaaDoorW.PrintMore
attribute [local go_sem] max2_int min2_int max_two min_two max_three min_three max_four min_four
set_option linter.unusedVariables false
set_option linter.unusedSimpArgs false
def bits_Text.l0 : Nat → ByteArray → Int → Int → Int → Int → Option (ByteArray)
 | 0, _, _, _, _, _ => none
 | k + 1, x3, x4, x172000, x172001, x172002 => if x4 ≥ 0 then ((bits_Bit.f k x172000 x172001 x172002 x4).bind fun t177 => ((some (([t177] : List Int) : List Int)).bind fun y178 => (if x3.size + (strOfNums y178).size ≤ 9223372036854775807 then (bits_Text.l0 k (x3 ++ (strOfNums y178)) (wrap64 (x4 - 1)) x172000 x172001 x172002) else (none)))) else (some x3)
def bits_Text.f (k : Nat) (a0_0 : Int) (a0_1 : Int) (a0_2 : Int) : Option (ByteArray) := (bits_valid.f k (([(⟨a0_0, a0_1, a0_2⟩ : S24)] : List (S24)))).bind fun t175 => (if t175 = true then ((strconv_Itoa.f a0_0).bind fun t176 => (if t176.size + 2 ≤ 9223372036854775807 then (bits_Text.l0 k (t176 ++ (⟨#[39, 98]⟩ : ByteArray)) (wrap64 (a0_0 - 1)) a0_0 a0_1 a0_2) else (none))) else (some (⟨#[]⟩ : ByteArray)))
theorem bits_Text.mono_l : ∀ k, (∀ y0 y1 y2 y3 y4, LeO (bits_Text.l0 k y0 y1 y2 y3 y4) (bits_Text.l0 (k + 1) y0 y1 y2 y3 y4))
 | 0 => fun _ _ _ _ _ r h => by simp [bits_Text.l0] at h
 | k + 1 => by
  have ih0 := bits_Text.mono_l k
  ·intro y0 y1 y2 y3 y4
   unfold bits_Text.l0
   repeat' first | with_reducible exact ih0 _ _ _ _ _ | with_reducible exact bits_Bit.mono _ _ _ _ _ | with_reducible exact bits_valid.mono _ _ | with_reducible exact LeO.refl _ | with_reducible exact LeO.none _ | with_reducible refine LeO.ite ?_ ?_ | with_reducible refine LeO.bind ?_ (fun _ => ?_)
theorem bits_Text.mono : ∀ a0 a1 a2 k, LeO (bits_Text.f k a0 a1 a2) (bits_Text.f (k + 1) a0 a1 a2) := by
 intro a0 a1 a2 k
 have ih0 := bits_Text.mono_l k
 unfold bits_Text.f
 repeat' first | with_reducible exact ih0 _ _ _ _ _ | with_reducible exact bits_Bit.mono _ _ _ _ _ | with_reducible exact bits_valid.mono _ _ | with_reducible exact LeO.refl _ | with_reducible exact LeO.none _ | with_reducible refine LeO.ite ?_ ?_ | with_reducible refine LeO.bind ?_ (fun _ => ?_)
set_option maxHeartbeats 8000000 in
set_option maxRecDepth 100000 in
theorem bits_Text.calls (k : Nat) (a0_0 : Int) (a0_1 : Int) (a0_2 : Int) (r : ByteArray) (w : World) (h : bits_Text.f k a0_0 a0_1 a0_2 = some r) :
  Calls Tryd.prog 16 #[.agg #[.int .i64 a0_0, .int .u64 a0_1, .int .u64 a0_2]] w fun e w' => e = .returned (.string r) ∧ Below w.heap.size w w' := by
 have hu24 := Tryd.underlying24
 have HB := Aside0.mk (Below.refl w.heap.size w)
 have H := h
 clear h
 unfold bits_Text.f at H
 obtain ⟨y172, hy172⟩ : ∃ y_ : List (S24), y_ = ([(⟨a0_0, a0_1, a0_2⟩ : S24)] : List (S24)) := ⟨_, rfl⟩
 replace H : ((bits_valid.f k y172).bind fun t175 => (if t175 = true then ((strconv_Itoa.f a0_0).bind fun t176 => (if t176.size + 2 ≤ 9223372036854775807 then (bits_Text.l0 k (t176 ++ (⟨#[39, 98]⟩ : ByteArray)) (wrap64 (a0_0 - 1)) a0_0 a0_1 a0_2) else (none))) else (some (⟨#[]⟩ : ByteArray)))) = some r := by (rw [hy172]; with_reducible exact H)
 have Ny172 := Aside0.mk hy172
 clear hy172
 replace H := bN H; obtain ⟨t175, A2, H⟩ := H
 replace H := iB H; rcases H with ⟨rfl, H⟩ | ⟨rfl, H⟩
 ·replace H := bN H; obtain ⟨t176, A4, H⟩ := H
  by_cases c5 : t176.size + 2 ≤ 9223372036854775807
  ·rw [if_pos c5] at H
   have c5b0 := eq_true c5
   have c5b1 : decide (t176.size + 2 ≤ 9223372036854775807) = true := decide_eq_true c5
   try have c5b2 : (9223372036854775807 < t176.size + 2) = False := eq_false (Nat.not_lt.2 c5)
   have H' := Aside0.mk H
   clear H
   go_enter Tryd.func16, Tryd.ntmps16
   go_wp2_with (first | (refine boxA HB 1 #[.int .i64 a0_0, .int .u64 a0_1, .int .u64 a0_2] 24 ?_; clear HB; intro gb171 w6 BK171 GE171 hg hb HB; clear hb hg; obtain ⟨hcz7_0, hcz7_1, hcz7_2, hfz7_0, hfz7_1, hfz7_2⟩ := cf3 BK171) | ((with_reducible refine gate_dst (N := 6) rfl ?_); refine Kd.R_lit k24 _ 24 ?hg (N := 6) ?hd (xs := ([(⟨a0_0, a0_1, a0_2⟩ : S24)] : List (S24))) (inner := [.int .i64 a0_0, .int .u64 a0_1, .int .u64 a0_2]) (ok := fun _ => True) (okp := fun _ => True) ?hr ?hp (fun _ hk => hk) trivial (Below.refl _ _) (Nat.le_refl _) (by simp) ?_; (case hd => rfl); (case hg => rfl); (case hr => (go_simp; done)); (case hp => exact (Reps.c3 (show Kd.M k24 _ _ _ (⟨a0_0, a0_1, a0_2⟩ : S24) [.int .i64 a0_0, .int .u64 a0_1, .int .u64 a0_2] from (k24_mkM _ _ _ (⟨a0_0, a0_1, a0_2⟩ : S24) )) (Reps.none _ _))); intro v173 w8 ho9 hb hg_ hnew_; clear hg_ hnew_; (rw [← Ny172.out] at ho9); have HO174 := Aside0.mk (Kd.R_lower (Kd.R_newB ho9 BK171.out) (below_size HB.out)); replace BK171 := bk1 BK171 hb; replace HB := hb1 HB hb; clear hb ho9; obtain ⟨Ao10, co10, eo10⟩ := Kd.R_slice HO174.out; subst eo10) | (refine callA (some 7) Tryd.func56 #[.slice Ao10 y172.length co10] ?_; (with_reducible refine (bits_valid.calls k _ _ y172 true _ ?side1 ?side2 A2.out).mono ?_); (case side1 => exact (Kd.R_reads' HO174.out).2.2); (case side2 => exact (Kd.R_reads' HO174.out).2.1); rintro e w11 ⟨rfl, hb⟩; refine ⟨_, rfl, ?_⟩; replace HO174 := Kd.rb1 HO174 hb; replace BK171 := bk1 BK171 hb; replace HB := hb1 HB hb; (try clear hb); obtain ⟨hcz12_0, hcz12_1, hcz12_2, hfz12_0, hfz12_1, hfz12_2⟩ := cf3 BK171) | (refine callA (some 11) Tryd.func57 #[.int .i64 a0_0] ?_; (with_reducible refine (strconv_Itoa.calls a0_0 t176 _ A4.out).mono ?_); rintro e w' ⟨rfl, ⟨nd, rfl⟩⟩; refine ⟨_, rfl, ?_⟩))
   go_loopg [3, 4] k (fun kq v3 v4 w' => ∃ (x3_1 : ByteArray) (x4_1 : Int), v3 = .string x3_1 ∧ v4 = .int .i64 x4_1 ∧ Aside0 (bits_Text.l0 kq x3_1 x4_1 a0_0 a0_1 a0_2 = some r) ∧ Aside0 (kq ≤ k) ∧ Aside0 (w'.heap[gb171]? = some (.cells #[.int .i64 a0_0, .int .u64 a0_1, .int .u64 a0_2] 24 (0, 0))) ∧ Aside0 (Below w.heap.size w w'))
   case atStart => exact ⟨(t176 ++ (⟨#[39, 98]⟩ : ByteArray)), (wrap64 (a0_0 - 1)), (by rfl), (by rfl), H', ⟨Nat.le_refl _⟩, ⟨by (with_reducible repeat (refine blk_drewN ?_ _)); exact BK171.out⟩, ⟨by repeat (with_reducible first | exact HB.out | apply pw_below_drewN)⟩⟩
   case round =>
    clear H'
    (try clear c5); (try clear c5b0); (try clear c5b1); (try clear c5b2); (try clear hcz12_0 hcz12_1 hcz12_2); (try clear hcz7_0 hcz7_1 hcz7_2); (try clear hfz12_0 hfz12_1 hfz12_2); (try clear hfz7_0 hfz7_1 hfz7_2)
    obtain ⟨x3_1, x4_1, rfl, rfl, HA, HK1, BK171, HB⟩ := hrel
    cases gk with
    | zero => exact absurd HA.out (by simp [bits_Text.l0])
    | succ k1 =>
     have H := HA.out
     clear HA
     simp only [bits_Text.l0] at H
     replace H := iD H; rcases H with ⟨c13b0, H⟩ | ⟨c13b0, H⟩
     ·replace c13b0 : decide (0 ≤ x4_1) = true := c13b0
      replace H := bN H; obtain ⟨t177, A14, H⟩ := H
      obtain ⟨y178, hy178⟩ : ∃ y_ : List Int, y_ = ([t177] : List Int) := ⟨_, rfl⟩
      replace H : (if x3_1.size + (strOfNums y178).size ≤ 9223372036854775807 then (bits_Text.l0 k1 (x3_1 ++ (strOfNums y178)) (wrap64 (x4_1 - 1)) a0_0 a0_1 a0_2) else (none)) = some r := by (have H2_ := (Option.bind_some _ _).symm.trans H; rw [hy178]; with_reducible exact H2_)
      have Ny178 := Aside0.mk hy178
      clear hy178
      by_cases c15 : x3_1.size + (strOfNums y178).size ≤ 9223372036854775807
      ·rw [if_pos c15] at H
       have c15b0 := eq_true c15
       have c15b1 : decide (x3_1.size + (strOfNums y178).size ≤ 9223372036854775807) = true := decide_eq_true c15
       try have c15b2 : (9223372036854775807 < x3_1.size + (strOfNums y178).size) = False := eq_false (Nat.not_lt.2 c15)
       have H' := Aside0.mk H
       clear H
       obtain ⟨hcz16_0, hcz16_1, hcz16_2, hfz16_0, hfz16_1, hfz16_2⟩ := cf3 BK171
       go_wp2_with (first | (refine callA (some 23) Tryd.func20 #[.agg #[.int .i64 a0_0, .int .u64 a0_1, .int .u64 a0_2], .int .i64 x4_1] ?_; (with_reducible refine (bits_Bit.calls k1 a0_0 a0_1 a0_2 x4_1 t177 _ A14.out).mono ?_); rintro e w17 ⟨rfl, hb⟩; refine ⟨_, rfl, ?_⟩; replace BK171 := bk1 BK171 hb; replace HB := hb1 HB hb; (try clear hb)) | ((with_reducible refine gate_dst (N := 24) rfl ?_); refine Kd.R_lit (Kd.int .u8) _ 5 ?hg (N := 24) ?hd (xs := ([t177] : List Int)) (inner := [.int .u8 t177]) (ok := fun _ => True) (okp := fun _ => True) ?hr ?hp (fun _ hk => hk) trivial (Below.refl _ _) (Nat.le_refl _) (by simp) ?_; (case hd => rfl); (case hg => rfl); (case hr => (go_simp; done)); (case hp => exact (Reps.one (show Kd.M (Kd.int .u8) _ _ _ t177 [.int .u8 t177] from rfl) (Reps.none _ _))); intro v179 w18 ho19 hb hg_ hnew_; clear hg_ hnew_; (rw [← Ny178.out] at ho19); have HO180 := Aside0.mk (Kd.R_lower ho19 (below_size HB.out)); replace BK171 := bk1 BK171 hb; replace HB := hb1 HB hb; clear hb ho19; have hcv20 := own_string (P := Tryd.prog) Tryd.underlying43 Tryd.underlying5 Tryd.underlying9 (Kd.own_of_R HO180.out)))
       go_roundg k1
       case measure => have := HK1.out; omega
       case rel => exact ⟨(x3_1 ++ (strOfNums y178)), (wrap64 (x4_1 - 1)), (by rfl), (by rfl), H', ⟨by have := HK1.out; omega⟩, ⟨by exact BK171.out⟩, ⟨by repeat (with_reducible exact HB.out)⟩⟩
      ·rw [if_neg c15] at H
       exact absurd H (by simp)
     ·replace c13b0 : decide (0 ≤ x4_1) = false := c13b0
      obtain rfl := Option.some.inj H
      go_wp2
      go_ret
      exact ⟨by rfl, by repeat (with_reducible exact HB.out)⟩
  ·rw [if_neg c5] at H
   exact absurd H (by simp)
 ·obtain rfl := Option.some.inj H
  go_enter Tryd.func16, Tryd.ntmps16
  go_wp2_with (first | (refine boxA HB 1 #[.int .i64 a0_0, .int .u64 a0_1, .int .u64 a0_2] 24 ?_; clear HB; intro gb171 w21 BK171 GE171 hg hb HB; clear hb hg; obtain ⟨hcz22_0, hcz22_1, hcz22_2, hfz22_0, hfz22_1, hfz22_2⟩ := cf3 BK171) | ((with_reducible refine gate_dst (N := 6) rfl ?_); refine Kd.R_lit k24 _ 24 ?hg (N := 6) ?hd (xs := ([(⟨a0_0, a0_1, a0_2⟩ : S24)] : List (S24))) (inner := [.int .i64 a0_0, .int .u64 a0_1, .int .u64 a0_2]) (ok := fun _ => True) (okp := fun _ => True) ?hr ?hp (fun _ hk => hk) trivial (Below.refl _ _) (Nat.le_refl _) (by simp) ?_; (case hd => rfl); (case hg => rfl); (case hr => (go_simp; done)); (case hp => exact (Reps.c3 (show Kd.M k24 _ _ _ (⟨a0_0, a0_1, a0_2⟩ : S24) [.int .i64 a0_0, .int .u64 a0_1, .int .u64 a0_2] from (k24_mkM _ _ _ (⟨a0_0, a0_1, a0_2⟩ : S24) )) (Reps.none _ _))); intro v173 w23 ho24 hb hg_ hnew_; clear hg_ hnew_; (rw [← Ny172.out] at ho24); have HO174 := Aside0.mk (Kd.R_lower (Kd.R_newB ho24 BK171.out) (below_size HB.out)); replace BK171 := bk1 BK171 hb; replace HB := hb1 HB hb; clear hb ho24; obtain ⟨Ao25, co25, eo25⟩ := Kd.R_slice HO174.out; subst eo25) | (refine callA (some 7) Tryd.func56 #[.slice Ao25 y172.length co25] ?_; (with_reducible refine (bits_valid.calls k _ _ y172 false _ ?side1 ?side2 A2.out).mono ?_); (case side1 => exact (Kd.R_reads' HO174.out).2.2); (case side2 => exact (Kd.R_reads' HO174.out).2.1); rintro e w26 ⟨rfl, hb⟩; refine ⟨_, rfl, ?_⟩; replace HO174 := Kd.rb1 HO174 hb; replace BK171 := bk1 BK171 hb; replace HB := hb1 HB hb; (try clear hb)))
  go_ret
  exact ⟨by rfl, by repeat (with_reducible exact HB.out)⟩
end Go.Proofs.YtfigblfjogpojaaDoor.PBits
end
section
namespace Go.Proofs.YtfigblfjogpojaaDoor.PBits
open Go.RowKit Go.Proofs.YtfigblfjogpojaaDoorW.PrintWords Go.Proofs.YtfigblfjogpojaaDoorW.PrintLast Go.Proofs.YtfigblfjogpojaaDoorW.PrintMore
attribute [local go_sem] max2_int min2_int max_two min_two max_three min_three max_four min_four
set_option linter.unusedVariables false
set_option linter.unusedSimpArgs false
def bits_Add_1.f (a0 : Int) (a1 : Int) : Option (Int) := some (IntKind.u64.wrap (a0 + a1))
set_option maxHeartbeats 8000000 in
set_option maxRecDepth 100000 in
theorem bits_Add_1.calls (a0 : Int) (a1 : Int) (r : Int) (w : World) (h : bits_Add_1.f a0 a1 = some r) :
  Calls Tryd.prog 73 #[.int .u64 a0, .int .u64 a1] w fun e w' => e = .returned (.int .u64 r) ∧ Drawn0 w w' := by
 have H := h
 clear h
 unfold bits_Add_1.f at H
 obtain rfl := Option.some.inj H
 go_enter Tryd.func73, Tryd.ntmps73
 go_wp2
 go_ret
 exact ⟨by rfl, by repeat (exact Drawn0.refl _)⟩
end Go.Proofs.YtfigblfjogpojaaDoor.PBits
end
section
namespace Go.Proofs.YtfigblfjogpojaaDoor.PBits
open Go.RowKit Go.Proofs.YtfigblfjogpojaaDoorW.PrintWords Go.Proofs.YtfigblfjogpojaaDoorW.PrintLast Go.Proofs.YtfigblfjogpojaaDoorW.PrintMore
attribute [local go_sem] max2_int min2_int max_two min_two max_three min_three max_four min_four
set_option linter.unusedVariables false
set_option linter.unusedSimpArgs false
def bits_number__Add_1.f (k : Nat) (a0_0 : Int) (a0_1 : Int) (a0_2 : Int) (a1_0 : Int) (a1_1 : Int) (a1_2 : Int)  : Option (Int × Int × Int) := (bits_alike.f k a0_0 a0_1 a0_2 a1_0 a1_1 a1_2).bind fun t197 => (if t197 = true then (if (Go.bits .or .u64 a0_2 a1_2) = 0 then ((bits_Add_1.f a0_1 a1_1).bind fun t201 => ((bits_Of.f a0_0 t201).bind fun bt202 => (some (bt202.1, bt202.2.1, bt202.2.2)))) else ((bits_All.f k a0_0 120).bind fun bt198 => (some (bt198.1, bt198.2.1, bt198.2.2)))) else (some (0, 0, 0)))
theorem bits_number__Add_1.mono : ∀ a0 a1 a2 a3 a4 a5 k, LeO (bits_number__Add_1.f k a0 a1 a2 a3 a4 a5) (bits_number__Add_1.f (k + 1) a0 a1 a2 a3 a4 a5) := by
 intro a0 a1 a2 a3 a4 a5 k
 unfold bits_number__Add_1.f
 repeat' first | with_reducible exact bits_All.mono _ _ _ | with_reducible exact bits_alike.mono _ _ _ _ _ _ _ | with_reducible exact LeO.refl _ | with_reducible exact LeO.none _ | with_reducible refine LeO.ite ?_ ?_ | with_reducible refine LeO.bind ?_ (fun _ => ?_)
def bits_number__Add_1.T5 : Bool × List (List Nat × List Nat) := (true, [([], []), ([0], [0]), ([], []), ([], []), ([3], [3]), ([], []), ([5], [5]), ([2, 4, 6], [2, 4, 6]), ([1, 7, 7], [1, 7]), ([8, 8, 0, 1, 2, 3, 4, 5, 6, 7, 8], [8])])
def bits_number__Add_1.B5 : List Nat := [0, 1, 0, 0, 8, 0, 32, 124, 255, 511]
theorem bits_number__Add_1.tab5 : rtab .any (opsOf Tryd.f71 5) = bits_number__Add_1.T5 := by kernel_rfl
theorem bits_number__Add_1.bits5 : waitsOk bits_number__Add_1.T5.2 bits_number__Add_1.B5 = true := by kernel_rfl
set_option maxHeartbeats 8000000 in
set_option maxRecDepth 100000 in
theorem bits_number__Add_1.calls (k : Nat) (a0_0 : Int) (a0_1 : Int) (a0_2 : Int) (a1_0 : Int) (a1_1 : Int) (a1_2 : Int)  (r1 : Int) (r2 : Int) (r3 : Int) (w : World) (h : bits_number__Add_1.f k a0_0 a0_1 a0_2 a1_0 a1_1 a1_2 = some (r1, r2, r3)) :
  Calls Tryd.prog 71 #[.agg #[.int .i64 a0_0, .int .u64 a0_1, .int .u64 a0_2], .agg #[.int .i64 a1_0, .int .u64 a1_1, .int .u64 a1_2], .func (.func 73) #[] #[]] w fun e w' => e = .returned (.agg #[.int .i64 r1, .int .u64 r2, .int .u64 r3]) ∧ Below w.heap.size w w' := by
 have hu24 := Tryd.underlying24
 have HB := Aside0.mk (Below.refl w.heap.size w)
 have H := h
 clear h
 unfold bits_number__Add_1.f at H
 replace H := bN H; obtain ⟨t197, A4, H⟩ := H
 replace H := iB H; rcases H with ⟨rfl, H⟩ | ⟨rfl, H⟩
 ·replace H := iE H; rcases H with ⟨c6b0, c6b1, H⟩ | ⟨c6, c6b0, c6b1, H⟩
  ·replace H := bN H; obtain ⟨t201, A7, H⟩ := H
   replace H := bN H; obtain ⟨⟨t202, t203, t204⟩, A8, H⟩ := H; dsimp only at H
   replace H := s3 H; obtain ⟨rfl, rfl, rfl⟩ := H
   go_enter Tryd.func71, Tryd.ntmps71
   try go_wp2_with (first | (refine boxA HB 3 #[.int .i64 a0_0, .int .u64 a0_1, .int .u64 a0_2] 24 ?_; clear HB; intro gb194 w9 BK194 GE194 hg hb HB; clear hb hg) | (refine boxA HB 4 #[.int .i64 a1_0, .int .u64 a1_1, .int .u64 a1_2] 24 ?_; clear HB; intro gb195 w10 BK195 GE195 hg hb HB; have NB194_195 := nbA BK194 hg; have NB195_194 := nbB BK194 hg; replace BK194 := bk1 BK194 hb; clear hb hg) | (refine boxA HB 6 #[.int .i64 0, .int .u64 0, .int .u64 0] 24 ?_; clear HB; intro gb196 w11 BK196 GE196 hg hb HB; have NB194_196 := nbA BK194 hg; have NB196_194 := nbB BK194 hg; replace BK194 := bk1 BK194 hb; have NB195_196 := nbA BK195 hg; have NB196_195 := nbB BK195 hg; replace BK195 := bk1 BK195 hb; clear hb hg; have hnb12 := NB194_195.out; have hnc12 := NB195_194.out; have hnb13 := NB194_196.out; have hnc13 := NB196_194.out; obtain ⟨hcz14_0, hcz14_1, hcz14_2, hfz14_0, hfz14_1, hfz14_2⟩ := cf3 BK194; have hnb15 := NB195_196.out; have hnc15 := NB196_195.out; obtain ⟨hcz16_0, hcz16_1, hcz16_2, hfz16_0, hfz16_1, hfz16_2⟩ := cf3 BK195) | (refine callA (some 10) Tryd.func66 #[.agg #[.int .i64 a0_0, .int .u64 a0_1, .int .u64 a0_2], .agg #[.int .i64 a1_0, .int .u64 a1_1, .int .u64 a1_2]] ?_; (with_reducible refine (bits_alike.calls k a0_0 a0_1 a0_2 a1_0 a1_1 a1_2 true _ A4.out).mono ?_); rintro e w17 ⟨rfl, hb⟩; refine ⟨_, rfl, ?_⟩; replace BK194 := bk1 BK194 hb; replace BK195 := bk1 BK195 hb; replace BK196 := bk1 BK196 hb; replace HB := hb1 HB hb; (try clear hb); obtain ⟨hcz18_0, hcz18_1, hcz18_2, hfz18_0, hfz18_1, hfz18_2⟩ := cf3 BK194; obtain ⟨hcz19_0, hcz19_1, hcz19_2, hfz19_0, hfz19_1, hfz19_2⟩ := cf3 BK195))
   replace BK194 := bkd BK194
   replace BK195 := bkd BK195
   replace BK196 := bkd BK196
   replace HB := hbd HB
   refine start_ (n := 10) (S := fun w' => w'.cell? ⟨gb194, 0, none⟩ = some (.int .i64 a0_0) ∧ w'.cell? ⟨gb194, 1, none⟩ = some (.int .u64 a0_1) ∧ w'.cell? ⟨gb194, 2, none⟩ = some (.int .u64 a0_2) ∧ w'.cell? ⟨gb195, 0, none⟩ = some (.int .i64 a1_0) ∧ w'.cell? ⟨gb195, 1, none⟩ = some (.int .u64 a1_1) ∧ w'.cell? ⟨gb195, 2, none⟩ = some (.int .u64 a1_2)) (ds := []) (tb 10 0) (by kernel_rfl) rfl (by kernel_rfl) (c3 BK194 (d3 BK195)) (fun hHeld => ?_); refine with_tabW bits_number__Add_1.tab5 bits_number__Add_1.bits5 (fun HT_ HW_ => ?_)
   generalize w17.drew = w20 at BK194 BK195 BK196 HB hHeld ⊢
   refine pA 0 23 (tb 10 1) HT_ ?_
   refine pA 2 25 (tb 10 5) HT_ ?_
   refine pA 3 26 (tb 10 13) HT_ ?_
   refine pA 5 28 (tb 10 45) HT_ ?_
   refine tA 1 24 (tb 10 47) HT_ HW_ hHeld ?_
   refine tA 4 27 (tb 10 63) HT_ HW_ hHeld ?_
   refine tA 6 29 (tb 10 127) HT_ HW_ hHeld ?_
   refine oA 7 (some 30) (tb 10 255) HT_ (fun K hK => ?_)
   refine sq_goesT Tryd.func73 (by kernel_rfl) rfl #[.int .u64 a0_1, .int .u64 a1_1] (by rfl) rfl rfl rfl (by (try simp only [List.map_toArray, List.map_cons, List.map_nil]); rfl) ?_
   with_reducible refine (bits_Add_1.calls a0_1 a1_1 t201 _ A7.out).mono ?_
   rintro e w' ⟨rfl, ⟨nd, rfl⟩⟩
   refine ⟨_, rfl, ?_⟩
   refine hK.out _ _ (c3 BK194 (d3 BK195)) (fun hHeld => ?_)
   clear hK K
   refine nA ?_
   refine oA 8 (some 31) (tb 10 511) HT_ (fun K hK => ?_)
   refine gA Tryd.func24 #[.int .i64 a0_0, .int .u64 t201] ?_
   with_reducible refine (bits_Of.calls a0_0 t201 t202 t203 t204 _ A8.out).mono ?_
   rintro e w21 ⟨rfl, hb⟩
   refine ⟨_, rfl, ?_⟩
   replace BK194 := bk1 BK194 hb
   replace BK195 := bk1 BK195 hb
   replace BK196 := bk1 BK196 hb
   replace HB := hb1 HB hb
   (try clear hb)
   refine hK.out _ _ (c3 BK194 (d3 BK195)) (fun hHeld => ?_)
   clear hK K
   refine nA ?_
   refine oA 9 (none) (tb 10 1023) HT_ (fun K hK => ?_)
   have hs22 : w21.cell? ⟨gb196, 0, none⟩ = some (.int .i64 0) := (blk_cell BK196.out 0).trans rfl
   have hfs22 := blk_frozen BK196.out 0
   have hns22_0 := NB194_196.out
   have hns22_1 := NB195_196.out
   have hms22_0 := NB196_194.out
   have hms22_1 := NB196_195.out
   have hs23 : w21.cell? ⟨gb196, 1, none⟩ = some (.int .u64 0) := (blk_cell BK196.out 1).trans rfl
   have hfs23 := blk_frozen BK196.out 1
   have hns23_0 := NB194_196.out
   have hns23_1 := NB195_196.out
   have hms23_0 := NB196_194.out
   have hms23_1 := NB196_195.out
   have hs24 : w21.cell? ⟨gb196, 2, none⟩ = some (.int .u64 0) := (blk_cell BK196.out 2).trans rfl
   have hfs24 := blk_frozen BK196.out 2
   have hns24_0 := NB194_196.out
   have hns24_1 := NB195_196.out
   have hms24_0 := NB196_194.out
   have hms24_1 := NB196_195.out
   refine skip_ (w1 := ?_) (by rfl) rfl ?_ ?_
   rotate_left
   ·go_simp
    rfl
   refine hK.out _ _ ⟨((cell_far (p := ⟨gb196, _, none⟩) NB194_196.out _).trans (((cell_far (p := ⟨gb196, _, none⟩) NB194_196.out _).trans (((cell_far (p := ⟨gb196, _, none⟩) NB194_196.out _).trans (hHeld.1)))))), ((cell_far (p := ⟨gb196, _, none⟩) NB194_196.out _).trans (((cell_far (p := ⟨gb196, _, none⟩) NB194_196.out _).trans (((cell_far (p := ⟨gb196, _, none⟩) NB194_196.out _).trans (hHeld.2.1)))))), ((cell_far (p := ⟨gb196, _, none⟩) NB194_196.out _).trans (((cell_far (p := ⟨gb196, _, none⟩) NB194_196.out _).trans (((cell_far (p := ⟨gb196, _, none⟩) NB194_196.out _).trans (hHeld.2.2.1)))))), ((cell_far (p := ⟨gb196, _, none⟩) NB195_196.out _).trans (((cell_far (p := ⟨gb196, _, none⟩) NB195_196.out _).trans (((cell_far (p := ⟨gb196, _, none⟩) NB195_196.out _).trans (hHeld.2.2.2.1)))))), ((cell_far (p := ⟨gb196, _, none⟩) NB195_196.out _).trans (((cell_far (p := ⟨gb196, _, none⟩) NB195_196.out _).trans (((cell_far (p := ⟨gb196, _, none⟩) NB195_196.out _).trans (hHeld.2.2.2.2.1)))))), ((cell_far (p := ⟨gb196, _, none⟩) NB195_196.out _).trans (((cell_far (p := ⟨gb196, _, none⟩) NB195_196.out _).trans (((cell_far (p := ⟨gb196, _, none⟩) NB195_196.out _).trans (hHeld.2.2.2.2.2))))))⟩ (fun hHeld => ?_)
   clear hK K
   refine done_ (done_of HT_.out (by kernel_rfl)) ?_
   try go_wp2
   refine retA gb196 24 #[.int .i64 t202, .int .u64 t203, .int .u64 t204] (put3 BK196) Tryd.underlying24 ?_
   exact ⟨by rfl, by repeat (with_reducible first | exact HB.out | refine below_set ?_ GE196.out)⟩
  ·replace H := bN H; obtain ⟨⟨t198, t199, t200⟩, A25, H⟩ := H; dsimp only at H
   replace H := s3 H; obtain ⟨rfl, rfl, rfl⟩ := H
   go_enter Tryd.func71, Tryd.ntmps71
   go_wp2_with (first | (refine boxA HB 3 #[.int .i64 a0_0, .int .u64 a0_1, .int .u64 a0_2] 24 ?_; clear HB; intro gb194 w26 BK194 GE194 hg hb HB; clear hb hg) | (refine boxA HB 4 #[.int .i64 a1_0, .int .u64 a1_1, .int .u64 a1_2] 24 ?_; clear HB; intro gb195 w27 BK195 GE195 hg hb HB; have NB194_195 := nbA BK194 hg; have NB195_194 := nbB BK194 hg; replace BK194 := bk1 BK194 hb; clear hb hg) | (refine boxA HB 6 #[.int .i64 0, .int .u64 0, .int .u64 0] 24 ?_; clear HB; intro gb196 w28 BK196 GE196 hg hb HB; have NB194_196 := nbA BK194 hg; have NB196_194 := nbB BK194 hg; replace BK194 := bk1 BK194 hb; have NB195_196 := nbA BK195 hg; have NB196_195 := nbB BK195 hg; replace BK195 := bk1 BK195 hb; clear hb hg; have hnb29 := NB194_195.out; have hnc29 := NB195_194.out; have hnb30 := NB194_196.out; have hnc30 := NB196_194.out; obtain ⟨hcz31_0, hcz31_1, hcz31_2, hfz31_0, hfz31_1, hfz31_2⟩ := cf3 BK194; have hnb32 := NB195_196.out; have hnc32 := NB196_195.out; obtain ⟨hcz33_0, hcz33_1, hcz33_2, hfz33_0, hfz33_1, hfz33_2⟩ := cf3 BK195) | (refine callA (some 10) Tryd.func66 #[.agg #[.int .i64 a0_0, .int .u64 a0_1, .int .u64 a0_2], .agg #[.int .i64 a1_0, .int .u64 a1_1, .int .u64 a1_2]] ?_; (with_reducible refine (bits_alike.calls k a0_0 a0_1 a0_2 a1_0 a1_1 a1_2 true _ A4.out).mono ?_); rintro e w34 ⟨rfl, hb⟩; refine ⟨_, rfl, ?_⟩; replace BK194 := bk1 BK194 hb; replace BK195 := bk1 BK195 hb; replace BK196 := bk1 BK196 hb; replace HB := hb1 HB hb; (try clear hb); obtain ⟨hcz35_0, hcz35_1, hcz35_2, hfz35_0, hfz35_1, hfz35_2⟩ := cf3 BK194; obtain ⟨hcz36_0, hcz36_1, hcz36_2, hfz36_0, hfz36_1, hfz36_2⟩ := cf3 BK195) | (refine callA (some 22) Tryd.func25 #[.int .i64 a0_0, .int .u8 120] ?_; (with_reducible refine (bits_All.calls k a0_0 120 t198 t199 t200 _ A25.out).mono ?_); rintro e w37 ⟨rfl, hb⟩; refine ⟨_, rfl, ?_⟩; replace BK194 := bk1 BK194 hb; replace BK195 := bk1 BK195 hb; replace BK196 := bk1 BK196 hb; replace HB := hb1 HB hb; (try clear hb); obtain ⟨hcz38_0, hcz38_1, hcz38_2, hfz38_0, hfz38_1, hfz38_2⟩ := cf3 BK196))
   refine retA gb196 24 #[.int .i64 t198, .int .u64 t199, .int .u64 t200] (put3 BK196) Tryd.underlying24 ?_
   exact ⟨by rfl, by repeat (with_reducible first | exact HB.out | refine below_set ?_ GE196.out)⟩
 ·replace H := s3 H; obtain ⟨rfl, rfl, rfl⟩ := H
  go_enter Tryd.func71, Tryd.ntmps71
  go_wp2_with (first | (refine boxA HB 3 #[.int .i64 a0_0, .int .u64 a0_1, .int .u64 a0_2] 24 ?_; clear HB; intro gb194 w39 BK194 GE194 hg hb HB; clear hb hg) | (refine boxA HB 4 #[.int .i64 a1_0, .int .u64 a1_1, .int .u64 a1_2] 24 ?_; clear HB; intro gb195 w40 BK195 GE195 hg hb HB; have NB194_195 := nbA BK194 hg; have NB195_194 := nbB BK194 hg; replace BK194 := bk1 BK194 hb; clear hb hg) | (refine boxA HB 6 #[.int .i64 0, .int .u64 0, .int .u64 0] 24 ?_; clear HB; intro gb196 w41 BK196 GE196 hg hb HB; have NB194_196 := nbA BK194 hg; have NB196_194 := nbB BK194 hg; replace BK194 := bk1 BK194 hb; have NB195_196 := nbA BK195 hg; have NB196_195 := nbB BK195 hg; replace BK195 := bk1 BK195 hb; clear hb hg; have hnb42 := NB194_195.out; have hnc42 := NB195_194.out; have hnb43 := NB194_196.out; have hnc43 := NB196_194.out; obtain ⟨hcz44_0, hcz44_1, hcz44_2, hfz44_0, hfz44_1, hfz44_2⟩ := cf3 BK194; have hnb45 := NB195_196.out; have hnc45 := NB196_195.out; obtain ⟨hcz46_0, hcz46_1, hcz46_2, hfz46_0, hfz46_1, hfz46_2⟩ := cf3 BK195) | (refine callA (some 10) Tryd.func66 #[.agg #[.int .i64 a0_0, .int .u64 a0_1, .int .u64 a0_2], .agg #[.int .i64 a1_0, .int .u64 a1_1, .int .u64 a1_2]] ?_; (with_reducible refine (bits_alike.calls k a0_0 a0_1 a0_2 a1_0 a1_1 a1_2 false _ A4.out).mono ?_); rintro e w47 ⟨rfl, hb⟩; refine ⟨_, rfl, ?_⟩; replace BK194 := bk1 BK194 hb; replace BK195 := bk1 BK195 hb; replace BK196 := bk1 BK196 hb; replace HB := hb1 HB hb; (try clear hb); obtain ⟨hcz48_0, hcz48_1, hcz48_2, hfz48_0, hfz48_1, hfz48_2⟩ := cf3 BK196))
  refine retA gb196 24 #[.int .i64 0, .int .u64 0, .int .u64 0] (put3 BK196) Tryd.underlying24 ?_
  exact ⟨by rfl, by repeat (with_reducible first | exact HB.out | refine below_set ?_ GE196.out)⟩
end Go.Proofs.YtfigblfjogpojaaDoor.PBits
end
section
namespace Go.Proofs.YtfigblfjogpojaaDoor.PBits
open Go.RowKit Go.Proofs.YtfigblfjogpojaaDoorW.PrintWords Go.Proofs.YtfigblfjogpojaaDoorW.PrintLast Go.Proofs.YtfigblfjogpojaaDoorW.PrintMore
attribute [local go_sem] max2_int min2_int max_two min_two max_three min_three max_four min_four
set_option linter.unusedVariables false
set_option linter.unusedSimpArgs false
def bits_Add.f (k : Nat) (a0_0 : Int) (a0_1 : Int) (a0_2 : Int) (a1_0 : Int) (a1_1 : Int) (a1_2 : Int) : Option (Int × Int × Int) := (bits_number__Add_1.f k a0_0 a0_1 a0_2 a1_0 a1_1 a1_2).bind fun bt208 => (some (bt208.1, bt208.2.1, bt208.2.2))
theorem bits_Add.mono : ∀ a0 a1 a2 a3 a4 a5 k, LeO (bits_Add.f k a0 a1 a2 a3 a4 a5) (bits_Add.f (k + 1) a0 a1 a2 a3 a4 a5) := by
 intro a0 a1 a2 a3 a4 a5 k
 unfold bits_Add.f
 repeat' first | with_reducible exact bits_number__Add_1.mono _ _ _ _ _ _ _ | with_reducible exact LeO.refl _ | with_reducible exact LeO.none _ | with_reducible refine LeO.ite ?_ ?_ | with_reducible refine LeO.bind ?_ (fun _ => ?_)
set_option maxHeartbeats 8000000 in
set_option maxRecDepth 100000 in
theorem bits_Add.calls (k : Nat) (a0_0 : Int) (a0_1 : Int) (a0_2 : Int) (a1_0 : Int) (a1_1 : Int) (a1_2 : Int) (r1 : Int) (r2 : Int) (r3 : Int) (w : World) (h : bits_Add.f k a0_0 a0_1 a0_2 a1_0 a1_1 a1_2 = some (r1, r2, r3)) :
  Calls Tryd.prog 49 #[.agg #[.int .i64 a0_0, .int .u64 a0_1, .int .u64 a0_2], .agg #[.int .i64 a1_0, .int .u64 a1_1, .int .u64 a1_2]] w fun e w' => e = .returned (.agg #[.int .i64 r1, .int .u64 r2, .int .u64 r3]) ∧ Below w.heap.size w w' := by
 have hu24 := Tryd.underlying24
 have HB := Aside0.mk (Below.refl w.heap.size w)
 have H := h
 clear h
 unfold bits_Add.f at H
 replace H := bN H; obtain ⟨⟨t208, t209, t210⟩, A3, H⟩ := H; dsimp only at H
 replace H := s3 H; obtain ⟨rfl, rfl, rfl⟩ := H
 go_enter Tryd.func49, Tryd.ntmps49
 go_wp2_with (first | (refine boxA HB 2 #[.int .i64 a0_0, .int .u64 a0_1, .int .u64 a0_2] 24 ?_; clear HB; intro gb205 w4 BK205 GE205 hg hb HB; clear hb hg) | (refine boxA HB 3 #[.int .i64 a1_0, .int .u64 a1_1, .int .u64 a1_2] 24 ?_; clear HB; intro gb206 w5 BK206 GE206 hg hb HB; have NB205_206 := nbA BK205 hg; have NB206_205 := nbB BK205 hg; replace BK205 := bk1 BK205 hb; clear hb hg) | (refine boxA HB 4 #[.int .i64 0, .int .u64 0, .int .u64 0] 24 ?_; clear HB; intro gb207 w6 BK207 GE207 hg hb HB; have NB205_207 := nbA BK205 hg; have NB207_205 := nbB BK205 hg; replace BK205 := bk1 BK205 hb; have NB206_207 := nbA BK206 hg; have NB207_206 := nbB BK206 hg; replace BK206 := bk1 BK206 hb; clear hb hg; have hnb7 := NB205_206.out; have hnc7 := NB206_205.out; have hnb8 := NB205_207.out; have hnc8 := NB207_205.out; obtain ⟨hcz9_0, hcz9_1, hcz9_2, hfz9_0, hfz9_1, hfz9_2⟩ := cf3 BK205; have hnb10 := NB206_207.out; have hnc10 := NB207_206.out; obtain ⟨hcz11_0, hcz11_1, hcz11_2, hfz11_0, hfz11_1, hfz11_2⟩ := cf3 BK206) | (refine callA (some 7) Tryd.func71 #[.agg #[.int .i64 a0_0, .int .u64 a0_1, .int .u64 a0_2], .agg #[.int .i64 a1_0, .int .u64 a1_1, .int .u64 a1_2], (.func (.func 73) #[] #[])] ?_; (with_reducible refine (bits_number__Add_1.calls k a0_0 a0_1 a0_2 a1_0 a1_1 a1_2  t208 t209 t210 _ A3.out).mono ?_); rintro e w12 ⟨rfl, hb⟩; refine ⟨_, rfl, ?_⟩; replace BK205 := bk1 BK205 hb; replace BK206 := bk1 BK206 hb; replace BK207 := bk1 BK207 hb; replace HB := hb1 HB hb; (try clear hb); obtain ⟨hcz13_0, hcz13_1, hcz13_2, hfz13_0, hfz13_1, hfz13_2⟩ := cf3 BK207))
 refine retA gb207 24 #[.int .i64 t208, .int .u64 t209, .int .u64 t210] (put3 BK207) Tryd.underlying24 ?_
 exact ⟨by rfl, by repeat (with_reducible first | exact HB.out | refine below_set ?_ GE207.out)⟩
end Go.Proofs.YtfigblfjogpojaaDoor.PBits
end
section
namespace Go.Proofs.YtfigblfjogpojaaDoor.PBits
open Go.RowKit Go.Proofs.YtfigblfjogpojaaDoorW.PrintWords Go.Proofs.YtfigblfjogpojaaDoorW.PrintLast Go.Proofs.YtfigblfjogpojaaDoorW.PrintMore
attribute [local go_sem] max2_int min2_int max_two min_two max_three min_three max_four min_four
set_option linter.unusedVariables false
set_option linter.unusedSimpArgs false
attribute [local go_sem high] eqA24
def masklaw1_vectors.f (k : Nat)  : Option (Bool) := (bits_Read.f k (⟨#[54, 39, 104, 122, 102]⟩ : ByteArray)).bind fun bt211 => ((bits_Read.f k (⟨#[56, 39, 115, 100, 50, 48, 48]⟩ : ByteArray)).bind fun bt216 => ((bits_Int.f k bt216.1 bt216.2.1 bt216.2.2.1).bind fun bt221 => (if bt211.2.2.2 = 0 then (if bt216.2.2.2 = 0 then ((bits_Text.f k bt211.1 bt211.2.1 bt211.2.2.1).bind fun t223 => (if t223.toList = ([54, 39, 98, 122, 122, 49, 49, 49, 49] : List UInt8) then (if bt221.1 = (-56) then ((bits_Add.f k bt216.1 bt216.2.1 bt216.2.2.1 bt216.1 bt216.2.1 bt216.2.2.1).bind fun bt224 => (some (bt224.1 == 8 && (bt224.2.1 == 144 && (bt224.2.2 == 0))))) else (some false)) else (some false))) else (some false)) else (some false))))
theorem masklaw1_vectors.mono : ∀ k, LeO (masklaw1_vectors.f k ) (masklaw1_vectors.f (k + 1) ) := by
 intro  k
 unfold masklaw1_vectors.f
 repeat' first | with_reducible exact bits_Add.mono _ _ _ _ _ _ _ | with_reducible exact bits_Int.mono _ _ _ _ | with_reducible exact bits_Read.mono _ _ | with_reducible exact bits_Text.mono _ _ _ _ | with_reducible exact LeO.refl _ | with_reducible exact LeO.none _ | with_reducible refine LeO.ite ?_ ?_ | with_reducible refine LeO.bind ?_ (fun _ => ?_)
set_option maxHeartbeats 8000000 in
set_option maxRecDepth 100000 in
theorem masklaw1_vectors.calls (k : Nat)  (r : Bool) (w : World) (h : masklaw1_vectors.f k  = some r) :
  Calls Tryd.prog 11 #[] w fun e w' => e = .returned (.bool r) ∧ Below w.heap.size w w' := by
 have hu24 := Tryd.underlying24
 have HB := Aside0.mk (Below.refl w.heap.size w)
 have H := h
 clear h
 unfold masklaw1_vectors.f at H
 replace H := bN H; obtain ⟨⟨t211, t212, t213, t214⟩, A1, H⟩ := H; dsimp only at H
 replace H := bN H; obtain ⟨⟨t216, t217, t218, t219⟩, A2, H⟩ := H; dsimp only at H
 replace H := bN H; obtain ⟨⟨t221, t222⟩, A3, H⟩ := H; dsimp only at H
 replace H := iE H; rcases H with ⟨c4b0, c4b1, H⟩ | ⟨c4, c4b0, c4b1, H⟩
 ·replace H := iE H; rcases H with ⟨c5b0, c5b1, H⟩ | ⟨c5, c5b0, c5b1, H⟩
  ·replace H := bN H; obtain ⟨t223, A6, H⟩ := H
   replace H := iE H; rcases H with ⟨c7b0, c7b1, H⟩ | ⟨c7, c7b0, c7b1, H⟩
   ·replace H := iE H; rcases H with ⟨c8b0, c8b1, H⟩ | ⟨c8, c8b0, c8b1, H⟩
    ·replace H := bN H; obtain ⟨⟨t224, t225, t226⟩, A9, H⟩ := H; dsimp only at H
     obtain rfl := Option.some.inj H
     go_enter Tryd.func11, Tryd.ntmps11
     go_wp2_with (first | (refine callA (some 8) Tryd.func12 #[.string (⟨#[54, 39, 104, 122, 102]⟩ : ByteArray)] ?_; (with_reducible refine (bits_Read.calls k (⟨#[54, 39, 104, 122, 102]⟩ : ByteArray) t211 t212 t213 t214 _ A1.out).mono ?_); rintro e w10 ⟨rfl, hb⟩; refine ⟨_, rfl, ?_⟩; replace HB := hb1 HB hb; (try clear hb)) | (refine boxA HB 1 #[.int .i64 0, .int .u64 0, .int .u64 0] 24 ?_; clear HB; intro gb215 w11 BK215 GE215 hg hb HB; clear hb hg; obtain ⟨hcz12_0, hcz12_1, hcz12_2, hfz12_0, hfz12_1, hfz12_2⟩ := cf3 BK215) | (refine callA (some 12) Tryd.func12 #[.string (⟨#[56, 39, 115, 100, 50, 48, 48]⟩ : ByteArray)] ?_; (with_reducible refine (bits_Read.calls k (⟨#[56, 39, 115, 100, 50, 48, 48]⟩ : ByteArray) t216 t217 t218 t219 _ A2.out).mono ?_); rintro e w13 ⟨rfl, hb⟩; refine ⟨_, rfl, ?_⟩; replace BK215 := Aside0.mk (blk_below (g := gb215) (o := .cells #[.int .i64 t211, .int .u64 t212, .int .u64 t213] 24 (0, 0)) (by refine blk_put (cs := #[.int .i64 t211, .int .u64 t212, .int .u64 0]) ?_ 2 _ rfl; refine blk_put (cs := #[.int .i64 t211, .int .u64 0, .int .u64 0]) ?_ 1 _ rfl; refine blk_put (cs := #[.int .i64 0, .int .u64 0, .int .u64 0]) ?_ 0 _ rfl; exact BK215.out) hb); replace HB := hb1 HB hb; (try clear hb)) | (refine boxA HB 3 #[.int .i64 0, .int .u64 0, .int .u64 0] 24 ?_; clear HB; intro gb220 w14 BK220 GE220 hg hb HB; have NB215_220 := nbA BK215 hg; have NB220_215 := nbB BK215 hg; replace BK215 := bk1 BK215 hb; clear hb hg; have hnb15 := NB220_215.out; have hnc15 := NB215_220.out; obtain ⟨hcz16_0, hcz16_1, hcz16_2, hfz16_0, hfz16_1, hfz16_2⟩ := cf3 BK220) | (refine callA (some 17) Tryd.func19 #[.agg #[.int .i64 t216, .int .u64 t217, .int .u64 t218]] ?_; (with_reducible refine (bits_Int.calls k t216 t217 t218 t221 t222 _ A3.out).mono ?_); rintro e w17 ⟨rfl, hb⟩; refine ⟨_, rfl, ?_⟩; replace BK215 := Aside0.mk (blk_below (g := gb215) (o := .cells #[.int .i64 t211, .int .u64 t212, .int .u64 t213] 24 (0, 0)) (by refine blk_far ?_ NB215_220.out _; refine blk_far ?_ NB215_220.out _; refine blk_far ?_ NB215_220.out _; exact BK215.out) hb); replace BK220 := Aside0.mk (blk_below (g := gb220) (o := .cells #[.int .i64 t216, .int .u64 t217, .int .u64 t218] 24 (0, 0)) (by refine blk_put (cs := #[.int .i64 t216, .int .u64 t217, .int .u64 0]) ?_ 2 _ rfl; refine blk_put (cs := #[.int .i64 t216, .int .u64 0, .int .u64 0]) ?_ 1 _ rfl; refine blk_put (cs := #[.int .i64 0, .int .u64 0, .int .u64 0]) ?_ 0 _ rfl; exact BK220.out) hb); replace HB := hb1 HB hb; (try clear hb); obtain ⟨hcz18_0, hcz18_1, hcz18_2, hfz18_0, hfz18_1, hfz18_2⟩ := cf3 BK215) | (go_at_call 16; (with_reducible refine (bits_Text.calls k t211 t212 t213 t223 _ A6.out).mono ?_); rintro e w19 ⟨rfl, hb⟩; replace BK215 := bk1 BK215 hb; replace BK220 := bk1 BK220 hb; replace HB := hb1 HB hb; (try clear hb); obtain ⟨hcz20_0, hcz20_1, hcz20_2, hfz20_0, hfz20_1, hfz20_2⟩ := cf3 BK220) | (go_at_call 49; (with_reducible refine (bits_Add.calls k t216 t217 t218 t216 t217 t218 t224 t225 t226 _ A9.out).mono ?_); rintro e w21 ⟨rfl, hb⟩; replace BK215 := bk1 BK215 hb; replace BK220 := bk1 BK220 hb; replace HB := hb1 HB hb; (try clear hb)))
     go_ret
     exact ⟨by rfl, by repeat (with_reducible exact HB.out)⟩
    ·obtain rfl := Option.some.inj H
     go_enter Tryd.func11, Tryd.ntmps11
     go_wp2_with (first | (refine callA (some 8) Tryd.func12 #[.string (⟨#[54, 39, 104, 122, 102]⟩ : ByteArray)] ?_; (with_reducible refine (bits_Read.calls k (⟨#[54, 39, 104, 122, 102]⟩ : ByteArray) t211 t212 t213 t214 _ A1.out).mono ?_); rintro e w22 ⟨rfl, hb⟩; refine ⟨_, rfl, ?_⟩; replace HB := hb1 HB hb; (try clear hb)) | (refine boxA HB 1 #[.int .i64 0, .int .u64 0, .int .u64 0] 24 ?_; clear HB; intro gb215 w23 BK215 GE215 hg hb HB; clear hb hg; obtain ⟨hcz24_0, hcz24_1, hcz24_2, hfz24_0, hfz24_1, hfz24_2⟩ := cf3 BK215) | (refine callA (some 12) Tryd.func12 #[.string (⟨#[56, 39, 115, 100, 50, 48, 48]⟩ : ByteArray)] ?_; (with_reducible refine (bits_Read.calls k (⟨#[56, 39, 115, 100, 50, 48, 48]⟩ : ByteArray) t216 t217 t218 t219 _ A2.out).mono ?_); rintro e w25 ⟨rfl, hb⟩; refine ⟨_, rfl, ?_⟩; replace BK215 := Aside0.mk (blk_below (g := gb215) (o := .cells #[.int .i64 t211, .int .u64 t212, .int .u64 t213] 24 (0, 0)) (by refine blk_put (cs := #[.int .i64 t211, .int .u64 t212, .int .u64 0]) ?_ 2 _ rfl; refine blk_put (cs := #[.int .i64 t211, .int .u64 0, .int .u64 0]) ?_ 1 _ rfl; refine blk_put (cs := #[.int .i64 0, .int .u64 0, .int .u64 0]) ?_ 0 _ rfl; exact BK215.out) hb); replace HB := hb1 HB hb; (try clear hb)) | (refine boxA HB 3 #[.int .i64 0, .int .u64 0, .int .u64 0] 24 ?_; clear HB; intro gb220 w26 BK220 GE220 hg hb HB; have NB215_220 := nbA BK215 hg; have NB220_215 := nbB BK215 hg; replace BK215 := bk1 BK215 hb; clear hb hg; have hnb27 := NB220_215.out; have hnc27 := NB215_220.out; obtain ⟨hcz28_0, hcz28_1, hcz28_2, hfz28_0, hfz28_1, hfz28_2⟩ := cf3 BK220) | (refine callA (some 17) Tryd.func19 #[.agg #[.int .i64 t216, .int .u64 t217, .int .u64 t218]] ?_; (with_reducible refine (bits_Int.calls k t216 t217 t218 t221 t222 _ A3.out).mono ?_); rintro e w29 ⟨rfl, hb⟩; refine ⟨_, rfl, ?_⟩; replace BK215 := Aside0.mk (blk_below (g := gb215) (o := .cells #[.int .i64 t211, .int .u64 t212, .int .u64 t213] 24 (0, 0)) (by refine blk_far ?_ NB215_220.out _; refine blk_far ?_ NB215_220.out _; refine blk_far ?_ NB215_220.out _; exact BK215.out) hb); replace BK220 := Aside0.mk (blk_below (g := gb220) (o := .cells #[.int .i64 t216, .int .u64 t217, .int .u64 t218] 24 (0, 0)) (by refine blk_put (cs := #[.int .i64 t216, .int .u64 t217, .int .u64 0]) ?_ 2 _ rfl; refine blk_put (cs := #[.int .i64 t216, .int .u64 0, .int .u64 0]) ?_ 1 _ rfl; refine blk_put (cs := #[.int .i64 0, .int .u64 0, .int .u64 0]) ?_ 0 _ rfl; exact BK220.out) hb); replace HB := hb1 HB hb; (try clear hb); obtain ⟨hcz30_0, hcz30_1, hcz30_2, hfz30_0, hfz30_1, hfz30_2⟩ := cf3 BK215) | (go_at_call 16; (with_reducible refine (bits_Text.calls k t211 t212 t213 t223 _ A6.out).mono ?_); rintro e w31 ⟨rfl, hb⟩; replace BK215 := bk1 BK215 hb; replace BK220 := bk1 BK220 hb; replace HB := hb1 HB hb; (try clear hb)))
     go_ret
     exact ⟨by rfl, by repeat (with_reducible exact HB.out)⟩
   ·obtain rfl := Option.some.inj H
    go_enter Tryd.func11, Tryd.ntmps11
    go_wp2_with (first | (refine callA (some 8) Tryd.func12 #[.string (⟨#[54, 39, 104, 122, 102]⟩ : ByteArray)] ?_; (with_reducible refine (bits_Read.calls k (⟨#[54, 39, 104, 122, 102]⟩ : ByteArray) t211 t212 t213 t214 _ A1.out).mono ?_); rintro e w32 ⟨rfl, hb⟩; refine ⟨_, rfl, ?_⟩; replace HB := hb1 HB hb; (try clear hb)) | (refine boxA HB 1 #[.int .i64 0, .int .u64 0, .int .u64 0] 24 ?_; clear HB; intro gb215 w33 BK215 GE215 hg hb HB; clear hb hg; obtain ⟨hcz34_0, hcz34_1, hcz34_2, hfz34_0, hfz34_1, hfz34_2⟩ := cf3 BK215) | (refine callA (some 12) Tryd.func12 #[.string (⟨#[56, 39, 115, 100, 50, 48, 48]⟩ : ByteArray)] ?_; (with_reducible refine (bits_Read.calls k (⟨#[56, 39, 115, 100, 50, 48, 48]⟩ : ByteArray) t216 t217 t218 t219 _ A2.out).mono ?_); rintro e w35 ⟨rfl, hb⟩; refine ⟨_, rfl, ?_⟩; replace BK215 := Aside0.mk (blk_below (g := gb215) (o := .cells #[.int .i64 t211, .int .u64 t212, .int .u64 t213] 24 (0, 0)) (by refine blk_put (cs := #[.int .i64 t211, .int .u64 t212, .int .u64 0]) ?_ 2 _ rfl; refine blk_put (cs := #[.int .i64 t211, .int .u64 0, .int .u64 0]) ?_ 1 _ rfl; refine blk_put (cs := #[.int .i64 0, .int .u64 0, .int .u64 0]) ?_ 0 _ rfl; exact BK215.out) hb); replace HB := hb1 HB hb; (try clear hb)) | (refine boxA HB 3 #[.int .i64 0, .int .u64 0, .int .u64 0] 24 ?_; clear HB; intro gb220 w36 BK220 GE220 hg hb HB; have NB215_220 := nbA BK215 hg; have NB220_215 := nbB BK215 hg; replace BK215 := bk1 BK215 hb; clear hb hg; have hnb37 := NB220_215.out; have hnc37 := NB215_220.out; obtain ⟨hcz38_0, hcz38_1, hcz38_2, hfz38_0, hfz38_1, hfz38_2⟩ := cf3 BK220) | (refine callA (some 17) Tryd.func19 #[.agg #[.int .i64 t216, .int .u64 t217, .int .u64 t218]] ?_; (with_reducible refine (bits_Int.calls k t216 t217 t218 t221 t222 _ A3.out).mono ?_); rintro e w39 ⟨rfl, hb⟩; refine ⟨_, rfl, ?_⟩; replace BK215 := Aside0.mk (blk_below (g := gb215) (o := .cells #[.int .i64 t211, .int .u64 t212, .int .u64 t213] 24 (0, 0)) (by refine blk_far ?_ NB215_220.out _; refine blk_far ?_ NB215_220.out _; refine blk_far ?_ NB215_220.out _; exact BK215.out) hb); replace BK220 := Aside0.mk (blk_below (g := gb220) (o := .cells #[.int .i64 t216, .int .u64 t217, .int .u64 t218] 24 (0, 0)) (by refine blk_put (cs := #[.int .i64 t216, .int .u64 t217, .int .u64 0]) ?_ 2 _ rfl; refine blk_put (cs := #[.int .i64 t216, .int .u64 0, .int .u64 0]) ?_ 1 _ rfl; refine blk_put (cs := #[.int .i64 0, .int .u64 0, .int .u64 0]) ?_ 0 _ rfl; exact BK220.out) hb); replace HB := hb1 HB hb; (try clear hb); obtain ⟨hcz40_0, hcz40_1, hcz40_2, hfz40_0, hfz40_1, hfz40_2⟩ := cf3 BK215) | (go_at_call 16; (with_reducible refine (bits_Text.calls k t211 t212 t213 t223 _ A6.out).mono ?_); rintro e w41 ⟨rfl, hb⟩; replace BK215 := bk1 BK215 hb; replace BK220 := bk1 BK220 hb; replace HB := hb1 HB hb; (try clear hb)))
    go_ret
    exact ⟨by rfl, by repeat (with_reducible exact HB.out)⟩
  ·obtain rfl := Option.some.inj H
   go_enter Tryd.func11, Tryd.ntmps11
   go_wp2_with (first | (refine callA (some 8) Tryd.func12 #[.string (⟨#[54, 39, 104, 122, 102]⟩ : ByteArray)] ?_; (with_reducible refine (bits_Read.calls k (⟨#[54, 39, 104, 122, 102]⟩ : ByteArray) t211 t212 t213 t214 _ A1.out).mono ?_); rintro e w42 ⟨rfl, hb⟩; refine ⟨_, rfl, ?_⟩; replace HB := hb1 HB hb; (try clear hb)) | (refine boxA HB 1 #[.int .i64 0, .int .u64 0, .int .u64 0] 24 ?_; clear HB; intro gb215 w43 BK215 GE215 hg hb HB; clear hb hg; obtain ⟨hcz44_0, hcz44_1, hcz44_2, hfz44_0, hfz44_1, hfz44_2⟩ := cf3 BK215) | (refine callA (some 12) Tryd.func12 #[.string (⟨#[56, 39, 115, 100, 50, 48, 48]⟩ : ByteArray)] ?_; (with_reducible refine (bits_Read.calls k (⟨#[56, 39, 115, 100, 50, 48, 48]⟩ : ByteArray) t216 t217 t218 t219 _ A2.out).mono ?_); rintro e w45 ⟨rfl, hb⟩; refine ⟨_, rfl, ?_⟩; replace BK215 := Aside0.mk (blk_below (g := gb215) (o := .cells #[.int .i64 t211, .int .u64 t212, .int .u64 t213] 24 (0, 0)) (by refine blk_put (cs := #[.int .i64 t211, .int .u64 t212, .int .u64 0]) ?_ 2 _ rfl; refine blk_put (cs := #[.int .i64 t211, .int .u64 0, .int .u64 0]) ?_ 1 _ rfl; refine blk_put (cs := #[.int .i64 0, .int .u64 0, .int .u64 0]) ?_ 0 _ rfl; exact BK215.out) hb); replace HB := hb1 HB hb; (try clear hb)) | (refine boxA HB 3 #[.int .i64 0, .int .u64 0, .int .u64 0] 24 ?_; clear HB; intro gb220 w46 BK220 GE220 hg hb HB; have NB215_220 := nbA BK215 hg; have NB220_215 := nbB BK215 hg; replace BK215 := bk1 BK215 hb; clear hb hg; have hnb47 := NB220_215.out; have hnc47 := NB215_220.out; obtain ⟨hcz48_0, hcz48_1, hcz48_2, hfz48_0, hfz48_1, hfz48_2⟩ := cf3 BK220) | (refine callA (some 17) Tryd.func19 #[.agg #[.int .i64 t216, .int .u64 t217, .int .u64 t218]] ?_; (with_reducible refine (bits_Int.calls k t216 t217 t218 t221 t222 _ A3.out).mono ?_); rintro e w49 ⟨rfl, hb⟩; refine ⟨_, rfl, ?_⟩; replace BK215 := Aside0.mk (blk_below (g := gb215) (o := .cells #[.int .i64 t211, .int .u64 t212, .int .u64 t213] 24 (0, 0)) (by refine blk_far ?_ NB215_220.out _; refine blk_far ?_ NB215_220.out _; refine blk_far ?_ NB215_220.out _; exact BK215.out) hb); replace BK220 := Aside0.mk (blk_below (g := gb220) (o := .cells #[.int .i64 t216, .int .u64 t217, .int .u64 t218] 24 (0, 0)) (by refine blk_put (cs := #[.int .i64 t216, .int .u64 t217, .int .u64 0]) ?_ 2 _ rfl; refine blk_put (cs := #[.int .i64 t216, .int .u64 0, .int .u64 0]) ?_ 1 _ rfl; refine blk_put (cs := #[.int .i64 0, .int .u64 0, .int .u64 0]) ?_ 0 _ rfl; exact BK220.out) hb); replace HB := hb1 HB hb; (try clear hb)))
   go_ret
   exact ⟨by rfl, by repeat (with_reducible exact HB.out)⟩
 ·obtain rfl := Option.some.inj H
  go_enter Tryd.func11, Tryd.ntmps11
  go_wp2_with (first | (refine callA (some 8) Tryd.func12 #[.string (⟨#[54, 39, 104, 122, 102]⟩ : ByteArray)] ?_; (with_reducible refine (bits_Read.calls k (⟨#[54, 39, 104, 122, 102]⟩ : ByteArray) t211 t212 t213 t214 _ A1.out).mono ?_); rintro e w50 ⟨rfl, hb⟩; refine ⟨_, rfl, ?_⟩; replace HB := hb1 HB hb; (try clear hb)) | (refine boxA HB 1 #[.int .i64 0, .int .u64 0, .int .u64 0] 24 ?_; clear HB; intro gb215 w51 BK215 GE215 hg hb HB; clear hb hg; obtain ⟨hcz52_0, hcz52_1, hcz52_2, hfz52_0, hfz52_1, hfz52_2⟩ := cf3 BK215) | (refine callA (some 12) Tryd.func12 #[.string (⟨#[56, 39, 115, 100, 50, 48, 48]⟩ : ByteArray)] ?_; (with_reducible refine (bits_Read.calls k (⟨#[56, 39, 115, 100, 50, 48, 48]⟩ : ByteArray) t216 t217 t218 t219 _ A2.out).mono ?_); rintro e w53 ⟨rfl, hb⟩; refine ⟨_, rfl, ?_⟩; replace BK215 := Aside0.mk (blk_below (g := gb215) (o := .cells #[.int .i64 t211, .int .u64 t212, .int .u64 t213] 24 (0, 0)) (by refine blk_put (cs := #[.int .i64 t211, .int .u64 t212, .int .u64 0]) ?_ 2 _ rfl; refine blk_put (cs := #[.int .i64 t211, .int .u64 0, .int .u64 0]) ?_ 1 _ rfl; refine blk_put (cs := #[.int .i64 0, .int .u64 0, .int .u64 0]) ?_ 0 _ rfl; exact BK215.out) hb); replace HB := hb1 HB hb; (try clear hb)) | (refine boxA HB 3 #[.int .i64 0, .int .u64 0, .int .u64 0] 24 ?_; clear HB; intro gb220 w54 BK220 GE220 hg hb HB; have NB215_220 := nbA BK215 hg; have NB220_215 := nbB BK215 hg; replace BK215 := bk1 BK215 hb; clear hb hg; have hnb55 := NB220_215.out; have hnc55 := NB215_220.out; obtain ⟨hcz56_0, hcz56_1, hcz56_2, hfz56_0, hfz56_1, hfz56_2⟩ := cf3 BK220) | (refine callA (some 17) Tryd.func19 #[.agg #[.int .i64 t216, .int .u64 t217, .int .u64 t218]] ?_; (with_reducible refine (bits_Int.calls k t216 t217 t218 t221 t222 _ A3.out).mono ?_); rintro e w57 ⟨rfl, hb⟩; refine ⟨_, rfl, ?_⟩; replace BK215 := Aside0.mk (blk_below (g := gb215) (o := .cells #[.int .i64 t211, .int .u64 t212, .int .u64 t213] 24 (0, 0)) (by refine blk_far ?_ NB215_220.out _; refine blk_far ?_ NB215_220.out _; refine blk_far ?_ NB215_220.out _; exact BK215.out) hb); replace BK220 := Aside0.mk (blk_below (g := gb220) (o := .cells #[.int .i64 t216, .int .u64 t217, .int .u64 t218] 24 (0, 0)) (by refine blk_put (cs := #[.int .i64 t216, .int .u64 t217, .int .u64 0]) ?_ 2 _ rfl; refine blk_put (cs := #[.int .i64 t216, .int .u64 0, .int .u64 0]) ?_ 1 _ rfl; refine blk_put (cs := #[.int .i64 0, .int .u64 0, .int .u64 0]) ?_ 0 _ rfl; exact BK220.out) hb); replace HB := hb1 HB hb; (try clear hb)))
  go_ret
  exact ⟨by rfl, by repeat (with_reducible exact HB.out)⟩
end Go.Proofs.YtfigblfjogpojaaDoor.PBits
end
