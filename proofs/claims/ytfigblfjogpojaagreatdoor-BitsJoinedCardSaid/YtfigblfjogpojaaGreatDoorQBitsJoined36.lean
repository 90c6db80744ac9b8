/- Part 37 of the proof of BitsJoinedCardSaid: The law BitsJoined: for all arguments it returns true; each argument reads behind the call as it read before. Out of the plain theorem of YtfigblfjogpojaaGreatDoorPureBitsJoined and the printed contract. -/
import Derived.Test.YtfigblfjogpojaaGreatDoorQBitsJoined13
import Derived.Test.YtfigblfjogpojaaGreatDoorQBitsJoined16
import Derived.Test.YtfigblfjogpojaaGreatDoorQBitsJoined33
import Derived.Test.YtfigblfjogpojaaGreatDoorQBitsJoined35
import Derived.Test.YtfigblfjogpojaaGreatDoorQBitsJoined15
import Derived.Test.YtfigblfjogpojaaGreatDoorQBitsJoined25
import Derived.Test.YtfigblfjogpojaaGreatDoorQBitsJoined23
section
namespace Go.Proofs.YtfigblfjogpojaaGreatDoor.PBits
open Go.RowKit Go.Proofs.YtfigblfjogpojaaGreatDoorW.PrintWords Go.Proofs.YtfigblfjogpojaaGreatDoorW.PrintLast Go.Proofs.YtfigblfjogpojaaGreatDoorW.PrintMore
attribute [local go_sem] max2_int min2_int max_two min_two max_three min_three max_four min_four
set_option linter.unusedVariables false
set_option linter.unusedSimpArgs false
def bits_Text.l0 : Nat → ByteArray → Int → Int → Int → Int → Option (ByteArray)
 | 0, _, _, _, _, _ => none
 | k + 1, x3, x4, x468000, x468001, x468002 => if x4 ≥ 0 then ((bits_Bit.f k x468000 x468001 x468002 x4).bind fun t473 => ((some (([t473] : List Int) : List Int)).bind fun y474 => (if x3.size + (strOfNums y474).size ≤ 9223372036854775807 then (bits_Text.l0 k (x3 ++ (strOfNums y474)) (wrap64 (x4 - 1)) x468000 x468001 x468002) else (none)))) else (some x3)
def bits_Text.f (k : Nat) (a0_0 : Int) (a0_1 : Int) (a0_2 : Int) : Option (ByteArray) := (bits_valid.f k (([(⟨a0_0, a0_1, a0_2⟩ : S24)] : List (S24)))).bind fun t471 => (if t471 = true then ((strconv_Itoa.f a0_0).bind fun t472 => (if t472.size + 2 ≤ 9223372036854775807 then (bits_Text.l0 k (t472 ++ (⟨#[39, 98]⟩ : ByteArray)) (wrap64 (a0_0 - 1)) a0_0 a0_1 a0_2) else (none))) else (some (⟨#[]⟩ : ByteArray)))
theorem bits_Text.mono_l : ∀ k, (∀ y0 y1 y2 y3 y4, LeO (bits_Text.l0 k y0 y1 y2 y3 y4) (bits_Text.l0 (k + 1) y0 y1 y2 y3 y4))
 | 0 => fun _ _ _ _ _ r h => by simp [bits_Text.l0] at h
 | k + 1 => by
  have ih0 := bits_Text.mono_l k
  ·intro y0 y1 y2 y3 y4
   unfold bits_Text.l0
   repeat' first | with_reducible exact ih0 _ _ _ _ _ | with_reducible exact bits_Bit.mono _ _ _ _ _ | with_reducible exact bits_valid.mono _ _ | with_reducible exact LeO.refl _ | with_reducible exact LeO.none _ | with_reducible refine LeO.ite ?_ ?_ | with_reducible refine LeO.bind ?_ (fun _ => ?_)
theorem bits_Text.mono : ∀ a0 a1 a2 k, LeO (bits_Text.f k a0 a1 a2) (bits_Text.f (k + 1) a0 a1 a2) := by
 intro a0 a1 a2 k
 have ih0 := bits_Text.mono_l k
 unfold bits_Text.f
 repeat' first | with_reducible exact ih0 _ _ _ _ _ | with_reducible exact bits_Bit.mono _ _ _ _ _ | with_reducible exact bits_valid.mono _ _ | with_reducible exact LeO.refl _ | with_reducible exact LeO.none _ | with_reducible refine LeO.ite ?_ ?_ | with_reducible refine LeO.bind ?_ (fun _ => ?_)
set_option maxHeartbeats 8000000 in
set_option maxRecDepth 100000 in
theorem bits_Text.calls (k : Nat) (a0_0 : Int) (a0_1 : Int) (a0_2 : Int) (r : ByteArray) (w : World) (h : bits_Text.f k a0_0 a0_1 a0_2 = some r) :
  Calls Tryz.prog 24 #[.agg #[.int .i64 a0_0, .int .u64 a0_1, .int .u64 a0_2]] w fun e w' => e = .returned (.string r) ∧ Below w.heap.size w w' := by
 have hu24 := Tryz.underlying24
 have HB := Aside0.mk (Below.refl w.heap.size w)
 have H := h
 clear h
 unfold bits_Text.f at H
 obtain ⟨y468, hy468⟩ : ∃ y_ : List (S24), y_ = ([(⟨a0_0, a0_1, a0_2⟩ : S24)] : List (S24)) := ⟨_, rfl⟩
 replace H : ((bits_valid.f k y468).bind fun t471 => (if t471 = true then ((strconv_Itoa.f a0_0).bind fun t472 => (if t472.size + 2 ≤ 9223372036854775807 then (bits_Text.l0 k (t472 ++ (⟨#[39, 98]⟩ : ByteArray)) (wrap64 (a0_0 - 1)) a0_0 a0_1 a0_2) else (none))) else (some (⟨#[]⟩ : ByteArray)))) = some r := by (rw [hy468]; with_reducible exact H)
 have Ny468 := Aside0.mk hy468
 clear hy468
 replace H := bN H; obtain ⟨t471, A2, H⟩ := H
 replace H := iB H; rcases H with ⟨rfl, H⟩ | ⟨rfl, H⟩
 ·replace H := bN H; obtain ⟨t472, A4, H⟩ := H
  by_cases c5 : t472.size + 2 ≤ 9223372036854775807
  ·rw [if_pos c5] at H
   have c5b0 := eq_true c5
   have c5b1 : decide (t472.size + 2 ≤ 9223372036854775807) = true := decide_eq_true c5
   try have c5b2 : (9223372036854775807 < t472.size + 2) = False := eq_false (Nat.not_lt.2 c5)
   have H' := Aside0.mk H
   clear H
   go_enter Tryz.func24, Tryz.ntmps24
   go_wp2_with (first | (refine boxA HB 1 #[.int .i64 a0_0, .int .u64 a0_1, .int .u64 a0_2] 24 ?_; clear HB; intro gb467 w6 BK467 GE467 hg hb HB; clear hb hg; obtain ⟨hcz7_0, hcz7_1, hcz7_2, hfz7_0, hfz7_1, hfz7_2⟩ := cf3 BK467) | ((with_reducible refine gate_dst (N := 6) rfl ?_); refine Kd.R_lit k24 _ 24 ?hg (N := 6) ?hd (xs := ([(⟨a0_0, a0_1, a0_2⟩ : S24)] : List (S24))) (inner := [.int .i64 a0_0, .int .u64 a0_1, .int .u64 a0_2]) (ok := fun _ => True) (okp := fun _ => True) ?hr ?hp (fun _ hk => hk) trivial (Below.refl _ _) (Nat.le_refl _) (by simp) ?_; (case hd => rfl); (case hg => rfl); (case hr => (go_simp; done)); (case hp => exact (Reps.c3 (show Kd.M k24 _ _ _ (⟨a0_0, a0_1, a0_2⟩ : S24) [.int .i64 a0_0, .int .u64 a0_1, .int .u64 a0_2] from (k24_mkM _ _ _ (⟨a0_0, a0_1, a0_2⟩ : S24) )) (Reps.none _ _))); intro v469 w8 ho9 hb hg_ hnew_; clear hg_ hnew_; (rw [← Ny468.out] at ho9); have HO470 := Aside0.mk (Kd.R_lower (Kd.R_newB ho9 BK467.out) (below_size HB.out)); replace BK467 := bk1 BK467 hb; replace HB := hb1 HB hb; clear hb ho9; obtain ⟨Ao10, co10, eo10⟩ := Kd.R_slice HO470.out; subst eo10) | (refine callA (some 7) Tryz.func15 #[.slice Ao10 y468.length co10] ?_; (with_reducible refine (bits_valid.calls k _ _ y468 true _ ?side1 ?side2 A2.out).mono ?_); (case side1 => exact (Kd.R_reads' HO470.out).2.2); (case side2 => exact (Kd.R_reads' HO470.out).2.1); rintro e w11 ⟨rfl, hb⟩; refine ⟨_, rfl, ?_⟩; replace HO470 := Kd.rb1 HO470 hb; replace BK467 := bk1 BK467 hb; replace HB := hb1 HB hb; (try clear hb); obtain ⟨hcz12_0, hcz12_1, hcz12_2, hfz12_0, hfz12_1, hfz12_2⟩ := cf3 BK467) | (refine callA (some 11) Tryz.func43 #[.int .i64 a0_0] ?_; (with_reducible refine (strconv_Itoa.calls a0_0 t472 _ A4.out).mono ?_); rintro e w' ⟨rfl, ⟨nd, rfl⟩⟩; refine ⟨_, rfl, ?_⟩))
   go_loopg [3, 4] k (fun kq v3 v4 w' => ∃ (x3_1 : ByteArray) (x4_1 : Int), v3 = .string x3_1 ∧ v4 = .int .i64 x4_1 ∧ Aside0 (bits_Text.l0 kq x3_1 x4_1 a0_0 a0_1 a0_2 = some r) ∧ Aside0 (kq ≤ k) ∧ Aside0 (w'.heap[gb467]? = some (.cells #[.int .i64 a0_0, .int .u64 a0_1, .int .u64 a0_2] 24 (0, 0))) ∧ Aside0 (Below w.heap.size w w'))
   case atStart => exact ⟨(t472 ++ (⟨#[39, 98]⟩ : ByteArray)), (wrap64 (a0_0 - 1)), (by rfl), (by rfl), H', ⟨Nat.le_refl _⟩, ⟨by (with_reducible repeat (refine blk_drewN ?_ _)); exact BK467.out⟩, ⟨by repeat (with_reducible first | exact HB.out | apply pw_below_drewN)⟩⟩
   case round =>
    clear H'
    (try clear c5); (try clear c5b0); (try clear c5b1); (try clear c5b2); (try clear hcz12_0 hcz12_1 hcz12_2); (try clear hcz7_0 hcz7_1 hcz7_2); (try clear hfz12_0 hfz12_1 hfz12_2); (try clear hfz7_0 hfz7_1 hfz7_2)
    obtain ⟨x3_1, x4_1, rfl, rfl, HA, HK1, BK467, HB⟩ := hrel
    cases gk with
    | zero => exact absurd HA.out (by simp [bits_Text.l0])
    | succ k1 =>
     have H := HA.out
     clear HA
     simp only [bits_Text.l0] at H
     replace H := iD H; rcases H with ⟨c13b0, H⟩ | ⟨c13b0, H⟩
     ·replace c13b0 : decide (0 ≤ x4_1) = true := c13b0
      replace H := bN H; obtain ⟨t473, A14, H⟩ := H
      obtain ⟨y474, hy474⟩ : ∃ y_ : List Int, y_ = ([t473] : List Int) := ⟨_, rfl⟩
      replace H : (if x3_1.size + (strOfNums y474).size ≤ 9223372036854775807 then (bits_Text.l0 k1 (x3_1 ++ (strOfNums y474)) (wrap64 (x4_1 - 1)) a0_0 a0_1 a0_2) else (none)) = some r := by (have H2_ := (Option.bind_some _ _).symm.trans H; rw [hy474]; with_reducible exact H2_)
      have Ny474 := Aside0.mk hy474
      clear hy474
      by_cases c15 : x3_1.size + (strOfNums y474).size ≤ 9223372036854775807
      ·rw [if_pos c15] at H
       have c15b0 := eq_true c15
       have c15b1 : decide (x3_1.size + (strOfNums y474).size ≤ 9223372036854775807) = true := decide_eq_true c15
       try have c15b2 : (9223372036854775807 < x3_1.size + (strOfNums y474).size) = False := eq_false (Nat.not_lt.2 c15)
       have H' := Aside0.mk H
       clear H
       obtain ⟨hcz16_0, hcz16_1, hcz16_2, hfz16_0, hfz16_1, hfz16_2⟩ := cf3 BK467
       go_wp2_with (first | (refine callA (some 23) Tryz.func44 #[.agg #[.int .i64 a0_0, .int .u64 a0_1, .int .u64 a0_2], .int .i64 x4_1] ?_; (with_reducible refine (bits_Bit.calls k1 a0_0 a0_1 a0_2 x4_1 t473 _ A14.out).mono ?_); rintro e w17 ⟨rfl, hb⟩; refine ⟨_, rfl, ?_⟩; replace BK467 := bk1 BK467 hb; replace HB := hb1 HB hb; (try clear hb)) | ((with_reducible refine gate_dst (N := 24) rfl ?_); refine Kd.R_lit (Kd.int .u8) _ 5 ?hg (N := 24) ?hd (xs := ([t473] : List Int)) (inner := [.int .u8 t473]) (ok := fun _ => True) (okp := fun _ => True) ?hr ?hp (fun _ hk => hk) trivial (Below.refl _ _) (Nat.le_refl _) (by simp) ?_; (case hd => rfl); (case hg => rfl); (case hr => (go_simp; done)); (case hp => exact (Reps.one (show Kd.M (Kd.int .u8) _ _ _ t473 [.int .u8 t473] from rfl) (Reps.none _ _))); intro v475 w18 ho19 hb hg_ hnew_; clear hg_ hnew_; (rw [← Ny474.out] at ho19); have HO476 := Aside0.mk (Kd.R_lower ho19 (below_size HB.out)); replace BK467 := bk1 BK467 hb; replace HB := hb1 HB hb; clear hb ho19; have hcv20 := own_string (P := Tryz.prog) Tryz.underlying30 Tryz.underlying5 Tryz.underlying9 (Kd.own_of_R HO476.out)))
       go_roundg k1
       case measure => have := HK1.out; omega
       case rel => exact ⟨(x3_1 ++ (strOfNums y474)), (wrap64 (x4_1 - 1)), (by rfl), (by rfl), H', ⟨by have := HK1.out; omega⟩, ⟨by exact BK467.out⟩, ⟨by repeat (with_reducible exact HB.out)⟩⟩
      ·rw [if_neg c15] at H
       exact absurd H (by simp)
     ·replace c13b0 : decide (0 ≤ x4_1) = false := c13b0
      obtain rfl := Option.some.inj H
      go_wp2
      go_ret
      exact ⟨by rfl, by repeat (with_reducible exact HB.out)⟩
  ·rw [if_neg c5] at H
   exact absurd H (by simp)
 ·obtain rfl := Option.some.inj H
  go_enter Tryz.func24, Tryz.ntmps24
  go_wp2_with (first | (refine boxA HB 1 #[.int .i64 a0_0, .int .u64 a0_1, .int .u64 a0_2] 24 ?_; clear HB; intro gb467 w21 BK467 GE467 hg hb HB; clear hb hg; obtain ⟨hcz22_0, hcz22_1, hcz22_2, hfz22_0, hfz22_1, hfz22_2⟩ := cf3 BK467) | ((with_reducible refine gate_dst (N := 6) rfl ?_); refine Kd.R_lit k24 _ 24 ?hg (N := 6) ?hd (xs := ([(⟨a0_0, a0_1, a0_2⟩ : S24)] : List (S24))) (inner := [.int .i64 a0_0, .int .u64 a0_1, .int .u64 a0_2]) (ok := fun _ => True) (okp := fun _ => True) ?hr ?hp (fun _ hk => hk) trivial (Below.refl _ _) (Nat.le_refl _) (by simp) ?_; (case hd => rfl); (case hg => rfl); (case hr => (go_simp; done)); (case hp => exact (Reps.c3 (show Kd.M k24 _ _ _ (⟨a0_0, a0_1, a0_2⟩ : S24) [.int .i64 a0_0, .int .u64 a0_1, .int .u64 a0_2] from (k24_mkM _ _ _ (⟨a0_0, a0_1, a0_2⟩ : S24) )) (Reps.none _ _))); intro v469 w23 ho24 hb hg_ hnew_; clear hg_ hnew_; (rw [← Ny468.out] at ho24); have HO470 := Aside0.mk (Kd.R_lower (Kd.R_newB ho24 BK467.out) (below_size HB.out)); replace BK467 := bk1 BK467 hb; replace HB := hb1 HB hb; clear hb ho24; obtain ⟨Ao25, co25, eo25⟩ := Kd.R_slice HO470.out; subst eo25) | (refine callA (some 7) Tryz.func15 #[.slice Ao25 y468.length co25] ?_; (with_reducible refine (bits_valid.calls k _ _ y468 false _ ?side1 ?side2 A2.out).mono ?_); (case side1 => exact (Kd.R_reads' HO470.out).2.2); (case side2 => exact (Kd.R_reads' HO470.out).2.1); rintro e w26 ⟨rfl, hb⟩; refine ⟨_, rfl, ?_⟩; replace HO470 := Kd.rb1 HO470 hb; replace BK467 := bk1 BK467 hb; replace HB := hb1 HB hb; (try clear hb)))
  go_ret
  exact ⟨by rfl, by repeat (with_reducible exact HB.out)⟩
end Go.Proofs.YtfigblfjogpojaaGreatDoor.PBits
end
section
namespace Go.Proofs.YtfigblfjogpojaaGreatDoor.PBits
open Go.RowKit Go.Proofs.YtfigblfjogpojaaGreatDoorW.PrintWords Go.Proofs.YtfigblfjogpojaaGreatDoorW.PrintLast Go.Proofs.YtfigblfjogpojaaGreatDoorW.PrintMore
attribute [local go_sem] max2_int min2_int max_two min_two max_three min_three max_four min_four
set_option linter.unusedVariables false
set_option linter.unusedSimpArgs false
def bits_Add_1.f (a0 : Int) (a1 : Int) : Option (Int) := some (IntKind.u64.wrap (a0 + a1))
set_option maxHeartbeats 8000000 in
set_option maxRecDepth 100000 in
theorem bits_Add_1.calls (a0 : Int) (a1 : Int) (r : Int) (w : World) (h : bits_Add_1.f a0 a1 = some r) :
  Calls Tryz.prog 46 #[.int .u64 a0, .int .u64 a1] w fun e w' => e = .returned (.int .u64 r) ∧ Drawn0 w w' := by
 have H := h
 clear h
 unfold bits_Add_1.f at H
 obtain rfl := Option.some.inj H
 go_enter Tryz.func46, Tryz.ntmps46
 go_wp2
 go_ret
 exact ⟨by rfl, by repeat (exact Drawn0.refl _)⟩
end Go.Proofs.YtfigblfjogpojaaGreatDoor.PBits
end
section
namespace Go.Proofs.YtfigblfjogpojaaGreatDoor.PBits
open Go.RowKit Go.Proofs.YtfigblfjogpojaaGreatDoorW.PrintWords Go.Proofs.YtfigblfjogpojaaGreatDoorW.PrintLast Go.Proofs.YtfigblfjogpojaaGreatDoorW.PrintMore
attribute [local go_sem] max2_int min2_int max_two min_two max_three min_three max_four min_four
set_option linter.unusedVariables false
set_option linter.unusedSimpArgs false
def bits_number__Add_1.f (k : Nat) (a0_0 : Int) (a0_1 : Int) (a0_2 : Int) (a1_0 : Int) (a1_1 : Int) (a1_2 : Int)  : Option (Int × Int × Int) := (bits_alike.f k a0_0 a0_1 a0_2 a1_0 a1_1 a1_2).bind fun t486 => (if t486 = true then (if (Go.bits .or .u64 a0_2 a1_2) = 0 then ((bits_Add_1.f a0_1 a1_1).bind fun t490 => ((bits_Of.f a0_0 t490).bind fun bt491 => (some (bt491.1, bt491.2.1, bt491.2.2)))) else ((bits_All.f k a0_0 120).bind fun bt487 => (some (bt487.1, bt487.2.1, bt487.2.2)))) else (some (0, 0, 0)))
theorem bits_number__Add_1.mono : ∀ a0 a1 a2 a3 a4 a5 k, LeO (bits_number__Add_1.f k a0 a1 a2 a3 a4 a5) (bits_number__Add_1.f (k + 1) a0 a1 a2 a3 a4 a5) := by
 intro a0 a1 a2 a3 a4 a5 k
 unfold bits_number__Add_1.f
 repeat' first | with_reducible exact bits_All.mono _ _ _ | with_reducible exact bits_alike.mono _ _ _ _ _ _ _ | with_reducible exact LeO.refl _ | with_reducible exact LeO.none _ | with_reducible refine LeO.ite ?_ ?_ | with_reducible refine LeO.bind ?_ (fun _ => ?_)
def bits_number__Add_1.T5 : Bool × List (List Nat × List Nat) := (true, [([], []), ([0], [0]), ([], []), ([], []), ([3], [3]), ([], []), ([5], [5]), ([2, 4, 6], [2, 4, 6]), ([1, 7, 7], [1, 7]), ([8, 8, 0, 1, 2, 3, 4, 5, 6, 7, 8], [8])])
def bits_number__Add_1.B5 : List Nat := [0, 1, 0, 0, 8, 0, 32, 124, 255, 511]
theorem bits_number__Add_1.tab5 : rtab .any (opsOf Tryz.f45 5) = bits_number__Add_1.T5 := by kernel_rfl
theorem bits_number__Add_1.bits5 : waitsOk bits_number__Add_1.T5.2 bits_number__Add_1.B5 = true := by kernel_rfl
set_option maxHeartbeats 8000000 in
set_option maxRecDepth 100000 in
theorem bits_number__Add_1.calls (k : Nat) (a0_0 : Int) (a0_1 : Int) (a0_2 : Int) (a1_0 : Int) (a1_1 : Int) (a1_2 : Int)  (r1 : Int) (r2 : Int) (r3 : Int) (w : World) (h : bits_number__Add_1.f k a0_0 a0_1 a0_2 a1_0 a1_1 a1_2 = some (r1, r2, r3)) :
  Calls Tryz.prog 45 #[.agg #[.int .i64 a0_0, .int .u64 a0_1, .int .u64 a0_2], .agg #[.int .i64 a1_0, .int .u64 a1_1, .int .u64 a1_2], .func (.func 46) #[] #[]] w fun e w' => e = .returned (.agg #[.int .i64 r1, .int .u64 r2, .int .u64 r3]) ∧ Below w.heap.size w w' := by
 have hu24 := Tryz.underlying24
 have HB := Aside0.mk (Below.refl w.heap.size w)
 have H := h
 clear h
 unfold bits_number__Add_1.f at H
 replace H := bN H; obtain ⟨t486, A4, H⟩ := H
 replace H := iB H; rcases H with ⟨rfl, H⟩ | ⟨rfl, H⟩
 ·replace H := iE H; rcases H with ⟨c6b0, c6b1, H⟩ | ⟨c6, c6b0, c6b1, H⟩
  ·replace H := bN H; obtain ⟨t490, A7, H⟩ := H
   replace H := bN H; obtain ⟨⟨t491, t492, t493⟩, A8, H⟩ := H; dsimp only at H
   replace H := s3 H; obtain ⟨rfl, rfl, rfl⟩ := H
   go_enter Tryz.func45, Tryz.ntmps45
   try go_wp2_with (first | (refine boxA HB 3 #[.int .i64 a0_0, .int .u64 a0_1, .int .u64 a0_2] 24 ?_; clear HB; intro gb483 w9 BK483 GE483 hg hb HB; clear hb hg) | (refine boxA HB 4 #[.int .i64 a1_0, .int .u64 a1_1, .int .u64 a1_2] 24 ?_; clear HB; intro gb484 w10 BK484 GE484 hg hb HB; have NB483_484 := nbA BK483 hg; have NB484_483 := nbB BK483 hg; replace BK483 := bk1 BK483 hb; clear hb hg) | (refine boxA HB 6 #[.int .i64 0, .int .u64 0, .int .u64 0] 24 ?_; clear HB; intro gb485 w11 BK485 GE485 hg hb HB; have NB483_485 := nbA BK483 hg; have NB485_483 := nbB BK483 hg; replace BK483 := bk1 BK483 hb; have NB484_485 := nbA BK484 hg; have NB485_484 := nbB BK484 hg; replace BK484 := bk1 BK484 hb; clear hb hg; have hnb12 := NB483_484.out; have hnc12 := NB484_483.out; have hnb13 := NB483_485.out; have hnc13 := NB485_483.out; obtain ⟨hcz14_0, hcz14_1, hcz14_2, hfz14_0, hfz14_1, hfz14_2⟩ := cf3 BK483; have hnb15 := NB484_485.out; have hnc15 := NB485_484.out; obtain ⟨hcz16_0, hcz16_1, hcz16_2, hfz16_0, hfz16_1, hfz16_2⟩ := cf3 BK484) | (refine callA (some 10) Tryz.func82 #[.agg #[.int .i64 a0_0, .int .u64 a0_1, .int .u64 a0_2], .agg #[.int .i64 a1_0, .int .u64 a1_1, .int .u64 a1_2]] ?_; (with_reducible refine (bits_alike.calls k a0_0 a0_1 a0_2 a1_0 a1_1 a1_2 true _ A4.out).mono ?_); rintro e w17 ⟨rfl, hb⟩; refine ⟨_, rfl, ?_⟩; replace BK483 := bk1 BK483 hb; replace BK484 := bk1 BK484 hb; replace BK485 := bk1 BK485 hb; replace HB := hb1 HB hb; (try clear hb); obtain ⟨hcz18_0, hcz18_1, hcz18_2, hfz18_0, hfz18_1, hfz18_2⟩ := cf3 BK483; obtain ⟨hcz19_0, hcz19_1, hcz19_2, hfz19_0, hfz19_1, hfz19_2⟩ := cf3 BK484))
   replace BK483 := bkd BK483
   replace BK484 := bkd BK484
   replace BK485 := bkd BK485
   replace HB := hbd HB
   refine start_ (n := 10) (S := fun w' => w'.cell? ⟨gb483, 0, none⟩ = some (.int .i64 a0_0) ∧ w'.cell? ⟨gb483, 1, none⟩ = some (.int .u64 a0_1) ∧ w'.cell? ⟨gb483, 2, none⟩ = some (.int .u64 a0_2) ∧ w'.cell? ⟨gb484, 0, none⟩ = some (.int .i64 a1_0) ∧ w'.cell? ⟨gb484, 1, none⟩ = some (.int .u64 a1_1) ∧ w'.cell? ⟨gb484, 2, none⟩ = some (.int .u64 a1_2)) (ds := []) (tb 10 0) (by kernel_rfl) rfl (by kernel_rfl) (c3 BK483 (d3 BK484)) (fun hHeld => ?_); refine with_tabW bits_number__Add_1.tab5 bits_number__Add_1.bits5 (fun HT_ HW_ => ?_)
   generalize w17.drew = w20 at BK483 BK484 BK485 HB hHeld ⊢
   refine pA 0 23 (tb 10 1) HT_ ?_
   refine pA 2 25 (tb 10 5) HT_ ?_
   refine pA 3 26 (tb 10 13) HT_ ?_
   refine pA 5 28 (tb 10 45) HT_ ?_
   refine tA 1 24 (tb 10 47) HT_ HW_ hHeld ?_
   refine tA 4 27 (tb 10 63) HT_ HW_ hHeld ?_
   refine tA 6 29 (tb 10 127) HT_ HW_ hHeld ?_
   refine oA 7 (some 30) (tb 10 255) HT_ (fun K hK => ?_)
   refine sq_goesT Tryz.func46 (by kernel_rfl) rfl #[.int .u64 a0_1, .int .u64 a1_1] (by rfl) rfl rfl rfl (by (try simp only [List.map_toArray, List.map_cons, List.map_nil]); rfl) ?_
   with_reducible refine (bits_Add_1.calls a0_1 a1_1 t490 _ A7.out).mono ?_
   rintro e w' ⟨rfl, ⟨nd, rfl⟩⟩
   refine ⟨_, rfl, ?_⟩
   refine hK.out _ _ (c3 BK483 (d3 BK484)) (fun hHeld => ?_)
   clear hK K
   refine nA ?_
   refine oA 8 (some 31) (tb 10 511) HT_ (fun K hK => ?_)
   refine gA Tryz.func78 #[.int .i64 a0_0, .int .u64 t490] ?_
   with_reducible refine (bits_Of.calls a0_0 t490 t491 t492 t493 _ A8.out).mono ?_
   rintro e w21 ⟨rfl, hb⟩
   refine ⟨_, rfl, ?_⟩
   replace BK483 := bk1 BK483 hb
   replace BK484 := bk1 BK484 hb
   replace BK485 := bk1 BK485 hb
   replace HB := hb1 HB hb
   (try clear hb)
   refine hK.out _ _ (c3 BK483 (d3 BK484)) (fun hHeld => ?_)
   clear hK K
   refine nA ?_
   refine oA 9 (none) (tb 10 1023) HT_ (fun K hK => ?_)
   have hs22 : w21.cell? ⟨gb485, 0, none⟩ = some (.int .i64 0) := (blk_cell BK485.out 0).trans rfl
   have hfs22 := blk_frozen BK485.out 0
   have hns22_0 := NB483_485.out
   have hns22_1 := NB484_485.out
   have hms22_0 := NB485_483.out
   have hms22_1 := NB485_484.out
   have hs23 : w21.cell? ⟨gb485, 1, none⟩ = some (.int .u64 0) := (blk_cell BK485.out 1).trans rfl
   have hfs23 := blk_frozen BK485.out 1
   have hns23_0 := NB483_485.out
   have hns23_1 := NB484_485.out
   have hms23_0 := NB485_483.out
   have hms23_1 := NB485_484.out
   have hs24 : w21.cell? ⟨gb485, 2, none⟩ = some (.int .u64 0) := (blk_cell BK485.out 2).trans rfl
   have hfs24 := blk_frozen BK485.out 2
   have hns24_0 := NB483_485.out
   have hns24_1 := NB484_485.out
   have hms24_0 := NB485_483.out
   have hms24_1 := NB485_484.out
   refine skip_ (w1 := ?_) (by rfl) rfl ?_ ?_
   rotate_left
   ·go_simp
    rfl
   refine hK.out _ _ ⟨((cell_far (p := ⟨gb485, _, none⟩) NB483_485.out _).trans (((cell_far (p := ⟨gb485, _, none⟩) NB483_485.out _).trans (((cell_far (p := ⟨gb485, _, none⟩) NB483_485.out _).trans (hHeld.1)))))), ((cell_far (p := ⟨gb485, _, none⟩) NB483_485.out _).trans (((cell_far (p := ⟨gb485, _, none⟩) NB483_485.out _).trans (((cell_far (p := ⟨gb485, _, none⟩) NB483_485.out _).trans (hHeld.2.1)))))), ((cell_far (p := ⟨gb485, _, none⟩) NB483_485.out _).trans (((cell_far (p := ⟨gb485, _, none⟩) NB483_485.out _).trans (((cell_far (p := ⟨gb485, _, none⟩) NB483_485.out _).trans (hHeld.2.2.1)))))), ((cell_far (p := ⟨gb485, _, none⟩) NB484_485.out _).trans (((cell_far (p := ⟨gb485, _, none⟩) NB484_485.out _).trans (((cell_far (p := ⟨gb485, _, none⟩) NB484_485.out _).trans (hHeld.2.2.2.1)))))), ((cell_far (p := ⟨gb485, _, none⟩) NB484_485.out _).trans (((cell_far (p := ⟨gb485, _, none⟩) NB484_485.out _).trans (((cell_far (p := ⟨gb485, _, none⟩) NB484_485.out _).trans (hHeld.2.2.2.2.1)))))), ((cell_far (p := ⟨gb485, _, none⟩) NB484_485.out _).trans (((cell_far (p := ⟨gb485, _, none⟩) NB484_485.out _).trans (((cell_far (p := ⟨gb485, _, none⟩) NB484_485.out _).trans (hHeld.2.2.2.2.2))))))⟩ (fun hHeld => ?_)
   clear hK K
   refine done_ (done_of HT_.out (by kernel_rfl)) ?_
   try go_wp2
   refine retA gb485 24 #[.int .i64 t491, .int .u64 t492, .int .u64 t493] (put3 BK485) Tryz.underlying24 ?_
   exact ⟨by rfl, by repeat (with_reducible first | exact HB.out | refine below_set ?_ GE485.out)⟩
  ·replace H := bN H; obtain ⟨⟨t487, t488, t489⟩, A25, H⟩ := H; dsimp only at H
   replace H := s3 H; obtain ⟨rfl, rfl, rfl⟩ := H
   go_enter Tryz.func45, Tryz.ntmps45
   go_wp2_with (first | (refine boxA HB 3 #[.int .i64 a0_0, .int .u64 a0_1, .int .u64 a0_2] 24 ?_; clear HB; intro gb483 w26 BK483 GE483 hg hb HB; clear hb hg) | (refine boxA HB 4 #[.int .i64 a1_0, .int .u64 a1_1, .int .u64 a1_2] 24 ?_; clear HB; intro gb484 w27 BK484 GE484 hg hb HB; have NB483_484 := nbA BK483 hg; have NB484_483 := nbB BK483 hg; replace BK483 := bk1 BK483 hb; clear hb hg) | (refine boxA HB 6 #[.int .i64 0, .int .u64 0, .int .u64 0] 24 ?_; clear HB; intro gb485 w28 BK485 GE485 hg hb HB; have NB483_485 := nbA BK483 hg; have NB485_483 := nbB BK483 hg; replace BK483 := bk1 BK483 hb; have NB484_485 := nbA BK484 hg; have NB485_484 := nbB BK484 hg; replace BK484 := bk1 BK484 hb; clear hb hg; have hnb29 := NB483_484.out; have hnc29 := NB484_483.out; have hnb30 := NB483_485.out; have hnc30 := NB485_483.out; obtain ⟨hcz31_0, hcz31_1, hcz31_2, hfz31_0, hfz31_1, hfz31_2⟩ := cf3 BK483; have hnb32 := NB484_485.out; have hnc32 := NB485_484.out; obtain ⟨hcz33_0, hcz33_1, hcz33_2, hfz33_0, hfz33_1, hfz33_2⟩ := cf3 BK484) | (refine callA (some 10) Tryz.func82 #[.agg #[.int .i64 a0_0, .int .u64 a0_1, .int .u64 a0_2], .agg #[.int .i64 a1_0, .int .u64 a1_1, .int .u64 a1_2]] ?_; (with_reducible refine (bits_alike.calls k a0_0 a0_1 a0_2 a1_0 a1_1 a1_2 true _ A4.out).mono ?_); rintro e w34 ⟨rfl, hb⟩; refine ⟨_, rfl, ?_⟩; replace BK483 := bk1 BK483 hb; replace BK484 := bk1 BK484 hb; replace BK485 := bk1 BK485 hb; replace HB := hb1 HB hb; (try clear hb); obtain ⟨hcz35_0, hcz35_1, hcz35_2, hfz35_0, hfz35_1, hfz35_2⟩ := cf3 BK483; obtain ⟨hcz36_0, hcz36_1, hcz36_2, hfz36_0, hfz36_1, hfz36_2⟩ := cf3 BK484) | (refine callA (some 22) Tryz.func77 #[.int .i64 a0_0, .int .u8 120] ?_; (with_reducible refine (bits_All.calls k a0_0 120 t487 t488 t489 _ A25.out).mono ?_); rintro e w37 ⟨rfl, hb⟩; refine ⟨_, rfl, ?_⟩; replace BK483 := bk1 BK483 hb; replace BK484 := bk1 BK484 hb; replace BK485 := bk1 BK485 hb; replace HB := hb1 HB hb; (try clear hb); obtain ⟨hcz38_0, hcz38_1, hcz38_2, hfz38_0, hfz38_1, hfz38_2⟩ := cf3 BK485))
   refine retA gb485 24 #[.int .i64 t487, .int .u64 t488, .int .u64 t489] (put3 BK485) Tryz.underlying24 ?_
   exact ⟨by rfl, by repeat (with_reducible first | exact HB.out | refine below_set ?_ GE485.out)⟩
 ·replace H := s3 H; obtain ⟨rfl, rfl, rfl⟩ := H
  go_enter Tryz.func45, Tryz.ntmps45
  go_wp2_with (first | (refine boxA HB 3 #[.int .i64 a0_0, .int .u64 a0_1, .int .u64 a0_2] 24 ?_; clear HB; intro gb483 w39 BK483 GE483 hg hb HB; clear hb hg) | (refine boxA HB 4 #[.int .i64 a1_0, .int .u64 a1_1, .int .u64 a1_2] 24 ?_; clear HB; intro gb484 w40 BK484 GE484 hg hb HB; have NB483_484 := nbA BK483 hg; have NB484_483 := nbB BK483 hg; replace BK483 := bk1 BK483 hb; clear hb hg) | (refine boxA HB 6 #[.int .i64 0, .int .u64 0, .int .u64 0] 24 ?_; clear HB; intro gb485 w41 BK485 GE485 hg hb HB; have NB483_485 := nbA BK483 hg; have NB485_483 := nbB BK483 hg; replace BK483 := bk1 BK483 hb; have NB484_485 := nbA BK484 hg; have NB485_484 := nbB BK484 hg; replace BK484 := bk1 BK484 hb; clear hb hg; have hnb42 := NB483_484.out; have hnc42 := NB484_483.out; have hnb43 := NB483_485.out; have hnc43 := NB485_483.out; obtain ⟨hcz44_0, hcz44_1, hcz44_2, hfz44_0, hfz44_1, hfz44_2⟩ := cf3 BK483; have hnb45 := NB484_485.out; have hnc45 := NB485_484.out; obtain ⟨hcz46_0, hcz46_1, hcz46_2, hfz46_0, hfz46_1, hfz46_2⟩ := cf3 BK484) | (refine callA (some 10) Tryz.func82 #[.agg #[.int .i64 a0_0, .int .u64 a0_1, .int .u64 a0_2], .agg #[.int .i64 a1_0, .int .u64 a1_1, .int .u64 a1_2]] ?_; (with_reducible refine (bits_alike.calls k a0_0 a0_1 a0_2 a1_0 a1_1 a1_2 false _ A4.out).mono ?_); rintro e w47 ⟨rfl, hb⟩; refine ⟨_, rfl, ?_⟩; replace BK483 := bk1 BK483 hb; replace BK484 := bk1 BK484 hb; replace BK485 := bk1 BK485 hb; replace HB := hb1 HB hb; (try clear hb); obtain ⟨hcz48_0, hcz48_1, hcz48_2, hfz48_0, hfz48_1, hfz48_2⟩ := cf3 BK485))
  refine retA gb485 24 #[.int .i64 0, .int .u64 0, .int .u64 0] (put3 BK485) Tryz.underlying24 ?_
  exact ⟨by rfl, by repeat (with_reducible first | exact HB.out | refine below_set ?_ GE485.out)⟩
end Go.Proofs.YtfigblfjogpojaaGreatDoor.PBits
end
section
namespace Go.Proofs.YtfigblfjogpojaaGreatDoor.PBits
open Go.RowKit Go.Proofs.YtfigblfjogpojaaGreatDoorW.PrintWords Go.Proofs.YtfigblfjogpojaaGreatDoorW.PrintLast Go.Proofs.YtfigblfjogpojaaGreatDoorW.PrintMore
attribute [local go_sem] max2_int min2_int max_two min_two max_three min_three max_four min_four
set_option linter.unusedVariables false
set_option linter.unusedSimpArgs false
def bits_Add.f (k : Nat) (a0_0 : Int) (a0_1 : Int) (a0_2 : Int) (a1_0 : Int) (a1_1 : Int) (a1_2 : Int) : Option (Int × Int × Int) := (bits_number__Add_1.f k a0_0 a0_1 a0_2 a1_0 a1_1 a1_2).bind fun bt497 => (some (bt497.1, bt497.2.1, bt497.2.2))
theorem bits_Add.mono : ∀ a0 a1 a2 a3 a4 a5 k, LeO (bits_Add.f k a0 a1 a2 a3 a4 a5) (bits_Add.f (k + 1) a0 a1 a2 a3 a4 a5) := by
 intro a0 a1 a2 a3 a4 a5 k
 unfold bits_Add.f
 repeat' first | with_reducible exact bits_number__Add_1.mono _ _ _ _ _ _ _ | with_reducible exact LeO.refl _ | with_reducible exact LeO.none _ | with_reducible refine LeO.ite ?_ ?_ | with_reducible refine LeO.bind ?_ (fun _ => ?_)
set_option maxHeartbeats 8000000 in
set_option maxRecDepth 100000 in
theorem bits_Add.calls (k : Nat) (a0_0 : Int) (a0_1 : Int) (a0_2 : Int) (a1_0 : Int) (a1_1 : Int) (a1_2 : Int) (r1 : Int) (r2 : Int) (r3 : Int) (w : World) (h : bits_Add.f k a0_0 a0_1 a0_2 a1_0 a1_1 a1_2 = some (r1, r2, r3)) :
  Calls Tryz.prog 25 #[.agg #[.int .i64 a0_0, .int .u64 a0_1, .int .u64 a0_2], .agg #[.int .i64 a1_0, .int .u64 a1_1, .int .u64 a1_2]] w fun e w' => e = .returned (.agg #[.int .i64 r1, .int .u64 r2, .int .u64 r3]) ∧ Below w.heap.size w w' := by
 have hu24 := Tryz.underlying24
 have HB := Aside0.mk (Below.refl w.heap.size w)
 have H := h
 clear h
 unfold bits_Add.f at H
 replace H := bN H; obtain ⟨⟨t497, t498, t499⟩, A3, H⟩ := H; dsimp only at H
 replace H := s3 H; obtain ⟨rfl, rfl, rfl⟩ := H
 go_enter Tryz.func25, Tryz.ntmps25
 go_wp2_with (first | (refine boxA HB 2 #[.int .i64 a0_0, .int .u64 a0_1, .int .u64 a0_2] 24 ?_; clear HB; intro gb494 w4 BK494 GE494 hg hb HB; clear hb hg) | (refine boxA HB 3 #[.int .i64 a1_0, .int .u64 a1_1, .int .u64 a1_2] 24 ?_; clear HB; intro gb495 w5 BK495 GE495 hg hb HB; have NB494_495 := nbA BK494 hg; have NB495_494 := nbB BK494 hg; replace BK494 := bk1 BK494 hb; clear hb hg) | (refine boxA HB 4 #[.int .i64 0, .int .u64 0, .int .u64 0] 24 ?_; clear HB; intro gb496 w6 BK496 GE496 hg hb HB; have NB494_496 := nbA BK494 hg; have NB496_494 := nbB BK494 hg; replace BK494 := bk1 BK494 hb; have NB495_496 := nbA BK495 hg; have NB496_495 := nbB BK495 hg; replace BK495 := bk1 BK495 hb; clear hb hg; have hnb7 := NB494_495.out; have hnc7 := NB495_494.out; have hnb8 := NB494_496.out; have hnc8 := NB496_494.out; obtain ⟨hcz9_0, hcz9_1, hcz9_2, hfz9_0, hfz9_1, hfz9_2⟩ := cf3 BK494; have hnb10 := NB495_496.out; have hnc10 := NB496_495.out; obtain ⟨hcz11_0, hcz11_1, hcz11_2, hfz11_0, hfz11_1, hfz11_2⟩ := cf3 BK495) | (refine callA (some 7) Tryz.func45 #[.agg #[.int .i64 a0_0, .int .u64 a0_1, .int .u64 a0_2], .agg #[.int .i64 a1_0, .int .u64 a1_1, .int .u64 a1_2], (.func (.func 46) #[] #[])] ?_; (with_reducible refine (bits_number__Add_1.calls k a0_0 a0_1 a0_2 a1_0 a1_1 a1_2  t497 t498 t499 _ A3.out).mono ?_); rintro e w12 ⟨rfl, hb⟩; refine ⟨_, rfl, ?_⟩; replace BK494 := bk1 BK494 hb; replace BK495 := bk1 BK495 hb; replace BK496 := bk1 BK496 hb; replace HB := hb1 HB hb; (try clear hb); obtain ⟨hcz13_0, hcz13_1, hcz13_2, hfz13_0, hfz13_1, hfz13_2⟩ := cf3 BK496))
 refine retA gb496 24 #[.int .i64 t497, .int .u64 t498, .int .u64 t499] (put3 BK496) Tryz.underlying24 ?_
 exact ⟨by rfl, by repeat (with_reducible first | exact HB.out | refine below_set ?_ GE496.out)⟩
end Go.Proofs.YtfigblfjogpojaaGreatDoor.PBits
end
section
namespace Go.Proofs.YtfigblfjogpojaaGreatDoor.PBits
open Go.RowKit Go.Proofs.YtfigblfjogpojaaGreatDoorW.PrintWords Go.Proofs.YtfigblfjogpojaaGreatDoorW.PrintLast Go.Proofs.YtfigblfjogpojaaGreatDoorW.PrintMore
attribute [local go_sem] max2_int min2_int max_two min_two max_three min_three max_four min_four
set_option linter.unusedVariables false
set_option linter.unusedSimpArgs false
attribute [local go_sem high] eqA24
def masklaw1_vectors.f (k : Nat)  : Option (Bool) := (bits_Read.f k (⟨#[54, 39, 104, 122, 102]⟩ : ByteArray)).bind fun bt500 => ((bits_Read.f k (⟨#[56, 39, 115, 100, 50, 48, 48]⟩ : ByteArray)).bind fun bt505 => ((bits_Int.f k bt505.1 bt505.2.1 bt505.2.2.1).bind fun bt510 => (if bt500.2.2.2 = 0 then (if bt505.2.2.2 = 0 then ((bits_Text.f k bt500.1 bt500.2.1 bt500.2.2.1).bind fun t512 => (if t512.toList = ([54, 39, 98, 122, 122, 49, 49, 49, 49] : List UInt8) then (if bt510.1 = (-56) then ((bits_Add.f k bt505.1 bt505.2.1 bt505.2.2.1 bt505.1 bt505.2.1 bt505.2.2.1).bind fun bt513 => (some (bt513.1 == 8 && (bt513.2.1 == 144 && (bt513.2.2 == 0))))) else (some false)) else (some false))) else (some false)) else (some false))))
theorem masklaw1_vectors.mono : ∀ k, LeO (masklaw1_vectors.f k ) (masklaw1_vectors.f (k + 1) ) := by
 intro  k
 unfold masklaw1_vectors.f
 repeat' first | with_reducible exact bits_Add.mono _ _ _ _ _ _ _ | with_reducible exact bits_Int.mono _ _ _ _ | with_reducible exact bits_Read.mono _ _ | with_reducible exact bits_Text.mono _ _ _ _ | with_reducible exact LeO.refl _ | with_reducible exact LeO.none _ | with_reducible refine LeO.ite ?_ ?_ | with_reducible refine LeO.bind ?_ (fun _ => ?_)
set_option maxHeartbeats 8000000 in
set_option maxRecDepth 100000 in
theorem masklaw1_vectors.calls (k : Nat)  (r : Bool) (w : World) (h : masklaw1_vectors.f k  = some r) :
  Calls Tryz.prog 13 #[] w fun e w' => e = .returned (.bool r) ∧ Below w.heap.size w w' := by
 have hu24 := Tryz.underlying24
 have HB := Aside0.mk (Below.refl w.heap.size w)
 have H := h
 clear h
 unfold masklaw1_vectors.f at H
 replace H := bN H; obtain ⟨⟨t500, t501, t502, t503⟩, A1, H⟩ := H; dsimp only at H
 replace H := bN H; obtain ⟨⟨t505, t506, t507, t508⟩, A2, H⟩ := H; dsimp only at H
 replace H := bN H; obtain ⟨⟨t510, t511⟩, A3, H⟩ := H; dsimp only at H
 replace H := iE H; rcases H with ⟨c4b0, c4b1, H⟩ | ⟨c4, c4b0, c4b1, H⟩
 ·replace H := iE H; rcases H with ⟨c5b0, c5b1, H⟩ | ⟨c5, c5b0, c5b1, H⟩
  ·replace H := bN H; obtain ⟨t512, A6, H⟩ := H
   replace H := iE H; rcases H with ⟨c7b0, c7b1, H⟩ | ⟨c7, c7b0, c7b1, H⟩
   ·replace H := iE H; rcases H with ⟨c8b0, c8b1, H⟩ | ⟨c8, c8b0, c8b1, H⟩
    ·replace H := bN H; obtain ⟨⟨t513, t514, t515⟩, A9, H⟩ := H; dsimp only at H
     obtain rfl := Option.some.inj H
     go_enter Tryz.func13, Tryz.ntmps13
     go_wp2_with (first | (refine callA (some 8) Tryz.func22 #[.string (⟨#[54, 39, 104, 122, 102]⟩ : ByteArray)] ?_; (with_reducible refine (bits_Read.calls k (⟨#[54, 39, 104, 122, 102]⟩ : ByteArray) t500 t501 t502 t503 _ A1.out).mono ?_); rintro e w10 ⟨rfl, hb⟩; refine ⟨_, rfl, ?_⟩; replace HB := hb1 HB hb; (try clear hb)) | (refine boxA HB 1 #[.int .i64 0, .int .u64 0, .int .u64 0] 24 ?_; clear HB; intro gb504 w11 BK504 GE504 hg hb HB; clear hb hg; obtain ⟨hcz12_0, hcz12_1, hcz12_2, hfz12_0, hfz12_1, hfz12_2⟩ := cf3 BK504) | (refine callA (some 12) Tryz.func22 #[.string (⟨#[56, 39, 115, 100, 50, 48, 48]⟩ : ByteArray)] ?_; (with_reducible refine (bits_Read.calls k (⟨#[56, 39, 115, 100, 50, 48, 48]⟩ : ByteArray) t505 t506 t507 t508 _ A2.out).mono ?_); rintro e w13 ⟨rfl, hb⟩; refine ⟨_, rfl, ?_⟩; replace BK504 := Aside0.mk (blk_below (g := gb504) (o := .cells #[.int .i64 t500, .int .u64 t501, .int .u64 t502] 24 (0, 0)) (by refine blk_put (cs := #[.int .i64 t500, .int .u64 t501, .int .u64 0]) ?_ 2 _ rfl; refine blk_put (cs := #[.int .i64 t500, .int .u64 0, .int .u64 0]) ?_ 1 _ rfl; refine blk_put (cs := #[.int .i64 0, .int .u64 0, .int .u64 0]) ?_ 0 _ rfl; exact BK504.out) hb); replace HB := hb1 HB hb; (try clear hb)) | (refine boxA HB 3 #[.int .i64 0, .int .u64 0, .int .u64 0] 24 ?_; clear HB; intro gb509 w14 BK509 GE509 hg hb HB; have NB504_509 := nbA BK504 hg; have NB509_504 := nbB BK504 hg; replace BK504 := bk1 BK504 hb; clear hb hg; have hnb15 := NB509_504.out; have hnc15 := NB504_509.out; obtain ⟨hcz16_0, hcz16_1, hcz16_2, hfz16_0, hfz16_1, hfz16_2⟩ := cf3 BK509) | (refine callA (some 17) Tryz.func23 #[.agg #[.int .i64 t505, .int .u64 t506, .int .u64 t507]] ?_; (with_reducible refine (bits_Int.calls k t505 t506 t507 t510 t511 _ A3.out).mono ?_); rintro e w17 ⟨rfl, hb⟩; refine ⟨_, rfl, ?_⟩; replace BK504 := Aside0.mk (blk_below (g := gb504) (o := .cells #[.int .i64 t500, .int .u64 t501, .int .u64 t502] 24 (0, 0)) (by refine blk_far ?_ NB504_509.out _; refine blk_far ?_ NB504_509.out _; refine blk_far ?_ NB504_509.out _; exact BK504.out) hb); replace BK509 := Aside0.mk (blk_below (g := gb509) (o := .cells #[.int .i64 t505, .int .u64 t506, .int .u64 t507] 24 (0, 0)) (by refine blk_put (cs := #[.int .i64 t505, .int .u64 t506, .int .u64 0]) ?_ 2 _ rfl; refine blk_put (cs := #[.int .i64 t505, .int .u64 0, .int .u64 0]) ?_ 1 _ rfl; refine blk_put (cs := #[.int .i64 0, .int .u64 0, .int .u64 0]) ?_ 0 _ rfl; exact BK509.out) hb); replace HB := hb1 HB hb; (try clear hb); obtain ⟨hcz18_0, hcz18_1, hcz18_2, hfz18_0, hfz18_1, hfz18_2⟩ := cf3 BK504) | (go_at_call 24; (with_reducible refine (bits_Text.calls k t500 t501 t502 t512 _ A6.out).mono ?_); rintro e w19 ⟨rfl, hb⟩; replace BK504 := bk1 BK504 hb; replace BK509 := bk1 BK509 hb; replace HB := hb1 HB hb; (try clear hb); obtain ⟨hcz20_0, hcz20_1, hcz20_2, hfz20_0, hfz20_1, hfz20_2⟩ := cf3 BK509) | (go_at_call 25; (with_reducible refine (bits_Add.calls k t505 t506 t507 t505 t506 t507 t513 t514 t515 _ A9.out).mono ?_); rintro e w21 ⟨rfl, hb⟩; replace BK504 := bk1 BK504 hb; replace BK509 := bk1 BK509 hb; replace HB := hb1 HB hb; (try clear hb)))
     go_ret
     exact ⟨by rfl, by repeat (with_reducible exact HB.out)⟩
    ·obtain rfl := Option.some.inj H
     go_enter Tryz.func13, Tryz.ntmps13
     go_wp2_with (first | (refine callA (some 8) Tryz.func22 #[.string (⟨#[54, 39, 104, 122, 102]⟩ : ByteArray)] ?_; (with_reducible refine (bits_Read.calls k (⟨#[54, 39, 104, 122, 102]⟩ : ByteArray) t500 t501 t502 t503 _ A1.out).mono ?_); rintro e w22 ⟨rfl, hb⟩; refine ⟨_, rfl, ?_⟩; replace HB := hb1 HB hb; (try clear hb)) | (refine boxA HB 1 #[.int .i64 0, .int .u64 0, .int .u64 0] 24 ?_; clear HB; intro gb504 w23 BK504 GE504 hg hb HB; clear hb hg; obtain ⟨hcz24_0, hcz24_1, hcz24_2, hfz24_0, hfz24_1, hfz24_2⟩ := cf3 BK504) | (refine callA (some 12) Tryz.func22 #[.string (⟨#[56, 39, 115, 100, 50, 48, 48]⟩ : ByteArray)] ?_; (with_reducible refine (bits_Read.calls k (⟨#[56, 39, 115, 100, 50, 48, 48]⟩ : ByteArray) t505 t506 t507 t508 _ A2.out).mono ?_); rintro e w25 ⟨rfl, hb⟩; refine ⟨_, rfl, ?_⟩; replace BK504 := Aside0.mk (blk_below (g := gb504) (o := .cells #[.int .i64 t500, .int .u64 t501, .int .u64 t502] 24 (0, 0)) (by refine blk_put (cs := #[.int .i64 t500, .int .u64 t501, .int .u64 0]) ?_ 2 _ rfl; refine blk_put (cs := #[.int .i64 t500, .int .u64 0, .int .u64 0]) ?_ 1 _ rfl; refine blk_put (cs := #[.int .i64 0, .int .u64 0, .int .u64 0]) ?_ 0 _ rfl; exact BK504.out) hb); replace HB := hb1 HB hb; (try clear hb)) | (refine boxA HB 3 #[.int .i64 0, .int .u64 0, .int .u64 0] 24 ?_; clear HB; intro gb509 w26 BK509 GE509 hg hb HB; have NB504_509 := nbA BK504 hg; have NB509_504 := nbB BK504 hg; replace BK504 := bk1 BK504 hb; clear hb hg; have hnb27 := NB509_504.out; have hnc27 := NB504_509.out; obtain ⟨hcz28_0, hcz28_1, hcz28_2, hfz28_0, hfz28_1, hfz28_2⟩ := cf3 BK509) | (refine callA (some 17) Tryz.func23 #[.agg #[.int .i64 t505, .int .u64 t506, .int .u64 t507]] ?_; (with_reducible refine (bits_Int.calls k t505 t506 t507 t510 t511 _ A3.out).mono ?_); rintro e w29 ⟨rfl, hb⟩; refine ⟨_, rfl, ?_⟩; replace BK504 := Aside0.mk (blk_below (g := gb504) (o := .cells #[.int .i64 t500, .int .u64 t501, .int .u64 t502] 24 (0, 0)) (by refine blk_far ?_ NB504_509.out _; refine blk_far ?_ NB504_509.out _; refine blk_far ?_ NB504_509.out _; exact BK504.out) hb); replace BK509 := Aside0.mk (blk_below (g := gb509) (o := .cells #[.int .i64 t505, .int .u64 t506, .int .u64 t507] 24 (0, 0)) (by refine blk_put (cs := #[.int .i64 t505, .int .u64 t506, .int .u64 0]) ?_ 2 _ rfl; refine blk_put (cs := #[.int .i64 t505, .int .u64 0, .int .u64 0]) ?_ 1 _ rfl; refine blk_put (cs := #[.int .i64 0, .int .u64 0, .int .u64 0]) ?_ 0 _ rfl; exact BK509.out) hb); replace HB := hb1 HB hb; (try clear hb); obtain ⟨hcz30_0, hcz30_1, hcz30_2, hfz30_0, hfz30_1, hfz30_2⟩ := cf3 BK504) | (go_at_call 24; (with_reducible refine (bits_Text.calls k t500 t501 t502 t512 _ A6.out).mono ?_); rintro e w31 ⟨rfl, hb⟩; replace BK504 := bk1 BK504 hb; replace BK509 := bk1 BK509 hb; replace HB := hb1 HB hb; (try clear hb)))
     go_ret
     exact ⟨by rfl, by repeat (with_reducible exact HB.out)⟩
   ·obtain rfl := Option.some.inj H
    go_enter Tryz.func13, Tryz.ntmps13
    go_wp2_with (first | (refine callA (some 8) Tryz.func22 #[.string (⟨#[54, 39, 104, 122, 102]⟩ : ByteArray)] ?_; (with_reducible refine (bits_Read.calls k (⟨#[54, 39, 104, 122, 102]⟩ : ByteArray) t500 t501 t502 t503 _ A1.out).mono ?_); rintro e w32 ⟨rfl, hb⟩; refine ⟨_, rfl, ?_⟩; replace HB := hb1 HB hb; (try clear hb)) | (refine boxA HB 1 #[.int .i64 0, .int .u64 0, .int .u64 0] 24 ?_; clear HB; intro gb504 w33 BK504 GE504 hg hb HB; clear hb hg; obtain ⟨hcz34_0, hcz34_1, hcz34_2, hfz34_0, hfz34_1, hfz34_2⟩ := cf3 BK504) | (refine callA (some 12) Tryz.func22 #[.string (⟨#[56, 39, 115, 100, 50, 48, 48]⟩ : ByteArray)] ?_; (with_reducible refine (bits_Read.calls k (⟨#[56, 39, 115, 100, 50, 48, 48]⟩ : ByteArray) t505 t506 t507 t508 _ A2.out).mono ?_); rintro e w35 ⟨rfl, hb⟩; refine ⟨_, rfl, ?_⟩; replace BK504 := Aside0.mk (blk_below (g := gb504) (o := .cells #[.int .i64 t500, .int .u64 t501, .int .u64 t502] 24 (0, 0)) (by refine blk_put (cs := #[.int .i64 t500, .int .u64 t501, .int .u64 0]) ?_ 2 _ rfl; refine blk_put (cs := #[.int .i64 t500, .int .u64 0, .int .u64 0]) ?_ 1 _ rfl; refine blk_put (cs := #[.int .i64 0, .int .u64 0, .int .u64 0]) ?_ 0 _ rfl; exact BK504.out) hb); replace HB := hb1 HB hb; (try clear hb)) | (refine boxA HB 3 #[.int .i64 0, .int .u64 0, .int .u64 0] 24 ?_; clear HB; intro gb509 w36 BK509 GE509 hg hb HB; have NB504_509 := nbA BK504 hg; have NB509_504 := nbB BK504 hg; replace BK504 := bk1 BK504 hb; clear hb hg; have hnb37 := NB509_504.out; have hnc37 := NB504_509.out; obtain ⟨hcz38_0, hcz38_1, hcz38_2, hfz38_0, hfz38_1, hfz38_2⟩ := cf3 BK509) | (refine callA (some 17) Tryz.func23 #[.agg #[.int .i64 t505, .int .u64 t506, .int .u64 t507]] ?_; (with_reducible refine (bits_Int.calls k t505 t506 t507 t510 t511 _ A3.out).mono ?_); rintro e w39 ⟨rfl, hb⟩; refine ⟨_, rfl, ?_⟩; replace BK504 := Aside0.mk (blk_below (g := gb504) (o := .cells #[.int .i64 t500, .int .u64 t501, .int .u64 t502] 24 (0, 0)) (by refine blk_far ?_ NB504_509.out _; refine blk_far ?_ NB504_509.out _; refine blk_far ?_ NB504_509.out _; exact BK504.out) hb); replace BK509 := Aside0.mk (blk_below (g := gb509) (o := .cells #[.int .i64 t505, .int .u64 t506, .int .u64 t507] 24 (0, 0)) (by refine blk_put (cs := #[.int .i64 t505, .int .u64 t506, .int .u64 0]) ?_ 2 _ rfl; refine blk_put (cs := #[.int .i64 t505, .int .u64 0, .int .u64 0]) ?_ 1 _ rfl; refine blk_put (cs := #[.int .i64 0, .int .u64 0, .int .u64 0]) ?_ 0 _ rfl; exact BK509.out) hb); replace HB := hb1 HB hb; (try clear hb); obtain ⟨hcz40_0, hcz40_1, hcz40_2, hfz40_0, hfz40_1, hfz40_2⟩ := cf3 BK504) | (go_at_call 24; (with_reducible refine (bits_Text.calls k t500 t501 t502 t512 _ A6.out).mono ?_); rintro e w41 ⟨rfl, hb⟩; replace BK504 := bk1 BK504 hb; replace BK509 := bk1 BK509 hb; replace HB := hb1 HB hb; (try clear hb)))
    go_ret
    exact ⟨by rfl, by repeat (with_reducible exact HB.out)⟩
  ·obtain rfl := Option.some.inj H
   go_enter Tryz.func13, Tryz.ntmps13
   go_wp2_with (first | (refine callA (some 8) Tryz.func22 #[.string (⟨#[54, 39, 104, 122, 102]⟩ : ByteArray)] ?_; (with_reducible refine (bits_Read.calls k (⟨#[54, 39, 104, 122, 102]⟩ : ByteArray) t500 t501 t502 t503 _ A1.out).mono ?_); rintro e w42 ⟨rfl, hb⟩; refine ⟨_, rfl, ?_⟩; replace HB := hb1 HB hb; (try clear hb)) | (refine boxA HB 1 #[.int .i64 0, .int .u64 0, .int .u64 0] 24 ?_; clear HB; intro gb504 w43 BK504 GE504 hg hb HB; clear hb hg; obtain ⟨hcz44_0, hcz44_1, hcz44_2, hfz44_0, hfz44_1, hfz44_2⟩ := cf3 BK504) | (refine callA (some 12) Tryz.func22 #[.string (⟨#[56, 39, 115, 100, 50, 48, 48]⟩ : ByteArray)] ?_; (with_reducible refine (bits_Read.calls k (⟨#[56, 39, 115, 100, 50, 48, 48]⟩ : ByteArray) t505 t506 t507 t508 _ A2.out).mono ?_); rintro e w45 ⟨rfl, hb⟩; refine ⟨_, rfl, ?_⟩; replace BK504 := Aside0.mk (blk_below (g := gb504) (o := .cells #[.int .i64 t500, .int .u64 t501, .int .u64 t502] 24 (0, 0)) (by refine blk_put (cs := #[.int .i64 t500, .int .u64 t501, .int .u64 0]) ?_ 2 _ rfl; refine blk_put (cs := #[.int .i64 t500, .int .u64 0, .int .u64 0]) ?_ 1 _ rfl; refine blk_put (cs := #[.int .i64 0, .int .u64 0, .int .u64 0]) ?_ 0 _ rfl; exact BK504.out) hb); replace HB := hb1 HB hb; (try clear hb)) | (refine boxA HB 3 #[.int .i64 0, .int .u64 0, .int .u64 0] 24 ?_; clear HB; intro gb509 w46 BK509 GE509 hg hb HB; have NB504_509 := nbA BK504 hg; have NB509_504 := nbB BK504 hg; replace BK504 := bk1 BK504 hb; clear hb hg; have hnb47 := NB509_504.out; have hnc47 := NB504_509.out; obtain ⟨hcz48_0, hcz48_1, hcz48_2, hfz48_0, hfz48_1, hfz48_2⟩ := cf3 BK509) | (refine callA (some 17) Tryz.func23 #[.agg #[.int .i64 t505, .int .u64 t506, .int .u64 t507]] ?_; (with_reducible refine (bits_Int.calls k t505 t506 t507 t510 t511 _ A3.out).mono ?_); rintro e w49 ⟨rfl, hb⟩; refine ⟨_, rfl, ?_⟩; replace BK504 := Aside0.mk (blk_below (g := gb504) (o := .cells #[.int .i64 t500, .int .u64 t501, .int .u64 t502] 24 (0, 0)) (by refine blk_far ?_ NB504_509.out _; refine blk_far ?_ NB504_509.out _; refine blk_far ?_ NB504_509.out _; exact BK504.out) hb); replace BK509 := Aside0.mk (blk_below (g := gb509) (o := .cells #[.int .i64 t505, .int .u64 t506, .int .u64 t507] 24 (0, 0)) (by refine blk_put (cs := #[.int .i64 t505, .int .u64 t506, .int .u64 0]) ?_ 2 _ rfl; refine blk_put (cs := #[.int .i64 t505, .int .u64 0, .int .u64 0]) ?_ 1 _ rfl; refine blk_put (cs := #[.int .i64 0, .int .u64 0, .int .u64 0]) ?_ 0 _ rfl; exact BK509.out) hb); replace HB := hb1 HB hb; (try clear hb)))
   go_ret
   exact ⟨by rfl, by repeat (with_reducible exact HB.out)⟩
 ·obtain rfl := Option.some.inj H
  go_enter Tryz.func13, Tryz.ntmps13
  go_wp2_with (first | (refine callA (some 8) Tryz.func22 #[.string (⟨#[54, 39, 104, 122, 102]⟩ : ByteArray)] ?_; (with_reducible refine (bits_Read.calls k (⟨#[54, 39, 104, 122, 102]⟩ : ByteArray) t500 t501 t502 t503 _ A1.out).mono ?_); rintro e w50 ⟨rfl, hb⟩; refine ⟨_, rfl, ?_⟩; replace HB := hb1 HB hb; (try clear hb)) | (refine boxA HB 1 #[.int .i64 0, .int .u64 0, .int .u64 0] 24 ?_; clear HB; intro gb504 w51 BK504 GE504 hg hb HB; clear hb hg; obtain ⟨hcz52_0, hcz52_1, hcz52_2, hfz52_0, hfz52_1, hfz52_2⟩ := cf3 BK504) | (refine callA (some 12) Tryz.func22 #[.string (⟨#[56, 39, 115, 100, 50, 48, 48]⟩ : ByteArray)] ?_; (with_reducible refine (bits_Read.calls k (⟨#[56, 39, 115, 100, 50, 48, 48]⟩ : ByteArray) t505 t506 t507 t508 _ A2.out).mono ?_); rintro e w53 ⟨rfl, hb⟩; refine ⟨_, rfl, ?_⟩; replace BK504 := Aside0.mk (blk_below (g := gb504) (o := .cells #[.int .i64 t500, .int .u64 t501, .int .u64 t502] 24 (0, 0)) (by refine blk_put (cs := #[.int .i64 t500, .int .u64 t501, .int .u64 0]) ?_ 2 _ rfl; refine blk_put (cs := #[.int .i64 t500, .int .u64 0, .int .u64 0]) ?_ 1 _ rfl; refine blk_put (cs := #[.int .i64 0, .int .u64 0, .int .u64 0]) ?_ 0 _ rfl; exact BK504.out) hb); replace HB := hb1 HB hb; (try clear hb)) | (refine boxA HB 3 #[.int .i64 0, .int .u64 0, .int .u64 0] 24 ?_; clear HB; intro gb509 w54 BK509 GE509 hg hb HB; have NB504_509 := nbA BK504 hg; have NB509_504 := nbB BK504 hg; replace BK504 := bk1 BK504 hb; clear hb hg; have hnb55 := NB509_504.out; have hnc55 := NB504_509.out; obtain ⟨hcz56_0, hcz56_1, hcz56_2, hfz56_0, hfz56_1, hfz56_2⟩ := cf3 BK509) | (refine callA (some 17) Tryz.func23 #[.agg #[.int .i64 t505, .int .u64 t506, .int .u64 t507]] ?_; (with_reducible refine (bits_Int.calls k t505 t506 t507 t510 t511 _ A3.out).mono ?_); rintro e w57 ⟨rfl, hb⟩; refine ⟨_, rfl, ?_⟩; replace BK504 := Aside0.mk (blk_below (g := gb504) (o := .cells #[.int .i64 t500, .int .u64 t501, .int .u64 t502] 24 (0, 0)) (by refine blk_far ?_ NB504_509.out _; refine blk_far ?_ NB504_509.out _; refine blk_far ?_ NB504_509.out _; exact BK504.out) hb); replace BK509 := Aside0.mk (blk_below (g := gb509) (o := .cells #[.int .i64 t505, .int .u64 t506, .int .u64 t507] 24 (0, 0)) (by refine blk_put (cs := #[.int .i64 t505, .int .u64 t506, .int .u64 0]) ?_ 2 _ rfl; refine blk_put (cs := #[.int .i64 t505, .int .u64 0, .int .u64 0]) ?_ 1 _ rfl; refine blk_put (cs := #[.int .i64 0, .int .u64 0, .int .u64 0]) ?_ 0 _ rfl; exact BK509.out) hb); replace HB := hb1 HB hb; (try clear hb)))
  go_ret
  exact ⟨by rfl, by repeat (with_reducible exact HB.out)⟩
end Go.Proofs.YtfigblfjogpojaaGreatDoor.PBits
end
