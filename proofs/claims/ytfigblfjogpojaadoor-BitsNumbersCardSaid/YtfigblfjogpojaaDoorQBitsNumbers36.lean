/- Part 37 of the proof of BitsNumbersCardSaid: The law BitsNumbers: for all arguments it returns true; each argument reads behind the call as it read before. Out of the plain theorem of YtfigblfjogpojaaDoorPureBitsNumbers and the printed contract. -/
import Derived.Test.YtfigblfjogpojaaDoorQBitsNumbers15
import Derived.Test.YtfigblfjogpojaaDoorQBitsNumbers14
import Derived.Test.YtfigblfjogpojaaDoorQBitsNumbers31
import Derived.Test.YtfigblfjogpojaaDoorQBitsNumbers23
import Derived.Test.YtfigblfjogpojaaDoorQBitsNumbers33
section
namespace Go.Proofs.YtfigblfjogpojaaDoor.PBits
open Go.RowKit Go.Proofs.YtfigblfjogpojaaDoorW.PrintWords Go.Proofs.YtfigblfjogpojaaDoorW.PrintLast Go.Proofs.YtfigblfjogpojaaDoorW.PrintMore
attribute [local go_sem] max2_int min2_int max_two min_two max_three min_three max_four min_four
set_option linter.unusedVariables false
set_option linter.unusedSimpArgs false
def bits_Add_1.f (a0 : Int) (a1 : Int) : Option (Int) := some (IntKind.u64.wrap (a0 + a1))
set_option maxHeartbeats 8000000 in
set_option maxRecDepth 100000 in
theorem bits_Add_1.calls (a0 : Int) (a1 : Int) (r : Int) (w : World) (h : bits_Add_1.f a0 a1 = some r) :
  Calls Tryd.prog 73 #[.int .u64 a0, .int .u64 a1] w fun e w' => e = .returned (.int .u64 r) ∧ Drawn0 w w' := by
 have H := h
 clear h
 unfold bits_Add_1.f at H
 obtain rfl := Option.some.inj H
 go_enter Tryd.func73, Tryd.ntmps73
 go_wp2
 go_ret
 exact ⟨by rfl, by repeat (exact Drawn0.refl _)⟩
end Go.Proofs.YtfigblfjogpojaaDoor.PBits
end
section
namespace Go.Proofs.YtfigblfjogpojaaDoor.PBits
open Go.RowKit Go.Proofs.YtfigblfjogpojaaDoorW.PrintWords Go.Proofs.YtfigblfjogpojaaDoorW.PrintLast Go.Proofs.YtfigblfjogpojaaDoorW.PrintMore
attribute [local go_sem] max2_int min2_int max_two min_two max_three min_three max_four min_four
set_option linter.unusedVariables false
set_option linter.unusedSimpArgs false
def bits_number__Add_1.f (k : Nat) (a0_0 : Int) (a0_1 : Int) (a0_2 : Int) (a1_0 : Int) (a1_1 : Int) (a1_2 : Int)  : Option (Int × Int × Int) := (bits_alike.f k a0_0 a0_1 a0_2 a1_0 a1_1 a1_2).bind fun t197 => (if t197 = true then (if (Go.bits .or .u64 a0_2 a1_2) = 0 then ((bits_Add_1.f a0_1 a1_1).bind fun t201 => ((bits_Of.f a0_0 t201).bind fun bt202 => (some (bt202.1, bt202.2.1, bt202.2.2)))) else ((bits_All.f k a0_0 120).bind fun bt198 => (some (bt198.1, bt198.2.1, bt198.2.2)))) else (some (0, 0, 0)))
theorem bits_number__Add_1.mono : ∀ a0 a1 a2 a3 a4 a5 k, LeO (bits_number__Add_1.f k a0 a1 a2 a3 a4 a5) (bits_number__Add_1.f (k + 1) a0 a1 a2 a3 a4 a5) := by
 intro a0 a1 a2 a3 a4 a5 k
 unfold bits_number__Add_1.f
 repeat' first | with_reducible exact bits_All.mono _ _ _ | with_reducible exact bits_alike.mono _ _ _ _ _ _ _ | with_reducible exact LeO.refl _ | with_reducible exact LeO.none _ | with_reducible refine LeO.ite ?_ ?_ | with_reducible refine LeO.bind ?_ (fun _ => ?_)
def bits_number__Add_1.T5 : Bool × List (List Nat × List Nat) := (true, [([], []), ([0], [0]), ([], []), ([], []), ([3], [3]), ([], []), ([5], [5]), ([2, 4, 6], [2, 4, 6]), ([1, 7, 7], [1, 7]), ([8, 8, 0, 1, 2, 3, 4, 5, 6, 7, 8], [8])])
def bits_number__Add_1.B5 : List Nat := [0, 1, 0, 0, 8, 0, 32, 124, 255, 511]
theorem bits_number__Add_1.tab5 : rtab .any (opsOf Tryd.f71 5) = bits_number__Add_1.T5 := by kernel_rfl
theorem bits_number__Add_1.bits5 : waitsOk bits_number__Add_1.T5.2 bits_number__Add_1.B5 = true := by kernel_rfl
set_option maxHeartbeats 8000000 in
set_option maxRecDepth 100000 in
theorem bits_number__Add_1.calls (k : Nat) (a0_0 : Int) (a0_1 : Int) (a0_2 : Int) (a1_0 : Int) (a1_1 : Int) (a1_2 : Int)  (r1 : Int) (r2 : Int) (r3 : Int) (w : World) (h : bits_number__Add_1.f k a0_0 a0_1 a0_2 a1_0 a1_1 a1_2 = some (r1, r2, r3)) :
  Calls Tryd.prog 71 #[.agg #[.int .i64 a0_0, .int .u64 a0_1, .int .u64 a0_2], .agg #[.int .i64 a1_0, .int .u64 a1_1, .int .u64 a1_2], .func (.func 73) #[] #[]] w fun e w' => e = .returned (.agg #[.int .i64 r1, .int .u64 r2, .int .u64 r3]) ∧ Below w.heap.size w w' := by
 have hu24 := Tryd.underlying24
 have HB := Aside0.mk (Below.refl w.heap.size w)
 have H := h
 clear h
 unfold bits_number__Add_1.f at H
 replace H := bN H; obtain ⟨t197, A4, H⟩ := H
 replace H := iB H; rcases H with ⟨rfl, H⟩ | ⟨rfl, H⟩
 ·replace H := iE H; rcases H with ⟨c6b0, c6b1, H⟩ | ⟨c6, c6b0, c6b1, H⟩
  ·replace H := bN H; obtain ⟨t201, A7, H⟩ := H
   replace H := bN H; obtain ⟨⟨t202, t203, t204⟩, A8, H⟩ := H; dsimp only at H
   replace H := s3 H; obtain ⟨rfl, rfl, rfl⟩ := H
   go_enter Tryd.func71, Tryd.ntmps71
   try go_wp2_with (first | (refine boxA HB 3 #[.int .i64 a0_0, .int .u64 a0_1, .int .u64 a0_2] 24 ?_; clear HB; intro gb194 w9 BK194 GE194 hg hb HB; clear hb hg) | (refine boxA HB 4 #[.int .i64 a1_0, .int .u64 a1_1, .int .u64 a1_2] 24 ?_; clear HB; intro gb195 w10 BK195 GE195 hg hb HB; have NB194_195 := nbA BK194 hg; have NB195_194 := nbB BK194 hg; replace BK194 := bk1 BK194 hb; clear hb hg) | (refine boxA HB 6 #[.int .i64 0, .int .u64 0, .int .u64 0] 24 ?_; clear HB; intro gb196 w11 BK196 GE196 hg hb HB; have NB194_196 := nbA BK194 hg; have NB196_194 := nbB BK194 hg; replace BK194 := bk1 BK194 hb; have NB195_196 := nbA BK195 hg; have NB196_195 := nbB BK195 hg; replace BK195 := bk1 BK195 hb; clear hb hg; have hnb12 := NB194_195.out; have hnc12 := NB195_194.out; have hnb13 := NB194_196.out; have hnc13 := NB196_194.out; obtain ⟨hcz14_0, hcz14_1, hcz14_2, hfz14_0, hfz14_1, hfz14_2⟩ := cf3 BK194; have hnb15 := NB195_196.out; have hnc15 := NB196_195.out; obtain ⟨hcz16_0, hcz16_1, hcz16_2, hfz16_0, hfz16_1, hfz16_2⟩ := cf3 BK195) | (refine callA (some 10) Tryd.func66 #[.agg #[.int .i64 a0_0, .int .u64 a0_1, .int .u64 a0_2], .agg #[.int .i64 a1_0, .int .u64 a1_1, .int .u64 a1_2]] ?_; (with_reducible refine (bits_alike.calls k a0_0 a0_1 a0_2 a1_0 a1_1 a1_2 true _ A4.out).mono ?_); rintro e w17 ⟨rfl, hb⟩; refine ⟨_, rfl, ?_⟩; replace BK194 := bk1 BK194 hb; replace BK195 := bk1 BK195 hb; replace BK196 := bk1 BK196 hb; replace HB := hb1 HB hb; (try clear hb); obtain ⟨hcz18_0, hcz18_1, hcz18_2, hfz18_0, hfz18_1, hfz18_2⟩ := cf3 BK194; obtain ⟨hcz19_0, hcz19_1, hcz19_2, hfz19_0, hfz19_1, hfz19_2⟩ := cf3 BK195))
   replace BK194 := bkd BK194
   replace BK195 := bkd BK195
   replace BK196 := bkd BK196
   replace HB := hbd HB
   refine start_ (n := 10) (S := fun w' => w'.cell? ⟨gb194, 0, none⟩ = some (.int .i64 a0_0) ∧ w'.cell? ⟨gb194, 1, none⟩ = some (.int .u64 a0_1) ∧ w'.cell? ⟨gb194, 2, none⟩ = some (.int .u64 a0_2) ∧ w'.cell? ⟨gb195, 0, none⟩ = some (.int .i64 a1_0) ∧ w'.cell? ⟨gb195, 1, none⟩ = some (.int .u64 a1_1) ∧ w'.cell? ⟨gb195, 2, none⟩ = some (.int .u64 a1_2)) (ds := []) (tb 10 0) (by kernel_rfl) rfl (by kernel_rfl) (c3 BK194 (d3 BK195)) (fun hHeld => ?_); refine with_tabW bits_number__Add_1.tab5 bits_number__Add_1.bits5 (fun HT_ HW_ => ?_)
   generalize w17.drew = w20 at BK194 BK195 BK196 HB hHeld ⊢
   refine pA 0 23 (tb 10 1) HT_ ?_
   refine pA 2 25 (tb 10 5) HT_ ?_
   refine pA 3 26 (tb 10 13) HT_ ?_
   refine pA 5 28 (tb 10 45) HT_ ?_
   refine tA 1 24 (tb 10 47) HT_ HW_ hHeld ?_
   refine tA 4 27 (tb 10 63) HT_ HW_ hHeld ?_
   refine tA 6 29 (tb 10 127) HT_ HW_ hHeld ?_
   refine oA 7 (some 30) (tb 10 255) HT_ (fun K hK => ?_)
   refine sq_goesT Tryd.func73 (by kernel_rfl) rfl #[.int .u64 a0_1, .int .u64 a1_1] (by rfl) rfl rfl rfl (by (try simp only [List.map_toArray, List.map_cons, List.map_nil]); rfl) ?_
   with_reducible refine (bits_Add_1.calls a0_1 a1_1 t201 _ A7.out).mono ?_
   rintro e w' ⟨rfl, ⟨nd, rfl⟩⟩
   refine ⟨_, rfl, ?_⟩
   refine hK.out _ _ (c3 BK194 (d3 BK195)) (fun hHeld => ?_)
   clear hK K
   refine nA ?_
   refine oA 8 (some 31) (tb 10 511) HT_ (fun K hK => ?_)
   refine gA Tryd.func24 #[.int .i64 a0_0, .int .u64 t201] ?_
   with_reducible refine (bits_Of.calls a0_0 t201 t202 t203 t204 _ A8.out).mono ?_
   rintro e w21 ⟨rfl, hb⟩
   refine ⟨_, rfl, ?_⟩
   replace BK194 := bk1 BK194 hb
   replace BK195 := bk1 BK195 hb
   replace BK196 := bk1 BK196 hb
   replace HB := hb1 HB hb
   (try clear hb)
   refine hK.out _ _ (c3 BK194 (d3 BK195)) (fun hHeld => ?_)
   clear hK K
   refine nA ?_
   refine oA 9 (none) (tb 10 1023) HT_ (fun K hK => ?_)
   have hs22 : w21.cell? ⟨gb196, 0, none⟩ = some (.int .i64 0) := (blk_cell BK196.out 0).trans rfl
   have hfs22 := blk_frozen BK196.out 0
   have hns22_0 := NB194_196.out
   have hns22_1 := NB195_196.out
   have hms22_0 := NB196_194.out
   have hms22_1 := NB196_195.out
   have hs23 : w21.cell? ⟨gb196, 1, none⟩ = some (.int .u64 0) := (blk_cell BK196.out 1).trans rfl
   have hfs23 := blk_frozen BK196.out 1
   have hns23_0 := NB194_196.out
   have hns23_1 := NB195_196.out
   have hms23_0 := NB196_194.out
   have hms23_1 := NB196_195.out
   have hs24 : w21.cell? ⟨gb196, 2, none⟩ = some (.int .u64 0) := (blk_cell BK196.out 2).trans rfl
   have hfs24 := blk_frozen BK196.out 2
   have hns24_0 := NB194_196.out
   have hns24_1 := NB195_196.out
   have hms24_0 := NB196_194.out
   have hms24_1 := NB196_195.out
   refine skip_ (w1 := ?_) (by rfl) rfl ?_ ?_
   rotate_left
   ·go_simp
    rfl
   refine hK.out _ _ ⟨((cell_far (p := ⟨gb196, _, none⟩) NB194_196.out _).trans (((cell_far (p := ⟨gb196, _, none⟩) NB194_196.out _).trans (((cell_far (p := ⟨gb196, _, none⟩) NB194_196.out _).trans (hHeld.1)))))), ((cell_far (p := ⟨gb196, _, none⟩) NB194_196.out _).trans (((cell_far (p := ⟨gb196, _, none⟩) NB194_196.out _).trans (((cell_far (p := ⟨gb196, _, none⟩) NB194_196.out _).trans (hHeld.2.1)))))), ((cell_far (p := ⟨gb196, _, none⟩) NB194_196.out _).trans (((cell_far (p := ⟨gb196, _, none⟩) NB194_196.out _).trans (((cell_far (p := ⟨gb196, _, none⟩) NB194_196.out _).trans (hHeld.2.2.1)))))), ((cell_far (p := ⟨gb196, _, none⟩) NB195_196.out _).trans (((cell_far (p := ⟨gb196, _, none⟩) NB195_196.out _).trans (((cell_far (p := ⟨gb196, _, none⟩) NB195_196.out _).trans (hHeld.2.2.2.1)))))), ((cell_far (p := ⟨gb196, _, none⟩) NB195_196.out _).trans (((cell_far (p := ⟨gb196, _, none⟩) NB195_196.out _).trans (((cell_far (p := ⟨gb196, _, none⟩) NB195_196.out _).trans (hHeld.2.2.2.2.1)))))), ((cell_far (p := ⟨gb196, _, none⟩) NB195_196.out _).trans (((cell_far (p := ⟨gb196, _, none⟩) NB195_196.out _).trans (((cell_far (p := ⟨gb196, _, none⟩) NB195_196.out _).trans (hHeld.2.2.2.2.2))))))⟩ (fun hHeld => ?_)
   clear hK K
   refine done_ (done_of HT_.out (by kernel_rfl)) ?_
   try go_wp2
   refine retA gb196 24 #[.int .i64 t202, .int .u64 t203, .int .u64 t204] (put3 BK196) Tryd.underlying24 ?_
   exact ⟨by rfl, by repeat (with_reducible first | exact HB.out | refine below_set ?_ GE196.out)⟩
  ·replace H := bN H; obtain ⟨⟨t198, t199, t200⟩, A25, H⟩ := H; dsimp only at H
   replace H := s3 H; obtain ⟨rfl, rfl, rfl⟩ := H
   go_enter Tryd.func71, Tryd.ntmps71
   go_wp2_with (first | (refine boxA HB 3 #[.int .i64 a0_0, .int .u64 a0_1, .int .u64 a0_2] 24 ?_; clear HB; intro gb194 w26 BK194 GE194 hg hb HB; clear hb hg) | (refine boxA HB 4 #[.int .i64 a1_0, .int .u64 a1_1, .int .u64 a1_2] 24 ?_; clear HB; intro gb195 w27 BK195 GE195 hg hb HB; have NB194_195 := nbA BK194 hg; have NB195_194 := nbB BK194 hg; replace BK194 := bk1 BK194 hb; clear hb hg) | (refine boxA HB 6 #[.int .i64 0, .int .u64 0, .int .u64 0] 24 ?_; clear HB; intro gb196 w28 BK196 GE196 hg hb HB; have NB194_196 := nbA BK194 hg; have NB196_194 := nbB BK194 hg; replace BK194 := bk1 BK194 hb; have NB195_196 := nbA BK195 hg; have NB196_195 := nbB BK195 hg; replace BK195 := bk1 BK195 hb; clear hb hg; have hnb29 := NB194_195.out; have hnc29 := NB195_194.out; have hnb30 := NB194_196.out; have hnc30 := NB196_194.out; obtain ⟨hcz31_0, hcz31_1, hcz31_2, hfz31_0, hfz31_1, hfz31_2⟩ := cf3 BK194; have hnb32 := NB195_196.out; have hnc32 := NB196_195.out; obtain ⟨hcz33_0, hcz33_1, hcz33_2, hfz33_0, hfz33_1, hfz33_2⟩ := cf3 BK195) | (refine callA (some 10) Tryd.func66 #[.agg #[.int .i64 a0_0, .int .u64 a0_1, .int .u64 a0_2], .agg #[.int .i64 a1_0, .int .u64 a1_1, .int .u64 a1_2]] ?_; (with_reducible refine (bits_alike.calls k a0_0 a0_1 a0_2 a1_0 a1_1 a1_2 true _ A4.out).mono ?_); rintro e w34 ⟨rfl, hb⟩; refine ⟨_, rfl, ?_⟩; replace BK194 := bk1 BK194 hb; replace BK195 := bk1 BK195 hb; replace BK196 := bk1 BK196 hb; replace HB := hb1 HB hb; (try clear hb); obtain ⟨hcz35_0, hcz35_1, hcz35_2, hfz35_0, hfz35_1, hfz35_2⟩ := cf3 BK194; obtain ⟨hcz36_0, hcz36_1, hcz36_2, hfz36_0, hfz36_1, hfz36_2⟩ := cf3 BK195) | (refine callA (some 22) Tryd.func25 #[.int .i64 a0_0, .int .u8 120] ?_; (with_reducible refine (bits_All.calls k a0_0 120 t198 t199 t200 _ A25.out).mono ?_); rintro e w37 ⟨rfl, hb⟩; refine ⟨_, rfl, ?_⟩; replace BK194 := bk1 BK194 hb; replace BK195 := bk1 BK195 hb; replace BK196 := bk1 BK196 hb; replace HB := hb1 HB hb; (try clear hb); obtain ⟨hcz38_0, hcz38_1, hcz38_2, hfz38_0, hfz38_1, hfz38_2⟩ := cf3 BK196))
   refine retA gb196 24 #[.int .i64 t198, .int .u64 t199, .int .u64 t200] (put3 BK196) Tryd.underlying24 ?_
   exact ⟨by rfl, by repeat (with_reducible first | exact HB.out | refine below_set ?_ GE196.out)⟩
 ·replace H := s3 H; obtain ⟨rfl, rfl, rfl⟩ := H
  go_enter Tryd.func71, Tryd.ntmps71
  go_wp2_with (first | (refine boxA HB 3 #[.int .i64 a0_0, .int .u64 a0_1, .int .u64 a0_2] 24 ?_; clear HB; intro gb194 w39 BK194 GE194 hg hb HB; clear hb hg) | (refine boxA HB 4 #[.int .i64 a1_0, .int .u64 a1_1, .int .u64 a1_2] 24 ?_; clear HB; intro gb195 w40 BK195 GE195 hg hb HB; have NB194_195 := nbA BK194 hg; have NB195_194 := nbB BK194 hg; replace BK194 := bk1 BK194 hb; clear hb hg) | (refine boxA HB 6 #[.int .i64 0, .int .u64 0, .int .u64 0] 24 ?_; clear HB; intro gb196 w41 BK196 GE196 hg hb HB; have NB194_196 := nbA BK194 hg; have NB196_194 := nbB BK194 hg; replace BK194 := bk1 BK194 hb; have NB195_196 := nbA BK195 hg; have NB196_195 := nbB BK195 hg; replace BK195 := bk1 BK195 hb; clear hb hg; have hnb42 := NB194_195.out; have hnc42 := NB195_194.out; have hnb43 := NB194_196.out; have hnc43 := NB196_194.out; obtain ⟨hcz44_0, hcz44_1, hcz44_2, hfz44_0, hfz44_1, hfz44_2⟩ := cf3 BK194; have hnb45 := NB195_196.out; have hnc45 := NB196_195.out; obtain ⟨hcz46_0, hcz46_1, hcz46_2, hfz46_0, hfz46_1, hfz46_2⟩ := cf3 BK195) | (refine callA (some 10) Tryd.func66 #[.agg #[.int .i64 a0_0, .int .u64 a0_1, .int .u64 a0_2], .agg #[.int .i64 a1_0, .int .u64 a1_1, .int .u64 a1_2]] ?_; (with_reducible refine (bits_alike.calls k a0_0 a0_1 a0_2 a1_0 a1_1 a1_2 false _ A4.out).mono ?_); rintro e w47 ⟨rfl, hb⟩; refine ⟨_, rfl, ?_⟩; replace BK194 := bk1 BK194 hb; replace BK195 := bk1 BK195 hb; replace BK196 := bk1 BK196 hb; replace HB := hb1 HB hb; (try clear hb); obtain ⟨hcz48_0, hcz48_1, hcz48_2, hfz48_0, hfz48_1, hfz48_2⟩ := cf3 BK196))
  refine retA gb196 24 #[.int .i64 0, .int .u64 0, .int .u64 0] (put3 BK196) Tryd.underlying24 ?_
  exact ⟨by rfl, by repeat (with_reducible first | exact HB.out | refine below_set ?_ GE196.out)⟩
end Go.Proofs.YtfigblfjogpojaaDoor.PBits
end
section
namespace Go.Proofs.YtfigblfjogpojaaDoor.PBits
open Go.RowKit Go.Proofs.YtfigblfjogpojaaDoorW.PrintWords Go.Proofs.YtfigblfjogpojaaDoorW.PrintLast Go.Proofs.YtfigblfjogpojaaDoorW.PrintMore
attribute [local go_sem] max2_int min2_int max_two min_two max_three min_three max_four min_four
set_option linter.unusedVariables false
set_option linter.unusedSimpArgs false
def bits_Add.f (k : Nat) (a0_0 : Int) (a0_1 : Int) (a0_2 : Int) (a1_0 : Int) (a1_1 : Int) (a1_2 : Int) : Option (Int × Int × Int) := (bits_number__Add_1.f k a0_0 a0_1 a0_2 a1_0 a1_1 a1_2).bind fun bt208 => (some (bt208.1, bt208.2.1, bt208.2.2))
theorem bits_Add.mono : ∀ a0 a1 a2 a3 a4 a5 k, LeO (bits_Add.f k a0 a1 a2 a3 a4 a5) (bits_Add.f (k + 1) a0 a1 a2 a3 a4 a5) := by
 intro a0 a1 a2 a3 a4 a5 k
 unfold bits_Add.f
 repeat' first | with_reducible exact bits_number__Add_1.mono _ _ _ _ _ _ _ | with_reducible exact LeO.refl _ | with_reducible exact LeO.none _ | with_reducible refine LeO.ite ?_ ?_ | with_reducible refine LeO.bind ?_ (fun _ => ?_)
set_option maxHeartbeats 8000000 in
set_option maxRecDepth 100000 in
theorem bits_Add.calls (k : Nat) (a0_0 : Int) (a0_1 : Int) (a0_2 : Int) (a1_0 : Int) (a1_1 : Int) (a1_2 : Int) (r1 : Int) (r2 : Int) (r3 : Int) (w : World) (h : bits_Add.f k a0_0 a0_1 a0_2 a1_0 a1_1 a1_2 = some (r1, r2, r3)) :
  Calls Tryd.prog 49 #[.agg #[.int .i64 a0_0, .int .u64 a0_1, .int .u64 a0_2], .agg #[.int .i64 a1_0, .int .u64 a1_1, .int .u64 a1_2]] w fun e w' => e = .returned (.agg #[.int .i64 r1, .int .u64 r2, .int .u64 r3]) ∧ Below w.heap.size w w' := by
 have hu24 := Tryd.underlying24
 have HB := Aside0.mk (Below.refl w.heap.size w)
 have H := h
 clear h
 unfold bits_Add.f at H
 replace H := bN H; obtain ⟨⟨t208, t209, t210⟩, A3, H⟩ := H; dsimp only at H
 replace H := s3 H; obtain ⟨rfl, rfl, rfl⟩ := H
 go_enter Tryd.func49, Tryd.ntmps49
 go_wp2_with (first | (refine boxA HB 2 #[.int .i64 a0_0, .int .u64 a0_1, .int .u64 a0_2] 24 ?_; clear HB; intro gb205 w4 BK205 GE205 hg hb HB; clear hb hg) | (refine boxA HB 3 #[.int .i64 a1_0, .int .u64 a1_1, .int .u64 a1_2] 24 ?_; clear HB; intro gb206 w5 BK206 GE206 hg hb HB; have NB205_206 := nbA BK205 hg; have NB206_205 := nbB BK205 hg; replace BK205 := bk1 BK205 hb; clear hb hg) | (refine boxA HB 4 #[.int .i64 0, .int .u64 0, .int .u64 0] 24 ?_; clear HB; intro gb207 w6 BK207 GE207 hg hb HB; have NB205_207 := nbA BK205 hg; have NB207_205 := nbB BK205 hg; replace BK205 := bk1 BK205 hb; have NB206_207 := nbA BK206 hg; have NB207_206 := nbB BK206 hg; replace BK206 := bk1 BK206 hb; clear hb hg; have hnb7 := NB205_206.out; have hnc7 := NB206_205.out; have hnb8 := NB205_207.out; have hnc8 := NB207_205.out; obtain ⟨hcz9_0, hcz9_1, hcz9_2, hfz9_0, hfz9_1, hfz9_2⟩ := cf3 BK205; have hnb10 := NB206_207.out; have hnc10 := NB207_206.out; obtain ⟨hcz11_0, hcz11_1, hcz11_2, hfz11_0, hfz11_1, hfz11_2⟩ := cf3 BK206) | (refine callA (some 7) Tryd.func71 #[.agg #[.int .i64 a0_0, .int .u64 a0_1, .int .u64 a0_2], .agg #[.int .i64 a1_0, .int .u64 a1_1, .int .u64 a1_2], (.func (.func 73) #[] #[])] ?_; (with_reducible refine (bits_number__Add_1.calls k a0_0 a0_1 a0_2 a1_0 a1_1 a1_2  t208 t209 t210 _ A3.out).mono ?_); rintro e w12 ⟨rfl, hb⟩; refine ⟨_, rfl, ?_⟩; replace BK205 := bk1 BK205 hb; replace BK206 := bk1 BK206 hb; replace BK207 := bk1 BK207 hb; replace HB := hb1 HB hb; (try clear hb); obtain ⟨hcz13_0, hcz13_1, hcz13_2, hfz13_0, hfz13_1, hfz13_2⟩ := cf3 BK207))
 refine retA gb207 24 #[.int .i64 t208, .int .u64 t209, .int .u64 t210] (put3 BK207) Tryd.underlying24 ?_
 exact ⟨by rfl, by repeat (with_reducible first | exact HB.out | refine below_set ?_ GE207.out)⟩
end Go.Proofs.YtfigblfjogpojaaDoor.PBits
end
section
namespace Go.Proofs.YtfigblfjogpojaaDoor.PBits
open Go.RowKit Go.Proofs.YtfigblfjogpojaaDoorW.PrintWords Go.Proofs.YtfigblfjogpojaaDoorW.PrintLast Go.Proofs.YtfigblfjogpojaaDoorW.PrintMore
attribute [local go_sem] max2_int min2_int max_two min_two max_three min_three max_four min_four
set_option linter.unusedVariables false
set_option linter.unusedSimpArgs false
def bits_Sub_1.f (a0 : Int) (a1 : Int) : Option (Int) := some (IntKind.u64.wrap (a0 - a1))
set_option maxHeartbeats 8000000 in
set_option maxRecDepth 100000 in
theorem bits_Sub_1.calls (a0 : Int) (a1 : Int) (r : Int) (w : World) (h : bits_Sub_1.f a0 a1 = some r) :
  Calls Tryd.prog 117 #[.int .u64 a0, .int .u64 a1] w fun e w' => e = .returned (.int .u64 r) ∧ Drawn0 w w' := by
 have H := h
 clear h
 unfold bits_Sub_1.f at H
 obtain rfl := Option.some.inj H
 go_enter Tryd.func117, Tryd.ntmps117
 go_wp2
 go_ret
 exact ⟨by rfl, by repeat (exact Drawn0.refl _)⟩
end Go.Proofs.YtfigblfjogpojaaDoor.PBits
end
section
namespace Go.Proofs.YtfigblfjogpojaaDoor.PBits
open Go.RowKit Go.Proofs.YtfigblfjogpojaaDoorW.PrintWords Go.Proofs.YtfigblfjogpojaaDoorW.PrintLast Go.Proofs.YtfigblfjogpojaaDoorW.PrintMore
attribute [local go_sem] max2_int min2_int max_two min_two max_three min_three max_four min_four
set_option linter.unusedVariables false
set_option linter.unusedSimpArgs false
def bits_number__Sub_1.f (k : Nat) (a0_0 : Int) (a0_1 : Int) (a0_2 : Int) (a1_0 : Int) (a1_1 : Int) (a1_2 : Int)  : Option (Int × Int × Int) := (bits_alike.f k a0_0 a0_1 a0_2 a1_0 a1_1 a1_2).bind fun t1188 => (if t1188 = true then (if (Go.bits .or .u64 a0_2 a1_2) = 0 then ((bits_Sub_1.f a0_1 a1_1).bind fun t1192 => ((bits_Of.f a0_0 t1192).bind fun bt1193 => (some (bt1193.1, bt1193.2.1, bt1193.2.2)))) else ((bits_All.f k a0_0 120).bind fun bt1189 => (some (bt1189.1, bt1189.2.1, bt1189.2.2)))) else (some (0, 0, 0)))
def bits_number__Sub_1.T5 : Bool × List (List Nat × List Nat) := (true, [([], []), ([0], [0]), ([], []), ([], []), ([3], [3]), ([], []), ([5], [5]), ([2, 4, 6], [2, 4, 6]), ([1, 7, 7], [1, 7]), ([8, 8, 0, 1, 2, 3, 4, 5, 6, 7, 8], [8])])
def bits_number__Sub_1.B5 : List Nat := [0, 1, 0, 0, 8, 0, 32, 124, 255, 511]
theorem bits_number__Sub_1.tab5 : rtab .any (opsOf Tryd.f71 5) = bits_number__Sub_1.T5 := by kernel_rfl
theorem bits_number__Sub_1.bits5 : waitsOk bits_number__Sub_1.T5.2 bits_number__Sub_1.B5 = true := by kernel_rfl
set_option maxHeartbeats 8000000 in
set_option maxRecDepth 100000 in
theorem bits_number__Sub_1.calls (k : Nat) (a0_0 : Int) (a0_1 : Int) (a0_2 : Int) (a1_0 : Int) (a1_1 : Int) (a1_2 : Int)  (r1 : Int) (r2 : Int) (r3 : Int) (w : World) (h : bits_number__Sub_1.f k a0_0 a0_1 a0_2 a1_0 a1_1 a1_2 = some (r1, r2, r3)) :
  Calls Tryd.prog 71 #[.agg #[.int .i64 a0_0, .int .u64 a0_1, .int .u64 a0_2], .agg #[.int .i64 a1_0, .int .u64 a1_1, .int .u64 a1_2], .func (.func 117) #[] #[]] w fun e w' => e = .returned (.agg #[.int .i64 r1, .int .u64 r2, .int .u64 r3]) ∧ Below w.heap.size w w' := by
 have hu24 := Tryd.underlying24
 have HB := Aside0.mk (Below.refl w.heap.size w)
 have H := h
 clear h
 unfold bits_number__Sub_1.f at H
 replace H := bN H; obtain ⟨t1188, A4, H⟩ := H
 replace H := iB H; rcases H with ⟨rfl, H⟩ | ⟨rfl, H⟩
 ·replace H := iE H; rcases H with ⟨c6b0, c6b1, H⟩ | ⟨c6, c6b0, c6b1, H⟩
  ·replace H := bN H; obtain ⟨t1192, A7, H⟩ := H
   replace H := bN H; obtain ⟨⟨t1193, t1194, t1195⟩, A8, H⟩ := H; dsimp only at H
   replace H := s3 H; obtain ⟨rfl, rfl, rfl⟩ := H
   go_enter Tryd.func71, Tryd.ntmps71
   try go_wp2_with (first | (refine boxA HB 3 #[.int .i64 a0_0, .int .u64 a0_1, .int .u64 a0_2] 24 ?_; clear HB; intro gb1185 w9 BK1185 GE1185 hg hb HB; clear hb hg) | (refine boxA HB 4 #[.int .i64 a1_0, .int .u64 a1_1, .int .u64 a1_2] 24 ?_; clear HB; intro gb1186 w10 BK1186 GE1186 hg hb HB; have NB1185_1186 := nbA BK1185 hg; have NB1186_1185 := nbB BK1185 hg; replace BK1185 := bk1 BK1185 hb; clear hb hg) | (refine boxA HB 6 #[.int .i64 0, .int .u64 0, .int .u64 0] 24 ?_; clear HB; intro gb1187 w11 BK1187 GE1187 hg hb HB; have NB1185_1187 := nbA BK1185 hg; have NB1187_1185 := nbB BK1185 hg; replace BK1185 := bk1 BK1185 hb; have NB1186_1187 := nbA BK1186 hg; have NB1187_1186 := nbB BK1186 hg; replace BK1186 := bk1 BK1186 hb; clear hb hg; have hnb12 := NB1185_1186.out; have hnc12 := NB1186_1185.out; have hnb13 := NB1185_1187.out; have hnc13 := NB1187_1185.out; obtain ⟨hcz14_0, hcz14_1, hcz14_2, hfz14_0, hfz14_1, hfz14_2⟩ := cf3 BK1185; have hnb15 := NB1186_1187.out; have hnc15 := NB1187_1186.out; obtain ⟨hcz16_0, hcz16_1, hcz16_2, hfz16_0, hfz16_1, hfz16_2⟩ := cf3 BK1186) | (refine callA (some 10) Tryd.func66 #[.agg #[.int .i64 a0_0, .int .u64 a0_1, .int .u64 a0_2], .agg #[.int .i64 a1_0, .int .u64 a1_1, .int .u64 a1_2]] ?_; (with_reducible refine (bits_alike.calls k a0_0 a0_1 a0_2 a1_0 a1_1 a1_2 true _ A4.out).mono ?_); rintro e w17 ⟨rfl, hb⟩; refine ⟨_, rfl, ?_⟩; replace BK1185 := bk1 BK1185 hb; replace BK1186 := bk1 BK1186 hb; replace BK1187 := bk1 BK1187 hb; replace HB := hb1 HB hb; (try clear hb); obtain ⟨hcz18_0, hcz18_1, hcz18_2, hfz18_0, hfz18_1, hfz18_2⟩ := cf3 BK1185; obtain ⟨hcz19_0, hcz19_1, hcz19_2, hfz19_0, hfz19_1, hfz19_2⟩ := cf3 BK1186))
   replace BK1185 := bkd BK1185
   replace BK1186 := bkd BK1186
   replace BK1187 := bkd BK1187
   replace HB := hbd HB
   refine start_ (n := 10) (S := fun w' => w'.cell? ⟨gb1185, 0, none⟩ = some (.int .i64 a0_0) ∧ w'.cell? ⟨gb1185, 1, none⟩ = some (.int .u64 a0_1) ∧ w'.cell? ⟨gb1185, 2, none⟩ = some (.int .u64 a0_2) ∧ w'.cell? ⟨gb1186, 0, none⟩ = some (.int .i64 a1_0) ∧ w'.cell? ⟨gb1186, 1, none⟩ = some (.int .u64 a1_1) ∧ w'.cell? ⟨gb1186, 2, none⟩ = some (.int .u64 a1_2)) (ds := []) (tb 10 0) (by kernel_rfl) rfl (by kernel_rfl) (c3 BK1185 (d3 BK1186)) (fun hHeld => ?_); refine with_tabW bits_number__Sub_1.tab5 bits_number__Sub_1.bits5 (fun HT_ HW_ => ?_)
   generalize w17.drew = w20 at BK1185 BK1186 BK1187 HB hHeld ⊢
   refine pA 0 23 (tb 10 1) HT_ ?_
   refine pA 2 25 (tb 10 5) HT_ ?_
   refine pA 3 26 (tb 10 13) HT_ ?_
   refine pA 5 28 (tb 10 45) HT_ ?_
   refine tA 1 24 (tb 10 47) HT_ HW_ hHeld ?_
   refine tA 4 27 (tb 10 63) HT_ HW_ hHeld ?_
   refine tA 6 29 (tb 10 127) HT_ HW_ hHeld ?_
   refine oA 7 (some 30) (tb 10 255) HT_ (fun K hK => ?_)
   refine sq_goesT Tryd.func117 (by kernel_rfl) rfl #[.int .u64 a0_1, .int .u64 a1_1] (by rfl) rfl rfl rfl (by (try simp only [List.map_toArray, List.map_cons, List.map_nil]); rfl) ?_
   with_reducible refine (bits_Sub_1.calls a0_1 a1_1 t1192 _ A7.out).mono ?_
   rintro e w' ⟨rfl, ⟨nd, rfl⟩⟩
   refine ⟨_, rfl, ?_⟩
   refine hK.out _ _ (c3 BK1185 (d3 BK1186)) (fun hHeld => ?_)
   clear hK K
   refine nA ?_
   refine oA 8 (some 31) (tb 10 511) HT_ (fun K hK => ?_)
   refine gA Tryd.func24 #[.int .i64 a0_0, .int .u64 t1192] ?_
   with_reducible refine (bits_Of.calls a0_0 t1192 t1193 t1194 t1195 _ A8.out).mono ?_
   rintro e w21 ⟨rfl, hb⟩
   refine ⟨_, rfl, ?_⟩
   replace BK1185 := bk1 BK1185 hb
   replace BK1186 := bk1 BK1186 hb
   replace BK1187 := bk1 BK1187 hb
   replace HB := hb1 HB hb
   (try clear hb)
   refine hK.out _ _ (c3 BK1185 (d3 BK1186)) (fun hHeld => ?_)
   clear hK K
   refine nA ?_
   refine oA 9 (none) (tb 10 1023) HT_ (fun K hK => ?_)
   have hs22 : w21.cell? ⟨gb1187, 0, none⟩ = some (.int .i64 0) := (blk_cell BK1187.out 0).trans rfl
   have hfs22 := blk_frozen BK1187.out 0
   have hns22_0 := NB1185_1187.out
   have hns22_1 := NB1186_1187.out
   have hms22_0 := NB1187_1185.out
   have hms22_1 := NB1187_1186.out
   have hs23 : w21.cell? ⟨gb1187, 1, none⟩ = some (.int .u64 0) := (blk_cell BK1187.out 1).trans rfl
   have hfs23 := blk_frozen BK1187.out 1
   have hns23_0 := NB1185_1187.out
   have hns23_1 := NB1186_1187.out
   have hms23_0 := NB1187_1185.out
   have hms23_1 := NB1187_1186.out
   have hs24 : w21.cell? ⟨gb1187, 2, none⟩ = some (.int .u64 0) := (blk_cell BK1187.out 2).trans rfl
   have hfs24 := blk_frozen BK1187.out 2
   have hns24_0 := NB1185_1187.out
   have hns24_1 := NB1186_1187.out
   have hms24_0 := NB1187_1185.out
   have hms24_1 := NB1187_1186.out
   refine skip_ (w1 := ?_) (by rfl) rfl ?_ ?_
   rotate_left
   ·go_simp
    rfl
   refine hK.out _ _ ⟨((cell_far (p := ⟨gb1187, _, none⟩) NB1185_1187.out _).trans (((cell_far (p := ⟨gb1187, _, none⟩) NB1185_1187.out _).trans (((cell_far (p := ⟨gb1187, _, none⟩) NB1185_1187.out _).trans (hHeld.1)))))), ((cell_far (p := ⟨gb1187, _, none⟩) NB1185_1187.out _).trans (((cell_far (p := ⟨gb1187, _, none⟩) NB1185_1187.out _).trans (((cell_far (p := ⟨gb1187, _, none⟩) NB1185_1187.out _).trans (hHeld.2.1)))))), ((cell_far (p := ⟨gb1187, _, none⟩) NB1185_1187.out _).trans (((cell_far (p := ⟨gb1187, _, none⟩) NB1185_1187.out _).trans (((cell_far (p := ⟨gb1187, _, none⟩) NB1185_1187.out _).trans (hHeld.2.2.1)))))), ((cell_far (p := ⟨gb1187, _, none⟩) NB1186_1187.out _).trans (((cell_far (p := ⟨gb1187, _, none⟩) NB1186_1187.out _).trans (((cell_far (p := ⟨gb1187, _, none⟩) NB1186_1187.out _).trans (hHeld.2.2.2.1)))))), ((cell_far (p := ⟨gb1187, _, none⟩) NB1186_1187.out _).trans (((cell_far (p := ⟨gb1187, _, none⟩) NB1186_1187.out _).trans (((cell_far (p := ⟨gb1187, _, none⟩) NB1186_1187.out _).trans (hHeld.2.2.2.2.1)))))), ((cell_far (p := ⟨gb1187, _, none⟩) NB1186_1187.out _).trans (((cell_far (p := ⟨gb1187, _, none⟩) NB1186_1187.out _).trans (((cell_far (p := ⟨gb1187, _, none⟩) NB1186_1187.out _).trans (hHeld.2.2.2.2.2))))))⟩ (fun hHeld => ?_)
   clear hK K
   refine done_ (done_of HT_.out (by kernel_rfl)) ?_
   try go_wp2
   refine retA gb1187 24 #[.int .i64 t1193, .int .u64 t1194, .int .u64 t1195] (put3 BK1187) Tryd.underlying24 ?_
   exact ⟨by rfl, by repeat (with_reducible first | exact HB.out | refine below_set ?_ GE1187.out)⟩
  ·replace H := bN H; obtain ⟨⟨t1189, t1190, t1191⟩, A25, H⟩ := H; dsimp only at H
   replace H := s3 H; obtain ⟨rfl, rfl, rfl⟩ := H
   go_enter Tryd.func71, Tryd.ntmps71
   go_wp2_with (first | (refine boxA HB 3 #[.int .i64 a0_0, .int .u64 a0_1, .int .u64 a0_2] 24 ?_; clear HB; intro gb1185 w26 BK1185 GE1185 hg hb HB; clear hb hg) | (refine boxA HB 4 #[.int .i64 a1_0, .int .u64 a1_1, .int .u64 a1_2] 24 ?_; clear HB; intro gb1186 w27 BK1186 GE1186 hg hb HB; have NB1185_1186 := nbA BK1185 hg; have NB1186_1185 := nbB BK1185 hg; replace BK1185 := bk1 BK1185 hb; clear hb hg) | (refine boxA HB 6 #[.int .i64 0, .int .u64 0, .int .u64 0] 24 ?_; clear HB; intro gb1187 w28 BK1187 GE1187 hg hb HB; have NB1185_1187 := nbA BK1185 hg; have NB1187_1185 := nbB BK1185 hg; replace BK1185 := bk1 BK1185 hb; have NB1186_1187 := nbA BK1186 hg; have NB1187_1186 := nbB BK1186 hg; replace BK1186 := bk1 BK1186 hb; clear hb hg; have hnb29 := NB1185_1186.out; have hnc29 := NB1186_1185.out; have hnb30 := NB1185_1187.out; have hnc30 := NB1187_1185.out; obtain ⟨hcz31_0, hcz31_1, hcz31_2, hfz31_0, hfz31_1, hfz31_2⟩ := cf3 BK1185; have hnb32 := NB1186_1187.out; have hnc32 := NB1187_1186.out; obtain ⟨hcz33_0, hcz33_1, hcz33_2, hfz33_0, hfz33_1, hfz33_2⟩ := cf3 BK1186) | (refine callA (some 10) Tryd.func66 #[.agg #[.int .i64 a0_0, .int .u64 a0_1, .int .u64 a0_2], .agg #[.int .i64 a1_0, .int .u64 a1_1, .int .u64 a1_2]] ?_; (with_reducible refine (bits_alike.calls k a0_0 a0_1 a0_2 a1_0 a1_1 a1_2 true _ A4.out).mono ?_); rintro e w34 ⟨rfl, hb⟩; refine ⟨_, rfl, ?_⟩; replace BK1185 := bk1 BK1185 hb; replace BK1186 := bk1 BK1186 hb; replace BK1187 := bk1 BK1187 hb; replace HB := hb1 HB hb; (try clear hb); obtain ⟨hcz35_0, hcz35_1, hcz35_2, hfz35_0, hfz35_1, hfz35_2⟩ := cf3 BK1185; obtain ⟨hcz36_0, hcz36_1, hcz36_2, hfz36_0, hfz36_1, hfz36_2⟩ := cf3 BK1186) | (refine callA (some 22) Tryd.func25 #[.int .i64 a0_0, .int .u8 120] ?_; (with_reducible refine (bits_All.calls k a0_0 120 t1189 t1190 t1191 _ A25.out).mono ?_); rintro e w37 ⟨rfl, hb⟩; refine ⟨_, rfl, ?_⟩; replace BK1185 := bk1 BK1185 hb; replace BK1186 := bk1 BK1186 hb; replace BK1187 := bk1 BK1187 hb; replace HB := hb1 HB hb; (try clear hb); obtain ⟨hcz38_0, hcz38_1, hcz38_2, hfz38_0, hfz38_1, hfz38_2⟩ := cf3 BK1187))
   refine retA gb1187 24 #[.int .i64 t1189, .int .u64 t1190, .int .u64 t1191] (put3 BK1187) Tryd.underlying24 ?_
   exact ⟨by rfl, by repeat (with_reducible first | exact HB.out | refine below_set ?_ GE1187.out)⟩
 ·replace H := s3 H; obtain ⟨rfl, rfl, rfl⟩ := H
  go_enter Tryd.func71, Tryd.ntmps71
  go_wp2_with (first | (refine boxA HB 3 #[.int .i64 a0_0, .int .u64 a0_1, .int .u64 a0_2] 24 ?_; clear HB; intro gb1185 w39 BK1185 GE1185 hg hb HB; clear hb hg) | (refine boxA HB 4 #[.int .i64 a1_0, .int .u64 a1_1, .int .u64 a1_2] 24 ?_; clear HB; intro gb1186 w40 BK1186 GE1186 hg hb HB; have NB1185_1186 := nbA BK1185 hg; have NB1186_1185 := nbB BK1185 hg; replace BK1185 := bk1 BK1185 hb; clear hb hg) | (refine boxA HB 6 #[.int .i64 0, .int .u64 0, .int .u64 0] 24 ?_; clear HB; intro gb1187 w41 BK1187 GE1187 hg hb HB; have NB1185_1187 := nbA BK1185 hg; have NB1187_1185 := nbB BK1185 hg; replace BK1185 := bk1 BK1185 hb; have NB1186_1187 := nbA BK1186 hg; have NB1187_1186 := nbB BK1186 hg; replace BK1186 := bk1 BK1186 hb; clear hb hg; have hnb42 := NB1185_1186.out; have hnc42 := NB1186_1185.out; have hnb43 := NB1185_1187.out; have hnc43 := NB1187_1185.out; obtain ⟨hcz44_0, hcz44_1, hcz44_2, hfz44_0, hfz44_1, hfz44_2⟩ := cf3 BK1185; have hnb45 := NB1186_1187.out; have hnc45 := NB1187_1186.out; obtain ⟨hcz46_0, hcz46_1, hcz46_2, hfz46_0, hfz46_1, hfz46_2⟩ := cf3 BK1186) | (refine callA (some 10) Tryd.func66 #[.agg #[.int .i64 a0_0, .int .u64 a0_1, .int .u64 a0_2], .agg #[.int .i64 a1_0, .int .u64 a1_1, .int .u64 a1_2]] ?_; (with_reducible refine (bits_alike.calls k a0_0 a0_1 a0_2 a1_0 a1_1 a1_2 false _ A4.out).mono ?_); rintro e w47 ⟨rfl, hb⟩; refine ⟨_, rfl, ?_⟩; replace BK1185 := bk1 BK1185 hb; replace BK1186 := bk1 BK1186 hb; replace BK1187 := bk1 BK1187 hb; replace HB := hb1 HB hb; (try clear hb); obtain ⟨hcz48_0, hcz48_1, hcz48_2, hfz48_0, hfz48_1, hfz48_2⟩ := cf3 BK1187))
  refine retA gb1187 24 #[.int .i64 0, .int .u64 0, .int .u64 0] (put3 BK1187) Tryd.underlying24 ?_
  exact ⟨by rfl, by repeat (with_reducible first | exact HB.out | refine below_set ?_ GE1187.out)⟩
end Go.Proofs.YtfigblfjogpojaaDoor.PBits
end
section
namespace Go.Proofs.YtfigblfjogpojaaDoor.PBits
open Go.RowKit Go.Proofs.YtfigblfjogpojaaDoorW.PrintWords Go.Proofs.YtfigblfjogpojaaDoorW.PrintLast Go.Proofs.YtfigblfjogpojaaDoorW.PrintMore
attribute [local go_sem] max2_int min2_int max_two min_two max_three min_three max_four min_four
set_option linter.unusedVariables false
set_option linter.unusedSimpArgs false
def bits_Sub.f (k : Nat) (a0_0 : Int) (a0_1 : Int) (a0_2 : Int) (a1_0 : Int) (a1_1 : Int) (a1_2 : Int) : Option (Int × Int × Int) := (bits_number__Sub_1.f k a0_0 a0_1 a0_2 a1_0 a1_1 a1_2).bind fun bt1199 => (some (bt1199.1, bt1199.2.1, bt1199.2.2))
set_option maxHeartbeats 8000000 in
set_option maxRecDepth 100000 in
theorem bits_Sub.calls (k : Nat) (a0_0 : Int) (a0_1 : Int) (a0_2 : Int) (a1_0 : Int) (a1_1 : Int) (a1_2 : Int) (r1 : Int) (r2 : Int) (r3 : Int) (w : World) (h : bits_Sub.f k a0_0 a0_1 a0_2 a1_0 a1_1 a1_2 = some (r1, r2, r3)) :
  Calls Tryd.prog 104 #[.agg #[.int .i64 a0_0, .int .u64 a0_1, .int .u64 a0_2], .agg #[.int .i64 a1_0, .int .u64 a1_1, .int .u64 a1_2]] w fun e w' => e = .returned (.agg #[.int .i64 r1, .int .u64 r2, .int .u64 r3]) ∧ Below w.heap.size w w' := by
 have hu24 := Tryd.underlying24
 have HB := Aside0.mk (Below.refl w.heap.size w)
 have H := h
 clear h
 unfold bits_Sub.f at H
 replace H := bN H; obtain ⟨⟨t1199, t1200, t1201⟩, A3, H⟩ := H; dsimp only at H
 replace H := s3 H; obtain ⟨rfl, rfl, rfl⟩ := H
 go_enter Tryd.func104, Tryd.ntmps104
 go_wp2_with (first | (refine boxA HB 2 #[.int .i64 a0_0, .int .u64 a0_1, .int .u64 a0_2] 24 ?_; clear HB; intro gb1196 w4 BK1196 GE1196 hg hb HB; clear hb hg) | (refine boxA HB 3 #[.int .i64 a1_0, .int .u64 a1_1, .int .u64 a1_2] 24 ?_; clear HB; intro gb1197 w5 BK1197 GE1197 hg hb HB; have NB1196_1197 := nbA BK1196 hg; have NB1197_1196 := nbB BK1196 hg; replace BK1196 := bk1 BK1196 hb; clear hb hg) | (refine boxA HB 4 #[.int .i64 0, .int .u64 0, .int .u64 0] 24 ?_; clear HB; intro gb1198 w6 BK1198 GE1198 hg hb HB; have NB1196_1198 := nbA BK1196 hg; have NB1198_1196 := nbB BK1196 hg; replace BK1196 := bk1 BK1196 hb; have NB1197_1198 := nbA BK1197 hg; have NB1198_1197 := nbB BK1197 hg; replace BK1197 := bk1 BK1197 hb; clear hb hg; have hnb7 := NB1196_1197.out; have hnc7 := NB1197_1196.out; have hnb8 := NB1196_1198.out; have hnc8 := NB1198_1196.out; obtain ⟨hcz9_0, hcz9_1, hcz9_2, hfz9_0, hfz9_1, hfz9_2⟩ := cf3 BK1196; have hnb10 := NB1197_1198.out; have hnc10 := NB1198_1197.out; obtain ⟨hcz11_0, hcz11_1, hcz11_2, hfz11_0, hfz11_1, hfz11_2⟩ := cf3 BK1197) | (refine callA (some 7) Tryd.func71 #[.agg #[.int .i64 a0_0, .int .u64 a0_1, .int .u64 a0_2], .agg #[.int .i64 a1_0, .int .u64 a1_1, .int .u64 a1_2], (.func (.func 117) #[] #[])] ?_; (with_reducible refine (bits_number__Sub_1.calls k a0_0 a0_1 a0_2 a1_0 a1_1 a1_2  t1199 t1200 t1201 _ A3.out).mono ?_); rintro e w12 ⟨rfl, hb⟩; refine ⟨_, rfl, ?_⟩; replace BK1196 := bk1 BK1196 hb; replace BK1197 := bk1 BK1197 hb; replace BK1198 := bk1 BK1198 hb; replace HB := hb1 HB hb; (try clear hb); obtain ⟨hcz13_0, hcz13_1, hcz13_2, hfz13_0, hfz13_1, hfz13_2⟩ := cf3 BK1198))
 refine retA gb1198 24 #[.int .i64 t1199, .int .u64 t1200, .int .u64 t1201] (put3 BK1198) Tryd.underlying24 ?_
 exact ⟨by rfl, by repeat (with_reducible first | exact HB.out | refine below_set ?_ GE1198.out)⟩
end Go.Proofs.YtfigblfjogpojaaDoor.PBits
end
section
namespace Go.Proofs.YtfigblfjogpojaaDoor.PBits
open Go.RowKit Go.Proofs.YtfigblfjogpojaaDoorW.PrintWords Go.Proofs.YtfigblfjogpojaaDoorW.PrintLast Go.Proofs.YtfigblfjogpojaaDoorW.PrintMore
attribute [local go_sem] max2_int min2_int max_two min_two max_three min_three max_four min_four
set_option linter.unusedVariables false
set_option linter.unusedSimpArgs false
def bits_Mul_1.f (a0 : Int) (a1 : Int) : Option (Int) := some (IntKind.u64.wrap (a0 * a1))
set_option maxHeartbeats 8000000 in
set_option maxRecDepth 100000 in
theorem bits_Mul_1.calls (a0 : Int) (a1 : Int) (r : Int) (w : World) (h : bits_Mul_1.f a0 a1 = some r) :
  Calls Tryd.prog 118 #[.int .u64 a0, .int .u64 a1] w fun e w' => e = .returned (.int .u64 r) ∧ Drawn0 w w' := by
 have H := h
 clear h
 unfold bits_Mul_1.f at H
 obtain rfl := Option.some.inj H
 go_enter Tryd.func118, Tryd.ntmps118
 go_wp2
 go_ret
 exact ⟨by rfl, by repeat (exact Drawn0.refl _)⟩
end Go.Proofs.YtfigblfjogpojaaDoor.PBits
end
section
namespace Go.Proofs.YtfigblfjogpojaaDoor.PBits
open Go.RowKit Go.Proofs.YtfigblfjogpojaaDoorW.PrintWords Go.Proofs.YtfigblfjogpojaaDoorW.PrintLast Go.Proofs.YtfigblfjogpojaaDoorW.PrintMore
attribute [local go_sem] max2_int min2_int max_two min_two max_three min_three max_four min_four
set_option linter.unusedVariables false
set_option linter.unusedSimpArgs false
def bits_number__Mul_1.f (k : Nat) (a0_0 : Int) (a0_1 : Int) (a0_2 : Int) (a1_0 : Int) (a1_1 : Int) (a1_2 : Int)  : Option (Int × Int × Int) := (bits_alike.f k a0_0 a0_1 a0_2 a1_0 a1_1 a1_2).bind fun t1205 => (if t1205 = true then (if (Go.bits .or .u64 a0_2 a1_2) = 0 then ((bits_Mul_1.f a0_1 a1_1).bind fun t1209 => ((bits_Of.f a0_0 t1209).bind fun bt1210 => (some (bt1210.1, bt1210.2.1, bt1210.2.2)))) else ((bits_All.f k a0_0 120).bind fun bt1206 => (some (bt1206.1, bt1206.2.1, bt1206.2.2)))) else (some (0, 0, 0)))
def bits_number__Mul_1.T5 : Bool × List (List Nat × List Nat) := (true, [([], []), ([0], [0]), ([], []), ([], []), ([3], [3]), ([], []), ([5], [5]), ([2, 4, 6], [2, 4, 6]), ([1, 7, 7], [1, 7]), ([8, 8, 0, 1, 2, 3, 4, 5, 6, 7, 8], [8])])
def bits_number__Mul_1.B5 : List Nat := [0, 1, 0, 0, 8, 0, 32, 124, 255, 511]
theorem bits_number__Mul_1.tab5 : rtab .any (opsOf Tryd.f71 5) = bits_number__Mul_1.T5 := by kernel_rfl
theorem bits_number__Mul_1.bits5 : waitsOk bits_number__Mul_1.T5.2 bits_number__Mul_1.B5 = true := by kernel_rfl
set_option maxHeartbeats 8000000 in
set_option maxRecDepth 100000 in
theorem bits_number__Mul_1.calls (k : Nat) (a0_0 : Int) (a0_1 : Int) (a0_2 : Int) (a1_0 : Int) (a1_1 : Int) (a1_2 : Int)  (r1 : Int) (r2 : Int) (r3 : Int) (w : World) (h : bits_number__Mul_1.f k a0_0 a0_1 a0_2 a1_0 a1_1 a1_2 = some (r1, r2, r3)) :
  Calls Tryd.prog 71 #[.agg #[.int .i64 a0_0, .int .u64 a0_1, .int .u64 a0_2], .agg #[.int .i64 a1_0, .int .u64 a1_1, .int .u64 a1_2], .func (.func 118) #[] #[]] w fun e w' => e = .returned (.agg #[.int .i64 r1, .int .u64 r2, .int .u64 r3]) ∧ Below w.heap.size w w' := by
 have hu24 := Tryd.underlying24
 have HB := Aside0.mk (Below.refl w.heap.size w)
 have H := h
 clear h
 unfold bits_number__Mul_1.f at H
 replace H := bN H; obtain ⟨t1205, A4, H⟩ := H
 replace H := iB H; rcases H with ⟨rfl, H⟩ | ⟨rfl, H⟩
 ·replace H := iE H; rcases H with ⟨c6b0, c6b1, H⟩ | ⟨c6, c6b0, c6b1, H⟩
  ·replace H := bN H; obtain ⟨t1209, A7, H⟩ := H
   replace H := bN H; obtain ⟨⟨t1210, t1211, t1212⟩, A8, H⟩ := H; dsimp only at H
   replace H := s3 H; obtain ⟨rfl, rfl, rfl⟩ := H
   go_enter Tryd.func71, Tryd.ntmps71
   try go_wp2_with (first | (refine boxA HB 3 #[.int .i64 a0_0, .int .u64 a0_1, .int .u64 a0_2] 24 ?_; clear HB; intro gb1202 w9 BK1202 GE1202 hg hb HB; clear hb hg) | (refine boxA HB 4 #[.int .i64 a1_0, .int .u64 a1_1, .int .u64 a1_2] 24 ?_; clear HB; intro gb1203 w10 BK1203 GE1203 hg hb HB; have NB1202_1203 := nbA BK1202 hg; have NB1203_1202 := nbB BK1202 hg; replace BK1202 := bk1 BK1202 hb; clear hb hg) | (refine boxA HB 6 #[.int .i64 0, .int .u64 0, .int .u64 0] 24 ?_; clear HB; intro gb1204 w11 BK1204 GE1204 hg hb HB; have NB1202_1204 := nbA BK1202 hg; have NB1204_1202 := nbB BK1202 hg; replace BK1202 := bk1 BK1202 hb; have NB1203_1204 := nbA BK1203 hg; have NB1204_1203 := nbB BK1203 hg; replace BK1203 := bk1 BK1203 hb; clear hb hg; have hnb12 := NB1202_1203.out; have hnc12 := NB1203_1202.out; have hnb13 := NB1202_1204.out; have hnc13 := NB1204_1202.out; obtain ⟨hcz14_0, hcz14_1, hcz14_2, hfz14_0, hfz14_1, hfz14_2⟩ := cf3 BK1202; have hnb15 := NB1203_1204.out; have hnc15 := NB1204_1203.out; obtain ⟨hcz16_0, hcz16_1, hcz16_2, hfz16_0, hfz16_1, hfz16_2⟩ := cf3 BK1203) | (refine callA (some 10) Tryd.func66 #[.agg #[.int .i64 a0_0, .int .u64 a0_1, .int .u64 a0_2], .agg #[.int .i64 a1_0, .int .u64 a1_1, .int .u64 a1_2]] ?_; (with_reducible refine (bits_alike.calls k a0_0 a0_1 a0_2 a1_0 a1_1 a1_2 true _ A4.out).mono ?_); rintro e w17 ⟨rfl, hb⟩; refine ⟨_, rfl, ?_⟩; replace BK1202 := bk1 BK1202 hb; replace BK1203 := bk1 BK1203 hb; replace BK1204 := bk1 BK1204 hb; replace HB := hb1 HB hb; (try clear hb); obtain ⟨hcz18_0, hcz18_1, hcz18_2, hfz18_0, hfz18_1, hfz18_2⟩ := cf3 BK1202; obtain ⟨hcz19_0, hcz19_1, hcz19_2, hfz19_0, hfz19_1, hfz19_2⟩ := cf3 BK1203))
   replace BK1202 := bkd BK1202
   replace BK1203 := bkd BK1203
   replace BK1204 := bkd BK1204
   replace HB := hbd HB
   refine start_ (n := 10) (S := fun w' => w'.cell? ⟨gb1202, 0, none⟩ = some (.int .i64 a0_0) ∧ w'.cell? ⟨gb1202, 1, none⟩ = some (.int .u64 a0_1) ∧ w'.cell? ⟨gb1202, 2, none⟩ = some (.int .u64 a0_2) ∧ w'.cell? ⟨gb1203, 0, none⟩ = some (.int .i64 a1_0) ∧ w'.cell? ⟨gb1203, 1, none⟩ = some (.int .u64 a1_1) ∧ w'.cell? ⟨gb1203, 2, none⟩ = some (.int .u64 a1_2)) (ds := []) (tb 10 0) (by kernel_rfl) rfl (by kernel_rfl) (c3 BK1202 (d3 BK1203)) (fun hHeld => ?_); refine with_tabW bits_number__Mul_1.tab5 bits_number__Mul_1.bits5 (fun HT_ HW_ => ?_)
   generalize w17.drew = w20 at BK1202 BK1203 BK1204 HB hHeld ⊢
   refine pA 0 23 (tb 10 1) HT_ ?_
   refine pA 2 25 (tb 10 5) HT_ ?_
   refine pA 3 26 (tb 10 13) HT_ ?_
   refine pA 5 28 (tb 10 45) HT_ ?_
   refine tA 1 24 (tb 10 47) HT_ HW_ hHeld ?_
   refine tA 4 27 (tb 10 63) HT_ HW_ hHeld ?_
   refine tA 6 29 (tb 10 127) HT_ HW_ hHeld ?_
   refine oA 7 (some 30) (tb 10 255) HT_ (fun K hK => ?_)
   refine sq_goesT Tryd.func118 (by kernel_rfl) rfl #[.int .u64 a0_1, .int .u64 a1_1] (by rfl) rfl rfl rfl (by (try simp only [List.map_toArray, List.map_cons, List.map_nil]); rfl) ?_
   with_reducible refine (bits_Mul_1.calls a0_1 a1_1 t1209 _ A7.out).mono ?_
   rintro e w' ⟨rfl, ⟨nd, rfl⟩⟩
   refine ⟨_, rfl, ?_⟩
   refine hK.out _ _ (c3 BK1202 (d3 BK1203)) (fun hHeld => ?_)
   clear hK K
   refine nA ?_
   refine oA 8 (some 31) (tb 10 511) HT_ (fun K hK => ?_)
   refine gA Tryd.func24 #[.int .i64 a0_0, .int .u64 t1209] ?_
   with_reducible refine (bits_Of.calls a0_0 t1209 t1210 t1211 t1212 _ A8.out).mono ?_
   rintro e w21 ⟨rfl, hb⟩
   refine ⟨_, rfl, ?_⟩
   replace BK1202 := bk1 BK1202 hb
   replace BK1203 := bk1 BK1203 hb
   replace BK1204 := bk1 BK1204 hb
   replace HB := hb1 HB hb
   (try clear hb)
   refine hK.out _ _ (c3 BK1202 (d3 BK1203)) (fun hHeld => ?_)
   clear hK K
   refine nA ?_
   refine oA 9 (none) (tb 10 1023) HT_ (fun K hK => ?_)
   have hs22 : w21.cell? ⟨gb1204, 0, none⟩ = some (.int .i64 0) := (blk_cell BK1204.out 0).trans rfl
   have hfs22 := blk_frozen BK1204.out 0
   have hns22_0 := NB1202_1204.out
   have hns22_1 := NB1203_1204.out
   have hms22_0 := NB1204_1202.out
   have hms22_1 := NB1204_1203.out
   have hs23 : w21.cell? ⟨gb1204, 1, none⟩ = some (.int .u64 0) := (blk_cell BK1204.out 1).trans rfl
   have hfs23 := blk_frozen BK1204.out 1
   have hns23_0 := NB1202_1204.out
   have hns23_1 := NB1203_1204.out
   have hms23_0 := NB1204_1202.out
   have hms23_1 := NB1204_1203.out
   have hs24 : w21.cell? ⟨gb1204, 2, none⟩ = some (.int .u64 0) := (blk_cell BK1204.out 2).trans rfl
   have hfs24 := blk_frozen BK1204.out 2
   have hns24_0 := NB1202_1204.out
   have hns24_1 := NB1203_1204.out
   have hms24_0 := NB1204_1202.out
   have hms24_1 := NB1204_1203.out
   refine skip_ (w1 := ?_) (by rfl) rfl ?_ ?_
   rotate_left
   ·go_simp
    rfl
   refine hK.out _ _ ⟨((cell_far (p := ⟨gb1204, _, none⟩) NB1202_1204.out _).trans (((cell_far (p := ⟨gb1204, _, none⟩) NB1202_1204.out _).trans (((cell_far (p := ⟨gb1204, _, none⟩) NB1202_1204.out _).trans (hHeld.1)))))), ((cell_far (p := ⟨gb1204, _, none⟩) NB1202_1204.out _).trans (((cell_far (p := ⟨gb1204, _, none⟩) NB1202_1204.out _).trans (((cell_far (p := ⟨gb1204, _, none⟩) NB1202_1204.out _).trans (hHeld.2.1)))))), ((cell_far (p := ⟨gb1204, _, none⟩) NB1202_1204.out _).trans (((cell_far (p := ⟨gb1204, _, none⟩) NB1202_1204.out _).trans (((cell_far (p := ⟨gb1204, _, none⟩) NB1202_1204.out _).trans (hHeld.2.2.1)))))), ((cell_far (p := ⟨gb1204, _, none⟩) NB1203_1204.out _).trans (((cell_far (p := ⟨gb1204, _, none⟩) NB1203_1204.out _).trans (((cell_far (p := ⟨gb1204, _, none⟩) NB1203_1204.out _).trans (hHeld.2.2.2.1)))))), ((cell_far (p := ⟨gb1204, _, none⟩) NB1203_1204.out _).trans (((cell_far (p := ⟨gb1204, _, none⟩) NB1203_1204.out _).trans (((cell_far (p := ⟨gb1204, _, none⟩) NB1203_1204.out _).trans (hHeld.2.2.2.2.1)))))), ((cell_far (p := ⟨gb1204, _, none⟩) NB1203_1204.out _).trans (((cell_far (p := ⟨gb1204, _, none⟩) NB1203_1204.out _).trans (((cell_far (p := ⟨gb1204, _, none⟩) NB1203_1204.out _).trans (hHeld.2.2.2.2.2))))))⟩ (fun hHeld => ?_)
   clear hK K
   refine done_ (done_of HT_.out (by kernel_rfl)) ?_
   try go_wp2
   refine retA gb1204 24 #[.int .i64 t1210, .int .u64 t1211, .int .u64 t1212] (put3 BK1204) Tryd.underlying24 ?_
   exact ⟨by rfl, by repeat (with_reducible first | exact HB.out | refine below_set ?_ GE1204.out)⟩
  ·replace H := bN H; obtain ⟨⟨t1206, t1207, t1208⟩, A25, H⟩ := H; dsimp only at H
   replace H := s3 H; obtain ⟨rfl, rfl, rfl⟩ := H
   go_enter Tryd.func71, Tryd.ntmps71
   go_wp2_with (first | (refine boxA HB 3 #[.int .i64 a0_0, .int .u64 a0_1, .int .u64 a0_2] 24 ?_; clear HB; intro gb1202 w26 BK1202 GE1202 hg hb HB; clear hb hg) | (refine boxA HB 4 #[.int .i64 a1_0, .int .u64 a1_1, .int .u64 a1_2] 24 ?_; clear HB; intro gb1203 w27 BK1203 GE1203 hg hb HB; have NB1202_1203 := nbA BK1202 hg; have NB1203_1202 := nbB BK1202 hg; replace BK1202 := bk1 BK1202 hb; clear hb hg) | (refine boxA HB 6 #[.int .i64 0, .int .u64 0, .int .u64 0] 24 ?_; clear HB; intro gb1204 w28 BK1204 GE1204 hg hb HB; have NB1202_1204 := nbA BK1202 hg; have NB1204_1202 := nbB BK1202 hg; replace BK1202 := bk1 BK1202 hb; have NB1203_1204 := nbA BK1203 hg; have NB1204_1203 := nbB BK1203 hg; replace BK1203 := bk1 BK1203 hb; clear hb hg; have hnb29 := NB1202_1203.out; have hnc29 := NB1203_1202.out; have hnb30 := NB1202_1204.out; have hnc30 := NB1204_1202.out; obtain ⟨hcz31_0, hcz31_1, hcz31_2, hfz31_0, hfz31_1, hfz31_2⟩ := cf3 BK1202; have hnb32 := NB1203_1204.out; have hnc32 := NB1204_1203.out; obtain ⟨hcz33_0, hcz33_1, hcz33_2, hfz33_0, hfz33_1, hfz33_2⟩ := cf3 BK1203) | (refine callA (some 10) Tryd.func66 #[.agg #[.int .i64 a0_0, .int .u64 a0_1, .int .u64 a0_2], .agg #[.int .i64 a1_0, .int .u64 a1_1, .int .u64 a1_2]] ?_; (with_reducible refine (bits_alike.calls k a0_0 a0_1 a0_2 a1_0 a1_1 a1_2 true _ A4.out).mono ?_); rintro e w34 ⟨rfl, hb⟩; refine ⟨_, rfl, ?_⟩; replace BK1202 := bk1 BK1202 hb; replace BK1203 := bk1 BK1203 hb; replace BK1204 := bk1 BK1204 hb; replace HB := hb1 HB hb; (try clear hb); obtain ⟨hcz35_0, hcz35_1, hcz35_2, hfz35_0, hfz35_1, hfz35_2⟩ := cf3 BK1202; obtain ⟨hcz36_0, hcz36_1, hcz36_2, hfz36_0, hfz36_1, hfz36_2⟩ := cf3 BK1203) | (refine callA (some 22) Tryd.func25 #[.int .i64 a0_0, .int .u8 120] ?_; (with_reducible refine (bits_All.calls k a0_0 120 t1206 t1207 t1208 _ A25.out).mono ?_); rintro e w37 ⟨rfl, hb⟩; refine ⟨_, rfl, ?_⟩; replace BK1202 := bk1 BK1202 hb; replace BK1203 := bk1 BK1203 hb; replace BK1204 := bk1 BK1204 hb; replace HB := hb1 HB hb; (try clear hb); obtain ⟨hcz38_0, hcz38_1, hcz38_2, hfz38_0, hfz38_1, hfz38_2⟩ := cf3 BK1204))
   refine retA gb1204 24 #[.int .i64 t1206, .int .u64 t1207, .int .u64 t1208] (put3 BK1204) Tryd.underlying24 ?_
   exact ⟨by rfl, by repeat (with_reducible first | exact HB.out | refine below_set ?_ GE1204.out)⟩
 ·replace H := s3 H; obtain ⟨rfl, rfl, rfl⟩ := H
  go_enter Tryd.func71, Tryd.ntmps71
  go_wp2_with (first | (refine boxA HB 3 #[.int .i64 a0_0, .int .u64 a0_1, .int .u64 a0_2] 24 ?_; clear HB; intro gb1202 w39 BK1202 GE1202 hg hb HB; clear hb hg) | (refine boxA HB 4 #[.int .i64 a1_0, .int .u64 a1_1, .int .u64 a1_2] 24 ?_; clear HB; intro gb1203 w40 BK1203 GE1203 hg hb HB; have NB1202_1203 := nbA BK1202 hg; have NB1203_1202 := nbB BK1202 hg; replace BK1202 := bk1 BK1202 hb; clear hb hg) | (refine boxA HB 6 #[.int .i64 0, .int .u64 0, .int .u64 0] 24 ?_; clear HB; intro gb1204 w41 BK1204 GE1204 hg hb HB; have NB1202_1204 := nbA BK1202 hg; have NB1204_1202 := nbB BK1202 hg; replace BK1202 := bk1 BK1202 hb; have NB1203_1204 := nbA BK1203 hg; have NB1204_1203 := nbB BK1203 hg; replace BK1203 := bk1 BK1203 hb; clear hb hg; have hnb42 := NB1202_1203.out; have hnc42 := NB1203_1202.out; have hnb43 := NB1202_1204.out; have hnc43 := NB1204_1202.out; obtain ⟨hcz44_0, hcz44_1, hcz44_2, hfz44_0, hfz44_1, hfz44_2⟩ := cf3 BK1202; have hnb45 := NB1203_1204.out; have hnc45 := NB1204_1203.out; obtain ⟨hcz46_0, hcz46_1, hcz46_2, hfz46_0, hfz46_1, hfz46_2⟩ := cf3 BK1203) | (refine callA (some 10) Tryd.func66 #[.agg #[.int .i64 a0_0, .int .u64 a0_1, .int .u64 a0_2], .agg #[.int .i64 a1_0, .int .u64 a1_1, .int .u64 a1_2]] ?_; (with_reducible refine (bits_alike.calls k a0_0 a0_1 a0_2 a1_0 a1_1 a1_2 false _ A4.out).mono ?_); rintro e w47 ⟨rfl, hb⟩; refine ⟨_, rfl, ?_⟩; replace BK1202 := bk1 BK1202 hb; replace BK1203 := bk1 BK1203 hb; replace BK1204 := bk1 BK1204 hb; replace HB := hb1 HB hb; (try clear hb); obtain ⟨hcz48_0, hcz48_1, hcz48_2, hfz48_0, hfz48_1, hfz48_2⟩ := cf3 BK1204))
  refine retA gb1204 24 #[.int .i64 0, .int .u64 0, .int .u64 0] (put3 BK1204) Tryd.underlying24 ?_
  exact ⟨by rfl, by repeat (with_reducible first | exact HB.out | refine below_set ?_ GE1204.out)⟩
end Go.Proofs.YtfigblfjogpojaaDoor.PBits
end
section
namespace Go.Proofs.YtfigblfjogpojaaDoor.PBits
open Go.RowKit Go.Proofs.YtfigblfjogpojaaDoorW.PrintWords Go.Proofs.YtfigblfjogpojaaDoorW.PrintLast Go.Proofs.YtfigblfjogpojaaDoorW.PrintMore
attribute [local go_sem] max2_int min2_int max_two min_two max_three min_three max_four min_four
set_option linter.unusedVariables false
set_option linter.unusedSimpArgs false
def bits_Mul.f (k : Nat) (a0_0 : Int) (a0_1 : Int) (a0_2 : Int) (a1_0 : Int) (a1_1 : Int) (a1_2 : Int) : Option (Int × Int × Int) := (bits_number__Mul_1.f k a0_0 a0_1 a0_2 a1_0 a1_1 a1_2).bind fun bt1216 => (some (bt1216.1, bt1216.2.1, bt1216.2.2))
set_option maxHeartbeats 8000000 in
set_option maxRecDepth 100000 in
theorem bits_Mul.calls (k : Nat) (a0_0 : Int) (a0_1 : Int) (a0_2 : Int) (a1_0 : Int) (a1_1 : Int) (a1_2 : Int) (r1 : Int) (r2 : Int) (r3 : Int) (w : World) (h : bits_Mul.f k a0_0 a0_1 a0_2 a1_0 a1_1 a1_2 = some (r1, r2, r3)) :
  Calls Tryd.prog 105 #[.agg #[.int .i64 a0_0, .int .u64 a0_1, .int .u64 a0_2], .agg #[.int .i64 a1_0, .int .u64 a1_1, .int .u64 a1_2]] w fun e w' => e = .returned (.agg #[.int .i64 r1, .int .u64 r2, .int .u64 r3]) ∧ Below w.heap.size w w' := by
 have hu24 := Tryd.underlying24
 have HB := Aside0.mk (Below.refl w.heap.size w)
 have H := h
 clear h
 unfold bits_Mul.f at H
 replace H := bN H; obtain ⟨⟨t1216, t1217, t1218⟩, A3, H⟩ := H; dsimp only at H
 replace H := s3 H; obtain ⟨rfl, rfl, rfl⟩ := H
 go_enter Tryd.func105, Tryd.ntmps105
 go_wp2_with (first | (refine boxA HB 2 #[.int .i64 a0_0, .int .u64 a0_1, .int .u64 a0_2] 24 ?_; clear HB; intro gb1213 w4 BK1213 GE1213 hg hb HB; clear hb hg) | (refine boxA HB 3 #[.int .i64 a1_0, .int .u64 a1_1, .int .u64 a1_2] 24 ?_; clear HB; intro gb1214 w5 BK1214 GE1214 hg hb HB; have NB1213_1214 := nbA BK1213 hg; have NB1214_1213 := nbB BK1213 hg; replace BK1213 := bk1 BK1213 hb; clear hb hg) | (refine boxA HB 4 #[.int .i64 0, .int .u64 0, .int .u64 0] 24 ?_; clear HB; intro gb1215 w6 BK1215 GE1215 hg hb HB; have NB1213_1215 := nbA BK1213 hg; have NB1215_1213 := nbB BK1213 hg; replace BK1213 := bk1 BK1213 hb; have NB1214_1215 := nbA BK1214 hg; have NB1215_1214 := nbB BK1214 hg; replace BK1214 := bk1 BK1214 hb; clear hb hg; have hnb7 := NB1213_1214.out; have hnc7 := NB1214_1213.out; have hnb8 := NB1213_1215.out; have hnc8 := NB1215_1213.out; obtain ⟨hcz9_0, hcz9_1, hcz9_2, hfz9_0, hfz9_1, hfz9_2⟩ := cf3 BK1213; have hnb10 := NB1214_1215.out; have hnc10 := NB1215_1214.out; obtain ⟨hcz11_0, hcz11_1, hcz11_2, hfz11_0, hfz11_1, hfz11_2⟩ := cf3 BK1214) | (refine callA (some 7) Tryd.func71 #[.agg #[.int .i64 a0_0, .int .u64 a0_1, .int .u64 a0_2], .agg #[.int .i64 a1_0, .int .u64 a1_1, .int .u64 a1_2], (.func (.func 118) #[] #[])] ?_; (with_reducible refine (bits_number__Mul_1.calls k a0_0 a0_1 a0_2 a1_0 a1_1 a1_2  t1216 t1217 t1218 _ A3.out).mono ?_); rintro e w12 ⟨rfl, hb⟩; refine ⟨_, rfl, ?_⟩; replace BK1213 := bk1 BK1213 hb; replace BK1214 := bk1 BK1214 hb; replace BK1215 := bk1 BK1215 hb; replace HB := hb1 HB hb; (try clear hb); obtain ⟨hcz13_0, hcz13_1, hcz13_2, hfz13_0, hfz13_1, hfz13_2⟩ := cf3 BK1215))
 refine retA gb1215 24 #[.int .i64 t1216, .int .u64 t1217, .int .u64 t1218] (put3 BK1215) Tryd.underlying24 ?_
 exact ⟨by rfl, by repeat (with_reducible first | exact HB.out | refine below_set ?_ GE1215.out)⟩
end Go.Proofs.YtfigblfjogpojaaDoor.PBits
end
section
namespace Go.Proofs.YtfigblfjogpojaaDoor.PBits
open Go.RowKit Go.Proofs.YtfigblfjogpojaaDoorW.PrintWords Go.Proofs.YtfigblfjogpojaaDoorW.PrintLast Go.Proofs.YtfigblfjogpojaaDoorW.PrintMore
attribute [local go_sem] max2_int min2_int max_two min_two max_three min_three max_four min_four
set_option linter.unusedVariables false
set_option linter.unusedSimpArgs false
def bits_Div.f (k : Nat) (a0_0 : Int) (a0_1 : Int) (a0_2 : Int) (a1_0 : Int) (a1_1 : Int) (a1_2 : Int) (a2 : Bool) : Option (Int × Int × Int) := (bits_alike.f k a0_0 a0_1 a0_2 a1_0 a1_1 a1_2).bind fun t1228 => (if t1228 = true then (if (Go.bits .or .u64 a0_2 a1_2) = 0 then (if a1_1 = 0 then ((bits_All.f k a0_0 120).bind fun bt1229 => (some (bt1229.1, bt1229.2.1, bt1229.2.2))) else ((bits_divide.f k a0_0 a0_1 a0_2 a1_0 a1_1 a1_2 a2).bind fun bt1235 => ((bits_Of.f a0_0 bt1235.1).bind fun bt1237 => (some (bt1237.1, bt1237.2.1, bt1237.2.2))))) else ((bits_All.f k a0_0 120).bind fun bt1232 => (some (bt1232.1, bt1232.2.1, bt1232.2.2)))) else (some (0, 0, 0)))
set_option maxHeartbeats 8000000 in
set_option maxRecDepth 100000 in
theorem bits_Div.calls (k : Nat) (a0_0 : Int) (a0_1 : Int) (a0_2 : Int) (a1_0 : Int) (a1_1 : Int) (a1_2 : Int) (a2 : Bool) (r1 : Int) (r2 : Int) (r3 : Int) (w : World) (h : bits_Div.f k a0_0 a0_1 a0_2 a1_0 a1_1 a1_2 a2 = some (r1, r2, r3)) :
  Calls Tryd.prog 106 #[.agg #[.int .i64 a0_0, .int .u64 a0_1, .int .u64 a0_2], .agg #[.int .i64 a1_0, .int .u64 a1_1, .int .u64 a1_2], .bool a2] w fun e w' => e = .returned (.agg #[.int .i64 r1, .int .u64 r2, .int .u64 r3]) ∧ Below w.heap.size w w' := by
 have hu24 := Tryd.underlying24
 have HB := Aside0.mk (Below.refl w.heap.size w)
 have H := h
 clear h
 unfold bits_Div.f at H
 replace H := bN H; obtain ⟨t1228, A4, H⟩ := H
 replace H := iB H; rcases H with ⟨rfl, H⟩ | ⟨rfl, H⟩
 ·replace H := iE H; rcases H with ⟨c6b0, c6b1, H⟩ | ⟨c6, c6b0, c6b1, H⟩
  ·replace H := iE H; rcases H with ⟨c7b0, c7b1, H⟩ | ⟨c7, c7b0, c7b1, H⟩
   ·replace H := bN H; obtain ⟨⟨t1229, t1230, t1231⟩, A8, H⟩ := H; dsimp only at H
    replace H := s3 H; obtain ⟨rfl, rfl, rfl⟩ := H
    go_enter Tryd.func106, Tryd.ntmps106
    go_wp2_with (first | (refine boxA HB 3 #[.int .i64 a0_0, .int .u64 a0_1, .int .u64 a0_2] 24 ?_; clear HB; intro gb1225 w9 BK1225 GE1225 hg hb HB; clear hb hg) | (refine boxA HB 4 #[.int .i64 a1_0, .int .u64 a1_1, .int .u64 a1_2] 24 ?_; clear HB; intro gb1226 w10 BK1226 GE1226 hg hb HB; have NB1225_1226 := nbA BK1225 hg; have NB1226_1225 := nbB BK1225 hg; replace BK1225 := bk1 BK1225 hb; clear hb hg) | (refine boxA HB 6 #[.int .i64 0, .int .u64 0, .int .u64 0] 24 ?_; clear HB; intro gb1227 w11 BK1227 GE1227 hg hb HB; have NB1225_1227 := nbA BK1225 hg; have NB1227_1225 := nbB BK1225 hg; replace BK1225 := bk1 BK1225 hb; have NB1226_1227 := nbA BK1226 hg; have NB1227_1226 := nbB BK1226 hg; replace BK1226 := bk1 BK1226 hb; clear hb hg; have hnb12 := NB1225_1226.out; have hnc12 := NB1226_1225.out; have hnb13 := NB1225_1227.out; have hnc13 := NB1227_1225.out; obtain ⟨hcz14_0, hcz14_1, hcz14_2, hfz14_0, hfz14_1, hfz14_2⟩ := cf3 BK1225; have hnb15 := NB1226_1227.out; have hnc15 := NB1227_1226.out; obtain ⟨hcz16_0, hcz16_1, hcz16_2, hfz16_0, hfz16_1, hfz16_2⟩ := cf3 BK1226) | (refine callA (some 12) Tryd.func66 #[.agg #[.int .i64 a0_0, .int .u64 a0_1, .int .u64 a0_2], .agg #[.int .i64 a1_0, .int .u64 a1_1, .int .u64 a1_2]] ?_; (with_reducible refine (bits_alike.calls k a0_0 a0_1 a0_2 a1_0 a1_1 a1_2 true _ A4.out).mono ?_); rintro e w17 ⟨rfl, hb⟩; refine ⟨_, rfl, ?_⟩; replace BK1225 := bk1 BK1225 hb; replace BK1226 := bk1 BK1226 hb; replace BK1227 := bk1 BK1227 hb; replace HB := hb1 HB hb; (try clear hb); obtain ⟨hcz18_0, hcz18_1, hcz18_2, hfz18_0, hfz18_1, hfz18_2⟩ := cf3 BK1225; obtain ⟨hcz19_0, hcz19_1, hcz19_2, hfz19_0, hfz19_1, hfz19_2⟩ := cf3 BK1226) | (refine callA (some 29) Tryd.func25 #[.int .i64 a0_0, .int .u8 120] ?_; (with_reducible refine (bits_All.calls k a0_0 120 t1229 t1230 t1231 _ A8.out).mono ?_); rintro e w20 ⟨rfl, hb⟩; refine ⟨_, rfl, ?_⟩; replace BK1225 := bk1 BK1225 hb; replace BK1226 := bk1 BK1226 hb; replace BK1227 := bk1 BK1227 hb; replace HB := hb1 HB hb; (try clear hb); obtain ⟨hcz21_0, hcz21_1, hcz21_2, hfz21_0, hfz21_1, hfz21_2⟩ := cf3 BK1227))
    refine retA gb1227 24 #[.int .i64 t1229, .int .u64 t1230, .int .u64 t1231] (put3 BK1227) Tryd.underlying24 ?_
    exact ⟨by rfl, by repeat (with_reducible first | exact HB.out | refine below_set ?_ GE1227.out)⟩
   ·replace H := bN H; obtain ⟨⟨t1235, t1236⟩, A22, H⟩ := H; dsimp only at H
    replace H := bN H; obtain ⟨⟨t1237, t1238, t1239⟩, A23, H⟩ := H; dsimp only at H
    replace H := s3 H; obtain ⟨rfl, rfl, rfl⟩ := H
    go_enter Tryd.func106, Tryd.ntmps106
    go_wp2_with (first | (refine boxA HB 3 #[.int .i64 a0_0, .int .u64 a0_1, .int .u64 a0_2] 24 ?_; clear HB; intro gb1225 w24 BK1225 GE1225 hg hb HB; clear hb hg) | (refine boxA HB 4 #[.int .i64 a1_0, .int .u64 a1_1, .int .u64 a1_2] 24 ?_; clear HB; intro gb1226 w25 BK1226 GE1226 hg hb HB; have NB1225_1226 := nbA BK1225 hg; have NB1226_1225 := nbB BK1225 hg; replace BK1225 := bk1 BK1225 hb; clear hb hg) | (refine boxA HB 6 #[.int .i64 0, .int .u64 0, .int .u64 0] 24 ?_; clear HB; intro gb1227 w26 BK1227 GE1227 hg hb HB; have NB1225_1227 := nbA BK1225 hg; have NB1227_1225 := nbB BK1225 hg; replace BK1225 := bk1 BK1225 hb; have NB1226_1227 := nbA BK1226 hg; have NB1227_1226 := nbB BK1226 hg; replace BK1226 := bk1 BK1226 hb; clear hb hg; have hnb27 := NB1225_1226.out; have hnc27 := NB1226_1225.out; have hnb28 := NB1225_1227.out; have hnc28 := NB1227_1225.out; obtain ⟨hcz29_0, hcz29_1, hcz29_2, hfz29_0, hfz29_1, hfz29_2⟩ := cf3 BK1225; have hnb30 := NB1226_1227.out; have hnc30 := NB1227_1226.out; obtain ⟨hcz31_0, hcz31_1, hcz31_2, hfz31_0, hfz31_1, hfz31_2⟩ := cf3 BK1226) | (refine callA (some 12) Tryd.func66 #[.agg #[.int .i64 a0_0, .int .u64 a0_1, .int .u64 a0_2], .agg #[.int .i64 a1_0, .int .u64 a1_1, .int .u64 a1_2]] ?_; (with_reducible refine (bits_alike.calls k a0_0 a0_1 a0_2 a1_0 a1_1 a1_2 true _ A4.out).mono ?_); rintro e w32 ⟨rfl, hb⟩; refine ⟨_, rfl, ?_⟩; replace BK1225 := bk1 BK1225 hb; replace BK1226 := bk1 BK1226 hb; replace BK1227 := bk1 BK1227 hb; replace HB := hb1 HB hb; (try clear hb); obtain ⟨hcz33_0, hcz33_1, hcz33_2, hfz33_0, hfz33_1, hfz33_2⟩ := cf3 BK1225; obtain ⟨hcz34_0, hcz34_1, hcz34_2, hfz34_0, hfz34_1, hfz34_2⟩ := cf3 BK1226) | (refine callA (some 34) Tryd.func119 #[.agg #[.int .i64 a0_0, .int .u64 a0_1, .int .u64 a0_2], .agg #[.int .i64 a1_0, .int .u64 a1_1, .int .u64 a1_2], .bool a2] ?_; (with_reducible refine (bits_divide.calls k a0_0 a0_1 a0_2 a1_0 a1_1 a1_2 a2 t1235 t1236 _ A22.out).mono ?_); rintro e w35 ⟨rfl, hb⟩; refine ⟨_, rfl, ?_⟩; replace BK1225 := bk1 BK1225 hb; replace BK1226 := bk1 BK1226 hb; replace BK1227 := bk1 BK1227 hb; replace HB := hb1 HB hb; (try clear hb); obtain ⟨hcz36_0, hcz36_1, hcz36_2, hfz36_0, hfz36_1, hfz36_2⟩ := cf3 BK1225) | (refine callA (some 40) Tryd.func24 #[.int .i64 a0_0, .int .u64 t1235] ?_; (with_reducible refine (bits_Of.calls a0_0 t1235 t1237 t1238 t1239 _ A23.out).mono ?_); rintro e w37 ⟨rfl, hb⟩; refine ⟨_, rfl, ?_⟩; replace BK1225 := bk1 BK1225 hb; replace BK1226 := bk1 BK1226 hb; replace BK1227 := bk1 BK1227 hb; replace HB := hb1 HB hb; (try clear hb); obtain ⟨hcz38_0, hcz38_1, hcz38_2, hfz38_0, hfz38_1, hfz38_2⟩ := cf3 BK1227))
    refine retA gb1227 24 #[.int .i64 t1237, .int .u64 t1238, .int .u64 t1239] (put3 BK1227) Tryd.underlying24 ?_
    exact ⟨by rfl, by repeat (with_reducible first | exact HB.out | refine below_set ?_ GE1227.out)⟩
  ·replace H := bN H; obtain ⟨⟨t1232, t1233, t1234⟩, A39, H⟩ := H; dsimp only at H
   replace H := s3 H; obtain ⟨rfl, rfl, rfl⟩ := H
   go_enter Tryd.func106, Tryd.ntmps106
   go_wp2_with (first | (refine boxA HB 3 #[.int .i64 a0_0, .int .u64 a0_1, .int .u64 a0_2] 24 ?_; clear HB; intro gb1225 w40 BK1225 GE1225 hg hb HB; clear hb hg) | (refine boxA HB 4 #[.int .i64 a1_0, .int .u64 a1_1, .int .u64 a1_2] 24 ?_; clear HB; intro gb1226 w41 BK1226 GE1226 hg hb HB; have NB1225_1226 := nbA BK1225 hg; have NB1226_1225 := nbB BK1225 hg; replace BK1225 := bk1 BK1225 hb; clear hb hg) | (refine boxA HB 6 #[.int .i64 0, .int .u64 0, .int .u64 0] 24 ?_; clear HB; intro gb1227 w42 BK1227 GE1227 hg hb HB; have NB1225_1227 := nbA BK1225 hg; have NB1227_1225 := nbB BK1225 hg; replace BK1225 := bk1 BK1225 hb; have NB1226_1227 := nbA BK1226 hg; have NB1227_1226 := nbB BK1226 hg; replace BK1226 := bk1 BK1226 hb; clear hb hg; have hnb43 := NB1225_1226.out; have hnc43 := NB1226_1225.out; have hnb44 := NB1225_1227.out; have hnc44 := NB1227_1225.out; obtain ⟨hcz45_0, hcz45_1, hcz45_2, hfz45_0, hfz45_1, hfz45_2⟩ := cf3 BK1225; have hnb46 := NB1226_1227.out; have hnc46 := NB1227_1226.out; obtain ⟨hcz47_0, hcz47_1, hcz47_2, hfz47_0, hfz47_1, hfz47_2⟩ := cf3 BK1226) | (refine callA (some 12) Tryd.func66 #[.agg #[.int .i64 a0_0, .int .u64 a0_1, .int .u64 a0_2], .agg #[.int .i64 a1_0, .int .u64 a1_1, .int .u64 a1_2]] ?_; (with_reducible refine (bits_alike.calls k a0_0 a0_1 a0_2 a1_0 a1_1 a1_2 true _ A4.out).mono ?_); rintro e w48 ⟨rfl, hb⟩; refine ⟨_, rfl, ?_⟩; replace BK1225 := bk1 BK1225 hb; replace BK1226 := bk1 BK1226 hb; replace BK1227 := bk1 BK1227 hb; replace HB := hb1 HB hb; (try clear hb); obtain ⟨hcz49_0, hcz49_1, hcz49_2, hfz49_0, hfz49_1, hfz49_2⟩ := cf3 BK1225; obtain ⟨hcz50_0, hcz50_1, hcz50_2, hfz50_0, hfz50_1, hfz50_2⟩ := cf3 BK1226) | (refine callA (some 29) Tryd.func25 #[.int .i64 a0_0, .int .u8 120] ?_; (with_reducible refine (bits_All.calls k a0_0 120 t1232 t1233 t1234 _ A39.out).mono ?_); rintro e w51 ⟨rfl, hb⟩; refine ⟨_, rfl, ?_⟩; replace BK1225 := bk1 BK1225 hb; replace BK1226 := bk1 BK1226 hb; replace BK1227 := bk1 BK1227 hb; replace HB := hb1 HB hb; (try clear hb); obtain ⟨hcz52_0, hcz52_1, hcz52_2, hfz52_0, hfz52_1, hfz52_2⟩ := cf3 BK1227))
   refine retA gb1227 24 #[.int .i64 t1232, .int .u64 t1233, .int .u64 t1234] (put3 BK1227) Tryd.underlying24 ?_
   exact ⟨by rfl, by repeat (with_reducible first | exact HB.out | refine below_set ?_ GE1227.out)⟩
 ·replace H := s3 H; obtain ⟨rfl, rfl, rfl⟩ := H
  go_enter Tryd.func106, Tryd.ntmps106
  go_wp2_with (first | (refine boxA HB 3 #[.int .i64 a0_0, .int .u64 a0_1, .int .u64 a0_2] 24 ?_; clear HB; intro gb1225 w53 BK1225 GE1225 hg hb HB; clear hb hg) | (refine boxA HB 4 #[.int .i64 a1_0, .int .u64 a1_1, .int .u64 a1_2] 24 ?_; clear HB; intro gb1226 w54 BK1226 GE1226 hg hb HB; have NB1225_1226 := nbA BK1225 hg; have NB1226_1225 := nbB BK1225 hg; replace BK1225 := bk1 BK1225 hb; clear hb hg) | (refine boxA HB 6 #[.int .i64 0, .int .u64 0, .int .u64 0] 24 ?_; clear HB; intro gb1227 w55 BK1227 GE1227 hg hb HB; have NB1225_1227 := nbA BK1225 hg; have NB1227_1225 := nbB BK1225 hg; replace BK1225 := bk1 BK1225 hb; have NB1226_1227 := nbA BK1226 hg; have NB1227_1226 := nbB BK1226 hg; replace BK1226 := bk1 BK1226 hb; clear hb hg; have hnb56 := NB1225_1226.out; have hnc56 := NB1226_1225.out; have hnb57 := NB1225_1227.out; have hnc57 := NB1227_1225.out; obtain ⟨hcz58_0, hcz58_1, hcz58_2, hfz58_0, hfz58_1, hfz58_2⟩ := cf3 BK1225; have hnb59 := NB1226_1227.out; have hnc59 := NB1227_1226.out; obtain ⟨hcz60_0, hcz60_1, hcz60_2, hfz60_0, hfz60_1, hfz60_2⟩ := cf3 BK1226) | (refine callA (some 12) Tryd.func66 #[.agg #[.int .i64 a0_0, .int .u64 a0_1, .int .u64 a0_2], .agg #[.int .i64 a1_0, .int .u64 a1_1, .int .u64 a1_2]] ?_; (with_reducible refine (bits_alike.calls k a0_0 a0_1 a0_2 a1_0 a1_1 a1_2 false _ A4.out).mono ?_); rintro e w61 ⟨rfl, hb⟩; refine ⟨_, rfl, ?_⟩; replace BK1225 := bk1 BK1225 hb; replace BK1226 := bk1 BK1226 hb; replace BK1227 := bk1 BK1227 hb; replace HB := hb1 HB hb; (try clear hb); obtain ⟨hcz62_0, hcz62_1, hcz62_2, hfz62_0, hfz62_1, hfz62_2⟩ := cf3 BK1227))
  refine retA gb1227 24 #[.int .i64 0, .int .u64 0, .int .u64 0] (put3 BK1227) Tryd.underlying24 ?_
  exact ⟨by rfl, by repeat (with_reducible first | exact HB.out | refine below_set ?_ GE1227.out)⟩
end Go.Proofs.YtfigblfjogpojaaDoor.PBits
end
section
namespace Go.Proofs.YtfigblfjogpojaaDoor.PBits
open Go.RowKit Go.Proofs.YtfigblfjogpojaaDoorW.PrintWords Go.Proofs.YtfigblfjogpojaaDoorW.PrintLast Go.Proofs.YtfigblfjogpojaaDoorW.PrintMore
attribute [local go_sem] max2_int min2_int max_two min_two max_three min_three max_four min_four
set_option linter.unusedVariables false
set_option linter.unusedSimpArgs false
def bits_Mod.f (k : Nat) (a0_0 : Int) (a0_1 : Int) (a0_2 : Int) (a1_0 : Int) (a1_1 : Int) (a1_2 : Int) (a2 : Bool) : Option (Int × Int × Int) := (bits_alike.f k a0_0 a0_1 a0_2 a1_0 a1_1 a1_2).bind fun t1243 => (if t1243 = true then (if (Go.bits .or .u64 a0_2 a1_2) = 0 then (if a1_1 = 0 then ((bits_All.f k a0_0 120).bind fun bt1244 => (some (bt1244.1, bt1244.2.1, bt1244.2.2))) else ((bits_divide.f k a0_0 a0_1 a0_2 a1_0 a1_1 a1_2 a2).bind fun bt1250 => ((bits_Of.f a0_0 bt1250.2).bind fun bt1252 => (some (bt1252.1, bt1252.2.1, bt1252.2.2))))) else ((bits_All.f k a0_0 120).bind fun bt1247 => (some (bt1247.1, bt1247.2.1, bt1247.2.2)))) else (some (0, 0, 0)))
set_option maxHeartbeats 8000000 in
set_option maxRecDepth 100000 in
theorem bits_Mod.calls (k : Nat) (a0_0 : Int) (a0_1 : Int) (a0_2 : Int) (a1_0 : Int) (a1_1 : Int) (a1_2 : Int) (a2 : Bool) (r1 : Int) (r2 : Int) (r3 : Int) (w : World) (h : bits_Mod.f k a0_0 a0_1 a0_2 a1_0 a1_1 a1_2 a2 = some (r1, r2, r3)) :
  Calls Tryd.prog 107 #[.agg #[.int .i64 a0_0, .int .u64 a0_1, .int .u64 a0_2], .agg #[.int .i64 a1_0, .int .u64 a1_1, .int .u64 a1_2], .bool a2] w fun e w' => e = .returned (.agg #[.int .i64 r1, .int .u64 r2, .int .u64 r3]) ∧ Below w.heap.size w w' := by
 have hu24 := Tryd.underlying24
 have HB := Aside0.mk (Below.refl w.heap.size w)
 have H := h
 clear h
 unfold bits_Mod.f at H
 replace H := bN H; obtain ⟨t1243, A4, H⟩ := H
 replace H := iB H; rcases H with ⟨rfl, H⟩ | ⟨rfl, H⟩
 ·replace H := iE H; rcases H with ⟨c6b0, c6b1, H⟩ | ⟨c6, c6b0, c6b1, H⟩
  ·replace H := iE H; rcases H with ⟨c7b0, c7b1, H⟩ | ⟨c7, c7b0, c7b1, H⟩
   ·replace H := bN H; obtain ⟨⟨t1244, t1245, t1246⟩, A8, H⟩ := H; dsimp only at H
    replace H := s3 H; obtain ⟨rfl, rfl, rfl⟩ := H
    go_enter Tryd.func107, Tryd.ntmps107
    go_wp2_with (first | (refine boxA HB 3 #[.int .i64 a0_0, .int .u64 a0_1, .int .u64 a0_2] 24 ?_; clear HB; intro gb1240 w9 BK1240 GE1240 hg hb HB; clear hb hg) | (refine boxA HB 4 #[.int .i64 a1_0, .int .u64 a1_1, .int .u64 a1_2] 24 ?_; clear HB; intro gb1241 w10 BK1241 GE1241 hg hb HB; have NB1240_1241 := nbA BK1240 hg; have NB1241_1240 := nbB BK1240 hg; replace BK1240 := bk1 BK1240 hb; clear hb hg) | (refine boxA HB 6 #[.int .i64 0, .int .u64 0, .int .u64 0] 24 ?_; clear HB; intro gb1242 w11 BK1242 GE1242 hg hb HB; have NB1240_1242 := nbA BK1240 hg; have NB1242_1240 := nbB BK1240 hg; replace BK1240 := bk1 BK1240 hb; have NB1241_1242 := nbA BK1241 hg; have NB1242_1241 := nbB BK1241 hg; replace BK1241 := bk1 BK1241 hb; clear hb hg; have hnb12 := NB1240_1241.out; have hnc12 := NB1241_1240.out; have hnb13 := NB1240_1242.out; have hnc13 := NB1242_1240.out; obtain ⟨hcz14_0, hcz14_1, hcz14_2, hfz14_0, hfz14_1, hfz14_2⟩ := cf3 BK1240; have hnb15 := NB1241_1242.out; have hnc15 := NB1242_1241.out; obtain ⟨hcz16_0, hcz16_1, hcz16_2, hfz16_0, hfz16_1, hfz16_2⟩ := cf3 BK1241) | (refine callA (some 12) Tryd.func66 #[.agg #[.int .i64 a0_0, .int .u64 a0_1, .int .u64 a0_2], .agg #[.int .i64 a1_0, .int .u64 a1_1, .int .u64 a1_2]] ?_; (with_reducible refine (bits_alike.calls k a0_0 a0_1 a0_2 a1_0 a1_1 a1_2 true _ A4.out).mono ?_); rintro e w17 ⟨rfl, hb⟩; refine ⟨_, rfl, ?_⟩; replace BK1240 := bk1 BK1240 hb; replace BK1241 := bk1 BK1241 hb; replace BK1242 := bk1 BK1242 hb; replace HB := hb1 HB hb; (try clear hb); obtain ⟨hcz18_0, hcz18_1, hcz18_2, hfz18_0, hfz18_1, hfz18_2⟩ := cf3 BK1240; obtain ⟨hcz19_0, hcz19_1, hcz19_2, hfz19_0, hfz19_1, hfz19_2⟩ := cf3 BK1241) | (refine callA (some 29) Tryd.func25 #[.int .i64 a0_0, .int .u8 120] ?_; (with_reducible refine (bits_All.calls k a0_0 120 t1244 t1245 t1246 _ A8.out).mono ?_); rintro e w20 ⟨rfl, hb⟩; refine ⟨_, rfl, ?_⟩; replace BK1240 := bk1 BK1240 hb; replace BK1241 := bk1 BK1241 hb; replace BK1242 := bk1 BK1242 hb; replace HB := hb1 HB hb; (try clear hb); obtain ⟨hcz21_0, hcz21_1, hcz21_2, hfz21_0, hfz21_1, hfz21_2⟩ := cf3 BK1242))
    refine retA gb1242 24 #[.int .i64 t1244, .int .u64 t1245, .int .u64 t1246] (put3 BK1242) Tryd.underlying24 ?_
    exact ⟨by rfl, by repeat (with_reducible first | exact HB.out | refine below_set ?_ GE1242.out)⟩
   ·replace H := bN H; obtain ⟨⟨t1250, t1251⟩, A22, H⟩ := H; dsimp only at H
    replace H := bN H; obtain ⟨⟨t1252, t1253, t1254⟩, A23, H⟩ := H; dsimp only at H
    replace H := s3 H; obtain ⟨rfl, rfl, rfl⟩ := H
    go_enter Tryd.func107, Tryd.ntmps107
    go_wp2_with (first | (refine boxA HB 3 #[.int .i64 a0_0, .int .u64 a0_1, .int .u64 a0_2] 24 ?_; clear HB; intro gb1240 w24 BK1240 GE1240 hg hb HB; clear hb hg) | (refine boxA HB 4 #[.int .i64 a1_0, .int .u64 a1_1, .int .u64 a1_2] 24 ?_; clear HB; intro gb1241 w25 BK1241 GE1241 hg hb HB; have NB1240_1241 := nbA BK1240 hg; have NB1241_1240 := nbB BK1240 hg; replace BK1240 := bk1 BK1240 hb; clear hb hg) | (refine boxA HB 6 #[.int .i64 0, .int .u64 0, .int .u64 0] 24 ?_; clear HB; intro gb1242 w26 BK1242 GE1242 hg hb HB; have NB1240_1242 := nbA BK1240 hg; have NB1242_1240 := nbB BK1240 hg; replace BK1240 := bk1 BK1240 hb; have NB1241_1242 := nbA BK1241 hg; have NB1242_1241 := nbB BK1241 hg; replace BK1241 := bk1 BK1241 hb; clear hb hg; have hnb27 := NB1240_1241.out; have hnc27 := NB1241_1240.out; have hnb28 := NB1240_1242.out; have hnc28 := NB1242_1240.out; obtain ⟨hcz29_0, hcz29_1, hcz29_2, hfz29_0, hfz29_1, hfz29_2⟩ := cf3 BK1240; have hnb30 := NB1241_1242.out; have hnc30 := NB1242_1241.out; obtain ⟨hcz31_0, hcz31_1, hcz31_2, hfz31_0, hfz31_1, hfz31_2⟩ := cf3 BK1241) | (refine callA (some 12) Tryd.func66 #[.agg #[.int .i64 a0_0, .int .u64 a0_1, .int .u64 a0_2], .agg #[.int .i64 a1_0, .int .u64 a1_1, .int .u64 a1_2]] ?_; (with_reducible refine (bits_alike.calls k a0_0 a0_1 a0_2 a1_0 a1_1 a1_2 true _ A4.out).mono ?_); rintro e w32 ⟨rfl, hb⟩; refine ⟨_, rfl, ?_⟩; replace BK1240 := bk1 BK1240 hb; replace BK1241 := bk1 BK1241 hb; replace BK1242 := bk1 BK1242 hb; replace HB := hb1 HB hb; (try clear hb); obtain ⟨hcz33_0, hcz33_1, hcz33_2, hfz33_0, hfz33_1, hfz33_2⟩ := cf3 BK1240; obtain ⟨hcz34_0, hcz34_1, hcz34_2, hfz34_0, hfz34_1, hfz34_2⟩ := cf3 BK1241) | (refine callA (some 34) Tryd.func119 #[.agg #[.int .i64 a0_0, .int .u64 a0_1, .int .u64 a0_2], .agg #[.int .i64 a1_0, .int .u64 a1_1, .int .u64 a1_2], .bool a2] ?_; (with_reducible refine (bits_divide.calls k a0_0 a0_1 a0_2 a1_0 a1_1 a1_2 a2 t1250 t1251 _ A22.out).mono ?_); rintro e w35 ⟨rfl, hb⟩; refine ⟨_, rfl, ?_⟩; replace BK1240 := bk1 BK1240 hb; replace BK1241 := bk1 BK1241 hb; replace BK1242 := bk1 BK1242 hb; replace HB := hb1 HB hb; (try clear hb); obtain ⟨hcz36_0, hcz36_1, hcz36_2, hfz36_0, hfz36_1, hfz36_2⟩ := cf3 BK1240) | (refine callA (some 40) Tryd.func24 #[.int .i64 a0_0, .int .u64 t1251] ?_; (with_reducible refine (bits_Of.calls a0_0 t1251 t1252 t1253 t1254 _ A23.out).mono ?_); rintro e w37 ⟨rfl, hb⟩; refine ⟨_, rfl, ?_⟩; replace BK1240 := bk1 BK1240 hb; replace BK1241 := bk1 BK1241 hb; replace BK1242 := bk1 BK1242 hb; replace HB := hb1 HB hb; (try clear hb); obtain ⟨hcz38_0, hcz38_1, hcz38_2, hfz38_0, hfz38_1, hfz38_2⟩ := cf3 BK1242))
    refine retA gb1242 24 #[.int .i64 t1252, .int .u64 t1253, .int .u64 t1254] (put3 BK1242) Tryd.underlying24 ?_
    exact ⟨by rfl, by repeat (with_reducible first | exact HB.out | refine below_set ?_ GE1242.out)⟩
  ·replace H := bN H; obtain ⟨⟨t1247, t1248, t1249⟩, A39, H⟩ := H; dsimp only at H
   replace H := s3 H; obtain ⟨rfl, rfl, rfl⟩ := H
   go_enter Tryd.func107, Tryd.ntmps107
   go_wp2_with (first | (refine boxA HB 3 #[.int .i64 a0_0, .int .u64 a0_1, .int .u64 a0_2] 24 ?_; clear HB; intro gb1240 w40 BK1240 GE1240 hg hb HB; clear hb hg) | (refine boxA HB 4 #[.int .i64 a1_0, .int .u64 a1_1, .int .u64 a1_2] 24 ?_; clear HB; intro gb1241 w41 BK1241 GE1241 hg hb HB; have NB1240_1241 := nbA BK1240 hg; have NB1241_1240 := nbB BK1240 hg; replace BK1240 := bk1 BK1240 hb; clear hb hg) | (refine boxA HB 6 #[.int .i64 0, .int .u64 0, .int .u64 0] 24 ?_; clear HB; intro gb1242 w42 BK1242 GE1242 hg hb HB; have NB1240_1242 := nbA BK1240 hg; have NB1242_1240 := nbB BK1240 hg; replace BK1240 := bk1 BK1240 hb; have NB1241_1242 := nbA BK1241 hg; have NB1242_1241 := nbB BK1241 hg; replace BK1241 := bk1 BK1241 hb; clear hb hg; have hnb43 := NB1240_1241.out; have hnc43 := NB1241_1240.out; have hnb44 := NB1240_1242.out; have hnc44 := NB1242_1240.out; obtain ⟨hcz45_0, hcz45_1, hcz45_2, hfz45_0, hfz45_1, hfz45_2⟩ := cf3 BK1240; have hnb46 := NB1241_1242.out; have hnc46 := NB1242_1241.out; obtain ⟨hcz47_0, hcz47_1, hcz47_2, hfz47_0, hfz47_1, hfz47_2⟩ := cf3 BK1241) | (refine callA (some 12) Tryd.func66 #[.agg #[.int .i64 a0_0, .int .u64 a0_1, .int .u64 a0_2], .agg #[.int .i64 a1_0, .int .u64 a1_1, .int .u64 a1_2]] ?_; (with_reducible refine (bits_alike.calls k a0_0 a0_1 a0_2 a1_0 a1_1 a1_2 true _ A4.out).mono ?_); rintro e w48 ⟨rfl, hb⟩; refine ⟨_, rfl, ?_⟩; replace BK1240 := bk1 BK1240 hb; replace BK1241 := bk1 BK1241 hb; replace BK1242 := bk1 BK1242 hb; replace HB := hb1 HB hb; (try clear hb); obtain ⟨hcz49_0, hcz49_1, hcz49_2, hfz49_0, hfz49_1, hfz49_2⟩ := cf3 BK1240; obtain ⟨hcz50_0, hcz50_1, hcz50_2, hfz50_0, hfz50_1, hfz50_2⟩ := cf3 BK1241) | (refine callA (some 29) Tryd.func25 #[.int .i64 a0_0, .int .u8 120] ?_; (with_reducible refine (bits_All.calls k a0_0 120 t1247 t1248 t1249 _ A39.out).mono ?_); rintro e w51 ⟨rfl, hb⟩; refine ⟨_, rfl, ?_⟩; replace BK1240 := bk1 BK1240 hb; replace BK1241 := bk1 BK1241 hb; replace BK1242 := bk1 BK1242 hb; replace HB := hb1 HB hb; (try clear hb); obtain ⟨hcz52_0, hcz52_1, hcz52_2, hfz52_0, hfz52_1, hfz52_2⟩ := cf3 BK1242))
   refine retA gb1242 24 #[.int .i64 t1247, .int .u64 t1248, .int .u64 t1249] (put3 BK1242) Tryd.underlying24 ?_
   exact ⟨by rfl, by repeat (with_reducible first | exact HB.out | refine below_set ?_ GE1242.out)⟩
 ·replace H := s3 H; obtain ⟨rfl, rfl, rfl⟩ := H
  go_enter Tryd.func107, Tryd.ntmps107
  go_wp2_with (first | (refine boxA HB 3 #[.int .i64 a0_0, .int .u64 a0_1, .int .u64 a0_2] 24 ?_; clear HB; intro gb1240 w53 BK1240 GE1240 hg hb HB; clear hb hg) | (refine boxA HB 4 #[.int .i64 a1_0, .int .u64 a1_1, .int .u64 a1_2] 24 ?_; clear HB; intro gb1241 w54 BK1241 GE1241 hg hb HB; have NB1240_1241 := nbA BK1240 hg; have NB1241_1240 := nbB BK1240 hg; replace BK1240 := bk1 BK1240 hb; clear hb hg) | (refine boxA HB 6 #[.int .i64 0, .int .u64 0, .int .u64 0] 24 ?_; clear HB; intro gb1242 w55 BK1242 GE1242 hg hb HB; have NB1240_1242 := nbA BK1240 hg; have NB1242_1240 := nbB BK1240 hg; replace BK1240 := bk1 BK1240 hb; have NB1241_1242 := nbA BK1241 hg; have NB1242_1241 := nbB BK1241 hg; replace BK1241 := bk1 BK1241 hb; clear hb hg; have hnb56 := NB1240_1241.out; have hnc56 := NB1241_1240.out; have hnb57 := NB1240_1242.out; have hnc57 := NB1242_1240.out; obtain ⟨hcz58_0, hcz58_1, hcz58_2, hfz58_0, hfz58_1, hfz58_2⟩ := cf3 BK1240; have hnb59 := NB1241_1242.out; have hnc59 := NB1242_1241.out; obtain ⟨hcz60_0, hcz60_1, hcz60_2, hfz60_0, hfz60_1, hfz60_2⟩ := cf3 BK1241) | (refine callA (some 12) Tryd.func66 #[.agg #[.int .i64 a0_0, .int .u64 a0_1, .int .u64 a0_2], .agg #[.int .i64 a1_0, .int .u64 a1_1, .int .u64 a1_2]] ?_; (with_reducible refine (bits_alike.calls k a0_0 a0_1 a0_2 a1_0 a1_1 a1_2 false _ A4.out).mono ?_); rintro e w61 ⟨rfl, hb⟩; refine ⟨_, rfl, ?_⟩; replace BK1240 := bk1 BK1240 hb; replace BK1241 := bk1 BK1241 hb; replace BK1242 := bk1 BK1242 hb; replace HB := hb1 HB hb; (try clear hb); obtain ⟨hcz62_0, hcz62_1, hcz62_2, hfz62_0, hfz62_1, hfz62_2⟩ := cf3 BK1242))
  refine retA gb1242 24 #[.int .i64 0, .int .u64 0, .int .u64 0] (put3 BK1242) Tryd.underlying24 ?_
  exact ⟨by rfl, by repeat (with_reducible first | exact HB.out | refine below_set ?_ GE1242.out)⟩
end Go.Proofs.YtfigblfjogpojaaDoor.PBits
end
section
namespace Go.Proofs.YtfigblfjogpojaaDoor.PBits
open Go.RowKit Go.Proofs.YtfigblfjogpojaaDoorW.PrintWords Go.Proofs.YtfigblfjogpojaaDoorW.PrintLast Go.Proofs.YtfigblfjogpojaaDoorW.PrintMore
attribute [local go_sem] max2_int min2_int max_two min_two max_three min_three max_four min_four
set_option linter.unusedVariables false
set_option linter.unusedSimpArgs false
def bits_Neg_1.f (a0 : Int) (a1 : Int) : Option (Int) := some (IntKind.u64.wrap (-a0))
set_option maxHeartbeats 8000000 in
set_option maxRecDepth 100000 in
theorem bits_Neg_1.calls (a0 : Int) (a1 : Int) (r : Int) (w : World) (h : bits_Neg_1.f a0 a1 = some r) :
  Calls Tryd.prog 72 #[.int .u64 a0, .int .u64 a1] w fun e w' => e = .returned (.int .u64 r) ∧ Drawn0 w w' := by
 have H := h
 clear h
 unfold bits_Neg_1.f at H
 obtain rfl := Option.some.inj H
 go_enter Tryd.func72, Tryd.ntmps72
 go_wp2
 go_ret
 exact ⟨by rfl, by repeat (exact Drawn0.refl _)⟩
end Go.Proofs.YtfigblfjogpojaaDoor.PBits
end
section
namespace Go.Proofs.YtfigblfjogpojaaDoor.PBits
open Go.RowKit Go.Proofs.YtfigblfjogpojaaDoorW.PrintWords Go.Proofs.YtfigblfjogpojaaDoorW.PrintLast Go.Proofs.YtfigblfjogpojaaDoorW.PrintMore
attribute [local go_sem] max2_int min2_int max_two min_two max_three min_three max_four min_four
set_option linter.unusedVariables false
set_option linter.unusedSimpArgs false
def bits_number__Neg_1.f (k : Nat) (a0_0 : Int) (a0_1 : Int) (a0_2 : Int) (a1_0 : Int) (a1_1 : Int) (a1_2 : Int)  : Option (Int × Int × Int) := (bits_alike.f k a0_0 a0_1 a0_2 a1_0 a1_1 a1_2).bind fun t1389 => (if t1389 = true then (if (Go.bits .or .u64 a0_2 a1_2) = 0 then ((bits_Neg_1.f a0_1 a1_1).bind fun t1393 => ((bits_Of.f a0_0 t1393).bind fun bt1394 => (some (bt1394.1, bt1394.2.1, bt1394.2.2)))) else ((bits_All.f k a0_0 120).bind fun bt1390 => (some (bt1390.1, bt1390.2.1, bt1390.2.2)))) else (some (0, 0, 0)))
def bits_number__Neg_1.T5 : Bool × List (List Nat × List Nat) := (true, [([], []), ([0], [0]), ([], []), ([], []), ([3], [3]), ([], []), ([5], [5]), ([2, 4, 6], [2, 4, 6]), ([1, 7, 7], [1, 7]), ([8, 8, 0, 1, 2, 3, 4, 5, 6, 7, 8], [8])])
def bits_number__Neg_1.B5 : List Nat := [0, 1, 0, 0, 8, 0, 32, 124, 255, 511]
theorem bits_number__Neg_1.tab5 : rtab .any (opsOf Tryd.f71 5) = bits_number__Neg_1.T5 := by kernel_rfl
theorem bits_number__Neg_1.bits5 : waitsOk bits_number__Neg_1.T5.2 bits_number__Neg_1.B5 = true := by kernel_rfl
set_option maxHeartbeats 8000000 in
set_option maxRecDepth 100000 in
theorem bits_number__Neg_1.calls (k : Nat) (a0_0 : Int) (a0_1 : Int) (a0_2 : Int) (a1_0 : Int) (a1_1 : Int) (a1_2 : Int)  (r1 : Int) (r2 : Int) (r3 : Int) (w : World) (h : bits_number__Neg_1.f k a0_0 a0_1 a0_2 a1_0 a1_1 a1_2 = some (r1, r2, r3)) :
  Calls Tryd.prog 71 #[.agg #[.int .i64 a0_0, .int .u64 a0_1, .int .u64 a0_2], .agg #[.int .i64 a1_0, .int .u64 a1_1, .int .u64 a1_2], .func (.func 72) #[] #[]] w fun e w' => e = .returned (.agg #[.int .i64 r1, .int .u64 r2, .int .u64 r3]) ∧ Below w.heap.size w w' := by
 have hu24 := Tryd.underlying24
 have HB := Aside0.mk (Below.refl w.heap.size w)
 have H := h
 clear h
 unfold bits_number__Neg_1.f at H
 replace H := bN H; obtain ⟨t1389, A4, H⟩ := H
 replace H := iB H; rcases H with ⟨rfl, H⟩ | ⟨rfl, H⟩
 ·replace H := iE H; rcases H with ⟨c6b0, c6b1, H⟩ | ⟨c6, c6b0, c6b1, H⟩
  ·replace H := bN H; obtain ⟨t1393, A7, H⟩ := H
   replace H := bN H; obtain ⟨⟨t1394, t1395, t1396⟩, A8, H⟩ := H; dsimp only at H
   replace H := s3 H; obtain ⟨rfl, rfl, rfl⟩ := H
   go_enter Tryd.func71, Tryd.ntmps71
   try go_wp2_with (first | (refine boxA HB 3 #[.int .i64 a0_0, .int .u64 a0_1, .int .u64 a0_2] 24 ?_; clear HB; intro gb1386 w9 BK1386 GE1386 hg hb HB; clear hb hg) | (refine boxA HB 4 #[.int .i64 a1_0, .int .u64 a1_1, .int .u64 a1_2] 24 ?_; clear HB; intro gb1387 w10 BK1387 GE1387 hg hb HB; have NB1386_1387 := nbA BK1386 hg; have NB1387_1386 := nbB BK1386 hg; replace BK1386 := bk1 BK1386 hb; clear hb hg) | (refine boxA HB 6 #[.int .i64 0, .int .u64 0, .int .u64 0] 24 ?_; clear HB; intro gb1388 w11 BK1388 GE1388 hg hb HB; have NB1386_1388 := nbA BK1386 hg; have NB1388_1386 := nbB BK1386 hg; replace BK1386 := bk1 BK1386 hb; have NB1387_1388 := nbA BK1387 hg; have NB1388_1387 := nbB BK1387 hg; replace BK1387 := bk1 BK1387 hb; clear hb hg; have hnb12 := NB1386_1387.out; have hnc12 := NB1387_1386.out; have hnb13 := NB1386_1388.out; have hnc13 := NB1388_1386.out; obtain ⟨hcz14_0, hcz14_1, hcz14_2, hfz14_0, hfz14_1, hfz14_2⟩ := cf3 BK1386; have hnb15 := NB1387_1388.out; have hnc15 := NB1388_1387.out; obtain ⟨hcz16_0, hcz16_1, hcz16_2, hfz16_0, hfz16_1, hfz16_2⟩ := cf3 BK1387) | (refine callA (some 10) Tryd.func66 #[.agg #[.int .i64 a0_0, .int .u64 a0_1, .int .u64 a0_2], .agg #[.int .i64 a1_0, .int .u64 a1_1, .int .u64 a1_2]] ?_; (with_reducible refine (bits_alike.calls k a0_0 a0_1 a0_2 a1_0 a1_1 a1_2 true _ A4.out).mono ?_); rintro e w17 ⟨rfl, hb⟩; refine ⟨_, rfl, ?_⟩; replace BK1386 := bk1 BK1386 hb; replace BK1387 := bk1 BK1387 hb; replace BK1388 := bk1 BK1388 hb; replace HB := hb1 HB hb; (try clear hb); obtain ⟨hcz18_0, hcz18_1, hcz18_2, hfz18_0, hfz18_1, hfz18_2⟩ := cf3 BK1386; obtain ⟨hcz19_0, hcz19_1, hcz19_2, hfz19_0, hfz19_1, hfz19_2⟩ := cf3 BK1387))
   replace BK1386 := bkd BK1386
   replace BK1387 := bkd BK1387
   replace BK1388 := bkd BK1388
   replace HB := hbd HB
   refine start_ (n := 10) (S := fun w' => w'.cell? ⟨gb1386, 0, none⟩ = some (.int .i64 a0_0) ∧ w'.cell? ⟨gb1386, 1, none⟩ = some (.int .u64 a0_1) ∧ w'.cell? ⟨gb1386, 2, none⟩ = some (.int .u64 a0_2) ∧ w'.cell? ⟨gb1387, 0, none⟩ = some (.int .i64 a1_0) ∧ w'.cell? ⟨gb1387, 1, none⟩ = some (.int .u64 a1_1) ∧ w'.cell? ⟨gb1387, 2, none⟩ = some (.int .u64 a1_2)) (ds := []) (tb 10 0) (by kernel_rfl) rfl (by kernel_rfl) (c3 BK1386 (d3 BK1387)) (fun hHeld => ?_); refine with_tabW bits_number__Neg_1.tab5 bits_number__Neg_1.bits5 (fun HT_ HW_ => ?_)
   generalize w17.drew = w20 at BK1386 BK1387 BK1388 HB hHeld ⊢
   refine pA 0 23 (tb 10 1) HT_ ?_
   refine pA 2 25 (tb 10 5) HT_ ?_
   refine pA 3 26 (tb 10 13) HT_ ?_
   refine pA 5 28 (tb 10 45) HT_ ?_
   refine tA 1 24 (tb 10 47) HT_ HW_ hHeld ?_
   refine tA 4 27 (tb 10 63) HT_ HW_ hHeld ?_
   refine tA 6 29 (tb 10 127) HT_ HW_ hHeld ?_
   refine oA 7 (some 30) (tb 10 255) HT_ (fun K hK => ?_)
   refine sq_goesT Tryd.func72 (by kernel_rfl) rfl #[.int .u64 a0_1, .int .u64 a1_1] (by rfl) rfl rfl rfl (by (try simp only [List.map_toArray, List.map_cons, List.map_nil]); rfl) ?_
   with_reducible refine (bits_Neg_1.calls a0_1 a1_1 t1393 _ A7.out).mono ?_
   rintro e w' ⟨rfl, ⟨nd, rfl⟩⟩
   refine ⟨_, rfl, ?_⟩
   refine hK.out _ _ (c3 BK1386 (d3 BK1387)) (fun hHeld => ?_)
   clear hK K
   refine nA ?_
   refine oA 8 (some 31) (tb 10 511) HT_ (fun K hK => ?_)
   refine gA Tryd.func24 #[.int .i64 a0_0, .int .u64 t1393] ?_
   with_reducible refine (bits_Of.calls a0_0 t1393 t1394 t1395 t1396 _ A8.out).mono ?_
   rintro e w21 ⟨rfl, hb⟩
   refine ⟨_, rfl, ?_⟩
   replace BK1386 := bk1 BK1386 hb
   replace BK1387 := bk1 BK1387 hb
   replace BK1388 := bk1 BK1388 hb
   replace HB := hb1 HB hb
   (try clear hb)
   refine hK.out _ _ (c3 BK1386 (d3 BK1387)) (fun hHeld => ?_)
   clear hK K
   refine nA ?_
   refine oA 9 (none) (tb 10 1023) HT_ (fun K hK => ?_)
   have hs22 : w21.cell? ⟨gb1388, 0, none⟩ = some (.int .i64 0) := (blk_cell BK1388.out 0).trans rfl
   have hfs22 := blk_frozen BK1388.out 0
   have hns22_0 := NB1386_1388.out
   have hns22_1 := NB1387_1388.out
   have hms22_0 := NB1388_1386.out
   have hms22_1 := NB1388_1387.out
   have hs23 : w21.cell? ⟨gb1388, 1, none⟩ = some (.int .u64 0) := (blk_cell BK1388.out 1).trans rfl
   have hfs23 := blk_frozen BK1388.out 1
   have hns23_0 := NB1386_1388.out
   have hns23_1 := NB1387_1388.out
   have hms23_0 := NB1388_1386.out
   have hms23_1 := NB1388_1387.out
   have hs24 : w21.cell? ⟨gb1388, 2, none⟩ = some (.int .u64 0) := (blk_cell BK1388.out 2).trans rfl
   have hfs24 := blk_frozen BK1388.out 2
   have hns24_0 := NB1386_1388.out
   have hns24_1 := NB1387_1388.out
   have hms24_0 := NB1388_1386.out
   have hms24_1 := NB1388_1387.out
   refine skip_ (w1 := ?_) (by rfl) rfl ?_ ?_
   rotate_left
   ·go_simp
    rfl
   refine hK.out _ _ ⟨((cell_far (p := ⟨gb1388, _, none⟩) NB1386_1388.out _).trans (((cell_far (p := ⟨gb1388, _, none⟩) NB1386_1388.out _).trans (((cell_far (p := ⟨gb1388, _, none⟩) NB1386_1388.out _).trans (hHeld.1)))))), ((cell_far (p := ⟨gb1388, _, none⟩) NB1386_1388.out _).trans (((cell_far (p := ⟨gb1388, _, none⟩) NB1386_1388.out _).trans (((cell_far (p := ⟨gb1388, _, none⟩) NB1386_1388.out _).trans (hHeld.2.1)))))), ((cell_far (p := ⟨gb1388, _, none⟩) NB1386_1388.out _).trans (((cell_far (p := ⟨gb1388, _, none⟩) NB1386_1388.out _).trans (((cell_far (p := ⟨gb1388, _, none⟩) NB1386_1388.out _).trans (hHeld.2.2.1)))))), ((cell_far (p := ⟨gb1388, _, none⟩) NB1387_1388.out _).trans (((cell_far (p := ⟨gb1388, _, none⟩) NB1387_1388.out _).trans (((cell_far (p := ⟨gb1388, _, none⟩) NB1387_1388.out _).trans (hHeld.2.2.2.1)))))), ((cell_far (p := ⟨gb1388, _, none⟩) NB1387_1388.out _).trans (((cell_far (p := ⟨gb1388, _, none⟩) NB1387_1388.out _).trans (((cell_far (p := ⟨gb1388, _, none⟩) NB1387_1388.out _).trans (hHeld.2.2.2.2.1)))))), ((cell_far (p := ⟨gb1388, _, none⟩) NB1387_1388.out _).trans (((cell_far (p := ⟨gb1388, _, none⟩) NB1387_1388.out _).trans (((cell_far (p := ⟨gb1388, _, none⟩) NB1387_1388.out _).trans (hHeld.2.2.2.2.2))))))⟩ (fun hHeld => ?_)
   clear hK K
   refine done_ (done_of HT_.out (by kernel_rfl)) ?_
   try go_wp2
   refine retA gb1388 24 #[.int .i64 t1394, .int .u64 t1395, .int .u64 t1396] (put3 BK1388) Tryd.underlying24 ?_
   exact ⟨by rfl, by repeat (with_reducible first | exact HB.out | refine below_set ?_ GE1388.out)⟩
  ·replace H := bN H; obtain ⟨⟨t1390, t1391, t1392⟩, A25, H⟩ := H; dsimp only at H
   replace H := s3 H; obtain ⟨rfl, rfl, rfl⟩ := H
   go_enter Tryd.func71, Tryd.ntmps71
   go_wp2_with (first | (refine boxA HB 3 #[.int .i64 a0_0, .int .u64 a0_1, .int .u64 a0_2] 24 ?_; clear HB; intro gb1386 w26 BK1386 GE1386 hg hb HB; clear hb hg) | (refine boxA HB 4 #[.int .i64 a1_0, .int .u64 a1_1, .int .u64 a1_2] 24 ?_; clear HB; intro gb1387 w27 BK1387 GE1387 hg hb HB; have NB1386_1387 := nbA BK1386 hg; have NB1387_1386 := nbB BK1386 hg; replace BK1386 := bk1 BK1386 hb; clear hb hg) | (refine boxA HB 6 #[.int .i64 0, .int .u64 0, .int .u64 0] 24 ?_; clear HB; intro gb1388 w28 BK1388 GE1388 hg hb HB; have NB1386_1388 := nbA BK1386 hg; have NB1388_1386 := nbB BK1386 hg; replace BK1386 := bk1 BK1386 hb; have NB1387_1388 := nbA BK1387 hg; have NB1388_1387 := nbB BK1387 hg; replace BK1387 := bk1 BK1387 hb; clear hb hg; have hnb29 := NB1386_1387.out; have hnc29 := NB1387_1386.out; have hnb30 := NB1386_1388.out; have hnc30 := NB1388_1386.out; obtain ⟨hcz31_0, hcz31_1, hcz31_2, hfz31_0, hfz31_1, hfz31_2⟩ := cf3 BK1386; have hnb32 := NB1387_1388.out; have hnc32 := NB1388_1387.out; obtain ⟨hcz33_0, hcz33_1, hcz33_2, hfz33_0, hfz33_1, hfz33_2⟩ := cf3 BK1387) | (refine callA (some 10) Tryd.func66 #[.agg #[.int .i64 a0_0, .int .u64 a0_1, .int .u64 a0_2], .agg #[.int .i64 a1_0, .int .u64 a1_1, .int .u64 a1_2]] ?_; (with_reducible refine (bits_alike.calls k a0_0 a0_1 a0_2 a1_0 a1_1 a1_2 true _ A4.out).mono ?_); rintro e w34 ⟨rfl, hb⟩; refine ⟨_, rfl, ?_⟩; replace BK1386 := bk1 BK1386 hb; replace BK1387 := bk1 BK1387 hb; replace BK1388 := bk1 BK1388 hb; replace HB := hb1 HB hb; (try clear hb); obtain ⟨hcz35_0, hcz35_1, hcz35_2, hfz35_0, hfz35_1, hfz35_2⟩ := cf3 BK1386; obtain ⟨hcz36_0, hcz36_1, hcz36_2, hfz36_0, hfz36_1, hfz36_2⟩ := cf3 BK1387) | (refine callA (some 22) Tryd.func25 #[.int .i64 a0_0, .int .u8 120] ?_; (with_reducible refine (bits_All.calls k a0_0 120 t1390 t1391 t1392 _ A25.out).mono ?_); rintro e w37 ⟨rfl, hb⟩; refine ⟨_, rfl, ?_⟩; replace BK1386 := bk1 BK1386 hb; replace BK1387 := bk1 BK1387 hb; replace BK1388 := bk1 BK1388 hb; replace HB := hb1 HB hb; (try clear hb); obtain ⟨hcz38_0, hcz38_1, hcz38_2, hfz38_0, hfz38_1, hfz38_2⟩ := cf3 BK1388))
   refine retA gb1388 24 #[.int .i64 t1390, .int .u64 t1391, .int .u64 t1392] (put3 BK1388) Tryd.underlying24 ?_
   exact ⟨by rfl, by repeat (with_reducible first | exact HB.out | refine below_set ?_ GE1388.out)⟩
 ·replace H := s3 H; obtain ⟨rfl, rfl, rfl⟩ := H
  go_enter Tryd.func71, Tryd.ntmps71
  go_wp2_with (first | (refine boxA HB 3 #[.int .i64 a0_0, .int .u64 a0_1, .int .u64 a0_2] 24 ?_; clear HB; intro gb1386 w39 BK1386 GE1386 hg hb HB; clear hb hg) | (refine boxA HB 4 #[.int .i64 a1_0, .int .u64 a1_1, .int .u64 a1_2] 24 ?_; clear HB; intro gb1387 w40 BK1387 GE1387 hg hb HB; have NB1386_1387 := nbA BK1386 hg; have NB1387_1386 := nbB BK1386 hg; replace BK1386 := bk1 BK1386 hb; clear hb hg) | (refine boxA HB 6 #[.int .i64 0, .int .u64 0, .int .u64 0] 24 ?_; clear HB; intro gb1388 w41 BK1388 GE1388 hg hb HB; have NB1386_1388 := nbA BK1386 hg; have NB1388_1386 := nbB BK1386 hg; replace BK1386 := bk1 BK1386 hb; have NB1387_1388 := nbA BK1387 hg; have NB1388_1387 := nbB BK1387 hg; replace BK1387 := bk1 BK1387 hb; clear hb hg; have hnb42 := NB1386_1387.out; have hnc42 := NB1387_1386.out; have hnb43 := NB1386_1388.out; have hnc43 := NB1388_1386.out; obtain ⟨hcz44_0, hcz44_1, hcz44_2, hfz44_0, hfz44_1, hfz44_2⟩ := cf3 BK1386; have hnb45 := NB1387_1388.out; have hnc45 := NB1388_1387.out; obtain ⟨hcz46_0, hcz46_1, hcz46_2, hfz46_0, hfz46_1, hfz46_2⟩ := cf3 BK1387) | (refine callA (some 10) Tryd.func66 #[.agg #[.int .i64 a0_0, .int .u64 a0_1, .int .u64 a0_2], .agg #[.int .i64 a1_0, .int .u64 a1_1, .int .u64 a1_2]] ?_; (with_reducible refine (bits_alike.calls k a0_0 a0_1 a0_2 a1_0 a1_1 a1_2 false _ A4.out).mono ?_); rintro e w47 ⟨rfl, hb⟩; refine ⟨_, rfl, ?_⟩; replace BK1386 := bk1 BK1386 hb; replace BK1387 := bk1 BK1387 hb; replace BK1388 := bk1 BK1388 hb; replace HB := hb1 HB hb; (try clear hb); obtain ⟨hcz48_0, hcz48_1, hcz48_2, hfz48_0, hfz48_1, hfz48_2⟩ := cf3 BK1388))
  refine retA gb1388 24 #[.int .i64 0, .int .u64 0, .int .u64 0] (put3 BK1388) Tryd.underlying24 ?_
  exact ⟨by rfl, by repeat (with_reducible first | exact HB.out | refine below_set ?_ GE1388.out)⟩
end Go.Proofs.YtfigblfjogpojaaDoor.PBits
end
section
namespace Go.Proofs.YtfigblfjogpojaaDoor.PBits
open Go.RowKit Go.Proofs.YtfigblfjogpojaaDoorW.PrintWords Go.Proofs.YtfigblfjogpojaaDoorW.PrintLast Go.Proofs.YtfigblfjogpojaaDoorW.PrintMore
attribute [local go_sem] max2_int min2_int max_two min_two max_three min_three max_four min_four
set_option linter.unusedVariables false
set_option linter.unusedSimpArgs false
def bits_Neg.f (k : Nat) (a0_0 : Int) (a0_1 : Int) (a0_2 : Int) : Option (Int × Int × Int) := (bits_number__Neg_1.f k a0_0 a0_1 a0_2 a0_0 a0_1 a0_2).bind fun bt1399 => (some (bt1399.1, bt1399.2.1, bt1399.2.2))
set_option maxHeartbeats 8000000 in
set_option maxRecDepth 100000 in
theorem bits_Neg.calls (k : Nat) (a0_0 : Int) (a0_1 : Int) (a0_2 : Int) (r1 : Int) (r2 : Int) (r3 : Int) (w : World) (h : bits_Neg.f k a0_0 a0_1 a0_2 = some (r1, r2, r3)) :
  Calls Tryd.prog 48 #[.agg #[.int .i64 a0_0, .int .u64 a0_1, .int .u64 a0_2]] w fun e w' => e = .returned (.agg #[.int .i64 r1, .int .u64 r2, .int .u64 r3]) ∧ Below w.heap.size w w' := by
 have hu24 := Tryd.underlying24
 have HB := Aside0.mk (Below.refl w.heap.size w)
 have H := h
 clear h
 unfold bits_Neg.f at H
 replace H := bN H; obtain ⟨⟨t1399, t1400, t1401⟩, A2, H⟩ := H; dsimp only at H
 replace H := s3 H; obtain ⟨rfl, rfl, rfl⟩ := H
 go_enter Tryd.func48, Tryd.ntmps48
 go_wp2_with (first | (refine boxA HB 1 #[.int .i64 a0_0, .int .u64 a0_1, .int .u64 a0_2] 24 ?_; clear HB; intro gb1397 w3 BK1397 GE1397 hg hb HB; clear hb hg) | (refine boxA HB 2 #[.int .i64 0, .int .u64 0, .int .u64 0] 24 ?_; clear HB; intro gb1398 w4 BK1398 GE1398 hg hb HB; have NB1397_1398 := nbA BK1397 hg; have NB1398_1397 := nbB BK1397 hg; replace BK1397 := bk1 BK1397 hb; clear hb hg; have hnb5 := NB1397_1398.out; have hnc5 := NB1398_1397.out; obtain ⟨hcz6_0, hcz6_1, hcz6_2, hfz6_0, hfz6_1, hfz6_2⟩ := cf3 BK1397) | (refine callA (some 5) Tryd.func71 #[.agg #[.int .i64 a0_0, .int .u64 a0_1, .int .u64 a0_2], .agg #[.int .i64 a0_0, .int .u64 a0_1, .int .u64 a0_2], (.func (.func 72) #[] #[])] ?_; (with_reducible refine (bits_number__Neg_1.calls k a0_0 a0_1 a0_2 a0_0 a0_1 a0_2  t1399 t1400 t1401 _ A2.out).mono ?_); rintro e w7 ⟨rfl, hb⟩; refine ⟨_, rfl, ?_⟩; replace BK1397 := bk1 BK1397 hb; replace BK1398 := bk1 BK1398 hb; replace HB := hb1 HB hb; (try clear hb); obtain ⟨hcz8_0, hcz8_1, hcz8_2, hfz8_0, hfz8_1, hfz8_2⟩ := cf3 BK1398))
 refine retA gb1398 24 #[.int .i64 t1399, .int .u64 t1400, .int .u64 t1401] (put3 BK1398) Tryd.underlying24 ?_
 exact ⟨by rfl, by repeat (with_reducible first | exact HB.out | refine below_set ?_ GE1398.out)⟩
end Go.Proofs.YtfigblfjogpojaaDoor.PBits
end
