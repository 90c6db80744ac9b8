/- Part 22 of the proof of SyntaxTreesUptoSaid: The law SyntaxTrees, where the trees that it reads are of bulk at most 1048576: it returns true; the trees read behind the call as it read before. Out of the plain theorem of YtlamgdibnnmbmaaTr5. -/
import Derived.Test.YtlamgdibnnmbmaaQSyntaxTreesUpto13
import Derived.Test.YtlamgdibnnmbmaaQSyntaxTreesUpto19
import Derived.Test.YtlamgdibnnmbmaaQSyntaxTreesUpto16
import Derived.Test.YtlamgdibnnmbmaaQSyntaxTreesUpto20
section
namespace Go.Proofs.Ytlamgdibnnmbmaa.PSyn
open Go.RowKit Go.Proofs.YtlamgdibnnmbmaaW.PrintWords Go.Proofs.YtlamgdibnnmbmaaW.PrintLast Go.Proofs.YtlamgdibnnmbmaaW.PrintMore
attribute [local go_sem] max2_int min2_int max_two min_two max_three min_three max_four min_four
set_option linter.unusedVariables false
set_option linter.unusedSimpArgs false
attribute [local go_sem high] eqA24
mutual
def maskref1_SameTree.j0 : Nat → Bool → Int → Int → Int → ByteArray → ByteArray → Int → Int → Int → Bool → List (S27) → Int → Int → Int → ByteArray → ByteArray → Int → Int → Int → Bool → List (S27) → Option (Bool)
 | 0, _, _, _, _, _, _, _, _, _, _, _, _, _, _, _, _, _, _, _, _, _ => none
 | k + 1, x47, x179000, x179001, x179002, x179003, x179004, x179005, x179006, x179007, x179008, x179009, x180000, x180001, x180002, x180003, x180004, x180005, x180006, x180007, x180008, x180009 => if x47 = true then (some false) else (maskref1_SameTree.l0 k (x179009.length : Int) 0 x179000 x179001 x179002 x179003 x179004 x179005 x179006 x179007 x179008 x179009 x180000 x180001 x180002 x180003 x180004 x180005 x180006 x180007 x180008 x180009)
def maskref1_SameTree.l0 : Nat → Int → Int → Int → Int → Int → ByteArray → ByteArray → Int → Int → Int → Bool → List (S27) → Int → Int → Int → ByteArray → ByteArray → Int → Int → Int → Bool → List (S27) → Option (Bool)
 | 0, _, _, _, _, _, _, _, _, _, _, _, _, _, _, _, _, _, _, _, _, _, _ => none
 | k + 1, x50, x51, x179000, x179001, x179002, x179003, x179004, x179005, x179006, x179007, x179008, x179009, x180000, x180001, x180002, x180003, x180004, x180005, x180006, x180007, x180008, x180009 => if x51 < x50 then (if 0 ≤ x51 then (if x51 < (x179009.length : Int) then (if x51 < (x180009.length : Int) then ((maskref1_SameTree.f k ((rd_T27 x179009 x51).f0) ((rd_T27 x179009 x51).f1) ((rd_T27 x179009 x51).f2) ((rd_T27 x179009 x51).f3) ((rd_T27 x179009 x51).f4) ((rd_T27 x179009 x51).f5.f0) ((rd_T27 x179009 x51).f5.f1) ((rd_T27 x179009 x51).f5.f2) ((rd_T27 x179009 x51).f6) ((rd_T27 x179009 x51).f7) ((rd_T27 x180009 x51).f0) ((rd_T27 x180009 x51).f1) ((rd_T27 x180009 x51).f2) ((rd_T27 x180009 x51).f3) ((rd_T27 x180009 x51).f4) ((rd_T27 x180009 x51).f5.f0) ((rd_T27 x180009 x51).f5.f1) ((rd_T27 x180009 x51).f5.f2) ((rd_T27 x180009 x51).f6) ((rd_T27 x180009 x51).f7)).bind fun t182 => (if t182 = true then (maskref1_SameTree.l0 k x50 (wrap64 (x51 + 1)) x179000 x179001 x179002 x179003 x179004 x179005 x179006 x179007 x179008 x179009 x180000 x180001 x180002 x180003 x180004 x180005 x180006 x180007 x180008 x180009) else (some false))) else (none)) else (none)) else (none)) else (some true)
def maskref1_SameTree.f : Nat → Int → Int → Int → ByteArray → ByteArray → Int → Int → Int → Bool → List (S27) → Int → Int → Int → ByteArray → ByteArray → Int → Int → Int → Bool → List (S27) → Option (Bool)
 | 0, _, _, _, _, _, _, _, _, _, _, _, _, _, _, _, _, _, _, _, _ => none
 | k + 1, a0_0, a0_1, a0_2, a0_3, a0_4, a0_5, a0_6, a0_7, a0_8, l0_9, a1_0, a1_1, a1_2, a1_3, a1_4, a1_5, a1_6, a1_7, a1_8, l1_9 => if a0_0 = a1_0 then (if a0_3.toList = a1_3.toList then (if a0_4.toList = a1_4.toList then (if (!(a0_5 == a1_5) || (!(a0_6 == a1_6) || (!(a0_7 == a1_7)))) = true then (maskref1_SameTree.j0 k true a0_0 a0_1 a0_2 a0_3 a0_4 a0_5 a0_6 a0_7 a0_8 l0_9 a1_0 a1_1 a1_2 a1_3 a1_4 a1_5 a1_6 a1_7 a1_8 l1_9) else (if (a0_8 != a1_8) = true then (maskref1_SameTree.j0 k true a0_0 a0_1 a0_2 a0_3 a0_4 a0_5 a0_6 a0_7 a0_8 l0_9 a1_0 a1_1 a1_2 a1_3 a1_4 a1_5 a1_6 a1_7 a1_8 l1_9) else (maskref1_SameTree.j0 k ((l0_9.length : Int) != (l1_9.length : Int)) a0_0 a0_1 a0_2 a0_3 a0_4 a0_5 a0_6 a0_7 a0_8 l0_9 a1_0 a1_1 a1_2 a1_3 a1_4 a1_5 a1_6 a1_7 a1_8 l1_9))) else (maskref1_SameTree.j0 k true a0_0 a0_1 a0_2 a0_3 a0_4 a0_5 a0_6 a0_7 a0_8 l0_9 a1_0 a1_1 a1_2 a1_3 a1_4 a1_5 a1_6 a1_7 a1_8 l1_9)) else (maskref1_SameTree.j0 k true a0_0 a0_1 a0_2 a0_3 a0_4 a0_5 a0_6 a0_7 a0_8 l0_9 a1_0 a1_1 a1_2 a1_3 a1_4 a1_5 a1_6 a1_7 a1_8 l1_9)) else (maskref1_SameTree.j0 k true a0_0 a0_1 a0_2 a0_3 a0_4 a0_5 a0_6 a0_7 a0_8 l0_9 a1_0 a1_1 a1_2 a1_3 a1_4 a1_5 a1_6 a1_7 a1_8 l1_9)
end
def maskref1_SameTree.T6 : Bool × List (List Nat × List Nat) := (true, [([], []), ([0], [0]), ([], []), ([1, 2], [1, 2]), ([3], [3]), ([], []), ([5], [5]), ([], []), ([6, 7], [6, 7]), ([8], [8]), ([4, 9], [4, 9]), ([10], [10])])
def maskref1_SameTree.B6 : List Nat := [0, 1, 0, 7, 15, 0, 32, 0, 224, 480, 1023, 2047]
theorem maskref1_SameTree.tab6 : rtab .any (opsOf Try.f13 6) = maskref1_SameTree.T6 := by kernel_rfl
theorem maskref1_SameTree.bits6 : waitsOk maskref1_SameTree.T6.2 maskref1_SameTree.B6 = true := by kernel_rfl
set_option maxHeartbeats 8000000 in
set_option maxRecDepth 100000 in
theorem maskref1_SameTree.calls (k : Nat) : ∀ (a0_0 : Int) (a0_1 : Int) (a0_2 : Int) (a0_3 : ByteArray) (a0_4 : ByteArray) (a0_5 : Int) (a0_6 : Int) (a0_7 : Int) (a0_8 : Bool) (A0_9 : Option Addr) (c0_9 : Nat) (l0_9 : List (S27)) (a1_0 : Int) (a1_1 : Int) (a1_2 : Int) (a1_3 : ByteArray) (a1_4 : ByteArray) (a1_5 : Int) (a1_6 : Int) (a1_7 : Int) (a1_8 : Bool) (A1_9 : Option Addr) (c1_9 : Nat) (l1_9 : List (S27)) (r : Bool) (w : World) (hr0_9 : Kd.C k27 w A0_9 l0_9.length l0_9) (hc0_9 : l0_9.length ≤ c0_9) (hr1_9 : Kd.C k27 w A1_9 l1_9.length l1_9) (hc1_9 : l1_9.length ≤ c1_9) (h : maskref1_SameTree.f k a0_0 a0_1 a0_2 a0_3 a0_4 a0_5 a0_6 a0_7 a0_8 l0_9 a1_0 a1_1 a1_2 a1_3 a1_4 a1_5 a1_6 a1_7 a1_8 l1_9 = some r),
  Calls Try.prog 13 #[.agg #[.int .i64 a0_0, .int .i64 a0_1, .int .i64 a0_2, .string a0_3, .string a0_4, .int .i64 a0_5, .int .u64 a0_6, .int .u64 a0_7, .bool a0_8, .slice A0_9 l0_9.length c0_9], .agg #[.int .i64 a1_0, .int .i64 a1_1, .int .i64 a1_2, .string a1_3, .string a1_4, .int .i64 a1_5, .int .u64 a1_6, .int .u64 a1_7, .bool a1_8, .slice A1_9 l1_9.length c1_9]] w fun e w' => e = .returned (.bool r) ∧ Below w.heap.size w w' := by
 induction k using Nat.strongRecOn with
 | _ k ih =>
 intro a0_0 a0_1 a0_2 a0_3 a0_4 a0_5 a0_6 a0_7 a0_8 A0_9 c0_9 l0_9 a1_0 a1_1 a1_2 a1_3 a1_4 a1_5 a1_6 a1_7 a1_8 A1_9 c1_9 l1_9 r w hr0_9 hc0_9 hr1_9 hc1_9 h
 cases k with
 | zero => exact absurd h (by simp [maskref1_SameTree.f])
 | succ k =>
 simp only [maskref1_SameTree.f] at h
 have hu27 := Try.underlying27
 have hu24 := Try.underlying24
 have HR0_9 := Aside0.mk hr0_9
 have HC0_9 := Aside0.mk hc0_9
 clear hr0_9 hc0_9
 have HR1_9 := Aside0.mk hr1_9
 have HC1_9 := Aside0.mk hc1_9
 clear hr1_9 hc1_9
 have HB := Aside0.mk (Below.refl w.heap.size w)
 have H := h
 clear h
 have HC3 := Aside0.mk H
 clear H
 go_enter Try.func13, Try.ntmps13
 go_upto_region 1 with (first | ((with_reducible refine gate_dst (N := 2) rfl ?_); (try (refine gate_guard (by rfl) ?_; dsimp only)); refine boxA HB 2 #[.int .i64 a0_0, .int .i64 a0_1, .int .i64 a0_2, .string a0_3, .string a0_4, .int .i64 a0_5, .int .u64 a0_6, .int .u64 a0_7, .bool a0_8, .slice A0_9 l0_9.length c0_9] 27 ?_; clear HB; intro gb178 w4 BK178 GE178 hg hb HB; clear hb hg) | ((with_reducible refine gate_dst (N := 3) rfl ?_); (try (refine gate_guard (by rfl) ?_; dsimp only)); refine boxA HB 3 #[.int .i64 a1_0, .int .i64 a1_1, .int .i64 a1_2, .string a1_3, .string a1_4, .int .i64 a1_5, .int .u64 a1_6, .int .u64 a1_7, .bool a1_8, .slice A1_9 l1_9.length c1_9] 27 ?_; clear HB; intro gb179 w5 BK179 GE179 hg hb HB; have NB178_179 := nbA BK178 hg; have NB179_178 := nbB BK178 hg; replace BK178 := bk1 BK178 hb; clear hb hg))
 go_cut [47] (fun v47 wc => ∃ (kq : Nat) (x47_2 : Bool), v47 = .bool x47_2 ∧ Aside0 (maskref1_SameTree.j0 kq x47_2 a0_0 a0_1 a0_2 a0_3 a0_4 a0_5 a0_6 a0_7 a0_8 l0_9 a1_0 a1_1 a1_2 a1_3 a1_4 a1_5 a1_6 a1_7 a1_8 l1_9 = some r) ∧ Aside0 (kq ≤ k) ∧ Aside0 (wc.heap[gb178]? = some (.cells #[.int .i64 a0_0, .int .i64 a0_1, .int .i64 a0_2, .string a0_3, .string a0_4, .int .i64 a0_5, .int .u64 a0_6, .int .u64 a0_7, .bool a0_8, (.slice A0_9 l0_9.length c0_9)] 27 (0, 0))) ∧ Aside0 (wc.heap[gb179]? = some (.cells #[.int .i64 a1_0, .int .i64 a1_1, .int .i64 a1_2, .string a1_3, .string a1_4, .int .i64 a1_5, .int .u64 a1_6, .int .u64 a1_7, .bool a1_8, (.slice A1_9 l1_9.length c1_9)] 27 (0, 0))) ∧ Aside0 (Below w.heap.size w wc))
 case first =>
  have H := HC3.out
  clear HC3
  replace H := iE H; rcases H with ⟨c6b0, c6b1, H⟩ | ⟨c6, c6b0, c6b1, H⟩
  ·(skip)
   replace H := iE H; rcases H with ⟨c7b0, c7b1, H⟩ | ⟨c7, c7b0, c7b1, H⟩
   ·replace H := iE H; rcases H with ⟨c8b0, c8b1, H⟩ | ⟨c8, c8b0, c8b1, H⟩
    ·by_cases c9 : (!(a0_5 == a1_5) || (!(a0_6 == a1_6) || (!(a0_7 == a1_7)))) = true
     ·rw [if_pos c9] at H
      have c9b0 : (!(a0_5 == a1_5) || (!(a0_6 == a1_6) || (!(a0_7 == a1_7)))) = true := c9
      clear c9
      have H' := Aside0.mk H
      clear H
      have hnb10 := NB178_179.out
      have hnc10 := NB179_178.out
      obtain ⟨hcz11_0, hcz11_1, hcz11_2, hcz11_3, hcz11_4, hcz11_5, hcz11_6, hcz11_7, hcz11_8, hcz11_9⟩ := sq_cells10 (W := w5) (g := gb178) BK178.out; obtain ⟨hfz11_0, hfz11_1, hfz11_2, hfz11_3, hfz11_4, hfz11_5, hfz11_6, hfz11_7, hfz11_8, hfz11_9⟩ := sq_frozen10 BK178.out
      obtain ⟨hcz12_0, hcz12_1, hcz12_2, hcz12_3, hcz12_4, hcz12_5, hcz12_6, hcz12_7, hcz12_8, hcz12_9⟩ := sq_cells10 (W := w5) (g := gb179) BK179.out; obtain ⟨hfz12_0, hfz12_1, hfz12_2, hfz12_3, hfz12_4, hfz12_5, hfz12_6, hfz12_7, hfz12_8, hfz12_9⟩ := sq_frozen10 BK179.out
      go_wp2
      go_meet
      case rel => exact ⟨_, (true), (by rfl), H', ⟨by omega⟩, ⟨by exact BK178.out⟩, ⟨by exact BK179.out⟩, ⟨by repeat (with_reducible exact HB.out)⟩⟩
     ·rw [if_neg c9] at H
      have c9b0 : (!(a0_5 == a1_5) || (!(a0_6 == a1_6) || (!(a0_7 == a1_7)))) = false := by simpa using c9
      clear c9
      by_cases c13 : (a0_8 != a1_8) = true
      ·rw [if_pos c13] at H
       have c13b0 : (a0_8 != a1_8) = true := c13
       (try (have c13b1 : decide (a0_8 = a1_8) = false := by simpa using c13))
       (try (have c13b2 : (a0_8 == a1_8) = false := by simpa using c13))
       (try (have c13b3 : ¬ (a0_8 = a1_8) := by simpa using c13))
       clear c13
       have H' := Aside0.mk H
       clear H
       have hnb14 := NB178_179.out
       have hnc14 := NB179_178.out
       obtain ⟨hcz15_0, hcz15_1, hcz15_2, hcz15_3, hcz15_4, hcz15_5, hcz15_6, hcz15_7, hcz15_8, hcz15_9⟩ := sq_cells10 (W := w5) (g := gb178) BK178.out; obtain ⟨hfz15_0, hfz15_1, hfz15_2, hfz15_3, hfz15_4, hfz15_5, hfz15_6, hfz15_7, hfz15_8, hfz15_9⟩ := sq_frozen10 BK178.out
       obtain ⟨hcz16_0, hcz16_1, hcz16_2, hcz16_3, hcz16_4, hcz16_5, hcz16_6, hcz16_7, hcz16_8, hcz16_9⟩ := sq_cells10 (W := w5) (g := gb179) BK179.out; obtain ⟨hfz16_0, hfz16_1, hfz16_2, hfz16_3, hfz16_4, hfz16_5, hfz16_6, hfz16_7, hfz16_8, hfz16_9⟩ := sq_frozen10 BK179.out
       go_wp2
       go_meet
       case rel => exact ⟨_, (true), (by rfl), H', ⟨by omega⟩, ⟨by exact BK178.out⟩, ⟨by exact BK179.out⟩, ⟨by repeat (with_reducible exact HB.out)⟩⟩
      ·rw [if_neg c13] at H
       have c13b0 : (a0_8 != a1_8) = false := by simpa using c13
       (try (have c13b1 : decide (a0_8 = a1_8) = true := by simpa using c13))
       (try (have c13b2 : (a0_8 == a1_8) = true := by simpa using c13))
       clear c13
       have H' := Aside0.mk H
       clear H
       have hnb17 := NB178_179.out
       have hnc17 := NB179_178.out
       obtain ⟨hcz18_0, hcz18_1, hcz18_2, hcz18_3, hcz18_4, hcz18_5, hcz18_6, hcz18_7, hcz18_8, hcz18_9⟩ := sq_cells10 (W := w5) (g := gb178) BK178.out; obtain ⟨hfz18_0, hfz18_1, hfz18_2, hfz18_3, hfz18_4, hfz18_5, hfz18_6, hfz18_7, hfz18_8, hfz18_9⟩ := sq_frozen10 BK178.out
       obtain ⟨hcz19_0, hcz19_1, hcz19_2, hcz19_3, hcz19_4, hcz19_5, hcz19_6, hcz19_7, hcz19_8, hcz19_9⟩ := sq_cells10 (W := w5) (g := gb179) BK179.out; obtain ⟨hfz19_0, hfz19_1, hfz19_2, hfz19_3, hfz19_4, hfz19_5, hfz19_6, hfz19_7, hfz19_8, hfz19_9⟩ := sq_frozen10 BK179.out
       go_wp2
       go_meet
       case rel => exact ⟨_, ((l0_9.length : Int) != (l1_9.length : Int)), (by rfl), H', ⟨by omega⟩, ⟨by exact BK178.out⟩, ⟨by exact BK179.out⟩, ⟨by repeat (with_reducible exact HB.out)⟩⟩
    ·have H' := Aside0.mk H
     clear H
     have hnb20 := NB178_179.out
     have hnc20 := NB179_178.out
     obtain ⟨hcz21_0, hcz21_1, hcz21_2, hcz21_3, hcz21_4, hcz21_5, hcz21_6, hcz21_7, hcz21_8, hcz21_9⟩ := sq_cells10 (W := w5) (g := gb178) BK178.out; obtain ⟨hfz21_0, hfz21_1, hfz21_2, hfz21_3, hfz21_4, hfz21_5, hfz21_6, hfz21_7, hfz21_8, hfz21_9⟩ := sq_frozen10 BK178.out
     obtain ⟨hcz22_0, hcz22_1, hcz22_2, hcz22_3, hcz22_4, hcz22_5, hcz22_6, hcz22_7, hcz22_8, hcz22_9⟩ := sq_cells10 (W := w5) (g := gb179) BK179.out; obtain ⟨hfz22_0, hfz22_1, hfz22_2, hfz22_3, hfz22_4, hfz22_5, hfz22_6, hfz22_7, hfz22_8, hfz22_9⟩ := sq_frozen10 BK179.out
     go_wp2
     go_meet
     case rel => exact ⟨_, (true), (by rfl), H', ⟨by omega⟩, ⟨by exact BK178.out⟩, ⟨by exact BK179.out⟩, ⟨by repeat (with_reducible exact HB.out)⟩⟩
   ·have H' := Aside0.mk H
    clear H
    have hnb23 := NB178_179.out
    have hnc23 := NB179_178.out
    obtain ⟨hcz24_0, hcz24_1, hcz24_2, hcz24_3, hcz24_4, hcz24_5, hcz24_6, hcz24_7, hcz24_8, hcz24_9⟩ := sq_cells10 (W := w5) (g := gb178) BK178.out; obtain ⟨hfz24_0, hfz24_1, hfz24_2, hfz24_3, hfz24_4, hfz24_5, hfz24_6, hfz24_7, hfz24_8, hfz24_9⟩ := sq_frozen10 BK178.out
    obtain ⟨hcz25_0, hcz25_1, hcz25_2, hcz25_3, hcz25_4, hcz25_5, hcz25_6, hcz25_7, hcz25_8, hcz25_9⟩ := sq_cells10 (W := w5) (g := gb179) BK179.out; obtain ⟨hfz25_0, hfz25_1, hfz25_2, hfz25_3, hfz25_4, hfz25_5, hfz25_6, hfz25_7, hfz25_8, hfz25_9⟩ := sq_frozen10 BK179.out
    go_wp2
    go_meet
    case rel => exact ⟨_, (true), (by rfl), H', ⟨by omega⟩, ⟨by exact BK178.out⟩, ⟨by exact BK179.out⟩, ⟨by repeat (with_reducible exact HB.out)⟩⟩
  ·(skip)
   have H' := Aside0.mk H
   clear H
   have hnb26 := NB178_179.out
   have hnc26 := NB179_178.out
   obtain ⟨hcz27_0, hcz27_1, hcz27_2, hcz27_3, hcz27_4, hcz27_5, hcz27_6, hcz27_7, hcz27_8, hcz27_9⟩ := sq_cells10 (W := w5) (g := gb178) BK178.out; obtain ⟨hfz27_0, hfz27_1, hfz27_2, hfz27_3, hfz27_4, hfz27_5, hfz27_6, hfz27_7, hfz27_8, hfz27_9⟩ := sq_frozen10 BK178.out
   obtain ⟨hcz28_0, hcz28_1, hcz28_2, hcz28_3, hcz28_4, hcz28_5, hcz28_6, hcz28_7, hcz28_8, hcz28_9⟩ := sq_cells10 (W := w5) (g := gb179) BK179.out; obtain ⟨hfz28_0, hfz28_1, hfz28_2, hfz28_3, hfz28_4, hfz28_5, hfz28_6, hfz28_7, hfz28_8, hfz28_9⟩ := sq_frozen10 BK179.out
   go_wp2
   go_meet
   case rel => exact ⟨_, (true), (by rfl), H', ⟨by omega⟩, ⟨by exact BK178.out⟩, ⟨by exact BK179.out⟩, ⟨by repeat (with_reducible exact HB.out)⟩⟩
 case rest =>
  clear HC3
  obtain ⟨kq, x47_2, rfl, HA, HJ2, BK178, BK179, HB⟩ := hcut
  cases kq with
  | zero => exact absurd HA.out (by simp [maskref1_SameTree.j0])
  | succ kj2 =>
   have H := HA.out
   clear HA
   simp only [maskref1_SameTree.j0] at H
   replace H := iB H; rcases H with ⟨rfl, H⟩ | ⟨rfl, H⟩
   ·obtain rfl := Option.some.inj H
    go_wp2
    go_ret
    exact ⟨by rfl, by repeat (with_reducible exact HB.out)⟩
   ·have H' := Aside0.mk H
    clear H
    have hnb30 := NB178_179.out
    have hnc30 := NB179_178.out
    obtain ⟨hcz31_0, hcz31_1, hcz31_2, hcz31_3, hcz31_4, hcz31_5, hcz31_6, hcz31_7, hcz31_8, hcz31_9⟩ := sq_cells10 (W := wc) (g := gb178) BK178.out; obtain ⟨hfz31_0, hfz31_1, hfz31_2, hfz31_3, hfz31_4, hfz31_5, hfz31_6, hfz31_7, hfz31_8, hfz31_9⟩ := sq_frozen10 BK178.out
    go_wp2
    go_loopg [51] kj2 (fun kq v51 w' => ∃ (x51_2 : Int), v51 = .int .i64 x51_2 ∧ Aside0 (maskref1_SameTree.l0 kq (l0_9.length : Int) x51_2 a0_0 a0_1 a0_2 a0_3 a0_4 a0_5 a0_6 a0_7 a0_8 l0_9 a1_0 a1_1 a1_2 a1_3 a1_4 a1_5 a1_6 a1_7 a1_8 l1_9 = some r) ∧ Aside0 (kq ≤ kj2) ∧ Aside0 (w'.heap[gb178]? = some (.cells #[.int .i64 a0_0, .int .i64 a0_1, .int .i64 a0_2, .string a0_3, .string a0_4, .int .i64 a0_5, .int .u64 a0_6, .int .u64 a0_7, .bool a0_8, (.slice A0_9 l0_9.length c0_9)] 27 (0, 0))) ∧ Aside0 (w'.heap[gb179]? = some (.cells #[.int .i64 a1_0, .int .i64 a1_1, .int .i64 a1_2, .string a1_3, .string a1_4, .int .i64 a1_5, .int .u64 a1_6, .int .u64 a1_7, .bool a1_8, (.slice A1_9 l1_9.length c1_9)] 27 (0, 0))) ∧ Aside0 (Below w.heap.size w w'))
    case atStart => exact ⟨(0), (by rfl), H', ⟨Nat.le_refl _⟩, ⟨by exact BK178.out⟩, ⟨by exact BK179.out⟩, ⟨by repeat (with_reducible exact HB.out)⟩⟩
    case round =>
     clear H'
     (try clear hcz31_0 hcz31_1 hcz31_2 hcz31_3 hcz31_4 hcz31_5 hcz31_6 hcz31_7 hcz31_8 hcz31_9); (try clear hfz31_0 hfz31_1 hfz31_2 hfz31_3 hfz31_4 hfz31_5 hfz31_6 hfz31_7 hfz31_8 hfz31_9)
     obtain ⟨x51_2, rfl, HA, HK2, BK178, BK179, HB⟩ := hrel
     cases gk with
     | zero => exact absurd HA.out (by simp [maskref1_SameTree.l0])
     | succ k2 =>
      have H := HA.out
      clear HA
      simp only [maskref1_SameTree.l0] at H
      replace H := iD H; rcases H with ⟨c32b0, H⟩ | ⟨c32b0, H⟩
      ·replace H := iN H; obtain ⟨c33b0, H⟩ := H
       replace H := iN H; obtain ⟨c34b0, H⟩ := H
       replace H := iN H; obtain ⟨c35b0, H⟩ := H
       replace H := bN H; obtain ⟨t182, A36, H⟩ := H
       replace H := iB H; rcases H with ⟨rfl, H⟩ | ⟨rfl, H⟩
       ·have H' := Aside0.mk H
        clear H
        try go_wp2
        replace BK178 := bkd BK178
        replace BK179 := bkd BK179
        replace HB := hbd HB
        have p180 : 0 ≤ (x51_2 : Int) := of_decide_eq_true (by (with_reducible assumption))
        have q180 : x51_2 < (l0_9.length : Int) := of_decide_eq_true (by (with_reducible assumption))
        obtain ⟨ad180, A180_9, c180_9, e180, hx180_0, hx180_1, hx180_2, hx180_3, hx180_4, hx180_5, hx180_6, hx180_7, hx180_8, hx180_9, hl180_9, hi180_9⟩ := at_T27 HR0_9.out x51_2 p180 q180
        have hw180_9 := hx180_9
        have hw180_8 := hx180_8
        have hw180_7 := hx180_7
        have hw180_6 := hx180_6
        have hw180_5 := hx180_5
        have hw180_4 := hx180_4
        have hw180_3 := hx180_3
        have hw180_2 := hx180_2
        have hw180_1 := hx180_1
        have hw180_0 := hx180_0
        cases e180
        replace hx180_0 := (HB.out.cell (World.block_lt_of_cell? w _ hx180_0)).trans hx180_0
        replace hx180_1 := (HB.out.cell (World.block_lt_of_cell? w _ hx180_1)).trans hx180_1
        replace hx180_2 := (HB.out.cell (World.block_lt_of_cell? w _ hx180_2)).trans hx180_2
        replace hx180_3 := (HB.out.cell (World.block_lt_of_cell? w _ hx180_3)).trans hx180_3
        replace hx180_4 := (HB.out.cell (World.block_lt_of_cell? w _ hx180_4)).trans hx180_4
        replace hx180_5 := (HB.out.cell (World.block_lt_of_cell? w _ hx180_5)).trans hx180_5
        replace hx180_6 := (HB.out.cell (World.block_lt_of_cell? w _ hx180_6)).trans hx180_6
        replace hx180_7 := (HB.out.cell (World.block_lt_of_cell? w _ hx180_7)).trans hx180_7
        replace hx180_8 := (HB.out.cell (World.block_lt_of_cell? w _ hx180_8)).trans hx180_8
        replace hx180_9 := (HB.out.cell (World.block_lt_of_cell? w _ hx180_9)).trans hx180_9
        have HR180_9 := Aside0.mk hi180_9
        have HC180_9 := Aside0.mk hl180_9
        clear hi180_9 hl180_9
        replace p180 := eq_true p180
        replace q180 := eq_true q180
        have p181 : 0 ≤ (x51_2 : Int) := of_decide_eq_true (by (with_reducible assumption))
        have q181 : x51_2 < (l1_9.length : Int) := of_decide_eq_true (by (with_reducible assumption))
        obtain ⟨ad181, A181_9, c181_9, e181, hx181_0, hx181_1, hx181_2, hx181_3, hx181_4, hx181_5, hx181_6, hx181_7, hx181_8, hx181_9, hl181_9, hi181_9⟩ := at_T27 HR1_9.out x51_2 p181 q181
        have hw181_9 := hx181_9
        have hw181_8 := hx181_8
        have hw181_7 := hx181_7
        have hw181_6 := hx181_6
        have hw181_5 := hx181_5
        have hw181_4 := hx181_4
        have hw181_3 := hx181_3
        have hw181_2 := hx181_2
        have hw181_1 := hx181_1
        have hw181_0 := hx181_0
        cases e181
        replace hx181_0 := (HB.out.cell (World.block_lt_of_cell? w _ hx181_0)).trans hx181_0
        replace hx181_1 := (HB.out.cell (World.block_lt_of_cell? w _ hx181_1)).trans hx181_1
        replace hx181_2 := (HB.out.cell (World.block_lt_of_cell? w _ hx181_2)).trans hx181_2
        replace hx181_3 := (HB.out.cell (World.block_lt_of_cell? w _ hx181_3)).trans hx181_3
        replace hx181_4 := (HB.out.cell (World.block_lt_of_cell? w _ hx181_4)).trans hx181_4
        replace hx181_5 := (HB.out.cell (World.block_lt_of_cell? w _ hx181_5)).trans hx181_5
        replace hx181_6 := (HB.out.cell (World.block_lt_of_cell? w _ hx181_6)).trans hx181_6
        replace hx181_7 := (HB.out.cell (World.block_lt_of_cell? w _ hx181_7)).trans hx181_7
        replace hx181_8 := (HB.out.cell (World.block_lt_of_cell? w _ hx181_8)).trans hx181_8
        replace hx181_9 := (HB.out.cell (World.block_lt_of_cell? w _ hx181_9)).trans hx181_9
        have HR181_9 := Aside0.mk hi181_9
        have HC181_9 := Aside0.mk hl181_9
        clear hi181_9 hl181_9
        replace p181 := eq_true p181
        replace q181 := eq_true q181
        refine start_ (n := 12) (S := fun w' => w'.cell? ⟨gb178, 0, none⟩ = some (.int .i64 a0_0) ∧ w'.cell? ⟨gb178, 1, none⟩ = some (.int .i64 a0_1) ∧ w'.cell? ⟨gb178, 2, none⟩ = some (.int .i64 a0_2) ∧ w'.cell? ⟨gb178, 3, none⟩ = some (.string a0_3) ∧ w'.cell? ⟨gb178, 4, none⟩ = some (.string a0_4) ∧ w'.cell? ⟨gb178, 5, none⟩ = some (.int .i64 a0_5) ∧ w'.cell? ⟨gb178, 6, none⟩ = some (.int .u64 a0_6) ∧ w'.cell? ⟨gb178, 7, none⟩ = some (.int .u64 a0_7) ∧ w'.cell? ⟨gb178, 8, none⟩ = some (.bool a0_8) ∧ w'.cell? ⟨gb178, 9, none⟩ = some (.slice (some ad180) l0_9.length c0_9) ∧ w'.cell? ⟨gb179, 0, none⟩ = some (.int .i64 a1_0) ∧ w'.cell? ⟨gb179, 1, none⟩ = some (.int .i64 a1_1) ∧ w'.cell? ⟨gb179, 2, none⟩ = some (.int .i64 a1_2) ∧ w'.cell? ⟨gb179, 3, none⟩ = some (.string a1_3) ∧ w'.cell? ⟨gb179, 4, none⟩ = some (.string a1_4) ∧ w'.cell? ⟨gb179, 5, none⟩ = some (.int .i64 a1_5) ∧ w'.cell? ⟨gb179, 6, none⟩ = some (.int .u64 a1_6) ∧ w'.cell? ⟨gb179, 7, none⟩ = some (.int .u64 a1_7) ∧ w'.cell? ⟨gb179, 8, none⟩ = some (.bool a1_8) ∧ w'.cell? ⟨gb179, 9, none⟩ = some (.slice (some ad181) l1_9.length c1_9) ∧ w'.cell? (ad180.add ((x51_2).toNat * 10)) = some (.int .i64 ((rd_T27 l0_9 x51_2).f0)) ∧ w'.cell? ⟨(ad180.add ((x51_2).toNat * 10)).block, (ad180.add ((x51_2).toNat * 10)).off + 1, none⟩ = some (.int .i64 ((rd_T27 l0_9 x51_2).f1)) ∧ w'.cell? ⟨(ad180.add ((x51_2).toNat * 10)).block, (ad180.add ((x51_2).toNat * 10)).off + 2, none⟩ = some (.int .i64 ((rd_T27 l0_9 x51_2).f2)) ∧ w'.cell? ⟨(ad180.add ((x51_2).toNat * 10)).block, (ad180.add ((x51_2).toNat * 10)).off + 3, none⟩ = some (.string ((rd_T27 l0_9 x51_2).f3)) ∧ w'.cell? ⟨(ad180.add ((x51_2).toNat * 10)).block, (ad180.add ((x51_2).toNat * 10)).off + 4, none⟩ = some (.string ((rd_T27 l0_9 x51_2).f4)) ∧ w'.cell? ⟨(ad180.add ((x51_2).toNat * 10)).block, (ad180.add ((x51_2).toNat * 10)).off + 5, none⟩ = some (.int .i64 ((rd_T27 l0_9 x51_2).f5.f0)) ∧ w'.cell? ⟨(ad180.add ((x51_2).toNat * 10)).block, (ad180.add ((x51_2).toNat * 10)).off + 6, none⟩ = some (.int .u64 ((rd_T27 l0_9 x51_2).f5.f1)) ∧ w'.cell? ⟨(ad180.add ((x51_2).toNat * 10)).block, (ad180.add ((x51_2).toNat * 10)).off + 7, none⟩ = some (.int .u64 ((rd_T27 l0_9 x51_2).f5.f2)) ∧ w'.cell? ⟨(ad180.add ((x51_2).toNat * 10)).block, (ad180.add ((x51_2).toNat * 10)).off + 8, none⟩ = some (.bool ((rd_T27 l0_9 x51_2).f6)) ∧ w'.cell? ⟨(ad180.add ((x51_2).toNat * 10)).block, (ad180.add ((x51_2).toNat * 10)).off + 9, none⟩ = some (.slice A180_9 ((rd_T27 l0_9 x51_2).f7).length c180_9) ∧ w'.cell? (ad181.add ((x51_2).toNat * 10)) = some (.int .i64 ((rd_T27 l1_9 x51_2).f0)) ∧ w'.cell? ⟨(ad181.add ((x51_2).toNat * 10)).block, (ad181.add ((x51_2).toNat * 10)).off + 1, none⟩ = some (.int .i64 ((rd_T27 l1_9 x51_2).f1)) ∧ w'.cell? ⟨(ad181.add ((x51_2).toNat * 10)).block, (ad181.add ((x51_2).toNat * 10)).off + 2, none⟩ = some (.int .i64 ((rd_T27 l1_9 x51_2).f2)) ∧ w'.cell? ⟨(ad181.add ((x51_2).toNat * 10)).block, (ad181.add ((x51_2).toNat * 10)).off + 3, none⟩ = some (.string ((rd_T27 l1_9 x51_2).f3)) ∧ w'.cell? ⟨(ad181.add ((x51_2).toNat * 10)).block, (ad181.add ((x51_2).toNat * 10)).off + 4, none⟩ = some (.string ((rd_T27 l1_9 x51_2).f4)) ∧ w'.cell? ⟨(ad181.add ((x51_2).toNat * 10)).block, (ad181.add ((x51_2).toNat * 10)).off + 5, none⟩ = some (.int .i64 ((rd_T27 l1_9 x51_2).f5.f0)) ∧ w'.cell? ⟨(ad181.add ((x51_2).toNat * 10)).block, (ad181.add ((x51_2).toNat * 10)).off + 6, none⟩ = some (.int .u64 ((rd_T27 l1_9 x51_2).f5.f1)) ∧ w'.cell? ⟨(ad181.add ((x51_2).toNat * 10)).block, (ad181.add ((x51_2).toNat * 10)).off + 7, none⟩ = some (.int .u64 ((rd_T27 l1_9 x51_2).f5.f2)) ∧ w'.cell? ⟨(ad181.add ((x51_2).toNat * 10)).block, (ad181.add ((x51_2).toNat * 10)).off + 8, none⟩ = some (.bool ((rd_T27 l1_9 x51_2).f6)) ∧ w'.cell? ⟨(ad181.add ((x51_2).toNat * 10)).block, (ad181.add ((x51_2).toNat * 10)).off + 9, none⟩ = some (.slice A181_9 ((rd_T27 l1_9 x51_2).f7).length c181_9)) (ds := []) (tb 12 0) (by kernel_rfl) rfl (by kernel_rfl) ⟨(blk_cell BK178.out 0).trans rfl, (blk_cell BK178.out 1).trans rfl, (blk_cell BK178.out 2).trans rfl, (blk_cell BK178.out 3).trans rfl, (blk_cell BK178.out 4).trans rfl, (blk_cell BK178.out 5).trans rfl, (blk_cell BK178.out 6).trans rfl, (blk_cell BK178.out 7).trans rfl, (blk_cell BK178.out 8).trans rfl, (blk_cell BK178.out 9).trans rfl, (blk_cell BK179.out 0).trans rfl, (blk_cell BK179.out 1).trans rfl, (blk_cell BK179.out 2).trans rfl, (blk_cell BK179.out 3).trans rfl, (blk_cell BK179.out 4).trans rfl, (blk_cell BK179.out 5).trans rfl, (blk_cell BK179.out 6).trans rfl, (blk_cell BK179.out 7).trans rfl, (blk_cell BK179.out 8).trans rfl, (blk_cell BK179.out 9).trans rfl, ((HB.out.cell (World.block_lt_of_cell? w _ hw180_0)).trans hw180_0), ((HB.out.cell (World.block_lt_of_cell? w _ hw180_1)).trans hw180_1), ((HB.out.cell (World.block_lt_of_cell? w _ hw180_2)).trans hw180_2), ((HB.out.cell (World.block_lt_of_cell? w _ hw180_3)).trans hw180_3), ((HB.out.cell (World.block_lt_of_cell? w _ hw180_4)).trans hw180_4), ((HB.out.cell (World.block_lt_of_cell? w _ hw180_5)).trans hw180_5), ((HB.out.cell (World.block_lt_of_cell? w _ hw180_6)).trans hw180_6), ((HB.out.cell (World.block_lt_of_cell? w _ hw180_7)).trans hw180_7), ((HB.out.cell (World.block_lt_of_cell? w _ hw180_8)).trans hw180_8), ((HB.out.cell (World.block_lt_of_cell? w _ hw180_9)).trans hw180_9), ((HB.out.cell (World.block_lt_of_cell? w _ hw181_0)).trans hw181_0), ((HB.out.cell (World.block_lt_of_cell? w _ hw181_1)).trans hw181_1), ((HB.out.cell (World.block_lt_of_cell? w _ hw181_2)).trans hw181_2), ((HB.out.cell (World.block_lt_of_cell? w _ hw181_3)).trans hw181_3), ((HB.out.cell (World.block_lt_of_cell? w _ hw181_4)).trans hw181_4), ((HB.out.cell (World.block_lt_of_cell? w _ hw181_5)).trans hw181_5), ((HB.out.cell (World.block_lt_of_cell? w _ hw181_6)).trans hw181_6), ((HB.out.cell (World.block_lt_of_cell? w _ hw181_7)).trans hw181_7), ((HB.out.cell (World.block_lt_of_cell? w _ hw181_8)).trans hw181_8), ((HB.out.cell (World.block_lt_of_cell? w _ hw181_9)).trans hw181_9)⟩ (fun hHeld => ?_); refine with_tabW maskref1_SameTree.tab6 maskref1_SameTree.bits6 (fun HT_ HW_ => ?_)
        generalize wr.drew = w38 at BK178 BK179 HB HR180_9 HR181_9 hx180_0 hx180_1 hx180_2 hx180_3 hx180_4 hx180_5 hx180_6 hx180_7 hx180_8 hx180_9 hx181_0 hx181_1 hx181_2 hx181_3 hx181_4 hx181_5 hx181_6 hx181_7 hx181_8 hx181_9 hHeld ⊢
        refine pA 0 54 (tb 12 1) HT_ ?_
        refine pA 2 56 (tb 12 5) HT_ ?_
        refine pA 5 59 (tb 12 37) HT_ ?_
        refine pA 7 61 (tb 12 165) HT_ ?_
        refine tA 1 55 (tb 12 167) HT_ HW_ hHeld ?_
        refine pA 3 57 (tb 12 175) HT_ ?_
        refine tA 4 58 (tb 12 191) HT_ HW_ hHeld ?_
        refine tA 6 60 (tb 12 255) HT_ HW_ hHeld ?_
        refine pA 8 62 (tb 12 511) HT_ ?_
        refine tA 9 63 (tb 12 1023) HT_ HW_ hHeld ?_
        refine oA 10 (some 64) (tb 12 2047) HT_ (fun K hK => ?_)
        refine gA Try.func13 #[.agg #[.int .i64 ((rd_T27 l0_9 x51_2).f0), .int .i64 ((rd_T27 l0_9 x51_2).f1), .int .i64 ((rd_T27 l0_9 x51_2).f2), .string ((rd_T27 l0_9 x51_2).f3), .string ((rd_T27 l0_9 x51_2).f4), .int .i64 ((rd_T27 l0_9 x51_2).f5.f0), .int .u64 ((rd_T27 l0_9 x51_2).f5.f1), .int .u64 ((rd_T27 l0_9 x51_2).f5.f2), .bool ((rd_T27 l0_9 x51_2).f6), .slice A180_9 ((rd_T27 l0_9 x51_2).f7).length c180_9], .agg #[.int .i64 ((rd_T27 l1_9 x51_2).f0), .int .i64 ((rd_T27 l1_9 x51_2).f1), .int .i64 ((rd_T27 l1_9 x51_2).f2), .string ((rd_T27 l1_9 x51_2).f3), .string ((rd_T27 l1_9 x51_2).f4), .int .i64 ((rd_T27 l1_9 x51_2).f5.f0), .int .u64 ((rd_T27 l1_9 x51_2).f5.f1), .int .u64 ((rd_T27 l1_9 x51_2).f5.f2), .bool ((rd_T27 l1_9 x51_2).f6), .slice A181_9 ((rd_T27 l1_9 x51_2).f7).length c181_9]] ?_
        with_reducible refine (ih k2 (by have := HJ2.out; have := HK2.out; omega) ((rd_T27 l0_9 x51_2).f0) ((rd_T27 l0_9 x51_2).f1) ((rd_T27 l0_9 x51_2).f2) ((rd_T27 l0_9 x51_2).f3) ((rd_T27 l0_9 x51_2).f4) ((rd_T27 l0_9 x51_2).f5.f0) ((rd_T27 l0_9 x51_2).f5.f1) ((rd_T27 l0_9 x51_2).f5.f2) ((rd_T27 l0_9 x51_2).f6) _ _ ((rd_T27 l0_9 x51_2).f7) ((rd_T27 l1_9 x51_2).f0) ((rd_T27 l1_9 x51_2).f1) ((rd_T27 l1_9 x51_2).f2) ((rd_T27 l1_9 x51_2).f3) ((rd_T27 l1_9 x51_2).f4) ((rd_T27 l1_9 x51_2).f5.f0) ((rd_T27 l1_9 x51_2).f5.f1) ((rd_T27 l1_9 x51_2).f5.f2) ((rd_T27 l1_9 x51_2).f6) _ _ ((rd_T27 l1_9 x51_2).f7) true _ ?side1 ?side2 ?side3 ?side4 A36.out).mono ?_
        (case side1 => exact (Kd.C_below HR180_9.out HB.out))
        (case side2 => exact HC180_9.out)
        (case side3 => exact (Kd.C_below HR181_9.out HB.out))
        (case side4 => exact HC181_9.out)
        rintro e w39 ⟨rfl, hb⟩
        refine ⟨_, rfl, ?_⟩
        replace BK178 := bk1 BK178 hb
        replace BK179 := bk1 BK179 hb
        replace HB := hb1 HB hb
        (try clear hb)
        refine hK.out _ _ ⟨(blk_cell BK178.out 0).trans rfl, (blk_cell BK178.out 1).trans rfl, (blk_cell BK178.out 2).trans rfl, (blk_cell BK178.out 3).trans rfl, (blk_cell BK178.out 4).trans rfl, (blk_cell BK178.out 5).trans rfl, (blk_cell BK178.out 6).trans rfl, (blk_cell BK178.out 7).trans rfl, (blk_cell BK178.out 8).trans rfl, (blk_cell BK178.out 9).trans rfl, (blk_cell BK179.out 0).trans rfl, (blk_cell BK179.out 1).trans rfl, (blk_cell BK179.out 2).trans rfl, (blk_cell BK179.out 3).trans rfl, (blk_cell BK179.out 4).trans rfl, (blk_cell BK179.out 5).trans rfl, (blk_cell BK179.out 6).trans rfl, (blk_cell BK179.out 7).trans rfl, (blk_cell BK179.out 8).trans rfl, (blk_cell BK179.out 9).trans rfl, ((HB.out.cell (World.block_lt_of_cell? w _ hw180_0)).trans hw180_0), ((HB.out.cell (World.block_lt_of_cell? w _ hw180_1)).trans hw180_1), ((HB.out.cell (World.block_lt_of_cell? w _ hw180_2)).trans hw180_2), ((HB.out.cell (World.block_lt_of_cell? w _ hw180_3)).trans hw180_3), ((HB.out.cell (World.block_lt_of_cell? w _ hw180_4)).trans hw180_4), ((HB.out.cell (World.block_lt_of_cell? w _ hw180_5)).trans hw180_5), ((HB.out.cell (World.block_lt_of_cell? w _ hw180_6)).trans hw180_6), ((HB.out.cell (World.block_lt_of_cell? w _ hw180_7)).trans hw180_7), ((HB.out.cell (World.block_lt_of_cell? w _ hw180_8)).trans hw180_8), ((HB.out.cell (World.block_lt_of_cell? w _ hw180_9)).trans hw180_9), ((HB.out.cell (World.block_lt_of_cell? w _ hw181_0)).trans hw181_0), ((HB.out.cell (World.block_lt_of_cell? w _ hw181_1)).trans hw181_1), ((HB.out.cell (World.block_lt_of_cell? w _ hw181_2)).trans hw181_2), ((HB.out.cell (World.block_lt_of_cell? w _ hw181_3)).trans hw181_3), ((HB.out.cell (World.block_lt_of_cell? w _ hw181_4)).trans hw181_4), ((HB.out.cell (World.block_lt_of_cell? w _ hw181_5)).trans hw181_5), ((HB.out.cell (World.block_lt_of_cell? w _ hw181_6)).trans hw181_6), ((HB.out.cell (World.block_lt_of_cell? w _ hw181_7)).trans hw181_7), ((HB.out.cell (World.block_lt_of_cell? w _ hw181_8)).trans hw181_8), ((HB.out.cell (World.block_lt_of_cell? w _ hw181_9)).trans hw181_9)⟩ (fun hHeld => ?_)
        clear hK K
        refine nA ?_
        refine pA 11 65 (tb 12 4095) HT_ ?_
        refine done_ (done_of HT_.out (by kernel_rfl)) ?_
        try go_wp2
        go_roundg k2
        case measure => have := HJ2.out; have := HK2.out; omega
        case rel => exact ⟨(wrap64 (x51_2 + 1)), (by rfl), H', ⟨by have := HJ2.out; have := HK2.out; omega⟩, ⟨by exact BK178.out⟩, ⟨by exact BK179.out⟩, ⟨by repeat (with_reducible exact HB.out)⟩⟩
       ·obtain rfl := Option.some.inj H
        try go_wp2
        replace BK178 := bkd BK178
        replace BK179 := bkd BK179
        replace HB := hbd HB
        have p180 : 0 ≤ (x51_2 : Int) := of_decide_eq_true (by (with_reducible assumption))
        have q180 : x51_2 < (l0_9.length : Int) := of_decide_eq_true (by (with_reducible assumption))
        obtain ⟨ad180, A180_9, c180_9, e180, hx180_0, hx180_1, hx180_2, hx180_3, hx180_4, hx180_5, hx180_6, hx180_7, hx180_8, hx180_9, hl180_9, hi180_9⟩ := at_T27 HR0_9.out x51_2 p180 q180
        have hw180_9 := hx180_9
        have hw180_8 := hx180_8
        have hw180_7 := hx180_7
        have hw180_6 := hx180_6
        have hw180_5 := hx180_5
        have hw180_4 := hx180_4
        have hw180_3 := hx180_3
        have hw180_2 := hx180_2
        have hw180_1 := hx180_1
        have hw180_0 := hx180_0
        cases e180
        replace hx180_0 := (HB.out.cell (World.block_lt_of_cell? w _ hx180_0)).trans hx180_0
        replace hx180_1 := (HB.out.cell (World.block_lt_of_cell? w _ hx180_1)).trans hx180_1
        replace hx180_2 := (HB.out.cell (World.block_lt_of_cell? w _ hx180_2)).trans hx180_2
        replace hx180_3 := (HB.out.cell (World.block_lt_of_cell? w _ hx180_3)).trans hx180_3
        replace hx180_4 := (HB.out.cell (World.block_lt_of_cell? w _ hx180_4)).trans hx180_4
        replace hx180_5 := (HB.out.cell (World.block_lt_of_cell? w _ hx180_5)).trans hx180_5
        replace hx180_6 := (HB.out.cell (World.block_lt_of_cell? w _ hx180_6)).trans hx180_6
        replace hx180_7 := (HB.out.cell (World.block_lt_of_cell? w _ hx180_7)).trans hx180_7
        replace hx180_8 := (HB.out.cell (World.block_lt_of_cell? w _ hx180_8)).trans hx180_8
        replace hx180_9 := (HB.out.cell (World.block_lt_of_cell? w _ hx180_9)).trans hx180_9
        have HR180_9 := Aside0.mk hi180_9
        have HC180_9 := Aside0.mk hl180_9
        clear hi180_9 hl180_9
        replace p180 := eq_true p180
        replace q180 := eq_true q180
        have p181 : 0 ≤ (x51_2 : Int) := of_decide_eq_true (by (with_reducible assumption))
        have q181 : x51_2 < (l1_9.length : Int) := of_decide_eq_true (by (with_reducible assumption))
        obtain ⟨ad181, A181_9, c181_9, e181, hx181_0, hx181_1, hx181_2, hx181_3, hx181_4, hx181_5, hx181_6, hx181_7, hx181_8, hx181_9, hl181_9, hi181_9⟩ := at_T27 HR1_9.out x51_2 p181 q181
        have hw181_9 := hx181_9
        have hw181_8 := hx181_8
        have hw181_7 := hx181_7
        have hw181_6 := hx181_6
        have hw181_5 := hx181_5
        have hw181_4 := hx181_4
        have hw181_3 := hx181_3
        have hw181_2 := hx181_2
        have hw181_1 := hx181_1
        have hw181_0 := hx181_0
        cases e181
        replace hx181_0 := (HB.out.cell (World.block_lt_of_cell? w _ hx181_0)).trans hx181_0
        replace hx181_1 := (HB.out.cell (World.block_lt_of_cell? w _ hx181_1)).trans hx181_1
        replace hx181_2 := (HB.out.cell (World.block_lt_of_cell? w _ hx181_2)).trans hx181_2
        replace hx181_3 := (HB.out.cell (World.block_lt_of_cell? w _ hx181_3)).trans hx181_3
        replace hx181_4 := (HB.out.cell (World.block_lt_of_cell? w _ hx181_4)).trans hx181_4
        replace hx181_5 := (HB.out.cell (World.block_lt_of_cell? w _ hx181_5)).trans hx181_5
        replace hx181_6 := (HB.out.cell (World.block_lt_of_cell? w _ hx181_6)).trans hx181_6
        replace hx181_7 := (HB.out.cell (World.block_lt_of_cell? w _ hx181_7)).trans hx181_7
        replace hx181_8 := (HB.out.cell (World.block_lt_of_cell? w _ hx181_8)).trans hx181_8
        replace hx181_9 := (HB.out.cell (World.block_lt_of_cell? w _ hx181_9)).trans hx181_9
        have HR181_9 := Aside0.mk hi181_9
        have HC181_9 := Aside0.mk hl181_9
        clear hi181_9 hl181_9
        replace p181 := eq_true p181
        replace q181 := eq_true q181
        refine start_ (n := 12) (S := fun w' => w'.cell? ⟨gb178, 0, none⟩ = some (.int .i64 a0_0) ∧ w'.cell? ⟨gb178, 1, none⟩ = some (.int .i64 a0_1) ∧ w'.cell? ⟨gb178, 2, none⟩ = some (.int .i64 a0_2) ∧ w'.cell? ⟨gb178, 3, none⟩ = some (.string a0_3) ∧ w'.cell? ⟨gb178, 4, none⟩ = some (.string a0_4) ∧ w'.cell? ⟨gb178, 5, none⟩ = some (.int .i64 a0_5) ∧ w'.cell? ⟨gb178, 6, none⟩ = some (.int .u64 a0_6) ∧ w'.cell? ⟨gb178, 7, none⟩ = some (.int .u64 a0_7) ∧ w'.cell? ⟨gb178, 8, none⟩ = some (.bool a0_8) ∧ w'.cell? ⟨gb178, 9, none⟩ = some (.slice (some ad180) l0_9.length c0_9) ∧ w'.cell? ⟨gb179, 0, none⟩ = some (.int .i64 a1_0) ∧ w'.cell? ⟨gb179, 1, none⟩ = some (.int .i64 a1_1) ∧ w'.cell? ⟨gb179, 2, none⟩ = some (.int .i64 a1_2) ∧ w'.cell? ⟨gb179, 3, none⟩ = some (.string a1_3) ∧ w'.cell? ⟨gb179, 4, none⟩ = some (.string a1_4) ∧ w'.cell? ⟨gb179, 5, none⟩ = some (.int .i64 a1_5) ∧ w'.cell? ⟨gb179, 6, none⟩ = some (.int .u64 a1_6) ∧ w'.cell? ⟨gb179, 7, none⟩ = some (.int .u64 a1_7) ∧ w'.cell? ⟨gb179, 8, none⟩ = some (.bool a1_8) ∧ w'.cell? ⟨gb179, 9, none⟩ = some (.slice (some ad181) l1_9.length c1_9) ∧ w'.cell? (ad180.add ((x51_2).toNat * 10)) = some (.int .i64 ((rd_T27 l0_9 x51_2).f0)) ∧ w'.cell? ⟨(ad180.add ((x51_2).toNat * 10)).block, (ad180.add ((x51_2).toNat * 10)).off + 1, none⟩ = some (.int .i64 ((rd_T27 l0_9 x51_2).f1)) ∧ w'.cell? ⟨(ad180.add ((x51_2).toNat * 10)).block, (ad180.add ((x51_2).toNat * 10)).off + 2, none⟩ = some (.int .i64 ((rd_T27 l0_9 x51_2).f2)) ∧ w'.cell? ⟨(ad180.add ((x51_2).toNat * 10)).block, (ad180.add ((x51_2).toNat * 10)).off + 3, none⟩ = some (.string ((rd_T27 l0_9 x51_2).f3)) ∧ w'.cell? ⟨(ad180.add ((x51_2).toNat * 10)).block, (ad180.add ((x51_2).toNat * 10)).off + 4, none⟩ = some (.string ((rd_T27 l0_9 x51_2).f4)) ∧ w'.cell? ⟨(ad180.add ((x51_2).toNat * 10)).block, (ad180.add ((x51_2).toNat * 10)).off + 5, none⟩ = some (.int .i64 ((rd_T27 l0_9 x51_2).f5.f0)) ∧ w'.cell? ⟨(ad180.add ((x51_2).toNat * 10)).block, (ad180.add ((x51_2).toNat * 10)).off + 6, none⟩ = some (.int .u64 ((rd_T27 l0_9 x51_2).f5.f1)) ∧ w'.cell? ⟨(ad180.add ((x51_2).toNat * 10)).block, (ad180.add ((x51_2).toNat * 10)).off + 7, none⟩ = some (.int .u64 ((rd_T27 l0_9 x51_2).f5.f2)) ∧ w'.cell? ⟨(ad180.add ((x51_2).toNat * 10)).block, (ad180.add ((x51_2).toNat * 10)).off + 8, none⟩ = some (.bool ((rd_T27 l0_9 x51_2).f6)) ∧ w'.cell? ⟨(ad180.add ((x51_2).toNat * 10)).block, (ad180.add ((x51_2).toNat * 10)).off + 9, none⟩ = some (.slice A180_9 ((rd_T27 l0_9 x51_2).f7).length c180_9) ∧ w'.cell? (ad181.add ((x51_2).toNat * 10)) = some (.int .i64 ((rd_T27 l1_9 x51_2).f0)) ∧ w'.cell? ⟨(ad181.add ((x51_2).toNat * 10)).block, (ad181.add ((x51_2).toNat * 10)).off + 1, none⟩ = some (.int .i64 ((rd_T27 l1_9 x51_2).f1)) ∧ w'.cell? ⟨(ad181.add ((x51_2).toNat * 10)).block, (ad181.add ((x51_2).toNat * 10)).off + 2, none⟩ = some (.int .i64 ((rd_T27 l1_9 x51_2).f2)) ∧ w'.cell? ⟨(ad181.add ((x51_2).toNat * 10)).block, (ad181.add ((x51_2).toNat * 10)).off + 3, none⟩ = some (.string ((rd_T27 l1_9 x51_2).f3)) ∧ w'.cell? ⟨(ad181.add ((x51_2).toNat * 10)).block, (ad181.add ((x51_2).toNat * 10)).off + 4, none⟩ = some (.string ((rd_T27 l1_9 x51_2).f4)) ∧ w'.cell? ⟨(ad181.add ((x51_2).toNat * 10)).block, (ad181.add ((x51_2).toNat * 10)).off + 5, none⟩ = some (.int .i64 ((rd_T27 l1_9 x51_2).f5.f0)) ∧ w'.cell? ⟨(ad181.add ((x51_2).toNat * 10)).block, (ad181.add ((x51_2).toNat * 10)).off + 6, none⟩ = some (.int .u64 ((rd_T27 l1_9 x51_2).f5.f1)) ∧ w'.cell? ⟨(ad181.add ((x51_2).toNat * 10)).block, (ad181.add ((x51_2).toNat * 10)).off + 7, none⟩ = some (.int .u64 ((rd_T27 l1_9 x51_2).f5.f2)) ∧ w'.cell? ⟨(ad181.add ((x51_2).toNat * 10)).block, (ad181.add ((x51_2).toNat * 10)).off + 8, none⟩ = some (.bool ((rd_T27 l1_9 x51_2).f6)) ∧ w'.cell? ⟨(ad181.add ((x51_2).toNat * 10)).block, (ad181.add ((x51_2).toNat * 10)).off + 9, none⟩ = some (.slice A181_9 ((rd_T27 l1_9 x51_2).f7).length c181_9)) (ds := []) (tb 12 0) (by kernel_rfl) rfl (by kernel_rfl) ⟨(blk_cell BK178.out 0).trans rfl, (blk_cell BK178.out 1).trans rfl, (blk_cell BK178.out 2).trans rfl, (blk_cell BK178.out 3).trans rfl, (blk_cell BK178.out 4).trans rfl, (blk_cell BK178.out 5).trans rfl, (blk_cell BK178.out 6).trans rfl, (blk_cell BK178.out 7).trans rfl, (blk_cell BK178.out 8).trans rfl, (blk_cell BK178.out 9).trans rfl, (blk_cell BK179.out 0).trans rfl, (blk_cell BK179.out 1).trans rfl, (blk_cell BK179.out 2).trans rfl, (blk_cell BK179.out 3).trans rfl, (blk_cell BK179.out 4).trans rfl, (blk_cell BK179.out 5).trans rfl, (blk_cell BK179.out 6).trans rfl, (blk_cell BK179.out 7).trans rfl, (blk_cell BK179.out 8).trans rfl, (blk_cell BK179.out 9).trans rfl, ((HB.out.cell (World.block_lt_of_cell? w _ hw180_0)).trans hw180_0), ((HB.out.cell (World.block_lt_of_cell? w _ hw180_1)).trans hw180_1), ((HB.out.cell (World.block_lt_of_cell? w _ hw180_2)).trans hw180_2), ((HB.out.cell (World.block_lt_of_cell? w _ hw180_3)).trans hw180_3), ((HB.out.cell (World.block_lt_of_cell? w _ hw180_4)).trans hw180_4), ((HB.out.cell (World.block_lt_of_cell? w _ hw180_5)).trans hw180_5), ((HB.out.cell (World.block_lt_of_cell? w _ hw180_6)).trans hw180_6), ((HB.out.cell (World.block_lt_of_cell? w _ hw180_7)).trans hw180_7), ((HB.out.cell (World.block_lt_of_cell? w _ hw180_8)).trans hw180_8), ((HB.out.cell (World.block_lt_of_cell? w _ hw180_9)).trans hw180_9), ((HB.out.cell (World.block_lt_of_cell? w _ hw181_0)).trans hw181_0), ((HB.out.cell (World.block_lt_of_cell? w _ hw181_1)).trans hw181_1), ((HB.out.cell (World.block_lt_of_cell? w _ hw181_2)).trans hw181_2), ((HB.out.cell (World.block_lt_of_cell? w _ hw181_3)).trans hw181_3), ((HB.out.cell (World.block_lt_of_cell? w _ hw181_4)).trans hw181_4), ((HB.out.cell (World.block_lt_of_cell? w _ hw181_5)).trans hw181_5), ((HB.out.cell (World.block_lt_of_cell? w _ hw181_6)).trans hw181_6), ((HB.out.cell (World.block_lt_of_cell? w _ hw181_7)).trans hw181_7), ((HB.out.cell (World.block_lt_of_cell? w _ hw181_8)).trans hw181_8), ((HB.out.cell (World.block_lt_of_cell? w _ hw181_9)).trans hw181_9)⟩ (fun hHeld => ?_); refine with_tabW maskref1_SameTree.tab6 maskref1_SameTree.bits6 (fun HT_ HW_ => ?_)
        generalize wr.drew = w40 at BK178 BK179 HB HR180_9 HR181_9 hx180_0 hx180_1 hx180_2 hx180_3 hx180_4 hx180_5 hx180_6 hx180_7 hx180_8 hx180_9 hx181_0 hx181_1 hx181_2 hx181_3 hx181_4 hx181_5 hx181_6 hx181_7 hx181_8 hx181_9 hHeld ⊢
        refine pA 0 54 (tb 12 1) HT_ ?_
        refine pA 2 56 (tb 12 5) HT_ ?_
        refine pA 5 59 (tb 12 37) HT_ ?_
        refine pA 7 61 (tb 12 165) HT_ ?_
        refine tA 1 55 (tb 12 167) HT_ HW_ hHeld ?_
        refine pA 3 57 (tb 12 175) HT_ ?_
        refine tA 4 58 (tb 12 191) HT_ HW_ hHeld ?_
        refine tA 6 60 (tb 12 255) HT_ HW_ hHeld ?_
        refine pA 8 62 (tb 12 511) HT_ ?_
        refine tA 9 63 (tb 12 1023) HT_ HW_ hHeld ?_
        refine oA 10 (some 64) (tb 12 2047) HT_ (fun K hK => ?_)
        refine gA Try.func13 #[.agg #[.int .i64 ((rd_T27 l0_9 x51_2).f0), .int .i64 ((rd_T27 l0_9 x51_2).f1), .int .i64 ((rd_T27 l0_9 x51_2).f2), .string ((rd_T27 l0_9 x51_2).f3), .string ((rd_T27 l0_9 x51_2).f4), .int .i64 ((rd_T27 l0_9 x51_2).f5.f0), .int .u64 ((rd_T27 l0_9 x51_2).f5.f1), .int .u64 ((rd_T27 l0_9 x51_2).f5.f2), .bool ((rd_T27 l0_9 x51_2).f6), .slice A180_9 ((rd_T27 l0_9 x51_2).f7).length c180_9], .agg #[.int .i64 ((rd_T27 l1_9 x51_2).f0), .int .i64 ((rd_T27 l1_9 x51_2).f1), .int .i64 ((rd_T27 l1_9 x51_2).f2), .string ((rd_T27 l1_9 x51_2).f3), .string ((rd_T27 l1_9 x51_2).f4), .int .i64 ((rd_T27 l1_9 x51_2).f5.f0), .int .u64 ((rd_T27 l1_9 x51_2).f5.f1), .int .u64 ((rd_T27 l1_9 x51_2).f5.f2), .bool ((rd_T27 l1_9 x51_2).f6), .slice A181_9 ((rd_T27 l1_9 x51_2).f7).length c181_9]] ?_
        with_reducible refine (ih k2 (by have := HJ2.out; have := HK2.out; omega) ((rd_T27 l0_9 x51_2).f0) ((rd_T27 l0_9 x51_2).f1) ((rd_T27 l0_9 x51_2).f2) ((rd_T27 l0_9 x51_2).f3) ((rd_T27 l0_9 x51_2).f4) ((rd_T27 l0_9 x51_2).f5.f0) ((rd_T27 l0_9 x51_2).f5.f1) ((rd_T27 l0_9 x51_2).f5.f2) ((rd_T27 l0_9 x51_2).f6) _ _ ((rd_T27 l0_9 x51_2).f7) ((rd_T27 l1_9 x51_2).f0) ((rd_T27 l1_9 x51_2).f1) ((rd_T27 l1_9 x51_2).f2) ((rd_T27 l1_9 x51_2).f3) ((rd_T27 l1_9 x51_2).f4) ((rd_T27 l1_9 x51_2).f5.f0) ((rd_T27 l1_9 x51_2).f5.f1) ((rd_T27 l1_9 x51_2).f5.f2) ((rd_T27 l1_9 x51_2).f6) _ _ ((rd_T27 l1_9 x51_2).f7) false _ ?side1 ?side2 ?side3 ?side4 A36.out).mono ?_
        (case side1 => exact (Kd.C_below HR180_9.out HB.out))
        (case side2 => exact HC180_9.out)
        (case side3 => exact (Kd.C_below HR181_9.out HB.out))
        (case side4 => exact HC181_9.out)
        rintro e w41 ⟨rfl, hb⟩
        refine ⟨_, rfl, ?_⟩
        replace BK178 := bk1 BK178 hb
        replace BK179 := bk1 BK179 hb
        replace HB := hb1 HB hb
        (try clear hb)
        refine hK.out _ _ ⟨(blk_cell BK178.out 0).trans rfl, (blk_cell BK178.out 1).trans rfl, (blk_cell BK178.out 2).trans rfl, (blk_cell BK178.out 3).trans rfl, (blk_cell BK178.out 4).trans rfl, (blk_cell BK178.out 5).trans rfl, (blk_cell BK178.out 6).trans rfl, (blk_cell BK178.out 7).trans rfl, (blk_cell BK178.out 8).trans rfl, (blk_cell BK178.out 9).trans rfl, (blk_cell BK179.out 0).trans rfl, (blk_cell BK179.out 1).trans rfl, (blk_cell BK179.out 2).trans rfl, (blk_cell BK179.out 3).trans rfl, (blk_cell BK179.out 4).trans rfl, (blk_cell BK179.out 5).trans rfl, (blk_cell BK179.out 6).trans rfl, (blk_cell BK179.out 7).trans rfl, (blk_cell BK179.out 8).trans rfl, (blk_cell BK179.out 9).trans rfl, ((HB.out.cell (World.block_lt_of_cell? w _ hw180_0)).trans hw180_0), ((HB.out.cell (World.block_lt_of_cell? w _ hw180_1)).trans hw180_1), ((HB.out.cell (World.block_lt_of_cell? w _ hw180_2)).trans hw180_2), ((HB.out.cell (World.block_lt_of_cell? w _ hw180_3)).trans hw180_3), ((HB.out.cell (World.block_lt_of_cell? w _ hw180_4)).trans hw180_4), ((HB.out.cell (World.block_lt_of_cell? w _ hw180_5)).trans hw180_5), ((HB.out.cell (World.block_lt_of_cell? w _ hw180_6)).trans hw180_6), ((HB.out.cell (World.block_lt_of_cell? w _ hw180_7)).trans hw180_7), ((HB.out.cell (World.block_lt_of_cell? w _ hw180_8)).trans hw180_8), ((HB.out.cell (World.block_lt_of_cell? w _ hw180_9)).trans hw180_9), ((HB.out.cell (World.block_lt_of_cell? w _ hw181_0)).trans hw181_0), ((HB.out.cell (World.block_lt_of_cell? w _ hw181_1)).trans hw181_1), ((HB.out.cell (World.block_lt_of_cell? w _ hw181_2)).trans hw181_2), ((HB.out.cell (World.block_lt_of_cell? w _ hw181_3)).trans hw181_3), ((HB.out.cell (World.block_lt_of_cell? w _ hw181_4)).trans hw181_4), ((HB.out.cell (World.block_lt_of_cell? w _ hw181_5)).trans hw181_5), ((HB.out.cell (World.block_lt_of_cell? w _ hw181_6)).trans hw181_6), ((HB.out.cell (World.block_lt_of_cell? w _ hw181_7)).trans hw181_7), ((HB.out.cell (World.block_lt_of_cell? w _ hw181_8)).trans hw181_8), ((HB.out.cell (World.block_lt_of_cell? w _ hw181_9)).trans hw181_9)⟩ (fun hHeld => ?_)
        clear hK K
        refine nA ?_
        refine pA 11 65 (tb 12 4095) HT_ ?_
        refine done_ (done_of HT_.out (by kernel_rfl)) ?_
        try go_wp2
        go_ret
        exact ⟨by rfl, by repeat (with_reducible exact HB.out)⟩
      ·obtain rfl := Option.some.inj H
       go_wp2
       go_ret
       exact ⟨by rfl, by repeat (with_reducible exact HB.out)⟩
end Go.Proofs.Ytlamgdibnnmbmaa.PSyn
end
section
namespace Go.Proofs.Ytlamgdibnnmbmaa.PSyn
open Go.RowKit Go.Proofs.YtlamgdibnnmbmaaW.PrintWords Go.Proofs.YtlamgdibnnmbmaaW.PrintLast Go.Proofs.YtlamgdibnnmbmaaW.PrintMore
attribute [local go_sem] max2_int min2_int max_two min_two max_three min_three max_four min_four
set_option linter.unusedVariables false
set_option linter.unusedSimpArgs false
def syntax_SameFile.f (k : Nat) (l0_0 : List (S27)) (l0_1 : List (S141)) (l1_0 : List (S27)) (l1_1 : List (S141)) : Option (Bool) := (EqFn.f k l0_0 l1_0).bind fun t185 => (some t185)
set_option maxHeartbeats 8000000 in
set_option maxRecDepth 100000 in
theorem syntax_SameFile.calls (k : Nat) (A0_0 : Option Addr) (c0_0 : Nat) (l0_0 : List (S27)) (A0_1 : Option Addr) (c0_1 : Nat) (l0_1 : List (S141)) (A1_0 : Option Addr) (c1_0 : Nat) (l1_0 : List (S27)) (A1_1 : Option Addr) (c1_1 : Nat) (l1_1 : List (S141)) (r : Bool) (w : World) (hr0_0 : Kd.C k27 w A0_0 l0_0.length l0_0) (hc0_0 : l0_0.length ≤ c0_0) (hr0_1 : Kd.C k141 w A0_1 l0_1.length l0_1) (hc0_1 : l0_1.length ≤ c0_1) (hr1_0 : Kd.C k27 w A1_0 l1_0.length l1_0) (hc1_0 : l1_0.length ≤ c1_0) (hr1_1 : Kd.C k141 w A1_1 l1_1.length l1_1) (hc1_1 : l1_1.length ≤ c1_1) (h : syntax_SameFile.f k l0_0 l0_1 l1_0 l1_1 = some r) :
  Calls Try.prog 15 #[.agg #[.slice A0_0 l0_0.length c0_0, .slice A0_1 l0_1.length c0_1], .agg #[.slice A1_0 l1_0.length c1_0, .slice A1_1 l1_1.length c1_1]] w fun e w' => e = .returned (.bool r) ∧ Below w.heap.size w w' := by
 have hu35 := Try.underlying35
 have HR0_0 := Aside0.mk hr0_0
 have HC0_0 := Aside0.mk hc0_0
 clear hr0_0 hc0_0
 have HR0_1 := Aside0.mk hr0_1
 have HC0_1 := Aside0.mk hc0_1
 clear hr0_1 hc0_1
 have HR1_0 := Aside0.mk hr1_0
 have HC1_0 := Aside0.mk hc1_0
 clear hr1_0 hc1_0
 have HR1_1 := Aside0.mk hr1_1
 have HC1_1 := Aside0.mk hc1_1
 clear hr1_1 hc1_1
 have HB := Aside0.mk (Below.refl w.heap.size w)
 have H := h
 clear h
 unfold syntax_SameFile.f at H
 replace H := bN H; obtain ⟨t185, A3, H⟩ := H
 obtain rfl := Option.some.inj H
 go_enter Try.func15, Try.ntmps15
 go_wp2_with (first | (refine boxA HB 2 #[.slice A0_0 l0_0.length c0_0, .slice A0_1 l0_1.length c0_1] 35 ?_; clear HB; intro gb183 w4 BK183 GE183 hg hb HB; clear hb hg) | (refine boxA HB 3 #[.slice A1_0 l1_0.length c1_0, .slice A1_1 l1_1.length c1_1] 35 ?_; clear HB; intro gb184 w5 BK184 GE184 hg hb HB; have NB183_184 := nbA BK183 hg; have NB184_183 := nbB BK183 hg; replace BK183 := bk1 BK183 hb; clear hb hg; have hnb6 := NB183_184.out; have hnc6 := NB184_183.out; obtain ⟨hcz7_0, hcz7_1, hfz7_0, hfz7_1⟩ := cf2 BK183; obtain ⟨hcz8_0, hcz8_1, hfz8_0, hfz8_1⟩ := cf2 BK184) | (refine callA (some 9) Try.func26 #[.slice A0_0 l0_0.length c0_0, .slice A1_0 l1_0.length c1_0, (.func (.func 14) #[] #[])] ?_; (with_reducible refine (EqFn.calls k _ _ l0_0 _ _ l1_0  t185 _ ?side1 ?side2 ?side3 ?side4 A3.out).mono ?_); (case side1 => exact (Kd.C_below HR0_0.out HB.out)); (case side2 => exact HC0_0.out); (case side3 => exact (Kd.C_below HR1_0.out HB.out)); (case side4 => exact HC1_0.out); rintro e w9 ⟨rfl, hb⟩; refine ⟨_, rfl, ?_⟩; replace BK183 := bk1 BK183 hb; replace BK184 := bk1 BK184 hb; replace HB := hb1 HB hb; (try clear hb)))
 go_ret
 exact ⟨by rfl, by repeat (with_reducible exact HB.out)⟩
end Go.Proofs.Ytlamgdibnnmbmaa.PSyn
end
