/- Part 36 of the proof of NoteSortsCardSaid: The law NoteSorts: for all arguments it returns true; each argument reads behind the call as it read before. Out of the plain theorem of YtlamgdibnnmbmaaDoorPureNoteSorts and the printed contract. -/
import Derived.Test.YtlamgdibnnmbmaaDoorQNoteSorts15
import Derived.Test.YtlamgdibnnmbmaaDoorQNoteSorts28
import Derived.Test.YtlamgdibnnmbmaaDoorQNoteSorts18
import Derived.Test.YtlamgdibnnmbmaaDoorQNoteSorts20
import Derived.Test.YtlamgdibnnmbmaaDoorQNoteSorts34
import Derived.Test.YtlamgdibnnmbmaaDoorQNoteSorts17
section
namespace Go.Proofs.YtlamgdibnnmbmaaDoor.PSort
open Go.RowKit Go.Proofs.YtlamgdibnnmbmaaDoorW.PrintWords Go.Proofs.YtlamgdibnnmbmaaDoorW.PrintLast Go.Proofs.YtlamgdibnnmbmaaDoorW.PrintMore
attribute [local go_sem] max2_int min2_int max_two min_two max_three min_three max_four min_four
set_option linter.unusedVariables false
set_option linter.unusedSimpArgs false
mutual
def masklaw1_NoteSorts.l0 : Nat → List (S24) → Int → Int → Option (Bool)
 | 0, _, _, _ => none
 | k + 1, x0, x12, x13 => if x13 < x12 then (masklaw1_NoteSorts.l1 k x0 x13 x12 x13 (x0.length : Int) 0) else ((masklaw1_told.f k).bind fun t159 => (if t159 = true then ((note_Sort.f x0).bind fun t160 => ((maskref1_Sorted.f k x0).bind fun t163 => ((api_Note.f k t160 t163).bind fun t166 => (some t166)))) else (some false)))
def masklaw1_NoteSorts.l1 : Nat → List (S24) → Int → Int → Int → Int → Int → Option (Bool)
 | 0, _, _, _, _, _, _ => none
 | k + 1, x0, x3, x12, x13, x17, x18 => if x18 < x17 then (if 0 ≤ x3 then (if x3 < (x0.length : Int) then (if 0 ≤ x18 then (if x18 < (x0.length : Int) then ((maskref1_NoteBefore.f ((rd_T24 x0 x3).f0) ((rd_T24 x0 x3).f1) ((rd_T24 x0 x3).f2) ((rd_T24 x0 x3).f3) ((rd_T24 x0 x3).f4) ((rd_T24 x0 x18).f0) ((rd_T24 x0 x18).f1) ((rd_T24 x0 x18).f2) ((rd_T24 x0 x18).f3) ((rd_T24 x0 x18).f4)).bind fun t152 => (if t152 = true then (masklaw1_NoteSorts.j2 k x0 x3 x18 (-1) x12 x13 x17 x18) else (masklaw1_NoteSorts.j2 k x0 x3 x18 0 x12 x13 x17 x18))) else (none)) else (none)) else (none)) else (none)) else (masklaw1_NoteSorts.l0 k x0 x12 (wrap64 (x13 + 1)))
def masklaw1_NoteSorts.j2 : Nat → List (S24) → Int → Int → Int → Int → Int → Int → Int → Option (Bool)
 | 0, _, _, _, _, _, _, _, _ => none
 | k + 1, x0, x3, x4, x5, x12, x13, x17, x18 => if 0 ≤ x4 then (if x4 < (x0.length : Int) then (if 0 ≤ x3 then (if x3 < (x0.length : Int) then ((maskref1_NoteBefore.f ((rd_T24 x0 x4).f0) ((rd_T24 x0 x4).f1) ((rd_T24 x0 x4).f2) ((rd_T24 x0 x4).f3) ((rd_T24 x0 x4).f4) ((rd_T24 x0 x3).f0) ((rd_T24 x0 x3).f1) ((rd_T24 x0 x3).f2) ((rd_T24 x0 x3).f3) ((rd_T24 x0 x3).f4)).bind fun t155 => (if t155 = true then (masklaw1_NoteSorts.j3 k x0 x3 x4 1 x12 x13 x17 x18) else (masklaw1_NoteSorts.j3 k x0 x3 x4 x5 x12 x13 x17 x18))) else (none)) else (none)) else (none)) else (none)
def masklaw1_NoteSorts.j3 : Nat → List (S24) → Int → Int → Int → Int → Int → Int → Int → Option (Bool)
 | 0, _, _, _, _, _, _, _, _ => none
 | k + 1, x0, x3, x4, x5, x12, x13, x17, x18 => if 0 ≤ x3 then (if x3 < (x0.length : Int) then (if 0 ≤ x4 then (if x4 < (x0.length : Int) then ((note_Cmp.f k ((rd_T24 x0 x3).f0) ((rd_T24 x0 x3).f1) ((rd_T24 x0 x3).f2) ((rd_T24 x0 x3).f3) ((rd_T24 x0 x3).f4) ((rd_T24 x0 x4).f0) ((rd_T24 x0 x4).f1) ((rd_T24 x0 x4).f2) ((rd_T24 x0 x4).f3) ((rd_T24 x0 x4).f4)).bind fun t158 => (if t158 = x5 then (masklaw1_NoteSorts.l1 k x0 x3 x12 x13 x17 (wrap64 (x18 + 1))) else (some false))) else (none)) else (none)) else (none)) else (none)
end
def masklaw1_NoteSorts.f (k : Nat) (l0 : List (S24)) : Option (Bool) := if 0 ≤ (mn (l0.length : Int) 60) then (if (mn (l0.length : Int) 60) ≤ (l0.length : Int) then ((some (l0.take ((mn (l0.length : Int) 60) : Int).toNat : List (S24))).bind fun y146 => (masklaw1_NoteSorts.l0 k y146 (y146.length : Int) 0)) else (none)) else (none)
def masklaw1_NoteSorts.T9 : Bool × List (List Nat × List Nat) := (true, [([], []), ([], []), ([0, 1], [0, 1]), ([2], [2]), ([], []), ([], []), ([4, 5], [4, 5]), ([6], [6]), ([3, 7], [3, 7])])
def masklaw1_NoteSorts.B9 : List Nat := [0, 0, 3, 7, 0, 0, 48, 112, 255]
theorem masklaw1_NoteSorts.tab9 : rtab .any (opsOf Tryd.f5 9) = masklaw1_NoteSorts.T9 := by kernel_rfl
theorem masklaw1_NoteSorts.bits9 : waitsOk masklaw1_NoteSorts.T9.2 masklaw1_NoteSorts.B9 = true := by kernel_rfl
def masklaw1_NoteSorts.T11 : Bool × List (List Nat × List Nat) := (true, [([], []), ([], []), ([0, 1], [0, 1]), ([2], [2]), ([], []), ([], []), ([4, 5], [4, 5]), ([6], [6]), ([3, 7], [3, 7])])
def masklaw1_NoteSorts.B11 : List Nat := [0, 0, 3, 7, 0, 0, 48, 112, 255]
theorem masklaw1_NoteSorts.tab11 : rtab .any (opsOf Tryd.f5 11) = masklaw1_NoteSorts.T11 := by kernel_rfl
theorem masklaw1_NoteSorts.bits11 : waitsOk masklaw1_NoteSorts.T11.2 masklaw1_NoteSorts.B11 = true := by kernel_rfl
def masklaw1_NoteSorts.T13 : Bool × List (List Nat × List Nat) := (true, [([], []), ([], []), ([0, 1], [0, 1]), ([2], [2]), ([], []), ([], []), ([4, 5], [4, 5]), ([6], [6]), ([3, 7], [3, 7]), ([], []), ([8, 9], [8, 9])])
def masklaw1_NoteSorts.B13 : List Nat := [0, 0, 3, 7, 0, 0, 48, 112, 255, 0, 1023]
theorem masklaw1_NoteSorts.tab13 : rtab .any (opsOf Tryd.f5 13) = masklaw1_NoteSorts.T13 := by kernel_rfl
theorem masklaw1_NoteSorts.bits13 : waitsOk masklaw1_NoteSorts.T13.2 masklaw1_NoteSorts.B13 = true := by kernel_rfl
set_option maxHeartbeats 8000000 in
set_option maxRecDepth 100000 in
theorem masklaw1_NoteSorts.calls (k : Nat) (A0 : Option Addr) (c0 : Nat) (l0 : List (S24)) (r : Bool) (w : World) (hr0 : Kd.C k24 w A0 l0.length l0) (hc0 : l0.length ≤ c0) (h : masklaw1_NoteSorts.f k l0 = some r) :
  Calls Tryd.prog 5 #[.slice A0 l0.length c0] w fun e w' => e = .returned (.bool r) ∧ Below w.heap.size w w' := by
 have hu24 := Tryd.underlying24
 have HR0 := Aside0.mk hr0
 have HC0 := Aside0.mk hc0
 clear hr0 hc0
 have HB := Aside0.mk (Below.refl w.heap.size w)
 have H := h
 clear h
 unfold masklaw1_NoteSorts.f at H
 obtain ⟨ji2, hji2⟩ : ∃ j_ : Int, (mn (l0.length : Int) 60) = j_ := ⟨_, rfl⟩
 replace H : (if 0 ≤ (ji2) then (if (ji2) ≤ (l0.length : Int) then ((some (l0.take ((ji2) : Int).toNat : List (S24))).bind fun y146 => (masklaw1_NoteSorts.l0 k y146 (y146.length : Int) 0)) else (none)) else (none)) = some r := by (rw [hji2] at H; exact H)
 (try (have hji2h : ji2 ≤ 60 := by (rw [← hji2]; unfold mn; (repeat' split) <;> omega)))
 (try (have hji2g : ji2 ≤ 64 := by omega))
 (try (have hji2l : 0 ≤ ji2 := by (rw [← hji2]; unfold mn; (repeat' split) <;> omega)))
 (try (have hji2m : 0 ≤ ji2 := by omega))
 have hji2_ : (if 60 < (l0.length : Int) then 60 else (l0.length : Int)) = ji2 := hji2
 by_cases c3 : 0 ≤ (ji2)
 ·rw [if_pos c3] at H
  have c3b0 := eq_true c3
  have c3b1 : decide (0 ≤ (ji2)) = true := decide_eq_true c3
  clear c3
  by_cases c4 : (ji2) ≤ (l0.length : Int)
  ·rw [if_pos c4] at H
   have c4b0 := eq_true c4
   have c4b1 : decide ((ji2) ≤ (l0.length : Int)) = true := decide_eq_true c4
   clear c4
   obtain ⟨y146, hy146⟩ : ∃ y_ : List (S24), y_ = (l0.take ((ji2) : Int).toNat) := ⟨_, rfl⟩
   replace H : (masklaw1_NoteSorts.l0 k y146 (y146.length : Int) 0) = some r := by (have H2_ := (Option.bind_some _ _).symm.trans H; rw [hy146]; with_reducible exact H2_)
   have Ny146 := Aside0.mk hy146
   clear hy146
   have H' := Aside0.mk H
   clear H
   have q5 : ((ji2) : Int) ≤ ((l0.length : Int) : Int) := of_decide_eq_true (by (with_reducible assumption))
   obtain ⟨i05, hi05, _, hsz5, _⟩ := info_parts info24
   have hroom5 : l0.length ≤ c0 := HC0.out
   have hC5 : Kd.C k24 _ A0 l0.length l0 := HR0.out
   have hcut5 := cut_to (P := Tryd.prog) 36 24 .i64 Tryd.underlying36 hi05 A0 l0.length c0 (ji2) (of_decide_eq_true (by (with_reducible assumption))) q5 hroom5
   have hr5 := Kd.C_take (m := ((ji2) : Int).toNat) hC5 (by omega)
   have hy5 : y146.length = ((ji2) : Int).toNat := (by rw [Ny146.out, List.length_take]; omega)
   rw [← Ny146.out] at hr5
   rw [← hy5] at hcut5
   have HR149 := Aside0.mk hr5
   have HC149 := Aside0.mk (show y146.length ≤ c0 from by omega)
   clear hr5 hC5 hroom5 hi05 hsz5
   have KY5 := Aside0.mk hy5
   clear hy5
   replace q5 := eq_true q5
   go_enter Tryd.func5, Tryd.ntmps5
   go_wp2
   go_loopg [13] k (fun kq v13 w' => ∃ (x13_1 : Int), v13 = .int .i64 x13_1 ∧ Aside0 (masklaw1_NoteSorts.l0 kq y146 (y146.length : Int) x13_1 = some r) ∧ Aside0 (kq ≤ k) ∧ Aside0 (Below w.heap.size w w'))
   case atStart => exact ⟨(0), (by rfl), H', ⟨Nat.le_refl _⟩, ⟨by repeat (with_reducible exact HB.out)⟩⟩
   case round =>
    clear H'
    (try clear c3b0); (try clear c3b1); (try clear c4b0); (try clear c4b1); (try clear q5)
    obtain ⟨x13_1, rfl, HA, HK1, HB⟩ := hrel
    cases gk with
    | zero => exact absurd HA.out (by simp [masklaw1_NoteSorts.l0])
    | succ k1 =>
     have H := HA.out
     clear HA
     simp only [masklaw1_NoteSorts.l0] at H
     replace H := iD H; rcases H with ⟨c6b0, H⟩ | ⟨c6b0, H⟩
     ·have H' := Aside0.mk H
      clear H
      go_wp2
      go_loopg [18] k1 (fun kq v18 w' => ∃ (x18_2 : Int), v18 = .int .i64 x18_2 ∧ Aside0 (masklaw1_NoteSorts.l1 kq y146 x13_1 (y146.length : Int) x13_1 (y146.length : Int) x18_2 = some r) ∧ Aside0 (kq ≤ k1) ∧ Aside0 (Below w.heap.size w w'))
      case atStart => exact ⟨(0), (by rfl), H', ⟨Nat.le_refl _⟩, ⟨by repeat (with_reducible exact HB.out)⟩⟩
      case round =>
       clear H'
       (try clear c6b0)
       obtain ⟨x18_2, rfl, HA, HK2, HB⟩ := hrel
       cases gk with
       | zero => exact absurd HA.out (by simp [masklaw1_NoteSorts.l1])
       | succ k2 =>
        have H := HA.out
        clear HA
        simp only [masklaw1_NoteSorts.l1] at H
        replace H := iD H; rcases H with ⟨c7b0, H⟩ | ⟨c7b0, H⟩
        ·replace H := iN H; obtain ⟨c8b0, H⟩ := H
         replace H := iN H; obtain ⟨c9b0, H⟩ := H
         replace H := iN H; obtain ⟨c10b0, H⟩ := H
         replace H := iN H; obtain ⟨c11b0, H⟩ := H
         replace H := bN H; obtain ⟨t152, A12, H⟩ := H
         have HC13 := Aside0.mk H
         clear H
         try go_wp2
         replace HB := hbd HB
         have p150 : 0 ≤ (x13_1 : Int) := of_decide_eq_true (by (with_reducible assumption))
         have q150 : x13_1 < (y146.length : Int) := of_decide_eq_true (by (with_reducible assumption))
         obtain ⟨ad150, e150, hx150_0, hx150_1, hx150_2, hx150_3, hx150_4⟩ := at_T24 HR149.out x13_1 p150 q150
         have hw150_4 := hx150_4
         have hw150_3 := hx150_3
         have hw150_2 := hx150_2
         have hw150_1 := hx150_1
         have hw150_0 := hx150_0
         cases e150
         replace hx150_0 := (HB.out.cell (World.block_lt_of_cell? w _ hx150_0)).trans hx150_0
         replace hx150_1 := (HB.out.cell (World.block_lt_of_cell? w _ hx150_1)).trans hx150_1
         replace hx150_2 := (HB.out.cell (World.block_lt_of_cell? w _ hx150_2)).trans hx150_2
         replace hx150_3 := (HB.out.cell (World.block_lt_of_cell? w _ hx150_3)).trans hx150_3
         replace hx150_4 := (HB.out.cell (World.block_lt_of_cell? w _ hx150_4)).trans hx150_4
         replace p150 := eq_true p150
         replace q150 := eq_true q150
         have p151 : 0 ≤ (x18_2 : Int) := of_decide_eq_true (by (with_reducible assumption))
         have q151 : x18_2 < (y146.length : Int) := of_decide_eq_true (by (with_reducible assumption))
         obtain ⟨ad151, e151, hx151_0, hx151_1, hx151_2, hx151_3, hx151_4⟩ := at_T24 HR149.out x18_2 p151 q151
         have hw151_4 := hx151_4
         have hw151_3 := hx151_3
         have hw151_2 := hx151_2
         have hw151_1 := hx151_1
         have hw151_0 := hx151_0
         obtain rfl : ad150 = ad151 := (by injection e151)
         replace hx151_0 := (HB.out.cell (World.block_lt_of_cell? w _ hx151_0)).trans hx151_0
         replace hx151_1 := (HB.out.cell (World.block_lt_of_cell? w _ hx151_1)).trans hx151_1
         replace hx151_2 := (HB.out.cell (World.block_lt_of_cell? w _ hx151_2)).trans hx151_2
         replace hx151_3 := (HB.out.cell (World.block_lt_of_cell? w _ hx151_3)).trans hx151_3
         replace hx151_4 := (HB.out.cell (World.block_lt_of_cell? w _ hx151_4)).trans hx151_4
         replace p151 := eq_true p151
         replace q151 := eq_true q151
         refine start_ (n := 9) (S := fun w' => w'.cell? (ad150.add ((x13_1).toNat * 5)) = some (.string ((rd_T24 y146 x13_1).f0)) ∧ w'.cell? ⟨(ad150.add ((x13_1).toNat * 5)).block, (ad150.add ((x13_1).toNat * 5)).off + 1, none⟩ = some (.int .i64 ((rd_T24 y146 x13_1).f1)) ∧ w'.cell? ⟨(ad150.add ((x13_1).toNat * 5)).block, (ad150.add ((x13_1).toNat * 5)).off + 2, none⟩ = some (.int .i64 ((rd_T24 y146 x13_1).f2)) ∧ w'.cell? ⟨(ad150.add ((x13_1).toNat * 5)).block, (ad150.add ((x13_1).toNat * 5)).off + 3, none⟩ = some (.int .i64 ((rd_T24 y146 x13_1).f3)) ∧ w'.cell? ⟨(ad150.add ((x13_1).toNat * 5)).block, (ad150.add ((x13_1).toNat * 5)).off + 4, none⟩ = some (.string ((rd_T24 y146 x13_1).f4)) ∧ w'.cell? (ad150.add ((x18_2).toNat * 5)) = some (.string ((rd_T24 y146 x18_2).f0)) ∧ w'.cell? ⟨(ad150.add ((x18_2).toNat * 5)).block, (ad150.add ((x18_2).toNat * 5)).off + 1, none⟩ = some (.int .i64 ((rd_T24 y146 x18_2).f1)) ∧ w'.cell? ⟨(ad150.add ((x18_2).toNat * 5)).block, (ad150.add ((x18_2).toNat * 5)).off + 2, none⟩ = some (.int .i64 ((rd_T24 y146 x18_2).f2)) ∧ w'.cell? ⟨(ad150.add ((x18_2).toNat * 5)).block, (ad150.add ((x18_2).toNat * 5)).off + 3, none⟩ = some (.int .i64 ((rd_T24 y146 x18_2).f3)) ∧ w'.cell? ⟨(ad150.add ((x18_2).toNat * 5)).block, (ad150.add ((x18_2).toNat * 5)).off + 4, none⟩ = some (.string ((rd_T24 y146 x18_2).f4))) (ds := []) (tb 9 0) (by kernel_rfl) rfl (by kernel_rfl) ⟨((HB.out.cell (World.block_lt_of_cell? w _ hw150_0)).trans hw150_0), ((HB.out.cell (World.block_lt_of_cell? w _ hw150_1)).trans hw150_1), ((HB.out.cell (World.block_lt_of_cell? w _ hw150_2)).trans hw150_2), ((HB.out.cell (World.block_lt_of_cell? w _ hw150_3)).trans hw150_3), ((HB.out.cell (World.block_lt_of_cell? w _ hw150_4)).trans hw150_4), ((HB.out.cell (World.block_lt_of_cell? w _ hw151_0)).trans hw151_0), ((HB.out.cell (World.block_lt_of_cell? w _ hw151_1)).trans hw151_1), ((HB.out.cell (World.block_lt_of_cell? w _ hw151_2)).trans hw151_2), ((HB.out.cell (World.block_lt_of_cell? w _ hw151_3)).trans hw151_3), ((HB.out.cell (World.block_lt_of_cell? w _ hw151_4)).trans hw151_4)⟩ (fun hHeld => ?_); refine with_tabW masklaw1_NoteSorts.tab9 masklaw1_NoteSorts.bits9 (fun HT_ HW_ => ?_)
         generalize wr.drew = w14 at HB hx150_0 hx150_1 hx150_2 hx150_3 hx150_4 hx151_0 hx151_1 hx151_2 hx151_3 hx151_4 hHeld ⊢
         refine pA 0 21 (tb 9 1) HT_ ?_
         refine pA 1 22 (tb 9 3) HT_ ?_
         refine pA 2 23 (tb 9 7) HT_ ?_
         refine pA 4 25 (tb 9 23) HT_ ?_
         refine pA 5 26 (tb 9 55) HT_ ?_
         refine pA 6 27 (tb 9 119) HT_ ?_
         refine tA 3 24 (tb 9 127) HT_ HW_ hHeld ?_
         refine tA 7 28 (tb 9 255) HT_ HW_ hHeld ?_
         refine oA 8 (some 29) (tb 9 511) HT_ (fun K hK => ?_)
         refine gA Tryd.func19 #[.agg #[.string ((rd_T24 y146 x13_1).f0), .int .i64 ((rd_T24 y146 x13_1).f1), .int .i64 ((rd_T24 y146 x13_1).f2), .int .i64 ((rd_T24 y146 x13_1).f3), .string ((rd_T24 y146 x13_1).f4)], .agg #[.string ((rd_T24 y146 x18_2).f0), .int .i64 ((rd_T24 y146 x18_2).f1), .int .i64 ((rd_T24 y146 x18_2).f2), .int .i64 ((rd_T24 y146 x18_2).f3), .string ((rd_T24 y146 x18_2).f4)]] ?_
         with_reducible refine (maskref1_NoteBefore.calls ((rd_T24 y146 x13_1).f0) ((rd_T24 y146 x13_1).f1) ((rd_T24 y146 x13_1).f2) ((rd_T24 y146 x13_1).f3) ((rd_T24 y146 x13_1).f4) ((rd_T24 y146 x18_2).f0) ((rd_T24 y146 x18_2).f1) ((rd_T24 y146 x18_2).f2) ((rd_T24 y146 x18_2).f3) ((rd_T24 y146 x18_2).f4) t152 _ A12.out).mono ?_
         rintro e w15 ⟨rfl, hb⟩
         refine ⟨_, rfl, ?_⟩
         replace HB := hb1 HB hb
         (try clear hb)
         refine hK.out _ _ ⟨((HB.out.cell (World.block_lt_of_cell? w _ hw150_0)).trans hw150_0), ((HB.out.cell (World.block_lt_of_cell? w _ hw150_1)).trans hw150_1), ((HB.out.cell (World.block_lt_of_cell? w _ hw150_2)).trans hw150_2), ((HB.out.cell (World.block_lt_of_cell? w _ hw150_3)).trans hw150_3), ((HB.out.cell (World.block_lt_of_cell? w _ hw150_4)).trans hw150_4), ((HB.out.cell (World.block_lt_of_cell? w _ hw151_0)).trans hw151_0), ((HB.out.cell (World.block_lt_of_cell? w _ hw151_1)).trans hw151_1), ((HB.out.cell (World.block_lt_of_cell? w _ hw151_2)).trans hw151_2), ((HB.out.cell (World.block_lt_of_cell? w _ hw151_3)).trans hw151_3), ((HB.out.cell (World.block_lt_of_cell? w _ hw151_4)).trans hw151_4)⟩ (fun hHeld => ?_)
         clear hK K
         refine nA ?_
         refine done_ (done_of HT_.out (by kernel_rfl)) ?_
         go_upto_if 29 with (fail)
         go_cut [5] (fun v5 wc => ∃ (kq : Nat) (x5_12 : Int), v5 = .int .i64 x5_12 ∧ Aside0 (masklaw1_NoteSorts.j2 kq y146 x13_1 x18_2 x5_12 (y146.length : Int) x13_1 (y146.length : Int) x18_2 = some r) ∧ Aside0 (kq ≤ k2) ∧ Aside0 (Below w.heap.size w wc))
         case first =>
          have H := HC13.out
          clear HC13
          replace H := iB H; rcases H with ⟨rfl, H⟩ | ⟨rfl, H⟩
          ·have H' := Aside0.mk H
           clear H
           go_wp2
           go_meet
           case rel => exact ⟨_, (-1), (by rfl), H', ⟨by have := HK1.out; have := HK2.out; omega⟩, ⟨by repeat (with_reducible exact HB.out)⟩⟩
          ·have H' := Aside0.mk H
           clear H
           go_wp2
           go_meet
           case rel => exact ⟨_, (0), (by rfl), H', ⟨by have := HK1.out; have := HK2.out; omega⟩, ⟨by repeat (with_reducible exact HB.out)⟩⟩
         case rest =>
          clear HC13
          (try clear c7b0); (try clear c8b0); (try clear c9b0); (try clear c10b0); (try clear c11b0); (try clear hx150_0); (try clear hx150_1); (try clear hx150_2); (try clear hx150_3); (try clear hx150_4); (try clear hx151_0); (try clear hx151_1); (try clear hx151_2); (try clear hx151_3); (try clear hx151_4); (try clear p150); (try clear p151); (try clear q150); (try clear q151)
          obtain ⟨kq, x5_12, rfl, HA, HJ12, HB⟩ := hcut
          cases kq with
          | zero => exact absurd HA.out (by simp [masklaw1_NoteSorts.j2])
          | succ kj12 =>
           have H := HA.out
           clear HA
           simp only [masklaw1_NoteSorts.j2] at H
           replace H := iN H; obtain ⟨c17b0, H⟩ := H
           replace H := iN H; obtain ⟨c18b0, H⟩ := H
           replace H := iN H; obtain ⟨c19b0, H⟩ := H
           replace H := iN H; obtain ⟨c20b0, H⟩ := H
           replace H := bN H; obtain ⟨t155, A21, H⟩ := H
           have HC22 := Aside0.mk H
           clear H
           try go_wp2
           replace HB := hbd HB
           have p153 : 0 ≤ (x18_2 : Int) := of_decide_eq_true (by (with_reducible assumption))
           have q153 : x18_2 < (y146.length : Int) := of_decide_eq_true (by (with_reducible assumption))
           obtain ⟨ad153, e153, hx153_0, hx153_1, hx153_2, hx153_3, hx153_4⟩ := at_T24 HR149.out x18_2 p153 q153
           have hw153_4 := hx153_4
           have hw153_3 := hx153_3
           have hw153_2 := hx153_2
           have hw153_1 := hx153_1
           have hw153_0 := hx153_0
           obtain rfl : ad150 = ad153 := (by injection e153)
           replace hx153_0 := (HB.out.cell (World.block_lt_of_cell? w _ hx153_0)).trans hx153_0
           replace hx153_1 := (HB.out.cell (World.block_lt_of_cell? w _ hx153_1)).trans hx153_1
           replace hx153_2 := (HB.out.cell (World.block_lt_of_cell? w _ hx153_2)).trans hx153_2
           replace hx153_3 := (HB.out.cell (World.block_lt_of_cell? w _ hx153_3)).trans hx153_3
           replace hx153_4 := (HB.out.cell (World.block_lt_of_cell? w _ hx153_4)).trans hx153_4
           replace p153 := eq_true p153
           replace q153 := eq_true q153
           have p154 : 0 ≤ (x13_1 : Int) := of_decide_eq_true (by (with_reducible assumption))
           have q154 : x13_1 < (y146.length : Int) := of_decide_eq_true (by (with_reducible assumption))
           obtain ⟨ad154, e154, hx154_0, hx154_1, hx154_2, hx154_3, hx154_4⟩ := at_T24 HR149.out x13_1 p154 q154
           have hw154_4 := hx154_4
           have hw154_3 := hx154_3
           have hw154_2 := hx154_2
           have hw154_1 := hx154_1
           have hw154_0 := hx154_0
           obtain rfl : ad150 = ad154 := (by injection e154)
           replace hx154_0 := (HB.out.cell (World.block_lt_of_cell? w _ hx154_0)).trans hx154_0
           replace hx154_1 := (HB.out.cell (World.block_lt_of_cell? w _ hx154_1)).trans hx154_1
           replace hx154_2 := (HB.out.cell (World.block_lt_of_cell? w _ hx154_2)).trans hx154_2
           replace hx154_3 := (HB.out.cell (World.block_lt_of_cell? w _ hx154_3)).trans hx154_3
           replace hx154_4 := (HB.out.cell (World.block_lt_of_cell? w _ hx154_4)).trans hx154_4
           replace p154 := eq_true p154
           replace q154 := eq_true q154
           refine start_ (n := 9) (S := fun w' => w'.cell? (ad150.add ((x18_2).toNat * 5)) = some (.string ((rd_T24 y146 x18_2).f0)) ∧ w'.cell? ⟨(ad150.add ((x18_2).toNat * 5)).block, (ad150.add ((x18_2).toNat * 5)).off + 1, none⟩ = some (.int .i64 ((rd_T24 y146 x18_2).f1)) ∧ w'.cell? ⟨(ad150.add ((x18_2).toNat * 5)).block, (ad150.add ((x18_2).toNat * 5)).off + 2, none⟩ = some (.int .i64 ((rd_T24 y146 x18_2).f2)) ∧ w'.cell? ⟨(ad150.add ((x18_2).toNat * 5)).block, (ad150.add ((x18_2).toNat * 5)).off + 3, none⟩ = some (.int .i64 ((rd_T24 y146 x18_2).f3)) ∧ w'.cell? ⟨(ad150.add ((x18_2).toNat * 5)).block, (ad150.add ((x18_2).toNat * 5)).off + 4, none⟩ = some (.string ((rd_T24 y146 x18_2).f4)) ∧ w'.cell? (ad150.add ((x13_1).toNat * 5)) = some (.string ((rd_T24 y146 x13_1).f0)) ∧ w'.cell? ⟨(ad150.add ((x13_1).toNat * 5)).block, (ad150.add ((x13_1).toNat * 5)).off + 1, none⟩ = some (.int .i64 ((rd_T24 y146 x13_1).f1)) ∧ w'.cell? ⟨(ad150.add ((x13_1).toNat * 5)).block, (ad150.add ((x13_1).toNat * 5)).off + 2, none⟩ = some (.int .i64 ((rd_T24 y146 x13_1).f2)) ∧ w'.cell? ⟨(ad150.add ((x13_1).toNat * 5)).block, (ad150.add ((x13_1).toNat * 5)).off + 3, none⟩ = some (.int .i64 ((rd_T24 y146 x13_1).f3)) ∧ w'.cell? ⟨(ad150.add ((x13_1).toNat * 5)).block, (ad150.add ((x13_1).toNat * 5)).off + 4, none⟩ = some (.string ((rd_T24 y146 x13_1).f4))) (ds := []) (tb 9 0) (by kernel_rfl) rfl (by kernel_rfl) ⟨((HB.out.cell (World.block_lt_of_cell? w _ hw153_0)).trans hw153_0), ((HB.out.cell (World.block_lt_of_cell? w _ hw153_1)).trans hw153_1), ((HB.out.cell (World.block_lt_of_cell? w _ hw153_2)).trans hw153_2), ((HB.out.cell (World.block_lt_of_cell? w _ hw153_3)).trans hw153_3), ((HB.out.cell (World.block_lt_of_cell? w _ hw153_4)).trans hw153_4), ((HB.out.cell (World.block_lt_of_cell? w _ hw154_0)).trans hw154_0), ((HB.out.cell (World.block_lt_of_cell? w _ hw154_1)).trans hw154_1), ((HB.out.cell (World.block_lt_of_cell? w _ hw154_2)).trans hw154_2), ((HB.out.cell (World.block_lt_of_cell? w _ hw154_3)).trans hw154_3), ((HB.out.cell (World.block_lt_of_cell? w _ hw154_4)).trans hw154_4)⟩ (fun hHeld => ?_); refine with_tabW masklaw1_NoteSorts.tab11 masklaw1_NoteSorts.bits11 (fun HT_ HW_ => ?_)
           generalize wc.drew = w23 at HB hx153_0 hx153_1 hx153_2 hx153_3 hx153_4 hx154_0 hx154_1 hx154_2 hx154_3 hx154_4 hHeld ⊢
           refine pA 0 30 (tb 9 1) HT_ ?_
           refine pA 1 31 (tb 9 3) HT_ ?_
           refine pA 2 32 (tb 9 7) HT_ ?_
           refine pA 4 34 (tb 9 23) HT_ ?_
           refine pA 5 35 (tb 9 55) HT_ ?_
           refine pA 6 36 (tb 9 119) HT_ ?_
           refine tA 3 33 (tb 9 127) HT_ HW_ hHeld ?_
           refine tA 7 37 (tb 9 255) HT_ HW_ hHeld ?_
           refine oA 8 (some 38) (tb 9 511) HT_ (fun K hK => ?_)
           refine gA Tryd.func19 #[.agg #[.string ((rd_T24 y146 x18_2).f0), .int .i64 ((rd_T24 y146 x18_2).f1), .int .i64 ((rd_T24 y146 x18_2).f2), .int .i64 ((rd_T24 y146 x18_2).f3), .string ((rd_T24 y146 x18_2).f4)], .agg #[.string ((rd_T24 y146 x13_1).f0), .int .i64 ((rd_T24 y146 x13_1).f1), .int .i64 ((rd_T24 y146 x13_1).f2), .int .i64 ((rd_T24 y146 x13_1).f3), .string ((rd_T24 y146 x13_1).f4)]] ?_
           with_reducible refine (maskref1_NoteBefore.calls ((rd_T24 y146 x18_2).f0) ((rd_T24 y146 x18_2).f1) ((rd_T24 y146 x18_2).f2) ((rd_T24 y146 x18_2).f3) ((rd_T24 y146 x18_2).f4) ((rd_T24 y146 x13_1).f0) ((rd_T24 y146 x13_1).f1) ((rd_T24 y146 x13_1).f2) ((rd_T24 y146 x13_1).f3) ((rd_T24 y146 x13_1).f4) t155 _ A21.out).mono ?_
           rintro e w24 ⟨rfl, hb⟩
           refine ⟨_, rfl, ?_⟩
           replace HB := hb1 HB hb
           (try clear hb)
           refine hK.out _ _ ⟨((HB.out.cell (World.block_lt_of_cell? w _ hw153_0)).trans hw153_0), ((HB.out.cell (World.block_lt_of_cell? w _ hw153_1)).trans hw153_1), ((HB.out.cell (World.block_lt_of_cell? w _ hw153_2)).trans hw153_2), ((HB.out.cell (World.block_lt_of_cell? w _ hw153_3)).trans hw153_3), ((HB.out.cell (World.block_lt_of_cell? w _ hw153_4)).trans hw153_4), ((HB.out.cell (World.block_lt_of_cell? w _ hw154_0)).trans hw154_0), ((HB.out.cell (World.block_lt_of_cell? w _ hw154_1)).trans hw154_1), ((HB.out.cell (World.block_lt_of_cell? w _ hw154_2)).trans hw154_2), ((HB.out.cell (World.block_lt_of_cell? w _ hw154_3)).trans hw154_3), ((HB.out.cell (World.block_lt_of_cell? w _ hw154_4)).trans hw154_4)⟩ (fun hHeld => ?_)
           clear hK K
           refine nA ?_
           refine done_ (done_of HT_.out (by kernel_rfl)) ?_
           go_upto_if 38 with (fail)
           go_cut [5] (fun v5 wc => ∃ (kq : Nat) (x5_21 : Int), v5 = .int .i64 x5_21 ∧ Aside0 (masklaw1_NoteSorts.j3 kq y146 x13_1 x18_2 x5_21 (y146.length : Int) x13_1 (y146.length : Int) x18_2 = some r) ∧ Aside0 (kq ≤ kj12) ∧ Aside0 (Below w.heap.size w wc))
           case first =>
            have H := HC22.out
            clear HC22
            replace H := iB H; rcases H with ⟨rfl, H⟩ | ⟨rfl, H⟩
            ·have H' := Aside0.mk H
             clear H
             go_wp2
             go_meet
             case rel => exact ⟨_, (1), (by rfl), H', ⟨by have := HK1.out; have := HK2.out; have := HJ12.out; omega⟩, ⟨by repeat (with_reducible exact HB.out)⟩⟩
            ·have H' := Aside0.mk H
             clear H
             go_wp2
             go_meet
             case rel => exact ⟨_, (x5_12), (by rfl), H', ⟨by have := HK1.out; have := HK2.out; have := HJ12.out; omega⟩, ⟨by repeat (with_reducible exact HB.out)⟩⟩
           case rest =>
            clear HC22
            (try clear c17b0); (try clear c18b0); (try clear c19b0); (try clear c20b0); (try clear hx153_0); (try clear hx153_1); (try clear hx153_2); (try clear hx153_3); (try clear hx153_4); (try clear hx154_0); (try clear hx154_1); (try clear hx154_2); (try clear hx154_3); (try clear hx154_4); (try clear p153); (try clear p154); (try clear q153); (try clear q154)
            obtain ⟨kq, x5_21, rfl, HA, HJ21, HB⟩ := hcut
            cases kq with
            | zero => exact absurd HA.out (by simp [masklaw1_NoteSorts.j3])
            | succ kj21 =>
             have H := HA.out
             clear HA
             simp only [masklaw1_NoteSorts.j3] at H
             replace H := iN H; obtain ⟨c26b0, H⟩ := H
             replace H := iN H; obtain ⟨c27b0, H⟩ := H
             replace H := iN H; obtain ⟨c28b0, H⟩ := H
             replace H := iN H; obtain ⟨c29b0, H⟩ := H
             replace H := bN H; obtain ⟨t158, A30, H⟩ := H
             replace H := iE H; rcases H with ⟨c31b0, c31b1, H⟩ | ⟨c31, c31b0, c31b1, H⟩
             ·have H' := Aside0.mk H
              clear H
              try go_wp2
              replace HB := hbd HB
              have p156 : 0 ≤ (x13_1 : Int) := of_decide_eq_true (by (with_reducible assumption))
              have q156 : x13_1 < (y146.length : Int) := of_decide_eq_true (by (with_reducible assumption))
              obtain ⟨ad156, e156, hx156_0, hx156_1, hx156_2, hx156_3, hx156_4⟩ := at_T24 HR149.out x13_1 p156 q156
              have hw156_4 := hx156_4
              have hw156_3 := hx156_3
              have hw156_2 := hx156_2
              have hw156_1 := hx156_1
              have hw156_0 := hx156_0
              obtain rfl : ad150 = ad156 := (by injection e156)
              replace hx156_0 := (HB.out.cell (World.block_lt_of_cell? w _ hx156_0)).trans hx156_0
              replace hx156_1 := (HB.out.cell (World.block_lt_of_cell? w _ hx156_1)).trans hx156_1
              replace hx156_2 := (HB.out.cell (World.block_lt_of_cell? w _ hx156_2)).trans hx156_2
              replace hx156_3 := (HB.out.cell (World.block_lt_of_cell? w _ hx156_3)).trans hx156_3
              replace hx156_4 := (HB.out.cell (World.block_lt_of_cell? w _ hx156_4)).trans hx156_4
              replace p156 := eq_true p156
              replace q156 := eq_true q156
              have p157 : 0 ≤ (x18_2 : Int) := of_decide_eq_true (by (with_reducible assumption))
              have q157 : x18_2 < (y146.length : Int) := of_decide_eq_true (by (with_reducible assumption))
              obtain ⟨ad157, e157, hx157_0, hx157_1, hx157_2, hx157_3, hx157_4⟩ := at_T24 HR149.out x18_2 p157 q157
              have hw157_4 := hx157_4
              have hw157_3 := hx157_3
              have hw157_2 := hx157_2
              have hw157_1 := hx157_1
              have hw157_0 := hx157_0
              obtain rfl : ad150 = ad157 := (by injection e157)
              replace hx157_0 := (HB.out.cell (World.block_lt_of_cell? w _ hx157_0)).trans hx157_0
              replace hx157_1 := (HB.out.cell (World.block_lt_of_cell? w _ hx157_1)).trans hx157_1
              replace hx157_2 := (HB.out.cell (World.block_lt_of_cell? w _ hx157_2)).trans hx157_2
              replace hx157_3 := (HB.out.cell (World.block_lt_of_cell? w _ hx157_3)).trans hx157_3
              replace hx157_4 := (HB.out.cell (World.block_lt_of_cell? w _ hx157_4)).trans hx157_4
              replace p157 := eq_true p157
              replace q157 := eq_true q157
              refine start_ (n := 11) (S := fun w' => w'.cell? (ad150.add ((x13_1).toNat * 5)) = some (.string ((rd_T24 y146 x13_1).f0)) ∧ w'.cell? ⟨(ad150.add ((x13_1).toNat * 5)).block, (ad150.add ((x13_1).toNat * 5)).off + 1, none⟩ = some (.int .i64 ((rd_T24 y146 x13_1).f1)) ∧ w'.cell? ⟨(ad150.add ((x13_1).toNat * 5)).block, (ad150.add ((x13_1).toNat * 5)).off + 2, none⟩ = some (.int .i64 ((rd_T24 y146 x13_1).f2)) ∧ w'.cell? ⟨(ad150.add ((x13_1).toNat * 5)).block, (ad150.add ((x13_1).toNat * 5)).off + 3, none⟩ = some (.int .i64 ((rd_T24 y146 x13_1).f3)) ∧ w'.cell? ⟨(ad150.add ((x13_1).toNat * 5)).block, (ad150.add ((x13_1).toNat * 5)).off + 4, none⟩ = some (.string ((rd_T24 y146 x13_1).f4)) ∧ w'.cell? (ad150.add ((x18_2).toNat * 5)) = some (.string ((rd_T24 y146 x18_2).f0)) ∧ w'.cell? ⟨(ad150.add ((x18_2).toNat * 5)).block, (ad150.add ((x18_2).toNat * 5)).off + 1, none⟩ = some (.int .i64 ((rd_T24 y146 x18_2).f1)) ∧ w'.cell? ⟨(ad150.add ((x18_2).toNat * 5)).block, (ad150.add ((x18_2).toNat * 5)).off + 2, none⟩ = some (.int .i64 ((rd_T24 y146 x18_2).f2)) ∧ w'.cell? ⟨(ad150.add ((x18_2).toNat * 5)).block, (ad150.add ((x18_2).toNat * 5)).off + 3, none⟩ = some (.int .i64 ((rd_T24 y146 x18_2).f3)) ∧ w'.cell? ⟨(ad150.add ((x18_2).toNat * 5)).block, (ad150.add ((x18_2).toNat * 5)).off + 4, none⟩ = some (.string ((rd_T24 y146 x18_2).f4))) (ds := []) (tb 11 0) (by kernel_rfl) rfl (by kernel_rfl) ⟨((HB.out.cell (World.block_lt_of_cell? w _ hw156_0)).trans hw156_0), ((HB.out.cell (World.block_lt_of_cell? w _ hw156_1)).trans hw156_1), ((HB.out.cell (World.block_lt_of_cell? w _ hw156_2)).trans hw156_2), ((HB.out.cell (World.block_lt_of_cell? w _ hw156_3)).trans hw156_3), ((HB.out.cell (World.block_lt_of_cell? w _ hw156_4)).trans hw156_4), ((HB.out.cell (World.block_lt_of_cell? w _ hw157_0)).trans hw157_0), ((HB.out.cell (World.block_lt_of_cell? w _ hw157_1)).trans hw157_1), ((HB.out.cell (World.block_lt_of_cell? w _ hw157_2)).trans hw157_2), ((HB.out.cell (World.block_lt_of_cell? w _ hw157_3)).trans hw157_3), ((HB.out.cell (World.block_lt_of_cell? w _ hw157_4)).trans hw157_4)⟩ (fun hHeld => ?_); refine with_tabW masklaw1_NoteSorts.tab13 masklaw1_NoteSorts.bits13 (fun HT_ HW_ => ?_)
              generalize wc.drew = w32 at HB hx156_0 hx156_1 hx156_2 hx156_3 hx156_4 hx157_0 hx157_1 hx157_2 hx157_3 hx157_4 hHeld ⊢
              refine pA 0 39 (tb 11 1) HT_ ?_
              refine pA 1 40 (tb 11 3) HT_ ?_
              refine pA 2 41 (tb 11 7) HT_ ?_
              refine pA 4 43 (tb 11 23) HT_ ?_
              refine pA 5 44 (tb 11 55) HT_ ?_
              refine pA 6 45 (tb 11 119) HT_ ?_
              refine pA 9 48 (tb 11 631) HT_ ?_
              refine tA 3 42 (tb 11 639) HT_ HW_ hHeld ?_
              refine tA 7 46 (tb 11 767) HT_ HW_ hHeld ?_
              refine oA 8 (some 47) (tb 11 1023) HT_ (fun K hK => ?_)
              refine gA Tryd.func20 #[.agg #[.string ((rd_T24 y146 x13_1).f0), .int .i64 ((rd_T24 y146 x13_1).f1), .int .i64 ((rd_T24 y146 x13_1).f2), .int .i64 ((rd_T24 y146 x13_1).f3), .string ((rd_T24 y146 x13_1).f4)], .agg #[.string ((rd_T24 y146 x18_2).f0), .int .i64 ((rd_T24 y146 x18_2).f1), .int .i64 ((rd_T24 y146 x18_2).f2), .int .i64 ((rd_T24 y146 x18_2).f3), .string ((rd_T24 y146 x18_2).f4)]] ?_
              with_reducible refine (note_Cmp.calls kj21 ((rd_T24 y146 x13_1).f0) ((rd_T24 y146 x13_1).f1) ((rd_T24 y146 x13_1).f2) ((rd_T24 y146 x13_1).f3) ((rd_T24 y146 x13_1).f4) ((rd_T24 y146 x18_2).f0) ((rd_T24 y146 x18_2).f1) ((rd_T24 y146 x18_2).f2) ((rd_T24 y146 x18_2).f3) ((rd_T24 y146 x18_2).f4) t158 _ A30.out).mono ?_
              rintro e w33 ⟨rfl, hb⟩
              refine ⟨_, rfl, ?_⟩
              replace HB := hb1 HB hb
              (try clear hb)
              refine hK.out _ _ ⟨((HB.out.cell (World.block_lt_of_cell? w _ hw156_0)).trans hw156_0), ((HB.out.cell (World.block_lt_of_cell? w _ hw156_1)).trans hw156_1), ((HB.out.cell (World.block_lt_of_cell? w _ hw156_2)).trans hw156_2), ((HB.out.cell (World.block_lt_of_cell? w _ hw156_3)).trans hw156_3), ((HB.out.cell (World.block_lt_of_cell? w _ hw156_4)).trans hw156_4), ((HB.out.cell (World.block_lt_of_cell? w _ hw157_0)).trans hw157_0), ((HB.out.cell (World.block_lt_of_cell? w _ hw157_1)).trans hw157_1), ((HB.out.cell (World.block_lt_of_cell? w _ hw157_2)).trans hw157_2), ((HB.out.cell (World.block_lt_of_cell? w _ hw157_3)).trans hw157_3), ((HB.out.cell (World.block_lt_of_cell? w _ hw157_4)).trans hw157_4)⟩ (fun hHeld => ?_)
              clear hK K
              refine nA ?_
              refine pA 10 49 (tb 11 2047) HT_ ?_
              refine done_ (done_of HT_.out (by kernel_rfl)) ?_
              try go_wp2
              go_roundg kj21
              case measure => have := HK1.out; have := HK2.out; have := HJ12.out; have := HJ21.out; omega
              case rel => exact ⟨(wrap64 (x18_2 + 1)), (by rfl), H', ⟨by have := HK1.out; have := HK2.out; have := HJ12.out; have := HJ21.out; omega⟩, ⟨by repeat (with_reducible exact HB.out)⟩⟩
             ·obtain rfl := Option.some.inj H
              try go_wp2
              replace HB := hbd HB
              have p156 : 0 ≤ (x13_1 : Int) := of_decide_eq_true (by (with_reducible assumption))
              have q156 : x13_1 < (y146.length : Int) := of_decide_eq_true (by (with_reducible assumption))
              obtain ⟨ad156, e156, hx156_0, hx156_1, hx156_2, hx156_3, hx156_4⟩ := at_T24 HR149.out x13_1 p156 q156
              have hw156_4 := hx156_4
              have hw156_3 := hx156_3
              have hw156_2 := hx156_2
              have hw156_1 := hx156_1
              have hw156_0 := hx156_0
              obtain rfl : ad150 = ad156 := (by injection e156)
              replace hx156_0 := (HB.out.cell (World.block_lt_of_cell? w _ hx156_0)).trans hx156_0
              replace hx156_1 := (HB.out.cell (World.block_lt_of_cell? w _ hx156_1)).trans hx156_1
              replace hx156_2 := (HB.out.cell (World.block_lt_of_cell? w _ hx156_2)).trans hx156_2
              replace hx156_3 := (HB.out.cell (World.block_lt_of_cell? w _ hx156_3)).trans hx156_3
              replace hx156_4 := (HB.out.cell (World.block_lt_of_cell? w _ hx156_4)).trans hx156_4
              replace p156 := eq_true p156
              replace q156 := eq_true q156
              have p157 : 0 ≤ (x18_2 : Int) := of_decide_eq_true (by (with_reducible assumption))
              have q157 : x18_2 < (y146.length : Int) := of_decide_eq_true (by (with_reducible assumption))
              obtain ⟨ad157, e157, hx157_0, hx157_1, hx157_2, hx157_3, hx157_4⟩ := at_T24 HR149.out x18_2 p157 q157
              have hw157_4 := hx157_4
              have hw157_3 := hx157_3
              have hw157_2 := hx157_2
              have hw157_1 := hx157_1
              have hw157_0 := hx157_0
              obtain rfl : ad150 = ad157 := (by injection e157)
              replace hx157_0 := (HB.out.cell (World.block_lt_of_cell? w _ hx157_0)).trans hx157_0
              replace hx157_1 := (HB.out.cell (World.block_lt_of_cell? w _ hx157_1)).trans hx157_1
              replace hx157_2 := (HB.out.cell (World.block_lt_of_cell? w _ hx157_2)).trans hx157_2
              replace hx157_3 := (HB.out.cell (World.block_lt_of_cell? w _ hx157_3)).trans hx157_3
              replace hx157_4 := (HB.out.cell (World.block_lt_of_cell? w _ hx157_4)).trans hx157_4
              replace p157 := eq_true p157
              replace q157 := eq_true q157
              refine start_ (n := 11) (S := fun w' => w'.cell? (ad150.add ((x13_1).toNat * 5)) = some (.string ((rd_T24 y146 x13_1).f0)) ∧ w'.cell? ⟨(ad150.add ((x13_1).toNat * 5)).block, (ad150.add ((x13_1).toNat * 5)).off + 1, none⟩ = some (.int .i64 ((rd_T24 y146 x13_1).f1)) ∧ w'.cell? ⟨(ad150.add ((x13_1).toNat * 5)).block, (ad150.add ((x13_1).toNat * 5)).off + 2, none⟩ = some (.int .i64 ((rd_T24 y146 x13_1).f2)) ∧ w'.cell? ⟨(ad150.add ((x13_1).toNat * 5)).block, (ad150.add ((x13_1).toNat * 5)).off + 3, none⟩ = some (.int .i64 ((rd_T24 y146 x13_1).f3)) ∧ w'.cell? ⟨(ad150.add ((x13_1).toNat * 5)).block, (ad150.add ((x13_1).toNat * 5)).off + 4, none⟩ = some (.string ((rd_T24 y146 x13_1).f4)) ∧ w'.cell? (ad150.add ((x18_2).toNat * 5)) = some (.string ((rd_T24 y146 x18_2).f0)) ∧ w'.cell? ⟨(ad150.add ((x18_2).toNat * 5)).block, (ad150.add ((x18_2).toNat * 5)).off + 1, none⟩ = some (.int .i64 ((rd_T24 y146 x18_2).f1)) ∧ w'.cell? ⟨(ad150.add ((x18_2).toNat * 5)).block, (ad150.add ((x18_2).toNat * 5)).off + 2, none⟩ = some (.int .i64 ((rd_T24 y146 x18_2).f2)) ∧ w'.cell? ⟨(ad150.add ((x18_2).toNat * 5)).block, (ad150.add ((x18_2).toNat * 5)).off + 3, none⟩ = some (.int .i64 ((rd_T24 y146 x18_2).f3)) ∧ w'.cell? ⟨(ad150.add ((x18_2).toNat * 5)).block, (ad150.add ((x18_2).toNat * 5)).off + 4, none⟩ = some (.string ((rd_T24 y146 x18_2).f4))) (ds := []) (tb 11 0) (by kernel_rfl) rfl (by kernel_rfl) ⟨((HB.out.cell (World.block_lt_of_cell? w _ hw156_0)).trans hw156_0), ((HB.out.cell (World.block_lt_of_cell? w _ hw156_1)).trans hw156_1), ((HB.out.cell (World.block_lt_of_cell? w _ hw156_2)).trans hw156_2), ((HB.out.cell (World.block_lt_of_cell? w _ hw156_3)).trans hw156_3), ((HB.out.cell (World.block_lt_of_cell? w _ hw156_4)).trans hw156_4), ((HB.out.cell (World.block_lt_of_cell? w _ hw157_0)).trans hw157_0), ((HB.out.cell (World.block_lt_of_cell? w _ hw157_1)).trans hw157_1), ((HB.out.cell (World.block_lt_of_cell? w _ hw157_2)).trans hw157_2), ((HB.out.cell (World.block_lt_of_cell? w _ hw157_3)).trans hw157_3), ((HB.out.cell (World.block_lt_of_cell? w _ hw157_4)).trans hw157_4)⟩ (fun hHeld => ?_); refine with_tabW masklaw1_NoteSorts.tab13 masklaw1_NoteSorts.bits13 (fun HT_ HW_ => ?_)
              generalize wc.drew = w34 at HB hx156_0 hx156_1 hx156_2 hx156_3 hx156_4 hx157_0 hx157_1 hx157_2 hx157_3 hx157_4 hHeld ⊢
              refine pA 0 39 (tb 11 1) HT_ ?_
              refine pA 1 40 (tb 11 3) HT_ ?_
              refine pA 2 41 (tb 11 7) HT_ ?_
              refine pA 4 43 (tb 11 23) HT_ ?_
              refine pA 5 44 (tb 11 55) HT_ ?_
              refine pA 6 45 (tb 11 119) HT_ ?_
              refine pA 9 48 (tb 11 631) HT_ ?_
              refine tA 3 42 (tb 11 639) HT_ HW_ hHeld ?_
              refine tA 7 46 (tb 11 767) HT_ HW_ hHeld ?_
              refine oA 8 (some 47) (tb 11 1023) HT_ (fun K hK => ?_)
              refine gA Tryd.func20 #[.agg #[.string ((rd_T24 y146 x13_1).f0), .int .i64 ((rd_T24 y146 x13_1).f1), .int .i64 ((rd_T24 y146 x13_1).f2), .int .i64 ((rd_T24 y146 x13_1).f3), .string ((rd_T24 y146 x13_1).f4)], .agg #[.string ((rd_T24 y146 x18_2).f0), .int .i64 ((rd_T24 y146 x18_2).f1), .int .i64 ((rd_T24 y146 x18_2).f2), .int .i64 ((rd_T24 y146 x18_2).f3), .string ((rd_T24 y146 x18_2).f4)]] ?_
              with_reducible refine (note_Cmp.calls kj21 ((rd_T24 y146 x13_1).f0) ((rd_T24 y146 x13_1).f1) ((rd_T24 y146 x13_1).f2) ((rd_T24 y146 x13_1).f3) ((rd_T24 y146 x13_1).f4) ((rd_T24 y146 x18_2).f0) ((rd_T24 y146 x18_2).f1) ((rd_T24 y146 x18_2).f2) ((rd_T24 y146 x18_2).f3) ((rd_T24 y146 x18_2).f4) t158 _ A30.out).mono ?_
              rintro e w35 ⟨rfl, hb⟩
              refine ⟨_, rfl, ?_⟩
              replace HB := hb1 HB hb
              (try clear hb)
              refine hK.out _ _ ⟨((HB.out.cell (World.block_lt_of_cell? w _ hw156_0)).trans hw156_0), ((HB.out.cell (World.block_lt_of_cell? w _ hw156_1)).trans hw156_1), ((HB.out.cell (World.block_lt_of_cell? w _ hw156_2)).trans hw156_2), ((HB.out.cell (World.block_lt_of_cell? w _ hw156_3)).trans hw156_3), ((HB.out.cell (World.block_lt_of_cell? w _ hw156_4)).trans hw156_4), ((HB.out.cell (World.block_lt_of_cell? w _ hw157_0)).trans hw157_0), ((HB.out.cell (World.block_lt_of_cell? w _ hw157_1)).trans hw157_1), ((HB.out.cell (World.block_lt_of_cell? w _ hw157_2)).trans hw157_2), ((HB.out.cell (World.block_lt_of_cell? w _ hw157_3)).trans hw157_3), ((HB.out.cell (World.block_lt_of_cell? w _ hw157_4)).trans hw157_4)⟩ (fun hHeld => ?_)
              clear hK K
              refine nA ?_
              refine pA 10 49 (tb 11 2047) HT_ ?_
              refine done_ (done_of HT_.out (by kernel_rfl)) ?_
              try go_wp2
              go_ret
              exact ⟨by rfl, by repeat (with_reducible exact HB.out)⟩
        ·have H' := Aside0.mk H
         clear H
         go_wp2
         go_roundg k2
         case measure => have := HK1.out; have := HK2.out; omega
         case rel => exact ⟨(wrap64 (x13_1 + 1)), (by rfl), H', ⟨by have := HK1.out; have := HK2.out; omega⟩, ⟨by repeat (with_reducible exact HB.out)⟩⟩
     ·replace H := bN H; obtain ⟨t159, A36, H⟩ := H
      replace H := iB H; rcases H with ⟨rfl, H⟩ | ⟨rfl, H⟩
      ·replace H := bN H; obtain ⟨t160, A38, H⟩ := H
       replace H := bN H; obtain ⟨t163, A39, H⟩ := H
       replace H := bN H; obtain ⟨t166, A40, H⟩ := H
       obtain rfl := Option.some.inj H
       go_wp2_with (first | ((with_reducible refine gate_callee (f := 10) rfl ?_); refine goesL_ (some 52) rfl rfl Tryd.func10 (by kernel_rfl) rfl #[] rfl (by (try simp only [List.map_toArray, List.map_cons, List.map_nil]); done) ?_; (with_reducible refine (masklaw1_told.calls k1  true _ A36.out).mono ?_); rintro e w41 ⟨rfl, hb⟩; refine ⟨_, rfl, ?_⟩; replace HB := hb1 HB hb; (try clear hb)) | (go_at_call 22; (with_reducible refine (note_Sort.calls _ _ y146 t160 _ ?side1 ?side2 A38.out).mono ?_); (case side1 => exact (Kd.C_below HR149.out HB.out)); (case side2 => exact HC149.out); rintro e w42 ⟨v161, rfl, ho0, hb⟩; have HO162 := Aside0.mk (Kd.R_lower ho0 (below_size HB.out)); replace HB := hb1 HB hb; (try clear hb); (try clear ho0)) | (go_at_call 23; (with_reducible refine (maskref1_Sorted.calls k1 _ _ y146 t163 _ ?side1 ?side2 A39.out).mono ?_); (case side1 => exact (Kd.C_below HR149.out HB.out)); (case side2 => exact HC149.out); rintro e w43 ⟨v164, rfl, ho0, hb⟩; have HO165 := Aside0.mk (Kd.R_lower (Kd.R_new' ho0 (Kd.R_lt HO162.out)) (below_size HB.out)); replace HO162 := Aside0.mk (Kd.R_elder' HO162.out (Kd.R_base ho0) hb); replace HB := hb1 HB hb; (try clear hb); (try clear ho0); obtain ⟨Ao44, co44, eo44⟩ := Kd.R_slice HO162.out; subst eo44; obtain ⟨Ao45, co45, eo45⟩ := Kd.R_slice HO165.out; subst eo45) | (go_at_call 21; (with_reducible refine (api_Note.calls k1 _ _ t160 _ _ t163 t166 _ ?side1 ?side2 ?side3 ?side4 A40.out).mono ?_); (case side1 => exact (Kd.R_reads' HO162.out).2.2); (case side2 => exact (Kd.R_reads' HO162.out).2.1); (case side3 => exact (Kd.R_reads' HO165.out).2.2); (case side4 => exact (Kd.R_reads' HO165.out).2.1); rintro e w' ⟨rfl, ⟨nd, rfl⟩⟩))
       go_ret
       exact ⟨by rfl, by repeat (with_reducible first | exact HB.out | apply pw_below_drewN)⟩
      ·obtain rfl := Option.some.inj H
       go_wp2_with (((with_reducible refine gate_callee (f := 10) rfl ?_); refine goesL_ (some 52) rfl rfl Tryd.func10 (by kernel_rfl) rfl #[] rfl (by (try simp only [List.map_toArray, List.map_cons, List.map_nil]); done) ?_; (with_reducible refine (masklaw1_told.calls k1  false _ A36.out).mono ?_); rintro e w46 ⟨rfl, hb⟩; refine ⟨_, rfl, ?_⟩; replace HB := hb1 HB hb; (try clear hb)))
       go_ret
       exact ⟨by rfl, by repeat (with_reducible exact HB.out)⟩
  ·rw [if_neg c4] at H
   exact absurd H (by simp)
 ·rw [if_neg c3] at H
  exact absurd H (by simp)
end Go.Proofs.YtlamgdibnnmbmaaDoor.PSort
end
