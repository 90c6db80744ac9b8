/- Part 22 of the proof of BitsChosenCardSaid: The law BitsChosen: for all arguments it returns true; each argument reads behind the call as it read before. Out of the plain theorem of YtfigblfjogpojaaDoorPureBitsChosen and the printed contract. -/
import Derived.Test.YtfigblfjogpojaaDoorQBitsChosen13
import Derived.Test.YtfigblfjogpojaaDoorQBitsChosen20
import Derived.Test.YtfigblfjogpojaaDoorQBitsChosen14
section
namespace Go.Proofs.YtfigblfjogpojaaDoor.PBits
open Go.RowKit Go.Proofs.YtfigblfjogpojaaDoorW.PrintWords Go.Proofs.YtfigblfjogpojaaDoorW.PrintLast Go.Proofs.YtfigblfjogpojaaDoorW.PrintMore
attribute [local go_sem] max2_int min2_int max_two min_two max_three min_three max_four min_four
set_option linter.unusedVariables false
set_option linter.unusedSimpArgs false
mutual
def bits_Read.j0 : Nat → ByteArray → Int → Int → Int → Bool → Option (Int × Int × Int × Int)
 | 0, _, _, _, _, _ => none
 | k + 1, x0, x4, x5, x6, x27 => if x27 = true then (some (0, 0, 0, 10)) else (if 0 ≤ (wrap64 (x5 + 1)) then (if (wrap64 (x5 + 1)) ≤ (x0.size : Int) then (if ((x0.extract ((wrap64 (x5 + 1)) : Int).toNat x0.size).size : Int) > 0 then (if 0 < ((x0.extract ((wrap64 (x5 + 1)) : Int).toNat x0.size).size : Int) then (bits_Read.j1 k (x0.extract ((wrap64 (x5 + 1)) : Int).toNat x0.size) x4 x6 ((bt (x0.extract ((wrap64 (x5 + 1)) : Int).toNat x0.size) 0) == 115)) else (none)) else (bits_Read.j1 k (x0.extract ((wrap64 (x5 + 1)) : Int).toNat x0.size) x4 x6 false)) else (none)) else (none))
def bits_Read.j1 : Nat → ByteArray → Int → Int → Bool → Option (Int × Int × Int × Int)
 | 0, _, _, _, _ => none
 | k + 1, x0, x4, x6, x40 => if x40 = true then (if 1 ≤ (x0.size : Int) then (bits_Read.j2 k (x0.extract 1 x0.size) x4 x6) else (none)) else (bits_Read.j2 k x0 x4 x6)
def bits_Read.j2 : Nat → ByteArray → Int → Int → Option (Int × Int × Int × Int)
 | 0, _, _, _ => none
 | k + 1, x0, x4, x6 => if (x0.size : Int) < 2 then (some (0, 0, 0, 10)) else (if 0 < (x0.size : Int) then (if (bt x0 0) = 98 then (bits_Read.j3 k x0 x4 x6 1) else (if (bt x0 0) = 111 then (bits_Read.j3 k x0 x4 x6 3) else (if (bt x0 0) = 104 then (bits_Read.j3 k x0 x4 x6 4) else (if (bt x0 0) = 100 then (if 1 ≤ (x0.size : Int) then ((bits_decimal.f k (x0.extract 1 x0.size) x4 x6).bind fun bt163 => (some (bt163.1, bt163.2.1, bt163.2.2.1, bt163.2.2.2))) else (none)) else (bits_Read.j3 k x0 x4 x6 0))))) else (none))
def bits_Read.j3 : Nat → ByteArray → Int → Int → Int → Option (Int × Int × Int × Int)
 | 0, _, _, _, _ => none
 | k + 1, x0, x4, x6, x7 => if x7 = 0 then (some (0, 0, 0, 10)) else (if 1 ≤ (x0.size : Int) then ((bits_grouped.f k (x0.extract 1 x0.size) x4 x7 x6).bind fun bt167 => (some (bt167.1, bt167.2.1, bt167.2.2.1, bt167.2.2.2))) else (none))
end
def bits_Read.f (k : Nat) (a0 : ByteArray) : Option (Int × Int × Int × Int) := (bits_size.f k a0).bind fun bt160 => (if bt160.2.2 = 10 then (bits_Read.j0 k a0 bt160.1 bt160.2.1 bt160.2.2 true) else (if bt160.2.1 ≥ (a0.size : Int) then (bits_Read.j0 k a0 bt160.1 bt160.2.1 bt160.2.2 true) else (if 0 ≤ bt160.2.1 then (if bt160.2.1 < (a0.size : Int) then (bits_Read.j0 k a0 bt160.1 bt160.2.1 bt160.2.2 ((bt a0 bt160.2.1) != 39)) else (none)) else (none))))
theorem bits_Read.mono_l : ∀ k, (∀ y0 y1 y2 y3 y4, LeO (bits_Read.j0 k y0 y1 y2 y3 y4) (bits_Read.j0 (k + 1) y0 y1 y2 y3 y4)) ∧ (∀ y0 y1 y2 y3, LeO (bits_Read.j1 k y0 y1 y2 y3) (bits_Read.j1 (k + 1) y0 y1 y2 y3)) ∧ (∀ y0 y1 y2, LeO (bits_Read.j2 k y0 y1 y2) (bits_Read.j2 (k + 1) y0 y1 y2)) ∧ (∀ y0 y1 y2 y3, LeO (bits_Read.j3 k y0 y1 y2 y3) (bits_Read.j3 (k + 1) y0 y1 y2 y3))
 | 0 => ⟨fun _ _ _ _ _ r h => by simp [bits_Read.j0] at h, fun _ _ _ _ r h => by simp [bits_Read.j1] at h, fun _ _ _ r h => by simp [bits_Read.j2] at h, fun _ _ _ _ r h => by simp [bits_Read.j3] at h⟩
 | k + 1 => by
  obtain ⟨ih0, ih1, ih2, ih3⟩ := bits_Read.mono_l k
  refine ⟨?_, ?_, ?_, ?_⟩
  ·intro y0 y1 y2 y3 y4
   unfold bits_Read.j0
   repeat' first
   | (with_reducible exact ih0 _ _ _ _ _)
   | (with_reducible exact ih1 _ _ _ _)
   | (with_reducible exact ih2 _ _ _)
   | (with_reducible exact ih3 _ _ _ _)
   | (with_reducible exact bits_decimal.mono _ _ _ _)
   | (with_reducible exact bits_grouped.mono _ _ _ _ _)
   | (with_reducible exact bits_size.mono _ _)
   | (with_reducible exact LeO.refl _)
   | (with_reducible exact LeO.none _)
   | (with_reducible refine LeO.ite ?_ ?_)
   | (with_reducible refine LeO.bind ?_ (fun _ => ?_))
   | exact ih0 _ _ _ _ _
   | exact ih1 _ _ _ _
   | exact ih2 _ _ _
   | exact ih3 _ _ _ _
   | exact bits_decimal.mono _ _ _ _
   | exact bits_grouped.mono _ _ _ _ _
   | exact bits_size.mono _ _
   | exact LeO.none _
   | refine LeO.ite ?_ ?_
   | refine LeO.bind ?_ (fun _ => ?_)
  ·intro y0 y1 y2 y3
   unfold bits_Read.j1
   repeat' first
   | (with_reducible exact ih0 _ _ _ _ _)
   | (with_reducible exact ih1 _ _ _ _)
   | (with_reducible exact ih2 _ _ _)
   | (with_reducible exact ih3 _ _ _ _)
   | (with_reducible exact bits_decimal.mono _ _ _ _)
   | (with_reducible exact bits_grouped.mono _ _ _ _ _)
   | (with_reducible exact bits_size.mono _ _)
   | (with_reducible exact LeO.refl _)
   | (with_reducible exact LeO.none _)
   | (with_reducible refine LeO.ite ?_ ?_)
   | (with_reducible refine LeO.bind ?_ (fun _ => ?_))
   | exact ih0 _ _ _ _ _
   | exact ih1 _ _ _ _
   | exact ih2 _ _ _
   | exact ih3 _ _ _ _
   | exact bits_decimal.mono _ _ _ _
   | exact bits_grouped.mono _ _ _ _ _
   | exact bits_size.mono _ _
   | exact LeO.none _
   | refine LeO.ite ?_ ?_
   | refine LeO.bind ?_ (fun _ => ?_)
  ·intro y0 y1 y2
   unfold bits_Read.j2
   repeat' first
   | (with_reducible exact ih0 _ _ _ _ _)
   | (with_reducible exact ih1 _ _ _ _)
   | (with_reducible exact ih2 _ _ _)
   | (with_reducible exact ih3 _ _ _ _)
   | (with_reducible exact bits_decimal.mono _ _ _ _)
   | (with_reducible exact bits_grouped.mono _ _ _ _ _)
   | (with_reducible exact bits_size.mono _ _)
   | (with_reducible exact LeO.refl _)
   | (with_reducible exact LeO.none _)
   | (with_reducible refine LeO.ite ?_ ?_)
   | (with_reducible refine LeO.bind ?_ (fun _ => ?_))
   | exact ih0 _ _ _ _ _
   | exact ih1 _ _ _ _
   | exact ih2 _ _ _
   | exact ih3 _ _ _ _
   | exact bits_decimal.mono _ _ _ _
   | exact bits_grouped.mono _ _ _ _ _
   | exact bits_size.mono _ _
   | exact LeO.none _
   | refine LeO.ite ?_ ?_
   | refine LeO.bind ?_ (fun _ => ?_)
  ·intro y0 y1 y2 y3
   unfold bits_Read.j3
   repeat' first
   | (with_reducible exact ih0 _ _ _ _ _)
   | (with_reducible exact ih1 _ _ _ _)
   | (with_reducible exact ih2 _ _ _)
   | (with_reducible exact ih3 _ _ _ _)
   | (with_reducible exact bits_decimal.mono _ _ _ _)
   | (with_reducible exact bits_grouped.mono _ _ _ _ _)
   | (with_reducible exact bits_size.mono _ _)
   | (with_reducible exact LeO.refl _)
   | (with_reducible exact LeO.none _)
   | (with_reducible refine LeO.ite ?_ ?_)
   | (with_reducible refine LeO.bind ?_ (fun _ => ?_))
   | exact ih0 _ _ _ _ _
   | exact ih1 _ _ _ _
   | exact ih2 _ _ _
   | exact ih3 _ _ _ _
   | exact bits_decimal.mono _ _ _ _
   | exact bits_grouped.mono _ _ _ _ _
   | exact bits_size.mono _ _
   | exact LeO.none _
   | refine LeO.ite ?_ ?_
   | refine LeO.bind ?_ (fun _ => ?_)
theorem bits_Read.mono : ∀ a0 k, LeO (bits_Read.f k a0) (bits_Read.f (k + 1) a0) := by
 intro a0 k
 obtain ⟨ih0, ih1, ih2, ih3⟩ := bits_Read.mono_l k
 unfold bits_Read.f
 repeat' first
   | (with_reducible exact ih0 _ _ _ _ _)
   | (with_reducible exact ih1 _ _ _ _)
   | (with_reducible exact ih2 _ _ _)
   | (with_reducible exact ih3 _ _ _ _)
   | (with_reducible exact bits_decimal.mono _ _ _ _)
   | (with_reducible exact bits_grouped.mono _ _ _ _ _)
   | (with_reducible exact bits_size.mono _ _)
   | (with_reducible exact LeO.refl _)
   | (with_reducible exact LeO.none _)
   | (with_reducible refine LeO.ite ?_ ?_)
   | (with_reducible refine LeO.bind ?_ (fun _ => ?_))
   | exact ih0 _ _ _ _ _
   | exact ih1 _ _ _ _
   | exact ih2 _ _ _
   | exact ih3 _ _ _ _
   | exact bits_decimal.mono _ _ _ _
   | exact bits_grouped.mono _ _ _ _ _
   | exact bits_size.mono _ _
   | exact LeO.none _
   | refine LeO.ite ?_ ?_
   | refine LeO.bind ?_ (fun _ => ?_)
set_option maxHeartbeats 8000000 in
set_option maxRecDepth 100000 in
theorem bits_Read.calls (k : Nat) (a0 : ByteArray) (r1 : Int) (r2 : Int) (r3 : Int) (r4 : Int) (w : World) (h : bits_Read.f k a0 = some (r1, r2, r3, r4)) :
  Calls Tryd.prog 12 #[.string a0] w fun e w' => e = .returned (.tuple #[.agg #[.int .i64 r1, .int .u64 r2, .int .u64 r3], .int .i64 r4]) ∧ Below w.heap.size w w' := by
 have hu24 := Tryd.underlying24
 have HB := Aside0.mk (Below.refl w.heap.size w)
 have H : ((bits_size.f k a0).bind fun bt160 => (if bt160.2.2 = 10 then (bits_Read.j0 k a0 bt160.1 bt160.2.1 bt160.2.2 true) else (if bt160.2.1 ≥ (a0.size : Int) then (bits_Read.j0 k a0 bt160.1 bt160.2.1 bt160.2.2 true) else (if 0 ≤ bt160.2.1 then (if bt160.2.1 < (a0.size : Int) then (bits_Read.j0 k a0 bt160.1 bt160.2.1 bt160.2.2 ((bt a0 bt160.2.1) != 39)) else (none)) else (none))))) = some (r1, r2, r3, r4) := h
 clear h
 replace H := Option.bind_eq_some_iff.mp H
 obtain ⟨⟨t160, t161, t162⟩, A20, H⟩ := H
 replace H : (if t162 = 10 then (bits_Read.j0 k a0 t160 t161 t162 true) else (if t161 ≥ (a0.size : Int) then (bits_Read.j0 k a0 t160 t161 t162 true) else (if 0 ≤ t161 then (if t161 < (a0.size : Int) then (bits_Read.j0 k a0 t160 t161 t162 ((bt a0 t161) != 39)) else (none)) else (none)))) = some (r1, r2, r3, r4) := H
 have A2 := Aside0.mk A20
 clear A20
 have HC3 := Aside0.mk H
 clear H
 go_enter Tryd.func12, Tryd.ntmps12
 go_upto_region 2 with (first | ((with_reducible refine gate_dst (N := 2) rfl ?_); (try (refine gate_guard (by rfl) ?_; dsimp only)); refine box_event ?hg (N := 2) ?hd (cs := #[.int .i64 0, .int .u64 0, .int .u64 0]) (t := 24) ?hr ?_; (case hd => rfl); (case hg => rfl); (case hr => (go_simp; done)); intro gb159 hg w4 hbox hb; have BK159 := Aside0.mk (hbox); have GW159 := ge1 HB hg; have GE159 := ge1 HB hg; replace HB := hb1 HB hb; clear hb hbox hg) | ((with_reducible refine gate_callee (f := 50) rfl ?_); refine goesL_ (some 10) rfl rfl Tryd.func50 (by kernel_rfl) rfl #[.string a0] rfl (by (try simp only [List.map_toArray, List.map_cons, List.map_nil]); rfl) ?_; (with_reducible refine (bits_size.calls k a0 t160 t161 t162 _ A2.out).mono ?_); rintro e w5 ⟨rfl, hb⟩; refine ⟨_, rfl, ?_⟩; replace BK159 := bk1 BK159 hb; replace HB := hb1 HB hb; (try clear hb)))
 go_cut [27] (fun v27 wc => ∃ (kq : Nat) (x27_2 : Bool), v27 = .bool x27_2 ∧ Aside0 (bits_Read.j0 kq a0 t160 t161 t162 x27_2 = some (r1, r2, r3, r4)) ∧ Aside0 (kq ≤ k) ∧ Aside0 (wc.heap[gb159]? = some (.cells #[.int .i64 0, .int .u64 0, .int .u64 0] 24 (0, 0))) ∧ Aside0 (Below w.heap.size w wc))
 case first =>
  have H := HC3.out
  clear HC3
  by_cases c6 : t162 = 10
  ·rw [if_pos c6] at H
   have c6b0 : (t162 == 10) = true := beq_iff_eq.mpr c6
   have c6b1 : (t162 != 10) = false := bne_eq_false_iff_eq.mpr c6
   clear c6
   (skip)
   have H' := Aside0.mk H
   clear H
   go_wp2
   go_meet
   case rel => exact ⟨_, (true), (by rfl), H', ⟨by omega⟩, ⟨by exact BK159.out⟩, ⟨by repeat (with_reducible exact HB.out)⟩⟩
  ·rw [if_neg c6] at H
   have c6b0 : (t162 == 10) = false := beq_eq_false_iff_ne.mpr c6
   have c6b1 : (t162 != 10) = true := bne_iff_ne.mpr c6
   (skip)
   by_cases c7 : t161 ≥ (a0.size : Int)
   ·rw [if_pos c7] at H
    have c7b0 : decide ((a0.size : Int) ≤ t161) = true := decide_eq_true c7
    clear c7
    have H' := Aside0.mk H
    clear H
    go_wp2
    go_meet
    case rel => exact ⟨_, (true), (by rfl), H', ⟨by omega⟩, ⟨by exact BK159.out⟩, ⟨by repeat (with_reducible exact HB.out)⟩⟩
   ·rw [if_neg c7] at H
    have c7b0 : decide ((a0.size : Int) ≤ t161) = false := decide_eq_false c7
    clear c7
    by_cases c8 : 0 ≤ t161
    ·rw [if_pos c8] at H
     have c8b0 : decide (0 ≤ t161) = true := decide_eq_true c8
     clear c8
     by_cases c9 : t161 < (a0.size : Int)
     ·rw [if_pos c9] at H
      have c9b0 : decide (t161 < (a0.size : Int)) = true := decide_eq_true c9
      clear c9
      have H' := Aside0.mk H
      clear H
      have p10 : 0 ≤ (t161 : Int) := of_decide_eq_true (by (with_reducible assumption))
      have q10 : t161 < (a0.size : Int) := of_decide_eq_true (by (with_reducible assumption))
      have hx10 := bt_at a0 t161
      replace p10 := eq_true p10
      replace q10 := eq_true q10
      go_wp2
      go_meet
      case rel => exact ⟨_, ((bt a0 t161) != 39), (by rfl), H', ⟨by omega⟩, ⟨by exact BK159.out⟩, ⟨by repeat (with_reducible exact HB.out)⟩⟩
     ·rw [if_neg c9] at H
      exact absurd H (by simp)
    ·rw [if_neg c8] at H
     exact absurd H (by simp)
 case rest =>
  clear HC3
  obtain ⟨kq, x27_2, rfl, HA, HJ2, BK159, HB⟩ := hcut
  cases kq with
  | zero => exact absurd HA.out (by simp [bits_Read.j0])
  | succ kj2 =>
   have H := HA.out
   clear HA
   simp only [bits_Read.j0] at H
   by_cases c11 : x27_2 = true
   ·subst c11
    have H1 : (some (0, 0, 0, 10)) = some (r1, r2, r3, r4) := by rw [if_pos rfl] at H; exact H
    clear H
    have H := H1
    clear H1
    simp only [Option.some.injEq, Prod.mk.injEq] at H
    obtain ⟨rfl, rfl, rfl, rfl⟩ := H
    obtain ⟨hcz12_0, hcz12_1, hcz12_2⟩ := sq_cells3 (W := wc) (g := gb159) BK159.out; obtain ⟨hfz12_0, hfz12_1, hfz12_2⟩ := sq_frozen3 BK159.out
    go_wp2
    refine bodyPost_ret (results_ct rfl _ _ gb159 24 #[.int .i64 0, .int .u64 0, .int .u64 0] (0, 0) _ rfl (by refine blk_put (cs := #[.int .i64 0, .int .u64 0, .int .u64 0]) ?_ 2 _ rfl; refine blk_put (cs := #[.int .i64 0, .int .u64 0, .int .u64 0]) ?_ 1 _ rfl; refine blk_put (cs := #[.int .i64 0, .int .u64 0, .int .u64 0]) ?_ 0 _ rfl; exact BK159.out) Tryd.underlying24 rfl (by kernel_rfl)) rfl ?_
    exact ⟨by rfl, by repeat (with_reducible first | exact HB.out | refine below_set ?_ GE159.out)⟩
   ·replace c11 := Bool.eq_false_iff.mpr c11
    subst c11
    have H1 : (if 0 ≤ (wrap64 (t161 + 1)) then (if (wrap64 (t161 + 1)) ≤ (a0.size : Int) then (if ((a0.extract ((wrap64 (t161 + 1)) : Int).toNat a0.size).size : Int) > 0 then (if 0 < ((a0.extract ((wrap64 (t161 + 1)) : Int).toNat a0.size).size : Int) then (bits_Read.j1 kj2 (a0.extract ((wrap64 (t161 + 1)) : Int).toNat a0.size) t160 t162 ((bt (a0.extract ((wrap64 (t161 + 1)) : Int).toNat a0.size) 0) == 115)) else (none)) else (bits_Read.j1 kj2 (a0.extract ((wrap64 (t161 + 1)) : Int).toNat a0.size) t160 t162 false)) else (none)) else (none)) = some (r1, r2, r3, r4) := by rw [if_neg (show ¬ (false = true) by decide)] at H; exact H
    clear H
    have H := H1
    clear H1
    obtain ⟨ji13, hji13⟩ : ∃ j_ : Int, (wrap64 (t161 + 1)) = j_ := ⟨_, rfl⟩
    replace H : (if 0 ≤ (ji13) then (if (ji13) ≤ (a0.size : Int) then (if ((a0.extract ((ji13) : Int).toNat a0.size).size : Int) > 0 then (if 0 < ((a0.extract ((ji13) : Int).toNat a0.size).size : Int) then (bits_Read.j1 kj2 (a0.extract ((ji13) : Int).toNat a0.size) t160 t162 ((bt (a0.extract ((ji13) : Int).toNat a0.size) 0) == 115)) else (none)) else (bits_Read.j1 kj2 (a0.extract ((ji13) : Int).toNat a0.size) t160 t162 false)) else (none)) else (none)) = some (r1, r2, r3, r4) := by (rw [hji13] at H; exact H)
    have hji13w : (IntKind.i64.wrap (t161 + 1)) = ji13 := (i64_w _).trans hji13
    by_cases c14 : 0 ≤ (ji13)
    ·rw [if_pos c14] at H
     have c14b0 := eq_true c14
     have c14b1 : decide (0 ≤ (ji13)) = true := decide_eq_true c14
     clear c14
     by_cases c15 : (ji13) ≤ (a0.size : Int)
     ·rw [if_pos c15] at H
      have c15b0 := eq_true c15
      have c15b1 : decide ((ji13) ≤ (a0.size : Int)) = true := decide_eq_true c15
      clear c15
      have HC16 := Aside0.mk H
      clear H
      go_upto_region 5 with (fail)
      go_cut [40] (fun v40 wc => ∃ (kq : Nat) (x40_15 : Bool), v40 = .bool x40_15 ∧ Aside0 (bits_Read.j1 kq (a0.extract ((ji13) : Int).toNat a0.size) t160 t162 x40_15 = some (r1, r2, r3, r4)) ∧ Aside0 (kq ≤ kj2) ∧ Aside0 (wc.heap[gb159]? = some (.cells #[.int .i64 0, .int .u64 0, .int .u64 0] 24 (0, 0))) ∧ Aside0 (Below w.heap.size w wc))
      case first =>
       have H := HC16.out
       clear HC16
       by_cases c17 : ((a0.extract ((ji13) : Int).toNat a0.size).size : Int) > 0
       ·rw [if_pos c17] at H
        have c17b0 : decide (0 < ((a0.extract ((ji13) : Int).toNat a0.size).size : Int)) = true := decide_eq_true c17
        try have c17b0e : decide (0 < ((a0.size - ((ji13) : Int).toNat : Nat) : Int)) = true := by have h_ := c17b0; simp only [ByteArray.size_extract, Nat.min_self] at h_; exact h_
        have c17b1 : decide (0 < (a0.extract ((ji13) : Int).toNat a0.size).size) = true := decide_eq_true (by omega)
        try have c17b1e : decide (0 < (a0.size - ((ji13) : Int).toNat)) = true := by have h_ := c17b1; simp only [ByteArray.size_extract, Nat.min_self] at h_; exact h_
        clear c17
        (skip)
        by_cases c18 : 0 < ((a0.extract ((ji13) : Int).toNat a0.size).size : Int)
        ·rw [if_pos c18] at H
         have c18b0 : decide (0 < ((a0.extract ((ji13) : Int).toNat a0.size).size : Int)) = true := decide_eq_true c18
         try have c18b0e : decide (0 < ((a0.size - ((ji13) : Int).toNat : Nat) : Int)) = true := by have h_ := c18b0; simp only [ByteArray.size_extract, Nat.min_self] at h_; exact h_
         have c18b1 : decide (0 < (a0.extract ((ji13) : Int).toNat a0.size).size) = true := decide_eq_true (by omega)
         try have c18b1e : decide (0 < (a0.size - ((ji13) : Int).toNat)) = true := by have h_ := c18b1; simp only [ByteArray.size_extract, Nat.min_self] at h_; exact h_
         clear c18
         have H' := Aside0.mk H
         clear H
         have p19 : 0 ≤ (0 : Int) := (by omega)
         have q19 : 0 < (a0.extract ((ji13) : Int).toNat a0.size).size := (by have : (0 : Int) < ((a0.extract ((ji13) : Int).toNat a0.size).size : Int) := of_decide_eq_true (by (with_reducible assumption)); omega)
         try have q19e : 0 < (a0.size - ((ji13) : Int).toNat) := by have h_ := q19; simp only [ByteArray.size_extract, Nat.min_self] at h_; exact h_
         have hx19 : ∀ h : 0 < (a0.extract ((ji13) : Int).toNat a0.size).size, (((a0.extract ((ji13) : Int).toNat a0.size)[0]'h).toNat : Int) = bt (a0.extract ((ji13) : Int).toNat a0.size) 0 := bt_at (a0.extract ((ji13) : Int).toNat a0.size) 0
         clear p19
         have qi19 : (0 < ((a0.extract ((ji13) : Int).toNat a0.size).size : Int)) = True := eq_true (of_decide_eq_true (by (with_reducible assumption)))
         try have qi19e : (0 < ((a0.size - ((ji13) : Int).toNat : Nat) : Int)) = True := by have h_ := qi19; simp only [ByteArray.size_extract, Nat.min_self] at h_; exact h_
         replace q19 := eq_true q19
         go_wp2
         go_meet
         case rel => exact ⟨_, (((bt (a0.extract ((ji13) : Int).toNat a0.size) 0) == 115)), (by (with_reducible rfl)), H', ⟨by have := HJ2.out; omega⟩, ⟨by exact BK159.out⟩, ⟨by repeat (with_reducible exact HB.out)⟩⟩
        ·rw [if_neg c18] at H
         exact absurd H (by simp)
       ·rw [if_neg c17] at H
        have c17b0 : decide (0 < ((a0.extract ((ji13) : Int).toNat a0.size).size : Int)) = false := decide_eq_false c17
        try have c17b0e : decide (0 < ((a0.size - ((ji13) : Int).toNat : Nat) : Int)) = false := by have h_ := c17b0; simp only [ByteArray.size_extract, Nat.min_self] at h_; exact h_
        have c17b1 : decide (0 < (a0.extract ((ji13) : Int).toNat a0.size).size) = false := decide_eq_false (by omega)
        try have c17b1e : decide (0 < (a0.size - ((ji13) : Int).toNat)) = false := by have h_ := c17b1; simp only [ByteArray.size_extract, Nat.min_self] at h_; exact h_
        clear c17
        (skip)
        have H' := Aside0.mk H
        clear H
        go_wp2
        go_meet
        case rel => exact ⟨_, (false), (by rfl), H', ⟨by have := HJ2.out; omega⟩, ⟨by exact BK159.out⟩, ⟨by repeat (with_reducible exact HB.out)⟩⟩
      case rest =>
       clear HC16
       (try clear c14b0); (try clear c14b1); (try clear c15b0); (try clear c15b1)
       obtain ⟨kq, x40_15, rfl, HA, HJ15, BK159, HB⟩ := hcut
       cases kq with
       | zero => exact absurd HA.out (by simp [bits_Read.j1])
       | succ kj15 =>
        have H := HA.out
        clear HA
        simp only [bits_Read.j1] at H
        have HC20 := Aside0.mk H
        clear H
        go_upto_if 40 with (fail)
        go_cut [0] (fun v0 wc => ∃ (kq : Nat) (x0_19 : ByteArray), v0 = .string x0_19 ∧ Aside0 (bits_Read.j2 kq x0_19 t160 t162 = some (r1, r2, r3, r4)) ∧ Aside0 (kq ≤ kj15) ∧ Aside0 (wc.heap[gb159]? = some (.cells #[.int .i64 0, .int .u64 0, .int .u64 0] 24 (0, 0))) ∧ Aside0 (Below w.heap.size w wc))
        case first =>
         have H := HC20.out
         clear HC20
         by_cases c21 : x40_15 = true
         ·subst c21
          have H1 : (if 1 ≤ ((a0.extract ((ji13) : Int).toNat a0.size).size : Int) then (bits_Read.j2 kj15 ((a0.extract ((ji13) : Int).toNat a0.size).extract 1 (a0.extract ((ji13) : Int).toNat a0.size).size) t160 t162) else (none)) = some (r1, r2, r3, r4) := by rw [if_pos rfl] at H; exact H
          clear H
          have H := H1
          clear H1
          by_cases c22 : 1 ≤ ((a0.extract ((ji13) : Int).toNat a0.size).size : Int)
          ·rw [if_pos c22] at H
           have c22b0 := eq_true c22
           have c22b1 : decide (1 ≤ ((a0.extract ((ji13) : Int).toNat a0.size).size : Int)) = true := decide_eq_true c22
           try have c22b1e : decide (1 ≤ ((a0.size - ((ji13) : Int).toNat : Nat) : Int)) = true := by have h_ := c22b1; simp only [ByteArray.size_extract, Nat.min_self] at h_; exact h_
           try have c22b1f : (1 ≤ ((a0.size - ((ji13) : Int).toNat : Nat) : Int)) = True := eq_true (of_decide_eq_true c22b1e)
           clear c22
           have H' := Aside0.mk H
           clear H
           go_wp2
           go_meet
           case rel => exact ⟨_, ((a0.extract ((ji13) : Int).toNat a0.size).extract 1 (a0.extract ((ji13) : Int).toNat a0.size).size), (by (simp only [ByteArray.size_extract, Nat.min_self]; done)), H', ⟨by have := HJ2.out; have := HJ15.out; omega⟩, ⟨by exact BK159.out⟩, ⟨by repeat (with_reducible exact HB.out)⟩⟩
          ·rw [if_neg c22] at H
           exact absurd H (by simp)
         ·replace c21 := Bool.eq_false_iff.mpr c21
          subst c21
          have H1 : (bits_Read.j2 kj15 (a0.extract ((ji13) : Int).toNat a0.size) t160 t162) = some (r1, r2, r3, r4) := by rw [if_neg (show ¬ (false = true) by decide)] at H; exact H
          clear H
          have H := H1
          clear H1
          have H' := Aside0.mk H
          clear H
          go_wp2
          go_meet
          case rel => exact ⟨_, ((a0.extract ((ji13) : Int).toNat a0.size)), (by (with_reducible rfl)), H', ⟨by have := HJ2.out; have := HJ15.out; omega⟩, ⟨by exact BK159.out⟩, ⟨by repeat (with_reducible exact HB.out)⟩⟩
        case rest =>
         clear HC20
         obtain ⟨kq, x0_19, rfl, HA, HJ19, BK159, HB⟩ := hcut
         cases kq with
         | zero => exact absurd HA.out (by simp [bits_Read.j2])
         | succ kj19 =>
          have H := HA.out
          clear HA
          simp only [bits_Read.j2] at H
          by_cases c23 : (x0_19.size : Int) < 2
          ·rw [if_pos c23] at H
           have c23b0 : decide ((x0_19.size : Int) < 2) = true := decide_eq_true c23
           have c23b1 : decide (x0_19.size < 2) = true := decide_eq_true (by omega)
           clear c23
           simp only [Option.some.injEq, Prod.mk.injEq] at H
           obtain ⟨rfl, rfl, rfl, rfl⟩ := H
           obtain ⟨hcz24_0, hcz24_1, hcz24_2⟩ := sq_cells3 (W := wc) (g := gb159) BK159.out; obtain ⟨hfz24_0, hfz24_1, hfz24_2⟩ := sq_frozen3 BK159.out
           go_wp2
           refine bodyPost_ret (results_ct rfl _ _ gb159 24 #[.int .i64 0, .int .u64 0, .int .u64 0] (0, 0) _ rfl (by refine blk_put (cs := #[.int .i64 0, .int .u64 0, .int .u64 0]) ?_ 2 _ rfl; refine blk_put (cs := #[.int .i64 0, .int .u64 0, .int .u64 0]) ?_ 1 _ rfl; refine blk_put (cs := #[.int .i64 0, .int .u64 0, .int .u64 0]) ?_ 0 _ rfl; exact BK159.out) Tryd.underlying24 rfl (by kernel_rfl)) rfl ?_
           exact ⟨by rfl, by repeat (with_reducible first | exact HB.out | refine below_set ?_ GE159.out)⟩
          ·rw [if_neg c23] at H
           have c23b0 : decide ((x0_19.size : Int) < 2) = false := decide_eq_false c23
           have c23b1 : decide (x0_19.size < 2) = false := decide_eq_false (by omega)
           clear c23
           by_cases c25 : 0 < (x0_19.size : Int)
           ·rw [if_pos c25] at H
            have c25b0 : decide (0 < (x0_19.size : Int)) = true := decide_eq_true c25
            have c25b1 : decide (0 < x0_19.size) = true := decide_eq_true (by omega)
            clear c25
            have HC27 := Aside0.mk H
            clear H
            have p26 : 0 ≤ (0 : Int) := (by omega)
            have q26 : 0 < x0_19.size := (by have : (0 : Int) < (x0_19.size : Int) := of_decide_eq_true (by (with_reducible assumption)); omega)
            have hx26 : ∀ h : 0 < x0_19.size, ((x0_19[0]'h).toNat : Int) = bt x0_19 0 := bt_at x0_19 0
            clear p26
            have qi26 : (0 < (x0_19.size : Int)) = True := eq_true (of_decide_eq_true (by (with_reducible assumption)))
            replace q26 := eq_true q26
            go_upto_block 0 with (fail)
            go_cut [7] (fun v7 wc => ∃ (kq : Nat) (x7_26 : Int) (x160000_26 : Int) (x160001_26 : Int) (x160002_26 : Int), v7 = .int .i64 x7_26 ∧ Aside0 (bits_Read.j3 kq x0_19 t160 t162 x7_26 = some (r1, r2, r3, r4)) ∧ Aside0 (kq ≤ kj19) ∧ Aside0 (wc.heap[gb159]? = some (.cells #[.int .i64 x160000_26, .int .u64 x160001_26, .int .u64 x160002_26] 24 (0, 0))) ∧ Aside0 (Below w.heap.size w wc))
            case first =>
             have H := HC27.out
             clear HC27
             by_cases c28 : (bt x0_19 0) = 98
             ·rw [if_pos c28] at H
              have c28b0 : ((bt x0_19 0) == 98) = true := beq_iff_eq.mpr c28
              have c28b1 : ((bt x0_19 0) != 98) = false := bne_eq_false_iff_eq.mpr c28
              clear c28
              (skip)
              have H' := Aside0.mk H
              clear H
              go_wp2
              go_meet
              case rel => exact ⟨_, (1), (0), (0), (0), (by rfl), H', ⟨by have := HJ2.out; have := HJ15.out; have := HJ19.out; omega⟩, ⟨by exact BK159.out⟩, ⟨by repeat (with_reducible exact HB.out)⟩⟩
             ·rw [if_neg c28] at H
              have c28b0 : ((bt x0_19 0) == 98) = false := beq_eq_false_iff_ne.mpr c28
              have c28b1 : ((bt x0_19 0) != 98) = true := bne_iff_ne.mpr c28
              (skip)
              by_cases c29 : (bt x0_19 0) = 111
              ·rw [if_pos c29] at H
               have c29b0 : ((bt x0_19 0) == 111) = true := beq_iff_eq.mpr c29
               have c29b1 : ((bt x0_19 0) != 111) = false := bne_eq_false_iff_eq.mpr c29
               clear c29
               have H' := Aside0.mk H
               clear H
               go_wp2
               go_meet
               case rel => exact ⟨_, (3), (0), (0), (0), (by rfl), H', ⟨by have := HJ2.out; have := HJ15.out; have := HJ19.out; omega⟩, ⟨by exact BK159.out⟩, ⟨by repeat (with_reducible exact HB.out)⟩⟩
              ·rw [if_neg c29] at H
               have c29b0 : ((bt x0_19 0) == 111) = false := beq_eq_false_iff_ne.mpr c29
               have c29b1 : ((bt x0_19 0) != 111) = true := bne_iff_ne.mpr c29
               by_cases c30 : (bt x0_19 0) = 104
               ·rw [if_pos c30] at H
                have c30b0 : ((bt x0_19 0) == 104) = true := beq_iff_eq.mpr c30
                have c30b1 : ((bt x0_19 0) != 104) = false := bne_eq_false_iff_eq.mpr c30
                clear c30
                have H' := Aside0.mk H
                clear H
                go_wp2
                go_meet
                case rel => exact ⟨_, (4), (0), (0), (0), (by rfl), H', ⟨by have := HJ2.out; have := HJ15.out; have := HJ19.out; omega⟩, ⟨by exact BK159.out⟩, ⟨by repeat (with_reducible exact HB.out)⟩⟩
               ·rw [if_neg c30] at H
                have c30b0 : ((bt x0_19 0) == 104) = false := beq_eq_false_iff_ne.mpr c30
                have c30b1 : ((bt x0_19 0) != 104) = true := bne_iff_ne.mpr c30
                by_cases c31 : (bt x0_19 0) = 100
                ·rw [if_pos c31] at H
                 have c31b0 : ((bt x0_19 0) == 100) = true := beq_iff_eq.mpr c31
                 have c31b1 : ((bt x0_19 0) != 100) = false := bne_eq_false_iff_eq.mpr c31
                 clear c31
                 by_cases c32 : 1 ≤ (x0_19.size : Int)
                 ·rw [if_pos c32] at H
                  have c32b0 := eq_true c32
                  have c32b1 : decide (1 ≤ (x0_19.size : Int)) = true := decide_eq_true c32
                  clear c32
                  replace H := Option.bind_eq_some_iff.mp H
                  obtain ⟨⟨t163, t164, t165, t166⟩, A330, H⟩ := H
                  replace H : (some (t163, t164, t165, t166)) = some (r1, r2, r3, r4) := H
                  have A33 := Aside0.mk A330
                  clear A330
                  simp only [Option.some.injEq, Prod.mk.injEq] at H
                  obtain ⟨rfl, rfl, rfl, rfl⟩ := H
                  go_wp2_with (((with_reducible refine gate_callee (f := 51) rfl ?_); refine goesL_ (some 61) rfl rfl Tryd.func51 (by kernel_rfl) rfl #[.string (x0_19.extract 1 x0_19.size), .int .i64 t160, .int .i64 t162] rfl (by (try simp only [List.map_toArray, List.map_cons, List.map_nil]); rfl) ?_; (with_reducible refine (bits_decimal.calls kj19 (x0_19.extract 1 x0_19.size) t160 t162 t163 t164 t165 t166 _ A33.out).mono ?_); rintro e w34 ⟨rfl, hb⟩; refine ⟨_, rfl, ?_⟩; replace BK159 := bk1 BK159 hb; replace HB := hb1 HB hb; (try clear hb); have hcz35_0 : w34.cell? ⟨gb159, 0, none⟩ = some (.int .i64 0) := (blk_cell BK159.out 0).trans rfl; have hcz35_1 : w34.cell? ⟨gb159, 1, none⟩ = some (.int .u64 0) := (blk_cell BK159.out 1).trans rfl; have hcz35_2 : w34.cell? ⟨gb159, 2, none⟩ = some (.int .u64 0) := (blk_cell BK159.out 2).trans rfl; have hfz35_0 := blk_frozen BK159.out 0; have hfz35_1 := blk_frozen BK159.out 1; have hfz35_2 := blk_frozen BK159.out 2))
                  refine bodyPost_ret (results_ct rfl _ _ gb159 24 #[.int .i64 t163, .int .u64 t164, .int .u64 t165] (0, 0) _ rfl (by refine blk_put (cs := #[.int .i64 t163, .int .u64 t164, .int .u64 0]) ?_ 2 _ rfl; refine blk_put (cs := #[.int .i64 t163, .int .u64 0, .int .u64 0]) ?_ 1 _ rfl; refine blk_put (cs := #[.int .i64 0, .int .u64 0, .int .u64 0]) ?_ 0 _ rfl; exact BK159.out) Tryd.underlying24 rfl (by kernel_rfl)) rfl ?_
                  exact ⟨by rfl, by repeat (with_reducible first | exact HB.out | refine below_set ?_ GE159.out)⟩
                 ·rw [if_neg c32] at H
                  exact absurd H (by simp)
                ·rw [if_neg c31] at H
                 have c31b0 : ((bt x0_19 0) == 100) = false := beq_eq_false_iff_ne.mpr c31
                 have c31b1 : ((bt x0_19 0) != 100) = true := bne_iff_ne.mpr c31
                 have H' := Aside0.mk H
                 clear H
                 go_wp2
                 go_meet
                 case rel => exact ⟨_, (0), (0), (0), (0), (by rfl), H', ⟨by have := HJ2.out; have := HJ15.out; have := HJ19.out; omega⟩, ⟨by exact BK159.out⟩, ⟨by repeat (with_reducible exact HB.out)⟩⟩
            case rest =>
             clear HC27
             (try clear c23b0); (try clear c23b1); (try clear c25b0); (try clear c25b1); (try clear q26); (try clear hx26); (try clear qi26)
             obtain ⟨kq, x7_26, x160000_26, x160001_26, x160002_26, rfl, HA, HJ26, BK159, HB⟩ := hcut
             cases kq with
             | zero => exact absurd HA.out (by simp [bits_Read.j3])
             | succ kj26 =>
              have H := HA.out
              clear HA
              simp only [bits_Read.j3] at H
              by_cases c36 : x7_26 = 0
              ·rw [if_pos c36] at H
               have c36b0 : (x7_26 == 0) = true := beq_iff_eq.mpr c36
               have c36b1 : (x7_26 != 0) = false := bne_eq_false_iff_eq.mpr c36
               clear c36
               simp only [Option.some.injEq, Prod.mk.injEq] at H
               obtain ⟨rfl, rfl, rfl, rfl⟩ := H
               obtain ⟨hcz37_0, hcz37_1, hcz37_2⟩ := sq_cells3 (W := wc) (g := gb159) BK159.out; obtain ⟨hfz37_0, hfz37_1, hfz37_2⟩ := sq_frozen3 BK159.out
               go_wp2
               refine bodyPost_ret (results_ct rfl _ _ gb159 24 #[.int .i64 0, .int .u64 0, .int .u64 0] (0, 0) _ rfl (by refine blk_put (cs := #[.int .i64 0, .int .u64 0, .int .u64 x160002_26]) ?_ 2 _ rfl; refine blk_put (cs := #[.int .i64 0, .int .u64 x160001_26, .int .u64 x160002_26]) ?_ 1 _ rfl; refine blk_put (cs := #[.int .i64 x160000_26, .int .u64 x160001_26, .int .u64 x160002_26]) ?_ 0 _ rfl; exact BK159.out) Tryd.underlying24 rfl (by kernel_rfl)) rfl ?_
               exact ⟨by rfl, by repeat (with_reducible first | exact HB.out | refine below_set ?_ GE159.out)⟩
              ·rw [if_neg c36] at H
               have c36b0 : (x7_26 == 0) = false := beq_eq_false_iff_ne.mpr c36
               have c36b1 : (x7_26 != 0) = true := bne_iff_ne.mpr c36
               by_cases c38 : 1 ≤ (x0_19.size : Int)
               ·rw [if_pos c38] at H
                have c38b0 := eq_true c38
                have c38b1 : decide (1 ≤ (x0_19.size : Int)) = true := decide_eq_true c38
                clear c38
                replace H := Option.bind_eq_some_iff.mp H
                obtain ⟨⟨t167, t168, t169, t170⟩, A390, H⟩ := H
                replace H : (some (t167, t168, t169, t170)) = some (r1, r2, r3, r4) := H
                have A39 := Aside0.mk A390
                clear A390
                simp only [Option.some.injEq, Prod.mk.injEq] at H
                obtain ⟨rfl, rfl, rfl, rfl⟩ := H
                go_wp2_with (((with_reducible refine gate_callee (f := 52) rfl ?_); refine goesL_ (some 72) rfl rfl Tryd.func52 (by kernel_rfl) rfl #[.string (x0_19.extract 1 x0_19.size), .int .i64 t160, .int .i64 x7_26, .int .i64 t162] rfl (by (try simp only [List.map_toArray, List.map_cons, List.map_nil]); rfl) ?_; (with_reducible refine (bits_grouped.calls kj26 (x0_19.extract 1 x0_19.size) t160 x7_26 t162 t167 t168 t169 t170 _ A39.out).mono ?_); rintro e w40 ⟨rfl, hb⟩; refine ⟨_, rfl, ?_⟩; replace BK159 := bk1 BK159 hb; replace HB := hb1 HB hb; (try clear hb); have hcz41_0 : w40.cell? ⟨gb159, 0, none⟩ = some (.int .i64 x160000_26) := (blk_cell BK159.out 0).trans rfl; have hcz41_1 : w40.cell? ⟨gb159, 1, none⟩ = some (.int .u64 x160001_26) := (blk_cell BK159.out 1).trans rfl; have hcz41_2 : w40.cell? ⟨gb159, 2, none⟩ = some (.int .u64 x160002_26) := (blk_cell BK159.out 2).trans rfl; have hfz41_0 := blk_frozen BK159.out 0; have hfz41_1 := blk_frozen BK159.out 1; have hfz41_2 := blk_frozen BK159.out 2))
                refine bodyPost_ret (results_ct rfl _ _ gb159 24 #[.int .i64 t167, .int .u64 t168, .int .u64 t169] (0, 0) _ rfl (by refine blk_put (cs := #[.int .i64 t167, .int .u64 t168, .int .u64 x160002_26]) ?_ 2 _ rfl; refine blk_put (cs := #[.int .i64 t167, .int .u64 x160001_26, .int .u64 x160002_26]) ?_ 1 _ rfl; refine blk_put (cs := #[.int .i64 x160000_26, .int .u64 x160001_26, .int .u64 x160002_26]) ?_ 0 _ rfl; exact BK159.out) Tryd.underlying24 rfl (by kernel_rfl)) rfl ?_
                exact ⟨by rfl, by repeat (with_reducible first | exact HB.out | refine below_set ?_ GE159.out)⟩
               ·rw [if_neg c38] at H
                exact absurd H (by simp)
           ·rw [if_neg c25] at H
            exact absurd H (by simp)
     ·rw [if_neg c15] at H
      exact absurd H (by simp)
    ·rw [if_neg c14] at H
     exact absurd H (by simp)
end Go.Proofs.YtfigblfjogpojaaDoor.PBits
end
