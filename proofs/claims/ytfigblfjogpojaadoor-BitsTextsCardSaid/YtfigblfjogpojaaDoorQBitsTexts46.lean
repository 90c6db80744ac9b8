/- Part 47 of the proof of BitsTextsCardSaid: The law BitsTexts: for all arguments it returns true; each argument reads behind the call as it read before. Out of the plain theorem of YtfigblfjogpojaaDoorPureBitsTexts and the printed contract. -/
import Derived.Test.YtfigblfjogpojaaDoorQBitsTexts15
import Derived.Test.YtfigblfjogpojaaDoorQBitsTexts37
import Derived.Test.YtfigblfjogpojaaDoorQBitsTexts41
import Derived.Test.YtfigblfjogpojaaDoorQBitsTexts45
section
namespace Go.Proofs.YtfigblfjogpojaaDoor.PBits
open Go.RowKit Go.Proofs.YtfigblfjogpojaaDoorW.PrintWords Go.Proofs.YtfigblfjogpojaaDoorW.PrintLast Go.Proofs.YtfigblfjogpojaaDoorW.PrintMore
attribute [local go_sem] max2_int min2_int max_two min_two max_three min_three max_four min_four
set_option linter.unusedVariables false
set_option linter.unusedSimpArgs false
theorem bt_byte (T : ByteArray) (x : Int) : 0 ≤ bt T x ∧ bt T x ≤ 255 := by
  unfold bt
  split
  · rename_i h
    have := UInt8.toNat_lt (T[x.toNat]'h)
    omega
  · omega
mutual
def maskref1_ReadBits.l0 : Nat → ByteArray → Int → Option (Int × Int × Int × Int)
 | 0, _, _ => none
 | k + 1, x0, x4 => if x4 < (x0.size : Int) then (if 0 ≤ x4 then (if (bt x0 x4) ≥ 48 then (maskref1_ReadBits.j1 k x0 x4 (decide ((bt x0 x4) ≤ 57))) else (maskref1_ReadBits.j1 k x0 x4 false)) else (none)) else (maskref1_ReadBits.j1 k x0 x4 false)
def maskref1_ReadBits.j1 : Nat → ByteArray → Int → Bool → Option (Int × Int × Int × Int)
 | 0, _, _, _ => none
 | k + 1, x0, x4, x24 => if x24 = true then (maskref1_ReadBits.l0 k x0 (wrap64 (x4 + 1))) else (if x4 = 0 then (maskref1_ReadBits.j2 k x0 x4 true) else (if 0 < (x0.size : Int) then (if (bt x0 0) = 48 then (maskref1_ReadBits.j2 k x0 x4 true) else (if x4 = (x0.size : Int) then (maskref1_ReadBits.j2 k x0 x4 true) else (if 0 ≤ x4 then (if x4 < (x0.size : Int) then (maskref1_ReadBits.j2 k x0 x4 ((bt x0 x4) != 39)) else (none)) else (none)))) else (none)))
def maskref1_ReadBits.j2 : Nat → ByteArray → Int → Bool → Option (Int × Int × Int × Int)
 | 0, _, _, _ => none
 | k + 1, x0, x4, x45 => if x45 = true then (some (0, 0, 0, 10)) else (if 0 ≤ x4 then (if x4 ≤ (x0.size : Int) then (maskref1_ReadBits.l1 k x0 x4 0 (x0.extract 0 (x4 : Int).toNat) 0) else (none)) else (none))
def maskref1_ReadBits.l1 : Nat → ByteArray → Int → Int → ByteArray → Int → Option (Int × Int × Int × Int)
 | 0, _, _, _, _, _ => none
 | k + 1, x0, x4, x5, x49, x50 => if x50 < (x49.size : Int) then (if 0 ≤ x50 then (if 0 ≤ (wrap32 (127 - (wrap32 (bt x49 x50)))) then (if 0 ≤ (wrap64 (1000 - x50)) then (if x5 < 1000 then (maskref1_ReadBits.l1 k x0 x4 (wrap64 ((wrap64 (10 * x5)) + (wrap64 (wrap32 ((wrap32 (bt x49 x50)) - 48))))) x49 (wrap64 (x50 + 1))) else (maskref1_ReadBits.l1 k x0 x4 x5 x49 (wrap64 (x50 + 1)))) else (none)) else (none)) else (none)) else (if 0 ≤ (wrap64 (x4 + 1)) then (if (wrap64 (x4 + 1)) ≤ (x0.size : Int) then (if ((x0.extract ((wrap64 (x4 + 1)) : Int).toNat x0.size).size : Int) > 0 then (if 0 < ((x0.extract ((wrap64 (x4 + 1)) : Int).toNat x0.size).size : Int) then (maskref1_ReadBits.j4 k (x0.extract ((wrap64 (x4 + 1)) : Int).toNat x0.size) x5 ((bt (x0.extract ((wrap64 (x4 + 1)) : Int).toNat x0.size) 0) == 115)) else (none)) else (maskref1_ReadBits.j4 k (x0.extract ((wrap64 (x4 + 1)) : Int).toNat x0.size) x5 false)) else (none)) else (none))
def maskref1_ReadBits.j4 : Nat → ByteArray → Int → Bool → Option (Int × Int × Int × Int)
 | 0, _, _, _ => none
 | k + 1, x0, x5, x73 => if x73 = true then (if 1 ≤ (x0.size : Int) then (maskref1_ReadBits.j5 k (x0.extract 1 x0.size) x5) else (none)) else (maskref1_ReadBits.j5 k x0 x5)
def maskref1_ReadBits.j5 : Nat → ByteArray → Int → Option (Int × Int × Int × Int)
 | 0, _, _ => none
 | k + 1, x0, x5 => if (x0.size : Int) < 2 then (some (0, 0, 0, 10)) else ((readK.f 0 10).bind fun t247 => (if 0 < (x0.size : Int) then ((sizeT.f (bt x0 0)).bind fun t248 => (if t248 = 0 then (some (0, 0, 0, 10)) else (if t248 = 99 then (if 1 ≤ (x0.size : Int) then ((maskref1_readDecimal.f k (x0.extract 1 x0.size) x5).bind fun bt249 => (some (bt249.1, bt249.2.1, bt249.2.2.1, bt249.2.2.2))) else (none)) else (if 1 ≤ (x0.size : Int) then ((maskref1_readDigits.f k (x0.extract 1 x0.size) x5 t248).bind fun bt253 => (some (bt253.1, bt253.2.1, bt253.2.2.1, bt253.2.2.2))) else (none))))) else (none)))
end
def maskref1_ReadBits.f (k : Nat) (a0 : ByteArray) : Option (Int × Int × Int × Int) := maskref1_ReadBits.l0 k a0 0
set_option maxHeartbeats 8000000 in
set_option maxRecDepth 100000 in
theorem maskref1_ReadBits.calls (k : Nat) (a0 : ByteArray) (r1 : Int) (r2 : Int) (r3 : Int) (r4 : Int) (w : World) (h : maskref1_ReadBits.f k a0 = some (r1, r2, r3, r4)) :
  Calls Tryd.prog 13 #[.string a0] w fun e w' => e = .returned (.tuple #[.agg #[.int .i64 r1, .int .u64 r2, .int .u64 r3], .int .i64 r4]) ∧ Below w.heap.size w w' := by
 have hu24 := Tryd.underlying24
 have HB := Aside0.mk (Below.refl w.heap.size w)
 have H : (maskref1_ReadBits.l0 k a0 0) = some (r1, r2, r3, r4) := h
 clear h
 have H' := Aside0.mk H
 clear H
 go_enter Tryd.func13, Tryd.ntmps13
 go_wp2_with (first | ((with_reducible refine gate_dst (N := 2) rfl ?_); (try (refine gate_guard (by rfl) ?_; dsimp only)); refine box_event ?hg (N := 2) ?hd (cs := #[.int .i64 0, .int .u64 0, .int .u64 0]) (t := 24) ?hr ?_; (case hd => rfl); (case hg => rfl); (case hr => first | (go_simp; done) | (go_simp; rfl)); intro gb246 hg w2 hbox hb; have n0_ := Aside0.mk (below_step (by repeat (first | (with_reducible first | exact HB.out | apply below_alloc | apply pw_below_drewN | apply below_drew1) | exact HB.out)) hb); have n1_ := Aside0.mk (hbox); have n2_ := Aside0.mk ((by rw [hg]; exact (below_size (by repeat (first | (with_reducible first | exact HB.out | apply below_alloc | apply pw_below_drewN | apply below_drew1) | exact HB.out))) : w.heap.size ≤ gb246)); have n3_ := Aside0.mk ((by rw [hg]; exact (below_size (by repeat (first | (with_reducible first | exact HB.out | apply below_alloc | apply pw_below_drewN | apply below_drew1) | exact HB.out))) : w.heap.size ≤ gb246)); clear HB; have HB := n0_; have BK246 := n1_; have GW246 := n2_; have GE246 := n3_; clear n0_ n1_ n2_ n3_; clear hb hbox hg))
 go_loopg [4] k (fun kq v4 w' => ∃ (x4_1 : Int), v4 = .int .i64 x4_1 ∧ Aside0 (maskref1_ReadBits.l0 kq a0 x4_1 = some (r1, r2, r3, r4)) ∧ Aside0 (kq ≤ k) ∧ Aside0 (w'.heap[gb246]? = some (.cells #[.int .i64 0, .int .u64 0, .int .u64 0] 24 (0, 0))) ∧ Aside0 (Below w.heap.size w w'))
 case atStart => exact ⟨(0), (by first | rfl | (simp; done) | (simp [*]; done)), H', ⟨Nat.le_refl _⟩, ⟨by (with_reducible repeat (first | refine blk_drewN ?_ _ | refine blk_drew ?_ | refine blk_alloc ?_ _)); exact BK246.out⟩, ⟨by repeat (first | (with_reducible first | exact HB.out | apply below_alloc | apply pw_below_drewN | apply below_drew1 | refine below_set ?_ GE246.out) | exact HB.out)⟩⟩
 case round =>
  clear H'
  (try clear c1); (try clear p2)
  obtain ⟨x4_1, rfl, HA, HK1, BK246, HB⟩ := hrel
  cases gk with
  | zero => exact absurd HA.out (by simp [maskref1_ReadBits.l0])
  | succ k1 =>
   have H := HA.out
   clear HA
   simp only [maskref1_ReadBits.l0] at H
   have HC3 := Aside0.mk H
   clear H
   go_upto_region 2 with (fail)
   go_cut [24] (fun v24 wc => ∃ (kq : Nat) (x24_2 : Bool), v24 = .bool x24_2 ∧ Aside0 (maskref1_ReadBits.j1 kq a0 x4_1 x24_2 = some (r1, r2, r3, r4)) ∧ Aside0 (kq ≤ k1) ∧ Aside0 (wc.heap[gb246]? = some (.cells #[.int .i64 0, .int .u64 0, .int .u64 0] 24 (0, 0))) ∧ Aside0 (Below w.heap.size w wc))
   case first =>
    have H := HC3.out
    clear HC3
    by_cases c4 : x4_1 < (a0.size : Int)
    ·rw [if_pos c4] at H
     have c4b0 : decide (x4_1 < (a0.size : Int)) = true := decide_eq_true c4
     clear c4
     (first | rw [c4b0] | (simp only [i64_w, i32_w]; rw [c4b0]) | skip)
     by_cases c5 : 0 ≤ x4_1
     ·rw [if_pos c5] at H
      have c5b0 : decide (0 ≤ x4_1) = true := decide_eq_true c5
      clear c5
      by_cases c7 : (bt a0 x4_1) ≥ 48
      ·rw [if_pos c7] at H
       have c7b0 : decide (48 ≤ (bt a0 x4_1)) = true := decide_eq_true c7
       clear c7
       have H' := Aside0.mk H
       clear H
       have p6 : 0 ≤ (x4_1 : Int) := of_decide_eq_true (by first | (with_reducible assumption) | assumption)
       have q6 : x4_1 < (a0.size : Int) := of_decide_eq_true (by first | (with_reducible assumption) | assumption)
       have hx6 := bt_at a0 x4_1
       replace p6 := eq_true p6
       replace q6 := eq_true q6
       have p8 : 0 ≤ (x4_1 : Int) := of_decide_eq_true (by first | (with_reducible assumption) | assumption)
       have q8 : x4_1 < (a0.size : Int) := of_decide_eq_true (by first | (with_reducible assumption) | assumption)
       have hx8 := bt_at a0 x4_1
       replace p8 := eq_true p8
       replace q8 := eq_true q8
       go_wp2
       go_meet
       case rel => exact ⟨_, (decide ((bt a0 x4_1) ≤ 57)), (by first | rfl | (simp; done) | (simp [*]; done)), H', ⟨by have := HK1.out; first | omega | exact Nat.le_refl _⟩, ⟨by (with_reducible repeat (first | refine blk_drewN ?_ _ | refine blk_drew ?_ | refine blk_alloc ?_ _)); exact BK246.out⟩, ⟨by repeat (first | (with_reducible first | exact HB.out | apply below_alloc | apply pw_below_drewN | apply below_drew1 | refine below_set ?_ GE246.out) | exact HB.out)⟩⟩
      ·rw [if_neg c7] at H
       have c7b0 : decide (48 ≤ (bt a0 x4_1)) = false := decide_eq_false c7
       clear c7
       have H' := Aside0.mk H
       clear H
       have p6 : 0 ≤ (x4_1 : Int) := of_decide_eq_true (by first | (with_reducible assumption) | assumption)
       have q6 : x4_1 < (a0.size : Int) := of_decide_eq_true (by first | (with_reducible assumption) | assumption)
       have hx6 := bt_at a0 x4_1
       replace p6 := eq_true p6
       replace q6 := eq_true q6
       go_wp2
       go_meet
       case rel => exact ⟨_, (false), (by first | rfl | (simp; done) | (simp [*]; done)), H', ⟨by have := HK1.out; first | omega | exact Nat.le_refl _⟩, ⟨by (with_reducible repeat (first | refine blk_drewN ?_ _ | refine blk_drew ?_ | refine blk_alloc ?_ _)); exact BK246.out⟩, ⟨by repeat (first | (with_reducible first | exact HB.out | apply below_alloc | apply pw_below_drewN | apply below_drew1 | refine below_set ?_ GE246.out) | exact HB.out)⟩⟩
     ·rw [if_neg c5] at H
      exact absurd H (by simp)
    ·rw [if_neg c4] at H
     have c4b0 : decide (x4_1 < (a0.size : Int)) = false := decide_eq_false c4
     clear c4
     (first | rw [c4b0] | (simp only [i64_w, i32_w]; rw [c4b0]) | skip)
     have H' := Aside0.mk H
     clear H
     go_wp2
     go_meet
     case rel => exact ⟨_, (false), (by first | rfl | (simp; done) | (simp [*]; done)), H', ⟨by have := HK1.out; first | omega | exact Nat.le_refl _⟩, ⟨by (with_reducible repeat (first | refine blk_drewN ?_ _ | refine blk_drew ?_ | refine blk_alloc ?_ _)); exact BK246.out⟩, ⟨by repeat (first | (with_reducible first | exact HB.out | apply below_alloc | apply pw_below_drewN | apply below_drew1 | refine below_set ?_ GE246.out) | exact HB.out)⟩⟩
   case rest =>
    clear HC3
    (try clear c1); (try clear p2); (try clear c4); (try clear c4b0); (try clear c5); (try clear c5b0); (try clear p6); (try clear q6); (try clear hx6); (try clear c7); (try clear c7b0); (try clear p8); (try clear q8); (try clear hx8); (try clear p2); (try clear p6); (try clear p8); (try clear q6); (try clear q8)
    obtain ⟨kq, x24_2, rfl, HA, HJ2, BK246, HB⟩ := hcut
    cases kq with
    | zero => exact absurd HA.out (by simp [maskref1_ReadBits.j1])
    | succ kj2 =>
     have H := HA.out
     clear HA
     simp only [maskref1_ReadBits.j1] at H
     by_cases c9 : x24_2 = true
     ·subst c9
      have H1 : (maskref1_ReadBits.l0 kj2 a0 (wrap64 (x4_1 + 1))) = some (r1, r2, r3, r4) := by rw [if_pos rfl] at H; exact H
      clear H
      have H := H1
      clear H1
      have H' := Aside0.mk H
      clear H
      go_wp2
      go_roundg kj2
      case measure => have := HK1.out; have := HJ2.out; omega
      case rel => exact ⟨(wrap64 (x4_1 + 1)), (by first | rfl | (simp; done) | (simp [*]; done)), H', ⟨by have := HK1.out; have := HJ2.out; omega⟩, ⟨by (with_reducible repeat (first | refine blk_drewN ?_ _ | refine blk_drew ?_ | refine blk_alloc ?_ _)); exact BK246.out⟩, ⟨by repeat (first | (with_reducible first | exact HB.out | apply below_alloc | apply pw_below_drewN | apply below_drew1 | refine below_set ?_ GE246.out) | exact HB.out)⟩⟩
     ·replace c9 := Bool.eq_false_iff.mpr c9
      subst c9
      have H1 : (if x4_1 = 0 then (maskref1_ReadBits.j2 kj2 a0 x4_1 true) else (if 0 < (a0.size : Int) then (if (bt a0 0) = 48 then (maskref1_ReadBits.j2 kj2 a0 x4_1 true) else (if x4_1 = (a0.size : Int) then (maskref1_ReadBits.j2 kj2 a0 x4_1 true) else (if 0 ≤ x4_1 then (if x4_1 < (a0.size : Int) then (maskref1_ReadBits.j2 kj2 a0 x4_1 ((bt a0 x4_1) != 39)) else (none)) else (none)))) else (none))) = some (r1, r2, r3, r4) := by rw [if_neg (show ¬ (false = true) by decide)] at H; exact H
      clear H
      have H := H1
      clear H1
      have HC10 := Aside0.mk H
      clear H
      go_upto_region 4 with (fail)
      go_cut [45] (fun v45 wc => ∃ (kq : Nat) (x45_9 : Bool), v45 = .bool x45_9 ∧ Aside0 (maskref1_ReadBits.j2 kq a0 x4_1 x45_9 = some (r1, r2, r3, r4)) ∧ Aside0 (kq ≤ kj2) ∧ Aside0 (wc.heap[gb246]? = some (.cells #[.int .i64 0, .int .u64 0, .int .u64 0] 24 (0, 0))) ∧ Aside0 (Below w.heap.size w wc))
      case first =>
       have H := HC10.out
       clear HC10
       by_cases c11 : x4_1 = 0
       ·rw [if_pos c11] at H
        have c11b0 : (x4_1 == 0) = true := beq_iff_eq.mpr c11
        have c11b1 : (x4_1 != 0) = false := bne_eq_false_iff_eq.mpr c11
        clear c11
        (first | rw [c11b0] | (simp only [i64_w, i32_w]; rw [c11b0]) | skip)
        have H' := Aside0.mk H
        clear H
        go_wp2
        go_meet
        case rel => exact ⟨_, (true), (by first | rfl | (simp; done) | (simp [*]; done)), H', ⟨by have := HK1.out; have := HJ2.out; first | omega | exact Nat.le_refl _⟩, ⟨by (with_reducible repeat (first | refine blk_drewN ?_ _ | refine blk_drew ?_ | refine blk_alloc ?_ _)); exact BK246.out⟩, ⟨by repeat (first | (with_reducible first | exact HB.out | apply below_alloc | apply pw_below_drewN | apply below_drew1 | refine below_set ?_ GE246.out) | exact HB.out)⟩⟩
       ·rw [if_neg c11] at H
        have c11b0 : (x4_1 == 0) = false := beq_eq_false_iff_ne.mpr c11
        have c11b1 : (x4_1 != 0) = true := bne_iff_ne.mpr c11
        (first | rw [c11b0] | (simp only [i64_w, i32_w]; rw [c11b0]) | skip)
        by_cases c12 : 0 < (a0.size : Int)
        ·rw [if_pos c12] at H
         have c12b0 : decide (0 < (a0.size : Int)) = true := decide_eq_true c12
         have c12b1 : decide (0 < a0.size) = true := decide_eq_true (by omega)
         clear c12
         by_cases c14 : (bt a0 0) = 48
         ·rw [if_pos c14] at H
          have c14b0 : ((bt a0 0) == 48) = true := beq_iff_eq.mpr c14
          have c14b1 : ((bt a0 0) != 48) = false := bne_eq_false_iff_eq.mpr c14
          clear c14
          have H' := Aside0.mk H
          clear H
          have p13 : 0 ≤ (0 : Int) := (by omega)
          have q13 : 0 < a0.size := (by have : (0 : Int) < (a0.size : Int) := of_decide_eq_true (by first | (with_reducible assumption) | assumption); omega)
          have hx13 : ∀ h : 0 < a0.size, ((a0[0]'h).toNat : Int) = bt a0 0 := bt_at a0 0
          clear p13
          have qi13 : (0 < (a0.size : Int)) = True := eq_true (of_decide_eq_true (by first | (with_reducible assumption) | assumption))
          replace q13 := eq_true q13
          go_wp2
          go_meet
          case rel => exact ⟨_, (true), (by first | rfl | (simp; done) | (simp [*]; done)), H', ⟨by have := HK1.out; have := HJ2.out; first | omega | exact Nat.le_refl _⟩, ⟨by (with_reducible repeat (first | refine blk_drewN ?_ _ | refine blk_drew ?_ | refine blk_alloc ?_ _)); exact BK246.out⟩, ⟨by repeat (first | (with_reducible first | exact HB.out | apply below_alloc | apply pw_below_drewN | apply below_drew1 | refine below_set ?_ GE246.out) | exact HB.out)⟩⟩
         ·rw [if_neg c14] at H
          have c14b0 : ((bt a0 0) == 48) = false := beq_eq_false_iff_ne.mpr c14
          have c14b1 : ((bt a0 0) != 48) = true := bne_iff_ne.mpr c14
          by_cases c15 : x4_1 = (a0.size : Int)
          ·rw [if_pos c15] at H
           have c15b0 : (x4_1 == (a0.size : Int)) = true := beq_iff_eq.mpr c15
           have c15b1 : (x4_1 != (a0.size : Int)) = false := bne_eq_false_iff_eq.mpr c15
           clear c15
           have H' := Aside0.mk H
           clear H
           have p13 : 0 ≤ (0 : Int) := (by omega)
           have q13 : 0 < a0.size := (by have : (0 : Int) < (a0.size : Int) := of_decide_eq_true (by first | (with_reducible assumption) | assumption); omega)
           have hx13 : ∀ h : 0 < a0.size, ((a0[0]'h).toNat : Int) = bt a0 0 := bt_at a0 0
           clear p13
           have qi13 : (0 < (a0.size : Int)) = True := eq_true (of_decide_eq_true (by first | (with_reducible assumption) | assumption))
           replace q13 := eq_true q13
           go_wp2
           go_meet
           case rel => exact ⟨_, (true), (by first | rfl | (simp; done) | (simp [*]; done)), H', ⟨by have := HK1.out; have := HJ2.out; first | omega | exact Nat.le_refl _⟩, ⟨by (with_reducible repeat (first | refine blk_drewN ?_ _ | refine blk_drew ?_ | refine blk_alloc ?_ _)); exact BK246.out⟩, ⟨by repeat (first | (with_reducible first | exact HB.out | apply below_alloc | apply pw_below_drewN | apply below_drew1 | refine below_set ?_ GE246.out) | exact HB.out)⟩⟩
          ·rw [if_neg c15] at H
           have c15b0 : (x4_1 == (a0.size : Int)) = false := beq_eq_false_iff_ne.mpr c15
           have c15b1 : (x4_1 != (a0.size : Int)) = true := bne_iff_ne.mpr c15
           by_cases c16 : 0 ≤ x4_1
           ·rw [if_pos c16] at H
            have c16b0 : decide (0 ≤ x4_1) = true := decide_eq_true c16
            clear c16
            by_cases c17 : x4_1 < (a0.size : Int)
            ·rw [if_pos c17] at H
             have c17b0 : decide (x4_1 < (a0.size : Int)) = true := decide_eq_true c17
             clear c17
             have H' := Aside0.mk H
             clear H
             have p13 : 0 ≤ (0 : Int) := (by omega)
             have q13 : 0 < a0.size := (by have : (0 : Int) < (a0.size : Int) := of_decide_eq_true (by first | (with_reducible assumption) | assumption); omega)
             have hx13 : ∀ h : 0 < a0.size, ((a0[0]'h).toNat : Int) = bt a0 0 := bt_at a0 0
             clear p13
             have qi13 : (0 < (a0.size : Int)) = True := eq_true (of_decide_eq_true (by first | (with_reducible assumption) | assumption))
             replace q13 := eq_true q13
             have p18 : 0 ≤ (x4_1 : Int) := of_decide_eq_true (by first | (with_reducible assumption) | assumption)
             have q18 : x4_1 < (a0.size : Int) := of_decide_eq_true (by first | (with_reducible assumption) | assumption)
             have hx18 := bt_at a0 x4_1
             replace p18 := eq_true p18
             replace q18 := eq_true q18
             go_wp2
             go_meet
             case rel => exact ⟨_, (((bt a0 x4_1) != 39)), (by first | rfl | (simp; done) | (simp [*]; done)), H', ⟨by have := HK1.out; have := HJ2.out; first | omega | exact Nat.le_refl _⟩, ⟨by (with_reducible repeat (first | refine blk_drewN ?_ _ | refine blk_drew ?_ | refine blk_alloc ?_ _)); exact BK246.out⟩, ⟨by repeat (first | (with_reducible first | exact HB.out | apply below_alloc | apply pw_below_drewN | apply below_drew1 | refine below_set ?_ GE246.out) | exact HB.out)⟩⟩
            ·rw [if_neg c17] at H
             exact absurd H (by simp)
           ·rw [if_neg c16] at H
            exact absurd H (by simp)
        ·rw [if_neg c12] at H
         exact absurd H (by simp)
      case rest =>
       clear HC10
       (try clear c1); (try clear p1); (try clear q1); (try clear hx1); (try clear qi1); (try clear p2); (try clear c4); (try clear c4b0); (try clear c5); (try clear c5b0); (try clear p6); (try clear q6); (try clear hx6); (try clear c7); (try clear c7b0); (try clear p8); (try clear q8); (try clear hx8); (try clear c9); (try clear c11); (try clear c11b0); (try clear c11b1); (try clear c12); (try clear c12b0); (try clear c12b1); (try clear c13); (try clear p13); (try clear q13); (try clear hx13); (try clear qi13); (try clear c14); (try clear c14b0); (try clear c14b1); (try clear c15); (try clear c15b0); (try clear c15b1); (try clear c16); (try clear c16b0); (try clear c17); (try clear c17b0); (try clear p18); (try clear q18); (try clear hx18); (try clear p13); (try clear p18); (try clear p2); (try clear p6); (try clear p8); (try clear q13); (try clear q18); (try clear q6); (try clear q8)
       obtain ⟨kq, x45_9, rfl, HA, HJ9, BK246, HB⟩ := hcut
       cases kq with
       | zero => exact absurd HA.out (by simp [maskref1_ReadBits.j2])
       | succ kj9 =>
        have H := HA.out
        clear HA
        simp only [maskref1_ReadBits.j2] at H
        by_cases c19 : x45_9 = true
        ·subst c19
         have H1 : (some (0, 0, 0, 10)) = some (r1, r2, r3, r4) := by rw [if_pos rfl] at H; exact H
         clear H
         have H := H1
         clear H1
         simp only [Option.some.injEq, Prod.mk.injEq] at H
         obtain ⟨rfl, rfl, rfl, rfl⟩ := H
         obtain ⟨hcz20_0, hcz20_1, hcz20_2⟩ := sq_cells3 (W := wc) (g := gb246) BK246.out; obtain ⟨hfz20_0, hfz20_1, hfz20_2⟩ := sq_frozen3 BK246.out
         go_wp2
         refine bodyPost_ret (results_ct rfl _ _ gb246 24 #[.int .i64 0, .int .u64 0, .int .u64 0] (0, 0) _ rfl (by (with_reducible repeat (first | refine blk_drewN ?_ _ | refine blk_drew ?_ | refine blk_alloc ?_ _)); refine blk_put (cs := #[.int .i64 0, .int .u64 0, .int .u64 0]) ?_ 2 _ rfl; (with_reducible repeat (first | refine blk_drewN ?_ _ | refine blk_drew ?_ | refine blk_alloc ?_ _)); refine blk_put (cs := #[.int .i64 0, .int .u64 0, .int .u64 0]) ?_ 1 _ rfl; (with_reducible repeat (first | refine blk_drewN ?_ _ | refine blk_drew ?_ | refine blk_alloc ?_ _)); refine blk_put (cs := #[.int .i64 0, .int .u64 0, .int .u64 0]) ?_ 0 _ rfl; (with_reducible repeat (first | refine blk_drewN ?_ _ | refine blk_drew ?_ | refine blk_alloc ?_ _)); exact BK246.out) Tryd.underlying24 rfl (by kernel_rfl)) rfl ?_
         exact ⟨by first | rfl | (simp [errW_none, errW_some] <;> rfl) | (simp [*, errW_none, errW_some] <;> rfl), by repeat (first | (with_reducible first | exact HB.out | apply below_alloc | apply pw_below_drewN | apply below_drew1 | refine below_set ?_ GE246.out) | exact HB.out)⟩
        ·replace c19 := Bool.eq_false_iff.mpr c19
         subst c19
         have H1 : (if 0 ≤ x4_1 then (if x4_1 ≤ (a0.size : Int) then (maskref1_ReadBits.l1 kj9 a0 x4_1 0 (a0.extract 0 (x4_1 : Int).toNat) 0) else (none)) else (none)) = some (r1, r2, r3, r4) := by rw [if_neg (show ¬ (false = true) by decide)] at H; exact H
         clear H
         have H := H1
         clear H1
         by_cases c21 : 0 ≤ x4_1
         ·rw [if_pos c21] at H
          have c21b0 := eq_true c21
          have c21b1 : decide (0 ≤ x4_1) = true := decide_eq_true c21
          clear c21
          by_cases c22 : x4_1 ≤ (a0.size : Int)
          ·rw [if_pos c22] at H
           have c22b0 := eq_true c22
           have c22b1 : decide (x4_1 ≤ (a0.size : Int)) = true := decide_eq_true c22
           clear c22
           have H' := Aside0.mk H
           clear H
           have GLT_ := Aside0.mk (Array.getElem?_eq_some_iff.1 BK246.out).1
           have WLE_ := Aside0.mk HB.out.size
           go_wp2
           go_loopg [5] kj9 (fun kq v5 w' => ∃ (x5_4 : Int) (x50_4 : Int), v5 = .int .i64 x5_4 ∧ Aside0 (0 ≤ x50_4 ∧ x50_4 ≤ 1001) ∧ Aside0 (w'.heap[wc.heap.size]? = some (.stringIter (a0.extract 0 (x4_1 : Int).toNat) x50_4.toNat)) ∧ Aside0 (maskref1_ReadBits.l1 kq a0 x4_1 x5_4 (a0.extract 0 (x4_1 : Int).toNat) x50_4 = some (r1, r2, r3, r4)) ∧ Aside0 (kq ≤ kj9) ∧ Aside0 (w'.heap[gb246]? = some (.cells #[.int .i64 0, .int .u64 0, .int .u64 0] 24 (0, 0))) ∧ Aside0 (Below w.heap.size w w'))
           case atStart => exact ⟨(0), (0), (by first | rfl | (simp; done) | (simp [*]; done)), ⟨by omega⟩, ⟨iter_start _ _⟩, H', ⟨Nat.le_refl _⟩, ⟨iter_blk BK246.out⟩, ⟨iter_below HB.out HB.out.size⟩⟩
           case round =>
            clear H'
            (try clear c1); (try clear p1); (try clear q1); (try clear hx1); (try clear qi1); (try clear c2); (try clear p2); (try clear c4); (try clear c4b0); (try clear c5); (try clear c5b0); (try clear p6); (try clear q6); (try clear hx6); (try clear c7); (try clear c7b0); (try clear p8); (try clear q8); (try clear hx8); (try clear c9); (try clear c11); (try clear c11b0); (try clear c11b1); (try clear c12); (try clear c12b0); (try clear c12b1); (try clear c13); (try clear p13); (try clear q13); (try clear hx13); (try clear qi13); (try clear c14); (try clear c14b0); (try clear c14b1); (try clear c15); (try clear c15b0); (try clear c15b1); (try clear c16); (try clear c16b0); (try clear c17); (try clear c17b0); (try clear p18); (try clear q18); (try clear hx18); (try clear c19); (try clear c21); (try clear c21b0); (try clear c21b1); (try clear c22); (try clear c22b0); (try clear c22b1); (try clear hcz20_0 hcz20_1 hcz20_2 hfz20_0 hfz20_1 hfz20_2); (try clear p1); (try clear p13); (try clear p18); (try clear p2); (try clear p6); (try clear p8); (try clear q1); (try clear q13); (try clear q18); (try clear q6); (try clear q8)
            obtain ⟨x5_4, x50_4, rfl, HX0, HIT, HA, HK4, BK246, HB⟩ := hrel
            cases gk with
            | zero => exact absurd HA.out (by simp [maskref1_ReadBits.l1])
            | succ k4 =>
             have H := HA.out
             clear HA
             simp only [maskref1_ReadBits.l1] at H
             by_cases c23 : x50_4 < ((a0.extract 0 (x4_1 : Int).toNat).size : Int)
             ·rw [if_pos c23] at H
              have c23b0 : decide (x50_4 < ((a0.extract 0 (x4_1 : Int).toNat).size : Int)) = true := decide_eq_true c23
              clear c23
              by_cases c24 : 0 ≤ x50_4
              ·rw [if_pos c24] at H
               have c24b0 : decide (0 ≤ x50_4) = true := decide_eq_true c24
               clear c24
               obtain ⟨ji26, hji26⟩ : ∃ j_ : Int, (wrap32 (127 - (wrap32 (bt (a0.extract 0 (x4_1 : Int).toNat) x50_4)))) = j_ := ⟨_, rfl⟩
               replace H : (if 0 ≤ (ji26) then (if 0 ≤ (wrap64 (1000 - x50_4)) then (if x5_4 < 1000 then (maskref1_ReadBits.l1 k4 a0 x4_1 (wrap64 ((wrap64 (10 * x5_4)) + (wrap64 (wrap32 ((wrap32 (bt (a0.extract 0 (x4_1 : Int).toNat) x50_4)) - 48))))) (a0.extract 0 (x4_1 : Int).toNat) (wrap64 (x50_4 + 1))) else (maskref1_ReadBits.l1 k4 a0 x4_1 x5_4 (a0.extract 0 (x4_1 : Int).toNat) (wrap64 (x50_4 + 1)))) else (none)) else (none)) = some (r1, r2, r3, r4) := by first | (rw [hji26] at H; exact H) | (simp only [hji26] at H ⊢; exact H)
               have hji26w : (IntKind.i32.wrap (127 - (wrap32 (bt (a0.extract 0 (x4_1 : Int).toNat) x50_4)))) = ji26 := (i32_w _).trans hji26
               by_cases c27 : 0 ≤ (ji26)
               ·rw [if_pos c27] at H
                have c27b0 := eq_true c27
                have c27b1 : decide (0 ≤ (ji26)) = true := decide_eq_true c27
                clear c27
                obtain ⟨ji29, hji29⟩ : ∃ j_ : Int, (wrap64 (1000 - x50_4)) = j_ := ⟨_, rfl⟩
                replace H : (if 0 ≤ (ji29) then (if x5_4 < 1000 then (maskref1_ReadBits.l1 k4 a0 x4_1 (wrap64 ((wrap64 (10 * x5_4)) + (wrap64 (wrap32 ((wrap32 (bt (a0.extract 0 (x4_1 : Int).toNat) x50_4)) - 48))))) (a0.extract 0 (x4_1 : Int).toNat) (wrap64 (x50_4 + 1))) else (maskref1_ReadBits.l1 k4 a0 x4_1 x5_4 (a0.extract 0 (x4_1 : Int).toNat) (wrap64 (x50_4 + 1)))) else (none)) = some (r1, r2, r3, r4) := by first | (rw [hji29] at H; exact H) | (simp only [hji29] at H ⊢; exact H)
                have hji29w : (IntKind.i64.wrap (1000 - x50_4)) = ji29 := (i64_w _).trans hji29
                by_cases c30 : 0 ≤ (ji29)
                ·rw [if_pos c30] at H
                 have c30b0 := eq_true c30
                 have c30b1 : decide (0 ≤ (ji29)) = true := decide_eq_true c30
                 clear c30
                 have bt0_ := bt_byte (a0.extract 0 (x4_1 : Int).toNat) x50_4
                 have hw32_ : wrap32 (bt (a0.extract 0 (x4_1 : Int).toNat) x50_4) = bt (a0.extract 0 (x4_1 : Int).toNat) x50_4 := by clear H; unfold wrap32; omega
                 have hasc_ : bt (a0.extract 0 (x4_1 : Int).toNat) x50_4 ≤ 127 := by clear H; have h_ := of_decide_eq_true c27b1; rw [← hji26, hw32_] at h_; unfold wrap32 at h_; omega
                 have HST_ := Aside0.mk (show 0 ≤ wrap64 (x50_4 + 1) ∧ wrap64 (x50_4 + 1) ≤ 1001 ∧ (wrap64 (x50_4 + 1)).toNat = x50_4.toNat + 1 from by clear H; have h_ := of_decide_eq_true c30b1; rw [← hji29] at h_; have h2_ := HX0.out; unfold wrap64 at h_ ⊢; omega)
                 have hnx_ := next_in _ _ _ _ (of_decide_eq_true c24b0) (of_decide_eq_true c23b0) hasc_ HIT.out
                 clear bt0_ hasc_ hji26w hji29w
                 rw [hw32_] at H
                 by_cases c32 : x5_4 < 1000
                 ·rw [if_pos c32] at H
                  have c32b0 : decide (x5_4 < 1000) = true := decide_eq_true c32
                  clear c32
                  have H' := Aside0.mk H
                  clear H
                  go_wp2
                  go_roundg k4
                  case measure => have := HK1.out; have := HJ2.out; have := HJ9.out; have := HK4.out; omega
                  case rel => exact ⟨(wrap64 ((wrap64 (10 * x5_4)) + (wrap64 (wrap32 ((bt (a0.extract 0 (x4_1 : Int).toNat) x50_4) - 48))))), (wrap64 (x50_4 + 1)), (by first | (with_reducible rfl) | (simp only [ByteArray.size_extract, Nat.min_self]; done) | (simp [ByteArray.size_extract]; done) | rfl | (simp; done) | (simp [*]; done)), ⟨⟨HST_.out.1, HST_.out.2.1⟩⟩, ⟨by rw [HST_.out.2.2]; exact Lib.iterAt_heap _ _ _ _ _ HIT.out⟩, H', ⟨by have := HK1.out; have := HJ2.out; have := HJ9.out; have := HK4.out; omega⟩, ⟨(Lib.iterAt_other _ _ _ _ _ (Nat.ne_of_lt GLT_.out)).trans BK246.out⟩, ⟨Lib.below_iterAt HB.out WLE_.out _ _⟩⟩
                 ·rw [if_neg c32] at H
                  have c32b0 : decide (x5_4 < 1000) = false := decide_eq_false c32
                  clear c32
                  have H' := Aside0.mk H
                  clear H
                  go_wp2
                  go_roundg k4
                  case measure => have := HK1.out; have := HJ2.out; have := HJ9.out; have := HK4.out; omega
                  case rel => exact ⟨(x5_4), (wrap64 (x50_4 + 1)), (by first | rfl | (simp; done) | (simp [*]; done)), ⟨⟨HST_.out.1, HST_.out.2.1⟩⟩, ⟨by rw [HST_.out.2.2]; exact Lib.iterAt_heap _ _ _ _ _ HIT.out⟩, H', ⟨by have := HK1.out; have := HJ2.out; have := HJ9.out; have := HK4.out; omega⟩, ⟨(Lib.iterAt_other _ _ _ _ _ (Nat.ne_of_lt GLT_.out)).trans BK246.out⟩, ⟨Lib.below_iterAt HB.out WLE_.out _ _⟩⟩
                ·rw [if_neg c30] at H
                 exact absurd H (by simp)
               ·rw [if_neg c27] at H
                exact absurd H (by simp)
              ·rw [if_neg c24] at H
               exact absurd H (by simp)
             ·rw [if_neg c23] at H
              have c23b0 : decide (x50_4 < ((a0.extract 0 (x4_1 : Int).toNat).size : Int)) = false := decide_eq_false c23
              have hnx_ := next_out _ _ _ _ (of_decide_eq_false c23b0) HIT.out
              clear c23
              obtain ⟨ji33, hji33⟩ : ∃ j_ : Int, (wrap64 (x4_1 + 1)) = j_ := ⟨_, rfl⟩
              replace H : (if 0 ≤ (ji33) then (if (ji33) ≤ (a0.size : Int) then (if ((a0.extract ((ji33) : Int).toNat a0.size).size : Int) > 0 then (if 0 < ((a0.extract ((ji33) : Int).toNat a0.size).size : Int) then (maskref1_ReadBits.j4 k4 (a0.extract ((ji33) : Int).toNat a0.size) x5_4 ((bt (a0.extract ((ji33) : Int).toNat a0.size) 0) == 115)) else (none)) else (maskref1_ReadBits.j4 k4 (a0.extract ((ji33) : Int).toNat a0.size) x5_4 false)) else (none)) else (none)) = some (r1, r2, r3, r4) := by first | (rw [hji33] at H; exact H) | (simp only [hji33] at H ⊢; exact H)
              have hji33w : (IntKind.i64.wrap (x4_1 + 1)) = ji33 := (i64_w _).trans hji33
              by_cases c34 : 0 ≤ (ji33)
              ·rw [if_pos c34] at H
               have c34b0 := eq_true c34
               have c34b1 : decide (0 ≤ (ji33)) = true := decide_eq_true c34
               clear c34
               by_cases c35 : (ji33) ≤ (a0.size : Int)
               ·rw [if_pos c35] at H
                have c35b0 := eq_true c35
                have c35b1 : decide ((ji33) ≤ (a0.size : Int)) = true := decide_eq_true c35
                clear c35
                have HC36 := Aside0.mk H
                clear H
                go_upto_region 13 with (fail)
                go_cut [73] (fun v73 wc => ∃ (kq : Nat) (x73_35 : Bool), v73 = .bool x73_35 ∧ Aside0 (maskref1_ReadBits.j4 kq (a0.extract ((ji33) : Int).toNat a0.size) x5_4 x73_35 = some (r1, r2, r3, r4)) ∧ Aside0 (kq ≤ k4) ∧ Aside0 (wc.heap[gb246]? = some (.cells #[.int .i64 0, .int .u64 0, .int .u64 0] 24 (0, 0))) ∧ Aside0 (Below w.heap.size w wc))
                case first =>
                 have H := HC36.out
                 clear HC36
                 by_cases c37 : ((a0.extract ((ji33) : Int).toNat a0.size).size : Int) > 0
                 ·rw [if_pos c37] at H
                  have c37b0 : decide (0 < ((a0.extract ((ji33) : Int).toNat a0.size).size : Int)) = true := decide_eq_true c37
                  try have c37b0e : decide (0 < ((a0.size - ((ji33) : Int).toNat : Nat) : Int)) = true := by have h_ := c37b0; simp only [ByteArray.size_extract, Nat.min_self] at h_; exact h_
                  have c37b1 : decide (0 < (a0.extract ((ji33) : Int).toNat a0.size).size) = true := decide_eq_true (by omega)
                  try have c37b1e : decide (0 < (a0.size - ((ji33) : Int).toNat)) = true := by have h_ := c37b1; simp only [ByteArray.size_extract, Nat.min_self] at h_; exact h_
                  clear c37
                  (first | rw [c37b0] | (simp only [i64_w, i32_w]; rw [c37b0]) | skip)
                  by_cases c38 : 0 < ((a0.extract ((ji33) : Int).toNat a0.size).size : Int)
                  ·rw [if_pos c38] at H
                   have c38b0 : decide (0 < ((a0.extract ((ji33) : Int).toNat a0.size).size : Int)) = true := decide_eq_true c38
                   try have c38b0e : decide (0 < ((a0.size - ((ji33) : Int).toNat : Nat) : Int)) = true := by have h_ := c38b0; simp only [ByteArray.size_extract, Nat.min_self] at h_; exact h_
                   have c38b1 : decide (0 < (a0.extract ((ji33) : Int).toNat a0.size).size) = true := decide_eq_true (by omega)
                   try have c38b1e : decide (0 < (a0.size - ((ji33) : Int).toNat)) = true := by have h_ := c38b1; simp only [ByteArray.size_extract, Nat.min_self] at h_; exact h_
                   clear c38
                   have H' := Aside0.mk H
                   clear H
                   have p39 : 0 ≤ (0 : Int) := (by omega)
                   have q39 : 0 < (a0.extract ((ji33) : Int).toNat a0.size).size := (by have : (0 : Int) < ((a0.extract ((ji33) : Int).toNat a0.size).size : Int) := of_decide_eq_true (by first | (with_reducible assumption) | assumption); omega)
                   try have q39e : 0 < (a0.size - ((ji33) : Int).toNat) := by have h_ := q39; simp only [ByteArray.size_extract, Nat.min_self] at h_; exact h_
                   have hx39 : ∀ h : 0 < (a0.extract ((ji33) : Int).toNat a0.size).size, (((a0.extract ((ji33) : Int).toNat a0.size)[0]'h).toNat : Int) = bt (a0.extract ((ji33) : Int).toNat a0.size) 0 := bt_at (a0.extract ((ji33) : Int).toNat a0.size) 0
                   clear p39
                   have qi39 : (0 < ((a0.extract ((ji33) : Int).toNat a0.size).size : Int)) = True := eq_true (of_decide_eq_true (by first | (with_reducible assumption) | assumption))
                   try have qi39e : (0 < ((a0.size - ((ji33) : Int).toNat : Nat) : Int)) = True := by have h_ := qi39; simp only [ByteArray.size_extract, Nat.min_self] at h_; exact h_
                   replace q39 := eq_true q39
                   go_wp2
                   go_meet
                   case rel => exact ⟨_, (((bt (a0.extract ((ji33) : Int).toNat a0.size) 0) == 115)), (by first | (with_reducible rfl) | (simp only [ByteArray.size_extract, Nat.min_self]; done) | (simp [ByteArray.size_extract]; done) | rfl | (simp; done) | (simp only [← hji33] <;> (first | rfl | simp)) | (simp [*]; done)), H', ⟨by have := HK1.out; have := HJ2.out; have := HJ9.out; have := HK4.out; first | omega | exact Nat.le_refl _⟩, ⟨by (with_reducible repeat (first | refine blk_drewN ?_ _ | refine blk_drew ?_ | refine blk_alloc ?_ _)); exact BK246.out⟩, ⟨by repeat (first | (with_reducible first | exact HB.out | apply below_alloc | apply pw_below_drewN | apply below_drew1 | refine below_set ?_ GE246.out) | exact HB.out)⟩⟩
                  ·rw [if_neg c38] at H
                   exact absurd H (by simp)
                 ·rw [if_neg c37] at H
                  have c37b0 : decide (0 < ((a0.extract ((ji33) : Int).toNat a0.size).size : Int)) = false := decide_eq_false c37
                  try have c37b0e : decide (0 < ((a0.size - ((ji33) : Int).toNat : Nat) : Int)) = false := by have h_ := c37b0; simp only [ByteArray.size_extract, Nat.min_self] at h_; exact h_
                  have c37b1 : decide (0 < (a0.extract ((ji33) : Int).toNat a0.size).size) = false := decide_eq_false (by omega)
                  try have c37b1e : decide (0 < (a0.size - ((ji33) : Int).toNat)) = false := by have h_ := c37b1; simp only [ByteArray.size_extract, Nat.min_self] at h_; exact h_
                  clear c37
                  (first | rw [c37b0] | (simp only [i64_w, i32_w]; rw [c37b0]) | skip)
                  have H' := Aside0.mk H
                  clear H
                  go_wp2
                  go_meet
                  case rel => exact ⟨_, (false), (by first | rfl | (simp; done) | (simp [*]; done)), H', ⟨by have := HK1.out; have := HJ2.out; have := HJ9.out; have := HK4.out; first | omega | exact Nat.le_refl _⟩, ⟨by (with_reducible repeat (first | refine blk_drewN ?_ _ | refine blk_drew ?_ | refine blk_alloc ?_ _)); exact BK246.out⟩, ⟨by repeat (first | (with_reducible first | exact HB.out | apply below_alloc | apply pw_below_drewN | apply below_drew1 | refine below_set ?_ GE246.out) | exact HB.out)⟩⟩
                case rest =>
                 clear HC36
                 (try clear c1); (try clear p1); (try clear q1); (try clear hx1); (try clear qi1); (try clear c2); (try clear p2); (try clear q2); (try clear hx2); (try clear c3); (try clear p3); (try clear q3); (try clear hx3); (try clear qi3); (try clear c4); (try clear c4b0); (try clear c5); (try clear c5b0); (try clear p6); (try clear q6); (try clear hx6); (try clear c7); (try clear c7b0); (try clear p8); (try clear q8); (try clear hx8); (try clear c9); (try clear c11); (try clear c11b0); (try clear c11b1); (try clear c12); (try clear c12b0); (try clear c12b1); (try clear c13); (try clear p13); (try clear q13); (try clear hx13); (try clear qi13); (try clear c14); (try clear c14b0); (try clear c14b1); (try clear c15); (try clear c15b0); (try clear c15b1); (try clear c16); (try clear c16b0); (try clear c17); (try clear c17b0); (try clear p18); (try clear q18); (try clear hx18); (try clear c19); (try clear c21); (try clear c21b0); (try clear c21b1); (try clear c22); (try clear c22b0); (try clear c22b1); (try clear c23); (try clear c23b0); (try clear c24); (try clear c24b0); (try clear p25); (try clear q25); (try clear hx25); (try clear c27); (try clear c27b0); (try clear c27b1); (try clear c30); (try clear c30b0); (try clear c30b1); (try clear c32); (try clear c32b0); (try clear p32); (try clear c34); (try clear c34b0); (try clear c34b1); (try clear c35); (try clear c35b0); (try clear c35b1); (try clear c37); (try clear c37b0); (try clear c37b1); (try clear c38); (try clear c38b0); (try clear c38b1); (try clear p39); (try clear q39); (try clear hx39); (try clear qi39); (try clear hcz20_0 hcz20_1 hcz20_2 hfz20_0 hfz20_1 hfz20_2); (try clear p1); (try clear p13); (try clear p18); (try clear p2); (try clear p25); (try clear p39); (try clear p6); (try clear p8); (try clear q1); (try clear q13); (try clear q18); (try clear q25); (try clear q39); (try clear q6); (try clear q8)
                 obtain ⟨kq, x73_35, rfl, HA, HJ35, BK246, HB⟩ := hcut
                 cases kq with
                 | zero => exact absurd HA.out (by simp [maskref1_ReadBits.j4])
                 | succ kj35 =>
                  have H := HA.out
                  clear HA
                  simp only [maskref1_ReadBits.j4] at H
                  have HC40 := Aside0.mk H
                  clear H
                  go_upto_if 73 with (fail)
                  go_cut [0] (fun v0 wc => ∃ (kq : Nat) (x0_39 : ByteArray), v0 = .string x0_39 ∧ Aside0 (maskref1_ReadBits.j5 kq x0_39 x5_4 = some (r1, r2, r3, r4)) ∧ Aside0 (kq ≤ kj35) ∧ Aside0 (wc.heap[gb246]? = some (.cells #[.int .i64 0, .int .u64 0, .int .u64 0] 24 (0, 0))) ∧ Aside0 (Below w.heap.size w wc))
                  case first =>
                   have H := HC40.out
                   clear HC40
                   by_cases c41 : x73_35 = true
                   ·subst c41
                    have H1 : (if 1 ≤ ((a0.extract ((ji33) : Int).toNat a0.size).size : Int) then (maskref1_ReadBits.j5 kj35 ((a0.extract ((ji33) : Int).toNat a0.size).extract 1 (a0.extract ((ji33) : Int).toNat a0.size).size) x5_4) else (none)) = some (r1, r2, r3, r4) := by rw [if_pos rfl] at H; exact H
                    clear H
                    have H := H1
                    clear H1
                    by_cases c42 : 1 ≤ ((a0.extract ((ji33) : Int).toNat a0.size).size : Int)
                    ·rw [if_pos c42] at H
                     have c42b0 := eq_true c42
                     have c42b1 : decide (1 ≤ ((a0.extract ((ji33) : Int).toNat a0.size).size : Int)) = true := decide_eq_true c42
                     try have c42b1e : decide (1 ≤ ((a0.size - ((ji33) : Int).toNat : Nat) : Int)) = true := by have h_ := c42b1; simp only [ByteArray.size_extract, Nat.min_self] at h_; exact h_
                     try have c42b1f : (1 ≤ ((a0.size - ((ji33) : Int).toNat : Nat) : Int)) = True := eq_true (of_decide_eq_true c42b1e)
                     clear c42
                     have H' := Aside0.mk H
                     clear H
                     go_wp2
                     go_meet
                     case rel => exact ⟨_, ((a0.extract ((ji33) : Int).toNat a0.size).extract 1 (a0.extract ((ji33) : Int).toNat a0.size).size), (by first | (with_reducible rfl) | (simp only [ByteArray.size_extract, Nat.min_self]; done) | (simp [ByteArray.size_extract]; done) | rfl | (simp; done) | (simp only [← hji33] <;> (first | rfl | simp)) | (simp [*]; done)), H', ⟨by have := HK1.out; have := HJ2.out; have := HJ9.out; have := HK4.out; have := HJ35.out; first | omega | exact Nat.le_refl _⟩, ⟨by (with_reducible repeat (first | refine blk_drewN ?_ _ | refine blk_drew ?_ | refine blk_alloc ?_ _)); exact BK246.out⟩, ⟨by repeat (first | (with_reducible first | exact HB.out | apply below_alloc | apply pw_below_drewN | apply below_drew1 | refine below_set ?_ GE246.out) | exact HB.out)⟩⟩
                    ·rw [if_neg c42] at H
                     exact absurd H (by simp)
                   ·replace c41 := Bool.eq_false_iff.mpr c41
                    subst c41
                    have H1 : (maskref1_ReadBits.j5 kj35 (a0.extract ((ji33) : Int).toNat a0.size) x5_4) = some (r1, r2, r3, r4) := by rw [if_neg (show ¬ (false = true) by decide)] at H; exact H
                    clear H
                    have H := H1
                    clear H1
                    have H' := Aside0.mk H
                    clear H
                    go_wp2
                    go_meet
                    case rel => exact ⟨_, ((a0.extract ((ji33) : Int).toNat a0.size)), (by first | (with_reducible rfl) | (simp only [ByteArray.size_extract, Nat.min_self]; done) | (simp [ByteArray.size_extract]; done) | rfl | (simp; done) | (simp only [← hji33] <;> (first | rfl | simp)) | (simp [*]; done)), H', ⟨by have := HK1.out; have := HJ2.out; have := HJ9.out; have := HK4.out; have := HJ35.out; first | omega | exact Nat.le_refl _⟩, ⟨by (with_reducible repeat (first | refine blk_drewN ?_ _ | refine blk_drew ?_ | refine blk_alloc ?_ _)); exact BK246.out⟩, ⟨by repeat (first | (with_reducible first | exact HB.out | apply below_alloc | apply pw_below_drewN | apply below_drew1 | refine below_set ?_ GE246.out) | exact HB.out)⟩⟩
                  case rest =>
                   clear HC40
                   (try clear c1); (try clear p1); (try clear q1); (try clear hx1); (try clear qi1); (try clear c2); (try clear p2); (try clear q2); (try clear hx2); (try clear c3); (try clear p3); (try clear q3); (try clear hx3); (try clear qi3); (try clear c4); (try clear c4b0); (try clear c5); (try clear c5b0); (try clear p6); (try clear q6); (try clear hx6); (try clear c7); (try clear c7b0); (try clear p8); (try clear q8); (try clear hx8); (try clear c9); (try clear c11); (try clear c11b0); (try clear c11b1); (try clear c12); (try clear c12b0); (try clear c12b1); (try clear c13); (try clear p13); (try clear q13); (try clear hx13); (try clear qi13); (try clear c14); (try clear c14b0); (try clear c14b1); (try clear c15); (try clear c15b0); (try clear c15b1); (try clear c16); (try clear c16b0); (try clear c17); (try clear c17b0); (try clear p18); (try clear q18); (try clear hx18); (try clear c19); (try clear c21); (try clear c21b0); (try clear c21b1); (try clear c22); (try clear c22b0); (try clear c22b1); (try clear c23); (try clear c23b0); (try clear c24); (try clear c24b0); (try clear p25); (try clear q25); (try clear hx25); (try clear c27); (try clear c27b0); (try clear c27b1); (try clear c30); (try clear c30b0); (try clear c30b1); (try clear c32); (try clear c32b0); (try clear p32); (try clear c34); (try clear c34b0); (try clear c34b1); (try clear c35); (try clear c35b0); (try clear c35b1); (try clear c37); (try clear c37b0); (try clear c37b1); (try clear c38); (try clear c38b0); (try clear c38b1); (try clear p39); (try clear q39); (try clear hx39); (try clear qi39); (try clear c41); (try clear c42); (try clear c42b0); (try clear c42b1); (try clear hcz20_0 hcz20_1 hcz20_2 hfz20_0 hfz20_1 hfz20_2); (try clear p1); (try clear p13); (try clear p18); (try clear p2); (try clear p25); (try clear p3); (try clear p32); (try clear p39); (try clear p6); (try clear p8); (try clear q1); (try clear q13); (try clear q18); (try clear q2); (try clear q25); (try clear q3); (try clear q39); (try clear q6); (try clear q8)
                   obtain ⟨kq, x0_39, rfl, HA, HJ39, BK246, HB⟩ := hcut
                   cases kq with
                   | zero => exact absurd HA.out (by simp [maskref1_ReadBits.j5])
                   | succ kj39 =>
                    have H := HA.out
                    clear HA
                    simp only [maskref1_ReadBits.j5] at H
                    by_cases c43 : (x0_39.size : Int) < 2
                    ·rw [if_pos c43] at H
                     have c43b0 : decide ((x0_39.size : Int) < 2) = true := decide_eq_true c43
                     have c43b1 : decide (x0_39.size < 2) = true := decide_eq_true (by omega)
                     clear c43
                     simp only [Option.some.injEq, Prod.mk.injEq] at H
                     obtain ⟨rfl, rfl, rfl, rfl⟩ := H
                     obtain ⟨hcz44_0, hcz44_1, hcz44_2⟩ := sq_cells3 (W := wc) (g := gb246) BK246.out; obtain ⟨hfz44_0, hfz44_1, hfz44_2⟩ := sq_frozen3 BK246.out
                     go_wp2
                     refine bodyPost_ret (results_ct rfl _ _ gb246 24 #[.int .i64 0, .int .u64 0, .int .u64 0] (0, 0) _ rfl (by (with_reducible repeat (first | refine blk_drewN ?_ _ | refine blk_drew ?_ | refine blk_alloc ?_ _)); refine blk_put (cs := #[.int .i64 0, .int .u64 0, .int .u64 0]) ?_ 2 _ rfl; (with_reducible repeat (first | refine blk_drewN ?_ _ | refine blk_drew ?_ | refine blk_alloc ?_ _)); refine blk_put (cs := #[.int .i64 0, .int .u64 0, .int .u64 0]) ?_ 1 _ rfl; (with_reducible repeat (first | refine blk_drewN ?_ _ | refine blk_drew ?_ | refine blk_alloc ?_ _)); refine blk_put (cs := #[.int .i64 0, .int .u64 0, .int .u64 0]) ?_ 0 _ rfl; (with_reducible repeat (first | refine blk_drewN ?_ _ | refine blk_drew ?_ | refine blk_alloc ?_ _)); exact BK246.out) Tryd.underlying24 rfl (by kernel_rfl)) rfl ?_
                     exact ⟨by first | rfl | (simp [errW_none, errW_some] <;> rfl) | (simp only [← hji33]; first | rfl | (simp [errW_none, errW_some] <;> rfl)) | (simp [*, errW_none, errW_some] <;> rfl), by repeat (first | (with_reducible first | exact HB.out | apply below_alloc | apply pw_below_drewN | apply below_drew1 | refine below_set ?_ GE246.out) | exact HB.out)⟩
                    ·rw [if_neg c43] at H
                     have c43b0 : decide ((x0_39.size : Int) < 2) = false := decide_eq_false c43
                     have c43b1 : decide (x0_39.size < 2) = false := decide_eq_false (by omega)
                     clear c43
                     replace H := Option.bind_eq_some_iff.mp H
                     obtain ⟨t247, A450, H⟩ := H
                     replace H : (if 0 < (x0_39.size : Int) then ((sizeT.f (bt x0_39 0)).bind fun t248 => (if t248 = 0 then (some (0, 0, 0, 10)) else (if t248 = 99 then (if 1 ≤ (x0_39.size : Int) then ((maskref1_readDecimal.f kj39 (x0_39.extract 1 x0_39.size) x5_4).bind fun bt249 => (some (bt249.1, bt249.2.1, bt249.2.2.1, bt249.2.2.2))) else (none)) else (if 1 ≤ (x0_39.size : Int) then ((maskref1_readDigits.f kj39 (x0_39.extract 1 x0_39.size) x5_4 t248).bind fun bt253 => (some (bt253.1, bt253.2.1, bt253.2.2.1, bt253.2.2.2))) else (none))))) else (none)) = some (r1, r2, r3, r4) := H
                     have A45 := Aside0.mk A450
                     clear A450
                     by_cases c46 : 0 < (x0_39.size : Int)
                     ·rw [if_pos c46] at H
                      have c46b0 : decide (0 < (x0_39.size : Int)) = true := decide_eq_true c46
                      have c46b1 : decide (0 < x0_39.size) = true := decide_eq_true (by omega)
                      clear c46
                      replace H := Option.bind_eq_some_iff.mp H
                      obtain ⟨t248, A480, H⟩ := H
                      replace H : (if t248 = 0 then (some (0, 0, 0, 10)) else (if t248 = 99 then (if 1 ≤ (x0_39.size : Int) then ((maskref1_readDecimal.f kj39 (x0_39.extract 1 x0_39.size) x5_4).bind fun bt249 => (some (bt249.1, bt249.2.1, bt249.2.2.1, bt249.2.2.2))) else (none)) else (if 1 ≤ (x0_39.size : Int) then ((maskref1_readDigits.f kj39 (x0_39.extract 1 x0_39.size) x5_4 t248).bind fun bt253 => (some (bt253.1, bt253.2.1, bt253.2.2.1, bt253.2.2.2))) else (none)))) = some (r1, r2, r3, r4) := H
                      have A48 := Aside0.mk A480
                      clear A480
                      by_cases c49 : t248 = 0
                      ·rw [if_pos c49] at H
                       have c49b0 : (t248 == 0) = true := beq_iff_eq.mpr c49
                       have c49b1 : (t248 != 0) = false := bne_eq_false_iff_eq.mpr c49
                       clear c49
                       simp only [Option.some.injEq, Prod.mk.injEq] at H
                       obtain ⟨rfl, rfl, rfl, rfl⟩ := H
                       go_wp2_with (first | ((with_reducible refine gate_dst (N := 80) rfl ?_); refine wpList_mapLit (H := Unit) 78 5 3 .u8 .i64 lawU8 Tryd.underlying78 Tryd.underlying5 Tryd.underlying3 rfl rfl 80 rfl (fun _ => rfl) [(98, 1), (111, 3), (104, 4), (100, 99)] (by decide) (by decide) [_, _, _, _] rfl ?_; intro w50 hown_ hb; have hOWN := Aside0.mk hown_; clear hown_; have n0_ := Aside0.mk (blk_below (g := gb246) (o := .cells #[.int .i64 0, .int .u64 0, .int .u64 0] 24 (0, 0)) (by (with_reducible repeat (first | refine blk_drewN ?_ _ | refine blk_drew ?_ | refine blk_alloc ?_ _)); exact BK246.out) hb); have n1_ := Aside0.mk (below_step (by repeat (first | (with_reducible first | exact HB.out | apply below_alloc | apply pw_below_drewN | apply below_drew1 | refine below_set ?_ GE246.out) | exact HB.out)) hb); clear BK246; clear HB; have BK246 := n0_; have HB := n1_; clear n0_ n1_; (try clear hb); (try clear hb2); (try clear hk); (try clear hi); have p47 : 0 ≤ (0 : Int) := (by omega); have q47 : 0 < x0_39.size := (by have : (0 : Int) < (x0_39.size : Int) := of_decide_eq_true (by first | (with_reducible assumption) | assumption); omega); have hx47 : ∀ h : 0 < x0_39.size, ((x0_39[0]'h).toNat : Int) = bt x0_39 0 := bt_at x0_39 0; clear p47; have qi47 : (0 < (x0_39.size : Int)) = True := eq_true (of_decide_eq_true (by first | (with_reducible assumption) | assumption)); replace q47 := eq_true q47) | ((with_reducible refine gate_dst (N := 84) rfl ?_); refine wpList_lookup_own_int _ rfl _ _ 78 rfl 5 3 .i64 lawU8 Tryd.underlying78 Tryd.underlying3 (zeroI64 _) _ _ _ rfl (by first | exact hOWN.out | exact ownsMap_drewN hOWN.out _) (.int .u8 (bt x0_39 0)) _ rfl (Go.Maps.keyOf_int_mk Tryd.underlying5 (sizeT_wf A48.out)) ?_; intro cq hat hwc; obtain rfl : t248 = cq := (sizeT_eq A48.out hat).symm; clear hat hwc; (try (rw [drewN_self w50]; generalize hq_ : World.drewN w50 _ = w50; have n0_ : Aside0 (w50.heap[gb246]? = some (.cells #[.int .i64 0, .int .u64 0, .int .u64 0] 24 (0, 0))) := ⟨by rw [← hq_]; exact (by (with_reducible repeat (first | refine blk_drewN ?_ _ | refine blk_drew ?_ | refine blk_alloc ?_ _)); exact BK246.out)⟩; have n1_ : Aside0 (Below w.heap.size w w50) := ⟨by rw [← hq_]; exact (by repeat (first | (with_reducible first | exact HB.out | apply below_alloc | apply pw_below_drewN | apply below_drew1 | refine below_set ?_ GE246.out) | exact HB.out))⟩; clear BK246 HB hq_; have BK246 := n0_; have HB := n1_; clear n0_ n1_)); have hcz51_0 : w50.cell? ⟨gb246, 0, none⟩ = some (.int .i64 0) := (blk_cell BK246.out 0).trans rfl; have hcz51_1 : w50.cell? ⟨gb246, 1, none⟩ = some (.int .u64 0) := (blk_cell BK246.out 1).trans rfl; have hcz51_2 : w50.cell? ⟨gb246, 2, none⟩ = some (.int .u64 0) := (blk_cell BK246.out 2).trans rfl; have hfz51_0 := blk_frozen BK246.out 0; have hfz51_1 := blk_frozen BK246.out 1; have hfz51_2 := blk_frozen BK246.out 2))
                       refine bodyPost_ret (results_ct rfl _ _ gb246 24 #[.int .i64 0, .int .u64 0, .int .u64 0] (0, 0) _ rfl (by (with_reducible repeat (first | refine blk_drewN ?_ _ | refine blk_drew ?_ | refine blk_alloc ?_ _)); refine blk_put (cs := #[.int .i64 0, .int .u64 0, .int .u64 0]) ?_ 2 _ rfl; (with_reducible repeat (first | refine blk_drewN ?_ _ | refine blk_drew ?_ | refine blk_alloc ?_ _)); refine blk_put (cs := #[.int .i64 0, .int .u64 0, .int .u64 0]) ?_ 1 _ rfl; (with_reducible repeat (first | refine blk_drewN ?_ _ | refine blk_drew ?_ | refine blk_alloc ?_ _)); refine blk_put (cs := #[.int .i64 0, .int .u64 0, .int .u64 0]) ?_ 0 _ rfl; (with_reducible repeat (first | refine blk_drewN ?_ _ | refine blk_drew ?_ | refine blk_alloc ?_ _)); exact BK246.out) Tryd.underlying24 rfl (by kernel_rfl)) rfl ?_
                       exact ⟨by first | rfl | (simp [errW_none, errW_some] <;> rfl) | (simp only [← hji33]; first | rfl | (simp [errW_none, errW_some] <;> rfl)) | (simp [*, errW_none, errW_some] <;> rfl), by repeat (first | (with_reducible first | exact HB.out | apply below_alloc | apply pw_below_drewN | apply below_drew1 | refine below_set ?_ GE246.out) | exact HB.out)⟩
                      ·rw [if_neg c49] at H
                       have c49b0 : (t248 == 0) = false := beq_eq_false_iff_ne.mpr c49
                       have c49b1 : (t248 != 0) = true := bne_iff_ne.mpr c49
                       by_cases c52 : t248 = 99
                       ·rw [if_pos c52] at H
                        have c52b0 : (t248 == 99) = true := beq_iff_eq.mpr c52
                        have c52b1 : (t248 != 99) = false := bne_eq_false_iff_eq.mpr c52
                        clear c52
                        by_cases c53 : 1 ≤ (x0_39.size : Int)
                        ·rw [if_pos c53] at H
                         have c53b0 := eq_true c53
                         have c53b1 : decide (1 ≤ (x0_39.size : Int)) = true := decide_eq_true c53
                         clear c53
                         replace H := Option.bind_eq_some_iff.mp H
                         obtain ⟨⟨t249, t250, t251, t252⟩, A540, H⟩ := H
                         replace H : (some (t249, t250, t251, t252)) = some (r1, r2, r3, r4) := H
                         have A54 := Aside0.mk A540
                         clear A540
                         simp only [Option.some.injEq, Prod.mk.injEq] at H
                         obtain ⟨rfl, rfl, rfl, rfl⟩ := H
                         go_wp2_with (first | ((with_reducible refine gate_dst (N := 80) rfl ?_); refine wpList_mapLit (H := Unit) 78 5 3 .u8 .i64 lawU8 Tryd.underlying78 Tryd.underlying5 Tryd.underlying3 rfl rfl 80 rfl (fun _ => rfl) [(98, 1), (111, 3), (104, 4), (100, 99)] (by decide) (by decide) [_, _, _, _] rfl ?_; intro w55 hown_ hb; have hOWN := Aside0.mk hown_; clear hown_; have n0_ := Aside0.mk (blk_below (g := gb246) (o := .cells #[.int .i64 0, .int .u64 0, .int .u64 0] 24 (0, 0)) (by (with_reducible repeat (first | refine blk_drewN ?_ _ | refine blk_drew ?_ | refine blk_alloc ?_ _)); exact BK246.out) hb); have n1_ := Aside0.mk (below_step (by repeat (first | (with_reducible first | exact HB.out | apply below_alloc | apply pw_below_drewN | apply below_drew1 | refine below_set ?_ GE246.out) | exact HB.out)) hb); clear BK246; clear HB; have BK246 := n0_; have HB := n1_; clear n0_ n1_; (try clear hb); (try clear hb2); (try clear hk); (try clear hi); have p47 : 0 ≤ (0 : Int) := (by omega); have q47 : 0 < x0_39.size := (by have : (0 : Int) < (x0_39.size : Int) := of_decide_eq_true (by first | (with_reducible assumption) | assumption); omega); have hx47 : ∀ h : 0 < x0_39.size, ((x0_39[0]'h).toNat : Int) = bt x0_39 0 := bt_at x0_39 0; clear p47; have qi47 : (0 < (x0_39.size : Int)) = True := eq_true (of_decide_eq_true (by first | (with_reducible assumption) | assumption)); replace q47 := eq_true q47) | ((with_reducible refine gate_dst (N := 84) rfl ?_); refine wpList_lookup_own_int _ rfl _ _ 78 rfl 5 3 .i64 lawU8 Tryd.underlying78 Tryd.underlying3 (zeroI64 _) _ _ _ rfl (by first | exact hOWN.out | exact ownsMap_drewN hOWN.out _) (.int .u8 (bt x0_39 0)) _ rfl (Go.Maps.keyOf_int_mk Tryd.underlying5 (sizeT_wf A48.out)) ?_; intro cq hat hwc; obtain rfl : t248 = cq := (sizeT_eq A48.out hat).symm; clear hat hwc; (try (rw [drewN_self w55]; generalize hq_ : World.drewN w55 _ = w55; have n0_ : Aside0 (w55.heap[gb246]? = some (.cells #[.int .i64 0, .int .u64 0, .int .u64 0] 24 (0, 0))) := ⟨by rw [← hq_]; exact (by (with_reducible repeat (first | refine blk_drewN ?_ _ | refine blk_drew ?_ | refine blk_alloc ?_ _)); exact BK246.out)⟩; have n1_ : Aside0 (Below w.heap.size w w55) := ⟨by rw [← hq_]; exact (by repeat (first | (with_reducible first | exact HB.out | apply below_alloc | apply pw_below_drewN | apply below_drew1 | refine below_set ?_ GE246.out) | exact HB.out))⟩; clear BK246 HB hq_; have BK246 := n0_; have HB := n1_; clear n0_ n1_))) | ((with_reducible refine gate_callee (f := 53) rfl ?_); refine goesL_ (some 93) rfl rfl Tryd.func53 (by kernel_rfl) rfl #[.string (x0_39.extract 1 x0_39.size), .int .i64 x5_4] rfl (by (try simp only [List.map_toArray, List.map_cons, List.map_nil]); first | done | rfl | (simp only [List.length_drop, List.length_take]; rfl)) ?_; (with_reducible refine (maskref1_readDecimal.calls kj39 (x0_39.extract 1 x0_39.size) x5_4 t249 t250 t251 t252 _ A54.out).mono ?_); rintro e w56 ⟨rfl, hb⟩; refine ⟨_, rfl, ?_⟩; have n0_ := Aside0.mk (blk_below (g := gb246) (o := .cells #[.int .i64 0, .int .u64 0, .int .u64 0] 24 (0, 0)) (by (with_reducible repeat (first | refine blk_drewN ?_ _ | refine blk_drew ?_ | refine blk_alloc ?_ _)); exact BK246.out) hb); have n1_ := Aside0.mk (below_step (by repeat (first | (with_reducible first | exact HB.out | apply below_alloc | apply pw_below_drewN | apply below_drew1 | refine below_set ?_ GE246.out) | exact HB.out)) hb); clear BK246; clear HB; have BK246 := n0_; have HB := n1_; clear n0_ n1_; (try clear hb); (try clear hb2); (try clear hk); (try clear hi); have hcz57_0 : w56.cell? ⟨gb246, 0, none⟩ = some (.int .i64 0) := (blk_cell BK246.out 0).trans rfl; have hcz57_1 : w56.cell? ⟨gb246, 1, none⟩ = some (.int .u64 0) := (blk_cell BK246.out 1).trans rfl; have hcz57_2 : w56.cell? ⟨gb246, 2, none⟩ = some (.int .u64 0) := (blk_cell BK246.out 2).trans rfl; have hfz57_0 := blk_frozen BK246.out 0; have hfz57_1 := blk_frozen BK246.out 1; have hfz57_2 := blk_frozen BK246.out 2))
                         refine bodyPost_ret (results_ct rfl _ _ gb246 24 #[.int .i64 t249, .int .u64 t250, .int .u64 t251] (0, 0) _ rfl (by (with_reducible repeat (first | refine blk_drewN ?_ _ | refine blk_drew ?_ | refine blk_alloc ?_ _)); refine blk_put (cs := #[.int .i64 t249, .int .u64 t250, .int .u64 0]) ?_ 2 _ rfl; (with_reducible repeat (first | refine blk_drewN ?_ _ | refine blk_drew ?_ | refine blk_alloc ?_ _)); refine blk_put (cs := #[.int .i64 t249, .int .u64 0, .int .u64 0]) ?_ 1 _ rfl; (with_reducible repeat (first | refine blk_drewN ?_ _ | refine blk_drew ?_ | refine blk_alloc ?_ _)); refine blk_put (cs := #[.int .i64 0, .int .u64 0, .int .u64 0]) ?_ 0 _ rfl; (with_reducible repeat (first | refine blk_drewN ?_ _ | refine blk_drew ?_ | refine blk_alloc ?_ _)); exact BK246.out) Tryd.underlying24 rfl (by kernel_rfl)) rfl ?_
                         exact ⟨by first | rfl | (simp [errW_none, errW_some] <;> rfl) | (simp only [← hji33]; first | rfl | (simp [errW_none, errW_some] <;> rfl)) | (simp [*, errW_none, errW_some] <;> rfl), by repeat (first | (with_reducible first | exact HB.out | apply below_alloc | apply pw_below_drewN | apply below_drew1 | refine below_set ?_ GE246.out) | exact HB.out)⟩
                        ·rw [if_neg c53] at H
                         exact absurd H (by simp)
                       ·rw [if_neg c52] at H
                        have c52b0 : (t248 == 99) = false := beq_eq_false_iff_ne.mpr c52
                        have c52b1 : (t248 != 99) = true := bne_iff_ne.mpr c52
                        by_cases c58 : 1 ≤ (x0_39.size : Int)
                        ·rw [if_pos c58] at H
                         have c58b0 := eq_true c58
                         have c58b1 : decide (1 ≤ (x0_39.size : Int)) = true := decide_eq_true c58
                         clear c58
                         replace H := Option.bind_eq_some_iff.mp H
                         obtain ⟨⟨t253, t254, t255, t256⟩, A590, H⟩ := H
                         replace H : (some (t253, t254, t255, t256)) = some (r1, r2, r3, r4) := H
                         have A59 := Aside0.mk A590
                         clear A590
                         simp only [Option.some.injEq, Prod.mk.injEq] at H
                         obtain ⟨rfl, rfl, rfl, rfl⟩ := H
                         go_wp2_with (first | ((with_reducible refine gate_dst (N := 80) rfl ?_); refine wpList_mapLit (H := Unit) 78 5 3 .u8 .i64 lawU8 Tryd.underlying78 Tryd.underlying5 Tryd.underlying3 rfl rfl 80 rfl (fun _ => rfl) [(98, 1), (111, 3), (104, 4), (100, 99)] (by decide) (by decide) [_, _, _, _] rfl ?_; intro w60 hown_ hb; have hOWN := Aside0.mk hown_; clear hown_; have n0_ := Aside0.mk (blk_below (g := gb246) (o := .cells #[.int .i64 0, .int .u64 0, .int .u64 0] 24 (0, 0)) (by (with_reducible repeat (first | refine blk_drewN ?_ _ | refine blk_drew ?_ | refine blk_alloc ?_ _)); exact BK246.out) hb); have n1_ := Aside0.mk (below_step (by repeat (first | (with_reducible first | exact HB.out | apply below_alloc | apply pw_below_drewN | apply below_drew1 | refine below_set ?_ GE246.out) | exact HB.out)) hb); clear BK246; clear HB; have BK246 := n0_; have HB := n1_; clear n0_ n1_; (try clear hb); (try clear hb2); (try clear hk); (try clear hi); have p47 : 0 ≤ (0 : Int) := (by omega); have q47 : 0 < x0_39.size := (by have : (0 : Int) < (x0_39.size : Int) := of_decide_eq_true (by first | (with_reducible assumption) | assumption); omega); have hx47 : ∀ h : 0 < x0_39.size, ((x0_39[0]'h).toNat : Int) = bt x0_39 0 := bt_at x0_39 0; clear p47; have qi47 : (0 < (x0_39.size : Int)) = True := eq_true (of_decide_eq_true (by first | (with_reducible assumption) | assumption)); replace q47 := eq_true q47) | ((with_reducible refine gate_dst (N := 84) rfl ?_); refine wpList_lookup_own_int _ rfl _ _ 78 rfl 5 3 .i64 lawU8 Tryd.underlying78 Tryd.underlying3 (zeroI64 _) _ _ _ rfl (by first | exact hOWN.out | exact ownsMap_drewN hOWN.out _) (.int .u8 (bt x0_39 0)) _ rfl (Go.Maps.keyOf_int_mk Tryd.underlying5 (sizeT_wf A48.out)) ?_; intro cq hat hwc; obtain rfl : t248 = cq := (sizeT_eq A48.out hat).symm; clear hat hwc; (try (rw [drewN_self w60]; generalize hq_ : World.drewN w60 _ = w60; have n0_ : Aside0 (w60.heap[gb246]? = some (.cells #[.int .i64 0, .int .u64 0, .int .u64 0] 24 (0, 0))) := ⟨by rw [← hq_]; exact (by (with_reducible repeat (first | refine blk_drewN ?_ _ | refine blk_drew ?_ | refine blk_alloc ?_ _)); exact BK246.out)⟩; have n1_ : Aside0 (Below w.heap.size w w60) := ⟨by rw [← hq_]; exact (by repeat (first | (with_reducible first | exact HB.out | apply below_alloc | apply pw_below_drewN | apply below_drew1 | refine below_set ?_ GE246.out) | exact HB.out))⟩; clear BK246 HB hq_; have BK246 := n0_; have HB := n1_; clear n0_ n1_))) | ((with_reducible refine gate_callee (f := 54) rfl ?_); refine goesL_ (some 100) rfl rfl Tryd.func54 (by kernel_rfl) rfl #[.string (x0_39.extract 1 x0_39.size), .int .i64 x5_4, .int .i64 t248] rfl (by (try simp only [List.map_toArray, List.map_cons, List.map_nil]); first | done | rfl | (simp only [List.length_drop, List.length_take]; rfl)) ?_; (with_reducible refine (maskref1_readDigits.calls kj39 (x0_39.extract 1 x0_39.size) x5_4 t248 t253 t254 t255 t256 _ A59.out).mono ?_); rintro e w61 ⟨rfl, hb⟩; refine ⟨_, rfl, ?_⟩; have n0_ := Aside0.mk (blk_below (g := gb246) (o := .cells #[.int .i64 0, .int .u64 0, .int .u64 0] 24 (0, 0)) (by (with_reducible repeat (first | refine blk_drewN ?_ _ | refine blk_drew ?_ | refine blk_alloc ?_ _)); exact BK246.out) hb); have n1_ := Aside0.mk (below_step (by repeat (first | (with_reducible first | exact HB.out | apply below_alloc | apply pw_below_drewN | apply below_drew1 | refine below_set ?_ GE246.out) | exact HB.out)) hb); clear BK246; clear HB; have BK246 := n0_; have HB := n1_; clear n0_ n1_; (try clear hb); (try clear hb2); (try clear hk); (try clear hi); have hcz62_0 : w61.cell? ⟨gb246, 0, none⟩ = some (.int .i64 0) := (blk_cell BK246.out 0).trans rfl; have hcz62_1 : w61.cell? ⟨gb246, 1, none⟩ = some (.int .u64 0) := (blk_cell BK246.out 1).trans rfl; have hcz62_2 : w61.cell? ⟨gb246, 2, none⟩ = some (.int .u64 0) := (blk_cell BK246.out 2).trans rfl; have hfz62_0 := blk_frozen BK246.out 0; have hfz62_1 := blk_frozen BK246.out 1; have hfz62_2 := blk_frozen BK246.out 2))
                         refine bodyPost_ret (results_ct rfl _ _ gb246 24 #[.int .i64 t253, .int .u64 t254, .int .u64 t255] (0, 0) _ rfl (by (with_reducible repeat (first | refine blk_drewN ?_ _ | refine blk_drew ?_ | refine blk_alloc ?_ _)); refine blk_put (cs := #[.int .i64 t253, .int .u64 t254, .int .u64 0]) ?_ 2 _ rfl; (with_reducible repeat (first | refine blk_drewN ?_ _ | refine blk_drew ?_ | refine blk_alloc ?_ _)); refine blk_put (cs := #[.int .i64 t253, .int .u64 0, .int .u64 0]) ?_ 1 _ rfl; (with_reducible repeat (first | refine blk_drewN ?_ _ | refine blk_drew ?_ | refine blk_alloc ?_ _)); refine blk_put (cs := #[.int .i64 0, .int .u64 0, .int .u64 0]) ?_ 0 _ rfl; (with_reducible repeat (first | refine blk_drewN ?_ _ | refine blk_drew ?_ | refine blk_alloc ?_ _)); exact BK246.out) Tryd.underlying24 rfl (by kernel_rfl)) rfl ?_
                         exact ⟨by first | rfl | (simp [errW_none, errW_some] <;> rfl) | (simp only [← hji33]; first | rfl | (simp [errW_none, errW_some] <;> rfl)) | (simp [*, errW_none, errW_some] <;> rfl), by repeat (first | (with_reducible first | exact HB.out | apply below_alloc | apply pw_below_drewN | apply below_drew1 | refine below_set ?_ GE246.out) | exact HB.out)⟩
                        ·rw [if_neg c58] at H
                         exact absurd H (by simp)
                     ·rw [if_neg c46] at H
                      exact absurd H (by simp)
               ·rw [if_neg c35] at H
                exact absurd H (by simp)
              ·rw [if_neg c34] at H
               exact absurd H (by simp)
          ·rw [if_neg c22] at H
           exact absurd H (by simp)
         ·rw [if_neg c21] at H
          exact absurd H (by simp)
end Go.Proofs.YtfigblfjogpojaaDoor.PBits
end
