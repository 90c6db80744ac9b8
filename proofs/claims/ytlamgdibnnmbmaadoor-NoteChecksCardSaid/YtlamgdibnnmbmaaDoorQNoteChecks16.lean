/- Part 17 of the proof of NoteChecksCardSaid: The law NoteChecks: for all arguments it returns true; each argument reads behind the call as it read before. Out of the plain theorem of YtlamgdibnnmbmaaDoorPureNoteChecks and the printed contract. -/
import Derived.Test.YtlamgdibnnmbmaaDoorProg
import Derived.Below
import Derived.Deep.Draws
import Derived.Deep.AppendLies
import Derived.Maps.AppendAt
import Derived.OwnWalk
import Derived.Laws.BytesArg
import Derived.Laws.MakeOwn
import Derived.Laws.OwnMore
import Derived.Deep.OwnRows
import Derived.Tactics
import Derived.Lib.ConvBytes
import Derived.Laws.Slices
import Derived.WalkKit
import Derived.KernelRfl
import Derived.RowKit3
import Derived.Deep.LoopGhost
import Derived.Deep.QuietTactic
import Derived.BigQuiet
import Derived.WideLaws
import Derived.Deep.DeepCutAuto
import Derived.Deep.CutBlock
import Derived.Deep.RegionHeld3
import Derived.Laws.Rows
import Derived.Lib.AppendStr
import Derived.ArgAppend
import Derived.Laws.IdiomCopy
import Derived.OrdersHeld
import Derived.Laws.BitsLemmas
import Derived.RowKit
import Derived.Test.YtlamgdibnnmbmaaDoorQNoteChecks0
import Derived.Test.YtlamgdibnnmbmaaDoorQNoteChecks1
import Derived.Test.YtlamgdibnnmbmaaDoorQNoteChecks12
import Derived.Test.YtlamgdibnnmbmaaDoorQNoteChecks2
import Derived.Test.YtlamgdibnnmbmaaDoorQNoteChecks3
import Derived.Test.YtlamgdibnnmbmaaDoorQNoteChecks4
import Derived.Test.YtlamgdibnnmbmaaDoorQNoteChecks5
import Derived.Test.YtlamgdibnnmbmaaDoorQNoteChecks6
import Derived.Laws.StructEq
import Derived.Test.YtlamgdibnnmbmaaDoorQNoteChecks13
import Derived.Test.YtlamgdibnnmbmaaDoorQNoteChecks7
import Derived.Test.YtlamgdibnnmbmaaDoorQNoteChecks15
import Derived.Test.YtlamgdibnnmbmaaDoorQNoteChecks10
import Derived.Test.YtlamgdibnnmbmaaDoorQNoteChecks11
section
namespace Go.Proofs.YtlamgdibnnmbmaaDoor.PChk
open Go.RowKit Go.Proofs.YtlamgdibnnmbmaaDoorW.PrintWords Go.Proofs.YtlamgdibnnmbmaaDoorW.PrintLast Go.Proofs.YtlamgdibnnmbmaaDoorW.PrintMore
attribute [local go_sem] max2_int min2_int max_two min_two max_three min_three max_four min_four
set_option linter.unusedVariables false
set_option linter.unusedSimpArgs false
mutual
def maskref1_within.l0 : Nat → ByteArray → Int → Int → ByteArray → Int → Int → Option (Bool)
 | 0, _, _, _, _, _, _ => none
 | k + 1, x0, x1, x2, x3, x12, x13 => if x13 < x12 then (if 0 ≤ x13 then (if x13 < (x0.size : Int) then (if (bt x0 x13) < x1 then (maskref1_within.j1 k x0 x1 x2 x3 x13 x12 x13 true) else (maskref1_within.j1 k x0 x1 x2 x3 x13 x12 x13 (decide ((bt x0 x13) > x2)))) else (none)) else (none)) else (some true)
def maskref1_within.j1 : Nat → ByteArray → Int → Int → ByteArray → Int → Int → Int → Bool → Option (Bool)
 | 0, _, _, _, _, _, _, _, _ => none
 | k + 1, x0, x1, x2, x3, x9, x12, x13, x27 => if x27 = true then (some false) else (maskref1_within.l1 k x0 x1 x2 x3 x9 x12 x13 (x3.size : Int) 0)
def maskref1_within.l1 : Nat → ByteArray → Int → Int → ByteArray → Int → Int → Int → Int → Int → Option (Bool)
 | 0, _, _, _, _, _, _, _, _, _ => none
 | k + 1, x0, x1, x2, x3, x9, x12, x13, x29, x30 => if x30 < x29 then (if 0 ≤ x9 then (if x9 < (x0.size : Int) then (if 0 ≤ x30 then (if x30 < (x3.size : Int) then (if (bt x0 x9) = (bt x3 x30) then (some false) else (maskref1_within.l1 k x0 x1 x2 x3 x9 x12 x13 x29 (wrap64 (x30 + 1)))) else (none)) else (none)) else (none)) else (none)) else (maskref1_within.l0 k x0 x1 x2 x3 x12 (wrap64 (x13 + 1)))
end
def maskref1_within.f (k : Nat) (a0 : ByteArray) (a1 : Int) (a2 : Int) (a3 : ByteArray) : Option (Bool) := maskref1_within.l0 k a0 a1 a2 a3 (a0.size : Int) 0
set_option maxHeartbeats 8000000 in
set_option maxRecDepth 100000 in
theorem maskref1_within.calls (k : Nat) (a0 : ByteArray) (a1 : Int) (a2 : Int) (a3 : ByteArray) (r : Bool) (w : World) (h : maskref1_within.f k a0 a1 a2 a3 = some r) :
  Calls Tryd.prog 38 #[.string a0, .int .u8 a1, .int .u8 a2, .string a3] w fun e w' => e = .returned (.bool r) ∧ Drawn0 w w' := by
 have H := h
 clear h
 unfold maskref1_within.f at H
 have H' := Aside0.mk H
 clear H
 go_enter Tryd.func38, Tryd.ntmps38
 go_wp2
 go_loopg [13] k (fun kq v13 w' => ∃ (x13_1 : Int), v13 = .int .i64 x13_1 ∧ Aside0 (maskref1_within.l0 kq a0 a1 a2 a3 (a0.size : Int) x13_1 = some r) ∧ Aside0 (kq ≤ k) ∧ Drawn0 w w')
 case atStart => exact ⟨(0), (by rfl), H', ⟨Nat.le_refl _⟩, by repeat (exact Drawn0.refl _)⟩
 case round =>
  clear H'
  obtain ⟨x13_1, rfl, HA, HK1, ⟨m1, rfl⟩⟩ := hrel
  cases gk with
  | zero => exact absurd HA.out (by simp [maskref1_within.l0])
  | succ k1 =>
   have H := HA.out
   clear HA
   simp only [maskref1_within.l0] at H
   replace H := iD H; rcases H with ⟨c5b0, H⟩ | ⟨c5b0, H⟩
   ·have HC6 := Aside0.mk H
    clear H
    go_upto_region 4 with (fail)
    go_cut [27] (fun v27 wc => ∃ (kq : Nat) (x27_5 : Bool), v27 = .bool x27_5 ∧ Aside0 (maskref1_within.j1 kq a0 a1 a2 a3 x13_1 (a0.size : Int) x13_1 x27_5 = some r) ∧ Aside0 (kq ≤ k1) ∧ Drawn0 w wc)
    case first =>
     have H := HC6.out
     clear HC6
     replace H := iN H; obtain ⟨c7b0, H⟩ := H
     (skip)
     replace H := iN H; obtain ⟨c8b0, H⟩ := H
     replace H := iD H; rcases H with ⟨c10b0, H⟩ | ⟨c10b0, H⟩
     ·have H' := Aside0.mk H
      clear H
      have p9 : 0 ≤ (x13_1 : Int) := of_decide_eq_true (by (with_reducible assumption))
      have q9 : x13_1 < (a0.size : Int) := of_decide_eq_true (by (with_reducible assumption))
      have hx9 := bt_at a0 x13_1
      replace p9 := eq_true p9
      replace q9 := eq_true q9
      go_wp2
      go_meet
      case rel => exact ⟨_, (true), (by rfl), H', ⟨by have := HK1.out; omega⟩, by repeat (first | exact Drawn0.refl _ | apply Drawn0.step)⟩
     ·have H' := Aside0.mk H
      clear H
      have p9 : 0 ≤ (x13_1 : Int) := of_decide_eq_true (by (with_reducible assumption))
      have q9 : x13_1 < (a0.size : Int) := of_decide_eq_true (by (with_reducible assumption))
      have hx9 := bt_at a0 x13_1
      replace p9 := eq_true p9
      replace q9 := eq_true q9
      have p11 : 0 ≤ (x13_1 : Int) := of_decide_eq_true (by (with_reducible assumption))
      have q11 : x13_1 < (a0.size : Int) := of_decide_eq_true (by (with_reducible assumption))
      have hx11 := bt_at a0 x13_1
      replace p11 := eq_true p11
      replace q11 := eq_true q11
      go_wp2
      go_meet
      case rel => exact ⟨_, (decide ((bt a0 x13_1) > a2)), (by rfl), H', ⟨by have := HK1.out; omega⟩, by repeat (first | exact Drawn0.refl _ | apply Drawn0.step)⟩
    case rest =>
     clear HC6
     (try clear c5b0)
     obtain ⟨kq, x27_5, rfl, HA, HJ5, ⟨mc5, rfl⟩⟩ := hcut
     cases kq with
     | zero => exact absurd HA.out (by simp [maskref1_within.j1])
     | succ kj5 =>
      have H := HA.out
      clear HA
      simp only [maskref1_within.j1] at H
      replace H := iB H; rcases H with ⟨rfl, H⟩ | ⟨rfl, H⟩
      ·obtain rfl := Option.some.inj H
       go_wp2
       go_ret
       exact ⟨by rfl, by repeat (first | exact Drawn0.refl _ | apply Drawn0.step)⟩
      ·have H' := Aside0.mk H
       clear H
       go_wp2
       go_loopg [30] kj5 (fun kq v30 w' => ∃ (x30_3 : Int), v30 = .int .i64 x30_3 ∧ Aside0 (maskref1_within.l1 kq a0 a1 a2 a3 x13_1 (a0.size : Int) x13_1 (a3.size : Int) x30_3 = some r) ∧ Aside0 (kq ≤ kj5) ∧ Drawn0 w w')
       case atStart => exact ⟨(0), (by rfl), H', ⟨Nat.le_refl _⟩, by repeat (first | exact Drawn0.refl _ | apply Drawn0.step)⟩
       case round =>
        clear H'
        obtain ⟨x30_3, rfl, HA, HK3, ⟨m3, rfl⟩⟩ := hrel
        cases gk with
        | zero => exact absurd HA.out (by simp [maskref1_within.l1])
        | succ k3 =>
         have H := HA.out
         clear HA
         simp only [maskref1_within.l1] at H
         replace H := iD H; rcases H with ⟨c13b0, H⟩ | ⟨c13b0, H⟩
         ·replace H := iN H; obtain ⟨c14b0, H⟩ := H
          replace H := iN H; obtain ⟨c15b0, H⟩ := H
          replace H := iN H; obtain ⟨c17b0, H⟩ := H
          replace H := iN H; obtain ⟨c18b0, H⟩ := H
          replace H := iE H; rcases H with ⟨c20b0, c20b1, H⟩ | ⟨c20, c20b0, c20b1, H⟩
          ·obtain rfl := Option.some.inj H
           have p16 : 0 ≤ (x13_1 : Int) := of_decide_eq_true (by (with_reducible assumption))
           have q16 : x13_1 < (a0.size : Int) := of_decide_eq_true (by (with_reducible assumption))
           have hx16 := bt_at a0 x13_1
           replace p16 := eq_true p16
           replace q16 := eq_true q16
           have p19 : 0 ≤ (x30_3 : Int) := of_decide_eq_true (by (with_reducible assumption))
           have q19 : x30_3 < (a3.size : Int) := of_decide_eq_true (by (with_reducible assumption))
           have hx19 := bt_at a3 x30_3
           replace p19 := eq_true p19
           replace q19 := eq_true q19
           go_wp2
           repeat (go_quiet (fail); try go_wp2)
           go_ret
           exact ⟨by rfl, by repeat (first | exact Drawn0.refl _ | apply Drawn0.step)⟩
          ·have H' := Aside0.mk H
           clear H
           have p16 : 0 ≤ (x13_1 : Int) := of_decide_eq_true (by (with_reducible assumption))
           have q16 : x13_1 < (a0.size : Int) := of_decide_eq_true (by (with_reducible assumption))
           have hx16 := bt_at a0 x13_1
           replace p16 := eq_true p16
           replace q16 := eq_true q16
           have p19 : 0 ≤ (x30_3 : Int) := of_decide_eq_true (by (with_reducible assumption))
           have q19 : x30_3 < (a3.size : Int) := of_decide_eq_true (by (with_reducible assumption))
           have hx19 := bt_at a3 x30_3
           replace p19 := eq_true p19
           replace q19 := eq_true q19
           go_wp2
           repeat (go_quiet (fail); try go_wp2)
           go_roundg k3
           case measure => have := HK1.out; have := HJ5.out; have := HK3.out; omega
           case rel => exact ⟨(wrap64 (x30_3 + 1)), (by rfl), H', ⟨by have := HK1.out; have := HJ5.out; have := HK3.out; omega⟩, by repeat (first | exact Drawn0.refl _ | apply Drawn0.step)⟩
         ·have H' := Aside0.mk H
          clear H
          go_wp2
          go_roundg k3
          case measure => have := HK1.out; have := HJ5.out; have := HK3.out; omega
          case rel => exact ⟨(wrap64 (x13_1 + 1)), (by rfl), H', ⟨by have := HK1.out; have := HJ5.out; have := HK3.out; omega⟩, by repeat (first | exact Drawn0.refl _ | apply Drawn0.step)⟩
   ·obtain rfl := Option.some.inj H
    go_wp2
    go_ret
    exact ⟨by rfl, by repeat (first | exact Drawn0.refl _ | apply Drawn0.step)⟩
end Go.Proofs.YtlamgdibnnmbmaaDoor.PChk
end
section
namespace Go.Proofs.YtlamgdibnnmbmaaDoor.PChk
open Go.RowKit Go.Proofs.YtlamgdibnnmbmaaDoorW.PrintWords Go.Proofs.YtlamgdibnnmbmaaDoorW.PrintLast Go.Proofs.YtlamgdibnnmbmaaDoorW.PrintMore
attribute [local go_sem] max2_int min2_int max_two min_two max_three min_three max_four min_four
set_option linter.unusedVariables false
set_option linter.unusedSimpArgs false
def maskref1_FileName.f (k : Nat) (a0 : ByteArray) : Option (Bool) := if (a0.size : Int) ≥ 1 then (if (a0.size : Int) ≤ 60 then ((maskref1_within.f k a0 33 126 (⟨#[58, 34]⟩ : ByteArray)).bind fun t101 => (some t101)) else (some false)) else (some false)
set_option maxHeartbeats 8000000 in
set_option maxRecDepth 100000 in
theorem maskref1_FileName.calls (k : Nat) (a0 : ByteArray) (r : Bool) (w : World) (h : maskref1_FileName.f k a0 = some r) :
  Calls Tryd.prog 12 #[.string a0] w fun e w' => e = .returned (.bool r) ∧ Drawn0 w w' := by
 have H := h
 clear h
 unfold maskref1_FileName.f at H
 by_cases c2 : (a0.size : Int) ≥ 1
 ·rw [if_pos c2] at H
  have c2b0 : decide (1 ≤ (a0.size : Int)) = true := decide_eq_true c2
  have c2b1 : decide (1 ≤ a0.size) = true := decide_eq_true (by omega)
  clear c2
  by_cases c3 : (a0.size : Int) ≤ 60
  ·rw [if_pos c3] at H
   have c3b0 : decide ((a0.size : Int) ≤ 60) = true := decide_eq_true c3
   have c3b1 : decide (a0.size ≤ 60) = true := decide_eq_true (by omega)
   clear c3
   replace H := bN H; obtain ⟨t101, A4, H⟩ := H
   obtain rfl := Option.some.inj H
   go_enter Tryd.func12, Tryd.ntmps12
   go_wp2_with ((go_at_call 38; (with_reducible refine (maskref1_within.calls k a0 33 126 (⟨#[58, 34]⟩ : ByteArray) t101 _ A4.out).mono ?_); rintro e w' ⟨rfl, ⟨nd, rfl⟩⟩))
   go_ret
   exact ⟨by rfl, by repeat (first | exact Drawn0.refl _ | apply Drawn0.step)⟩
  ·rw [if_neg c3] at H
   have c3b0 : decide ((a0.size : Int) ≤ 60) = false := decide_eq_false c3
   have c3b1 : decide (a0.size ≤ 60) = false := decide_eq_false (by omega)
   clear c3
   obtain rfl := Option.some.inj H
   go_enter Tryd.func12, Tryd.ntmps12
   go_wp2
   go_ret
   exact ⟨by rfl, by repeat (exact Drawn0.refl _)⟩
 ·rw [if_neg c2] at H
  have c2b0 : decide (1 ≤ (a0.size : Int)) = false := decide_eq_false c2
  have c2b1 : decide (1 ≤ a0.size) = false := decide_eq_false (by omega)
  clear c2
  obtain rfl := Option.some.inj H
  go_enter Tryd.func12, Tryd.ntmps12
  go_wp2
  go_ret
  exact ⟨by rfl, by repeat (exact Drawn0.refl _)⟩
end Go.Proofs.YtlamgdibnnmbmaaDoor.PChk
end
section
namespace Go.Proofs.YtlamgdibnnmbmaaDoor.PChk
open Go.RowKit Go.Proofs.YtlamgdibnnmbmaaDoorW.PrintWords Go.Proofs.YtlamgdibnnmbmaaDoorW.PrintLast Go.Proofs.YtlamgdibnnmbmaaDoorW.PrintMore
attribute [local go_sem] max2_int min2_int max_two min_two max_three min_three max_four min_four
set_option linter.unusedVariables false
set_option linter.unusedSimpArgs false
def maskref1_NoteFault.j0 : Nat → Bool → ByteArray → Int → Int → Int → ByteArray → Option (Int)
 | 0, _, _, _, _, _, _ => none
 | k + 1, x8, x103000, x103001, x103002, x103003, x103004 => if x8 = true then (some 2) else (if (x103004.size : Int) > 200 then (some 4) else ((maskref1_within.f k x103004 32 126 (⟨#[]⟩ : ByteArray)).bind fun t104 => (if t104 = true then (some 0) else (some 4))))
def maskref1_NoteFault.f (k : Nat) (a0_0 : ByteArray) (a0_1 : Int) (a0_2 : Int) (a0_3 : Int) (a0_4 : ByteArray) : Option (Int) := (maskref1_FileName.f k a0_0).bind fun t103 => (if t103 = true then (if a0_1 < 1 then (maskref1_NoteFault.j0 k true a0_0 a0_1 a0_2 a0_3 a0_4) else (if a0_1 > 16000 then (maskref1_NoteFault.j0 k true a0_0 a0_1 a0_2 a0_3 a0_4) else (if a0_2 < 1 then (maskref1_NoteFault.j0 k true a0_0 a0_1 a0_2 a0_3 a0_4) else (if a0_2 > 16001 then (maskref1_NoteFault.j0 k true a0_0 a0_1 a0_2 a0_3 a0_4) else (if a0_3 < 1 then (maskref1_NoteFault.j0 k true a0_0 a0_1 a0_2 a0_3 a0_4) else (maskref1_NoteFault.j0 k (decide (a0_3 > 22)) a0_0 a0_1 a0_2 a0_3 a0_4)))))) else (some 9))
set_option maxHeartbeats 8000000 in
set_option maxRecDepth 100000 in
theorem maskref1_NoteFault.calls (k : Nat) (a0_0 : ByteArray) (a0_1 : Int) (a0_2 : Int) (a0_3 : Int) (a0_4 : ByteArray) (r : Int) (w : World) (h : maskref1_NoteFault.f k a0_0 a0_1 a0_2 a0_3 a0_4 = some r) :
  Calls Tryd.prog 8 #[.agg #[.string a0_0, .int .i64 a0_1, .int .i64 a0_2, .int .i64 a0_3, .string a0_4]] w fun e w' => e = .returned (.int .i64 r) ∧ Below w.heap.size w w' := by
 have hu24 := Tryd.underlying24
 have HB := Aside0.mk (Below.refl w.heap.size w)
 have H := h
 clear h
 unfold maskref1_NoteFault.f at H
 replace H := bN H; obtain ⟨t103, A2, H⟩ := H
 replace H := iB H; rcases H with ⟨rfl, H⟩ | ⟨rfl, H⟩
 ·have HC4 := Aside0.mk H
  clear H
  go_enter Tryd.func8, Tryd.ntmps8
  go_upto_region 3 with (first | (refine boxA HB 1 #[.string a0_0, .int .i64 a0_1, .int .i64 a0_2, .int .i64 a0_3, .string a0_4] 24 ?_; clear HB; intro gb102 w5 BK102 GE102 hg hb HB; clear hb hg; obtain ⟨hcz6_0, hcz6_1, hcz6_2, hcz6_3, hcz6_4, hfz6_0, hfz6_1, hfz6_2, hfz6_3, hfz6_4⟩ := cf5 BK102) | (refine callA (some 6) Tryd.func12 #[.string a0_0] ?_; (with_reducible refine (maskref1_FileName.calls k a0_0 true _ A2.out).mono ?_); rintro e w' ⟨rfl, ⟨nd, rfl⟩⟩; refine ⟨_, rfl, ?_⟩))
  go_cut [8] (fun v8 wc => ∃ (kq : Nat) (x8_3 : Bool), v8 = .bool x8_3 ∧ Aside0 (maskref1_NoteFault.j0 kq x8_3 a0_0 a0_1 a0_2 a0_3 a0_4 = some r) ∧ Aside0 (kq ≤ k) ∧ Aside0 (wc.heap[gb102]? = some (.cells #[.string a0_0, .int .i64 a0_1, .int .i64 a0_2, .int .i64 a0_3, .string a0_4] 24 (0, 0))) ∧ Aside0 (Below w.heap.size w wc))
  case first =>
   have H := HC4.out
   clear HC4
   replace H := iD H; rcases H with ⟨c7b0, H⟩ | ⟨c7b0, H⟩
   ·(skip)
    have H' := Aside0.mk H
    clear H
    obtain ⟨hcz8_0, hcz8_1, hcz8_2, hcz8_3, hcz8_4, hfz8_0, hfz8_1, hfz8_2, hfz8_3, hfz8_4⟩ := cf5 BK102
    go_wp2
    go_meet
    case rel => exact ⟨_, (true), (by rfl), H', ⟨by omega⟩, ⟨by (with_reducible repeat (refine blk_drewN ?_ _)); exact BK102.out⟩, ⟨by repeat (with_reducible first | exact HB.out | apply pw_below_drewN)⟩⟩
   ·(skip)
    replace H := iD H; rcases H with ⟨c9b0, H⟩ | ⟨c9b0, H⟩
    ·replace c9b0 : decide (16000 < a0_1) = true := c9b0
     have H' := Aside0.mk H
     clear H
     obtain ⟨hcz10_0, hcz10_1, hcz10_2, hcz10_3, hcz10_4, hfz10_0, hfz10_1, hfz10_2, hfz10_3, hfz10_4⟩ := cf5 BK102
     go_wp2
     go_meet
     case rel => exact ⟨_, (true), (by rfl), H', ⟨by omega⟩, ⟨by (with_reducible repeat (refine blk_drewN ?_ _)); exact BK102.out⟩, ⟨by repeat (with_reducible first | exact HB.out | apply pw_below_drewN)⟩⟩
    ·replace c9b0 : decide (16000 < a0_1) = false := c9b0
     replace H := iD H; rcases H with ⟨c11b0, H⟩ | ⟨c11b0, H⟩
     ·have H' := Aside0.mk H
      clear H
      obtain ⟨hcz12_0, hcz12_1, hcz12_2, hcz12_3, hcz12_4, hfz12_0, hfz12_1, hfz12_2, hfz12_3, hfz12_4⟩ := cf5 BK102
      go_wp2
      go_meet
      case rel => exact ⟨_, (true), (by rfl), H', ⟨by omega⟩, ⟨by (with_reducible repeat (refine blk_drewN ?_ _)); exact BK102.out⟩, ⟨by repeat (with_reducible first | exact HB.out | apply pw_below_drewN)⟩⟩
     ·replace H := iD H; rcases H with ⟨c13b0, H⟩ | ⟨c13b0, H⟩
      ·replace c13b0 : decide (16001 < a0_2) = true := c13b0
       have H' := Aside0.mk H
       clear H
       obtain ⟨hcz14_0, hcz14_1, hcz14_2, hcz14_3, hcz14_4, hfz14_0, hfz14_1, hfz14_2, hfz14_3, hfz14_4⟩ := cf5 BK102
       go_wp2
       go_meet
       case rel => exact ⟨_, (true), (by rfl), H', ⟨by omega⟩, ⟨by (with_reducible repeat (refine blk_drewN ?_ _)); exact BK102.out⟩, ⟨by repeat (with_reducible first | exact HB.out | apply pw_below_drewN)⟩⟩
      ·replace c13b0 : decide (16001 < a0_2) = false := c13b0
       replace H := iD H; rcases H with ⟨c15b0, H⟩ | ⟨c15b0, H⟩
       ·have H' := Aside0.mk H
        clear H
        obtain ⟨hcz16_0, hcz16_1, hcz16_2, hcz16_3, hcz16_4, hfz16_0, hfz16_1, hfz16_2, hfz16_3, hfz16_4⟩ := cf5 BK102
        go_wp2
        go_meet
        case rel => exact ⟨_, (true), (by rfl), H', ⟨by omega⟩, ⟨by (with_reducible repeat (refine blk_drewN ?_ _)); exact BK102.out⟩, ⟨by repeat (with_reducible first | exact HB.out | apply pw_below_drewN)⟩⟩
       ·have H' := Aside0.mk H
        clear H
        obtain ⟨hcz17_0, hcz17_1, hcz17_2, hcz17_3, hcz17_4, hfz17_0, hfz17_1, hfz17_2, hfz17_3, hfz17_4⟩ := cf5 BK102
        go_wp2
        go_meet
        case rel => exact ⟨_, (decide (a0_3 > 22)), (by rfl), H', ⟨by omega⟩, ⟨by (with_reducible repeat (refine blk_drewN ?_ _)); exact BK102.out⟩, ⟨by repeat (with_reducible first | exact HB.out | apply pw_below_drewN)⟩⟩
  case rest =>
   clear HC4
   (try clear hcz6_0 hcz6_1 hcz6_2 hcz6_3 hcz6_4); (try clear hfz6_0 hfz6_1 hfz6_2 hfz6_3 hfz6_4)
   obtain ⟨kq, x8_3, rfl, HA, HJ3, BK102, HB⟩ := hcut
   cases kq with
   | zero => exact absurd HA.out (by simp [maskref1_NoteFault.j0])
   | succ kj3 =>
    have H := HA.out
    clear HA
    simp only [maskref1_NoteFault.j0] at H
    replace H := iB H; rcases H with ⟨rfl, H⟩ | ⟨rfl, H⟩
    ·obtain rfl := Option.some.inj H
     go_wp2
     go_ret
     exact ⟨by rfl, by repeat (with_reducible exact HB.out)⟩
    ·by_cases c19 : (a0_4.size : Int) > 200
     ·rw [if_pos c19] at H
      have c19b0 : decide (200 < (a0_4.size : Int)) = true := decide_eq_true c19
      have c19b1 : decide (200 < a0_4.size) = true := decide_eq_true (by omega)
      clear c19
      obtain rfl := Option.some.inj H
      obtain ⟨hcz20_0, hcz20_1, hcz20_2, hcz20_3, hcz20_4, hfz20_0, hfz20_1, hfz20_2, hfz20_3, hfz20_4⟩ := cf5 BK102
      go_wp2
      go_ret
      exact ⟨by rfl, by repeat (with_reducible exact HB.out)⟩
     ·rw [if_neg c19] at H
      have c19b0 : decide (200 < (a0_4.size : Int)) = false := decide_eq_false c19
      have c19b1 : decide (200 < a0_4.size) = false := decide_eq_false (by omega)
      clear c19
      replace H := bN H; obtain ⟨t104, A21, H⟩ := H
      replace H := iB H; rcases H with ⟨rfl, H⟩ | ⟨rfl, H⟩
      ·obtain rfl := Option.some.inj H
       obtain ⟨hcz23_0, hcz23_1, hcz23_2, hcz23_3, hcz23_4, hfz23_0, hfz23_1, hfz23_2, hfz23_3, hfz23_4⟩ := cf5 BK102
       go_wp2_with ((go_at_call 38; (with_reducible refine (maskref1_within.calls kj3 a0_4 32 126 (⟨#[]⟩ : ByteArray) true _ A21.out).mono ?_); rintro e w' ⟨rfl, ⟨nd, rfl⟩⟩))
       go_ret
       exact ⟨by rfl, by repeat (with_reducible first | exact HB.out | apply pw_below_drewN)⟩
      ·obtain rfl := Option.some.inj H
       obtain ⟨hcz24_0, hcz24_1, hcz24_2, hcz24_3, hcz24_4, hfz24_0, hfz24_1, hfz24_2, hfz24_3, hfz24_4⟩ := cf5 BK102
       go_wp2_with ((go_at_call 38; (with_reducible refine (maskref1_within.calls kj3 a0_4 32 126 (⟨#[]⟩ : ByteArray) false _ A21.out).mono ?_); rintro e w' ⟨rfl, ⟨nd, rfl⟩⟩))
       go_ret
       exact ⟨by rfl, by repeat (with_reducible first | exact HB.out | apply pw_below_drewN)⟩
 ·obtain rfl := Option.some.inj H
  go_enter Tryd.func8, Tryd.ntmps8
  go_wp2_with (first | (refine boxA HB 1 #[.string a0_0, .int .i64 a0_1, .int .i64 a0_2, .int .i64 a0_3, .string a0_4] 24 ?_; clear HB; intro gb102 w25 BK102 GE102 hg hb HB; clear hb hg; obtain ⟨hcz26_0, hcz26_1, hcz26_2, hcz26_3, hcz26_4, hfz26_0, hfz26_1, hfz26_2, hfz26_3, hfz26_4⟩ := cf5 BK102) | (refine callA (some 6) Tryd.func12 #[.string a0_0] ?_; (with_reducible refine (maskref1_FileName.calls k a0_0 false _ A2.out).mono ?_); rintro e w' ⟨rfl, ⟨nd, rfl⟩⟩; refine ⟨_, rfl, ?_⟩))
  go_ret
  exact ⟨by rfl, by repeat (with_reducible first | exact HB.out | apply pw_below_drewN)⟩
end Go.Proofs.YtlamgdibnnmbmaaDoor.PChk
end
section
namespace Go.Proofs.YtlamgdibnnmbmaaDoor.PChk
open Go.RowKit Go.Proofs.YtlamgdibnnmbmaaDoorW.PrintWords Go.Proofs.YtlamgdibnnmbmaaDoorW.PrintLast Go.Proofs.YtlamgdibnnmbmaaDoorW.PrintMore
attribute [local go_sem] max2_int min2_int max_two min_two max_three min_three max_four min_four
set_option linter.unusedVariables false
set_option linter.unusedSimpArgs false
mutual
def note_File.j0 : Nat → ByteArray → Bool → Option (Bool)
 | 0, _, _ => none
 | k + 1, x0, x11 => if x11 = true then (some false) else (note_File.l0 k x0 (x0.size : Int) 0)
def note_File.l0 : Nat → ByteArray → Int → Int → Option (Bool)
 | 0, _, _, _ => none
 | k + 1, x0, x13, x14 => if x14 < x13 then (if 0 ≤ x14 then (if x14 < (x0.size : Int) then (if (bt x0 x14) < 33 then (note_File.j2 k x0 x13 x14 true) else (if (bt x0 x14) > 126 then (note_File.j2 k x0 x13 x14 true) else (if (bt x0 x14) = 58 then (note_File.j2 k x0 x13 x14 true) else (note_File.j2 k x0 x13 x14 ((bt x0 x14) == 34))))) else (none)) else (none)) else (some true)
def note_File.j2 : Nat → ByteArray → Int → Int → Bool → Option (Bool)
 | 0, _, _, _, _ => none
 | k + 1, x0, x13, x14, x38 => if x38 = true then (some false) else (note_File.l0 k x0 x13 (wrap64 (x14 + 1)))
end
def note_File.f (k : Nat) (a0 : ByteArray) : Option (Bool) := if (a0.size : Int) < 1 then (note_File.j0 k a0 true) else (note_File.j0 k a0 (decide ((a0.size : Int) > 60)))
theorem note_File.mono_l : ∀ k, (∀ y0 y1, LeO (note_File.j0 k y0 y1) (note_File.j0 (k + 1) y0 y1)) ∧ (∀ y0 y1 y2, LeO (note_File.l0 k y0 y1 y2) (note_File.l0 (k + 1) y0 y1 y2)) ∧ (∀ y0 y1 y2 y3, LeO (note_File.j2 k y0 y1 y2 y3) (note_File.j2 (k + 1) y0 y1 y2 y3))
 | 0 => ⟨fun _ _ r h => by simp [note_File.j0] at h, fun _ _ _ r h => by simp [note_File.l0] at h, fun _ _ _ _ r h => by simp [note_File.j2] at h⟩
 | k + 1 => by
  obtain ⟨ih0, ih1, ih2⟩ := note_File.mono_l k
  refine ⟨?_, ?_, ?_⟩
  ·intro y0 y1
   unfold note_File.j0
   repeat' first | with_reducible exact ih0 _ _ | with_reducible exact ih1 _ _ _ | with_reducible exact ih2 _ _ _ _ | with_reducible exact LeO.refl _ | with_reducible exact LeO.none _ | with_reducible refine LeO.ite ?_ ?_ | with_reducible refine LeO.bind ?_ (fun _ => ?_)
  ·intro y0 y1 y2
   unfold note_File.l0
   repeat' first | with_reducible exact ih0 _ _ | with_reducible exact ih1 _ _ _ | with_reducible exact ih2 _ _ _ _ | with_reducible exact LeO.refl _ | with_reducible exact LeO.none _ | with_reducible refine LeO.ite ?_ ?_ | with_reducible refine LeO.bind ?_ (fun _ => ?_)
  ·intro y0 y1 y2 y3
   unfold note_File.j2
   repeat' first | with_reducible exact ih0 _ _ | with_reducible exact ih1 _ _ _ | with_reducible exact ih2 _ _ _ _ | with_reducible exact LeO.refl _ | with_reducible exact LeO.none _ | with_reducible refine LeO.ite ?_ ?_ | with_reducible refine LeO.bind ?_ (fun _ => ?_)
theorem note_File.mono : ∀ a0 k, LeO (note_File.f k a0) (note_File.f (k + 1) a0) := by
 intro a0 k
 obtain ⟨ih0, ih1, ih2⟩ := note_File.mono_l k
 unfold note_File.f
 repeat' first | with_reducible exact ih0 _ _ | with_reducible exact ih1 _ _ _ | with_reducible exact ih2 _ _ _ _ | with_reducible exact LeO.refl _ | with_reducible exact LeO.none _ | with_reducible refine LeO.ite ?_ ?_ | with_reducible refine LeO.bind ?_ (fun _ => ?_)
set_option maxHeartbeats 8000000 in
set_option maxRecDepth 100000 in
theorem note_File.calls (k : Nat) (a0 : ByteArray) (r : Bool) (w : World) (h : note_File.f k a0 = some r) :
  Calls Tryd.prog 11 #[.string a0] w fun e w' => e = .returned (.bool r) ∧ Drawn0 w w' := by
 have H := h
 clear h
 unfold note_File.f at H
 have HC2 := Aside0.mk H
 clear H
 go_enter Tryd.func11, Tryd.ntmps11
 go_upto_region 1 with (fail)
 go_cut [11] (fun v11 wc => ∃ (kq : Nat) (x11_1 : Bool), v11 = .bool x11_1 ∧ Aside0 (note_File.j0 kq a0 x11_1 = some r) ∧ Aside0 (kq ≤ k) ∧ Drawn0 w wc)
 case first =>
  have H := HC2.out
  clear HC2
  by_cases c3 : (a0.size : Int) < 1
  ·rw [if_pos c3] at H
   have c3b0 : decide ((a0.size : Int) < 1) = true := decide_eq_true c3
   have c3b1 : decide (a0.size < 1) = true := decide_eq_true (by omega)
   clear c3
   (skip)
   have H' := Aside0.mk H
   clear H
   go_wp2
   go_meet
   case rel => exact ⟨_, (true), (by rfl), H', ⟨by omega⟩, by repeat (exact Drawn0.refl _)⟩
  ·rw [if_neg c3] at H
   have c3b0 : decide ((a0.size : Int) < 1) = false := decide_eq_false c3
   have c3b1 : decide (a0.size < 1) = false := decide_eq_false (by omega)
   clear c3
   (skip)
   have H' := Aside0.mk H
   clear H
   go_wp2
   go_meet
   case rel => exact ⟨_, (decide ((a0.size : Int) > 60)), (by rfl), H', ⟨by omega⟩, by repeat (exact Drawn0.refl _)⟩
 case rest =>
  clear HC2
  obtain ⟨kq, x11_1, rfl, HA, HJ1, ⟨mc1, rfl⟩⟩ := hcut
  cases kq with
  | zero => exact absurd HA.out (by simp [note_File.j0])
  | succ kj1 =>
   have H := HA.out
   clear HA
   simp only [note_File.j0] at H
   replace H := iB H; rcases H with ⟨rfl, H⟩ | ⟨rfl, H⟩
   ·obtain rfl := Option.some.inj H
    go_wp2
    go_ret
    exact ⟨by rfl, by repeat (first | exact Drawn0.refl _ | apply Drawn0.step)⟩
   ·have H' := Aside0.mk H
    clear H
    go_wp2
    go_loopg [14] kj1 (fun kq v14 w' => ∃ (x14_2 : Int), v14 = .int .i64 x14_2 ∧ Aside0 (note_File.l0 kq a0 (a0.size : Int) x14_2 = some r) ∧ Aside0 (kq ≤ kj1) ∧ Drawn0 w w')
    case atStart => exact ⟨(0), (by rfl), H', ⟨Nat.le_refl _⟩, by repeat (first | exact Drawn0.refl _ | apply Drawn0.step)⟩
    case round =>
     clear H'
     obtain ⟨x14_2, rfl, HA, HK2, ⟨m2, rfl⟩⟩ := hrel
     cases gk with
     | zero => exact absurd HA.out (by simp [note_File.l0])
     | succ k2 =>
      have H := HA.out
      clear HA
      simp only [note_File.l0] at H
      replace H := iD H; rcases H with ⟨c5b0, H⟩ | ⟨c5b0, H⟩
      ·have HC6 := Aside0.mk H
       clear H
       go_upto_region 6 with (fail)
       go_cut [38] (fun v38 wc => ∃ (kq : Nat) (x38_5 : Bool), v38 = .bool x38_5 ∧ Aside0 (note_File.j2 kq a0 (a0.size : Int) x14_2 x38_5 = some r) ∧ Aside0 (kq ≤ k2) ∧ Drawn0 w wc)
       case first =>
        have H := HC6.out
        clear HC6
        replace H := iN H; obtain ⟨c7b0, H⟩ := H
        (skip)
        replace H := iN H; obtain ⟨c8b0, H⟩ := H
        replace H := iD H; rcases H with ⟨c10b0, H⟩ | ⟨c10b0, H⟩
        ·have H' := Aside0.mk H
         clear H
         have p9 : 0 ≤ (x14_2 : Int) := of_decide_eq_true (by (with_reducible assumption))
         have q9 : x14_2 < (a0.size : Int) := of_decide_eq_true (by (with_reducible assumption))
         have hx9 := bt_at a0 x14_2
         replace p9 := eq_true p9
         replace q9 := eq_true q9
         go_wp2
         go_meet
         case rel => exact ⟨_, (true), (by rfl), H', ⟨by have := HJ1.out; have := HK2.out; omega⟩, by repeat (first | exact Drawn0.refl _ | apply Drawn0.step)⟩
        ·replace H := iD H; rcases H with ⟨c12b0, H⟩ | ⟨c12b0, H⟩
         ·replace c12b0 : decide (126 < (bt a0 x14_2)) = true := c12b0
          have H' := Aside0.mk H
          clear H
          have p9 : 0 ≤ (x14_2 : Int) := of_decide_eq_true (by (with_reducible assumption))
          have q9 : x14_2 < (a0.size : Int) := of_decide_eq_true (by (with_reducible assumption))
          have hx9 := bt_at a0 x14_2
          replace p9 := eq_true p9
          replace q9 := eq_true q9
          have p11 : 0 ≤ (x14_2 : Int) := of_decide_eq_true (by (with_reducible assumption))
          have q11 : x14_2 < (a0.size : Int) := of_decide_eq_true (by (with_reducible assumption))
          have hx11 := bt_at a0 x14_2
          replace p11 := eq_true p11
          replace q11 := eq_true q11
          go_wp2
          go_meet
          case rel => exact ⟨_, (true), (by rfl), H', ⟨by have := HJ1.out; have := HK2.out; omega⟩, by repeat (first | exact Drawn0.refl _ | apply Drawn0.step)⟩
         ·replace c12b0 : decide (126 < (bt a0 x14_2)) = false := c12b0
          replace H := iE H; rcases H with ⟨c14b0, c14b1, H⟩ | ⟨c14, c14b0, c14b1, H⟩
          ·have H' := Aside0.mk H
           clear H
           have p9 : 0 ≤ (x14_2 : Int) := of_decide_eq_true (by (with_reducible assumption))
           have q9 : x14_2 < (a0.size : Int) := of_decide_eq_true (by (with_reducible assumption))
           have hx9 := bt_at a0 x14_2
           replace p9 := eq_true p9
           replace q9 := eq_true q9
           have p11 : 0 ≤ (x14_2 : Int) := of_decide_eq_true (by (with_reducible assumption))
           have q11 : x14_2 < (a0.size : Int) := of_decide_eq_true (by (with_reducible assumption))
           have hx11 := bt_at a0 x14_2
           replace p11 := eq_true p11
           replace q11 := eq_true q11
           have p13 : 0 ≤ (x14_2 : Int) := of_decide_eq_true (by (with_reducible assumption))
           have q13 : x14_2 < (a0.size : Int) := of_decide_eq_true (by (with_reducible assumption))
           have hx13 := bt_at a0 x14_2
           replace p13 := eq_true p13
           replace q13 := eq_true q13
           go_wp2
           go_meet
           case rel => exact ⟨_, (true), (by rfl), H', ⟨by have := HJ1.out; have := HK2.out; omega⟩, by repeat (first | exact Drawn0.refl _ | apply Drawn0.step)⟩
          ·have H' := Aside0.mk H
           clear H
           have p9 : 0 ≤ (x14_2 : Int) := of_decide_eq_true (by (with_reducible assumption))
           have q9 : x14_2 < (a0.size : Int) := of_decide_eq_true (by (with_reducible assumption))
           have hx9 := bt_at a0 x14_2
           replace p9 := eq_true p9
           replace q9 := eq_true q9
           have p11 : 0 ≤ (x14_2 : Int) := of_decide_eq_true (by (with_reducible assumption))
           have q11 : x14_2 < (a0.size : Int) := of_decide_eq_true (by (with_reducible assumption))
           have hx11 := bt_at a0 x14_2
           replace p11 := eq_true p11
           replace q11 := eq_true q11
           have p13 : 0 ≤ (x14_2 : Int) := of_decide_eq_true (by (with_reducible assumption))
           have q13 : x14_2 < (a0.size : Int) := of_decide_eq_true (by (with_reducible assumption))
           have hx13 := bt_at a0 x14_2
           replace p13 := eq_true p13
           replace q13 := eq_true q13
           have p15 : 0 ≤ (x14_2 : Int) := of_decide_eq_true (by (with_reducible assumption))
           have q15 : x14_2 < (a0.size : Int) := of_decide_eq_true (by (with_reducible assumption))
           have hx15 := bt_at a0 x14_2
           replace p15 := eq_true p15
           replace q15 := eq_true q15
           go_wp2
           go_meet
           case rel => exact ⟨_, ((bt a0 x14_2) == 34), (by rfl), H', ⟨by have := HJ1.out; have := HK2.out; omega⟩, by repeat (first | exact Drawn0.refl _ | apply Drawn0.step)⟩
       case rest =>
        clear HC6
        (try clear c5b0)
        obtain ⟨kq, x38_5, rfl, HA, HJ5, ⟨mc5, rfl⟩⟩ := hcut
        cases kq with
        | zero => exact absurd HA.out (by simp [note_File.j2])
        | succ kj5 =>
         have H := HA.out
         clear HA
         simp only [note_File.j2] at H
         replace H := iB H; rcases H with ⟨rfl, H⟩ | ⟨rfl, H⟩
         ·obtain rfl := Option.some.inj H
          go_wp2
          go_ret
          exact ⟨by rfl, by repeat (first | exact Drawn0.refl _ | apply Drawn0.step)⟩
         ·have H' := Aside0.mk H
          clear H
          go_wp2
          go_roundg kj5
          case measure => have := HJ1.out; have := HK2.out; have := HJ5.out; omega
          case rel => exact ⟨(wrap64 (x14_2 + 1)), (by rfl), H', ⟨by have := HJ1.out; have := HK2.out; have := HJ5.out; omega⟩, by repeat (first | exact Drawn0.refl _ | apply Drawn0.step)⟩
      ·obtain rfl := Option.some.inj H
       go_wp2
       go_ret
       exact ⟨by rfl, by repeat (first | exact Drawn0.refl _ | apply Drawn0.step)⟩
end Go.Proofs.YtlamgdibnnmbmaaDoor.PChk
end
section
namespace Go.Proofs.YtlamgdibnnmbmaaDoor.PChk
open Go.RowKit Go.Proofs.YtlamgdibnnmbmaaDoorW.PrintWords Go.Proofs.YtlamgdibnnmbmaaDoorW.PrintLast Go.Proofs.YtlamgdibnnmbmaaDoorW.PrintMore
attribute [local go_sem] max2_int min2_int max_two min_two max_three min_three max_four min_four
set_option linter.unusedVariables false
set_option linter.unusedSimpArgs false
def note_word.l0 : Nat → ByteArray → Int → Int → Option (Bool)
 | 0, _, _, _ => none
 | k + 1, x0, x8, x9 => if x9 < x8 then (if 0 ≤ x9 then (if x9 < (x0.size : Int) then (if (bt x0 x9) < 32 then (some false) else (if (bt x0 x9) > 126 then (some false) else (note_word.l0 k x0 x8 (wrap64 (x9 + 1))))) else (none)) else (none)) else (some true)
def note_word.f (k : Nat) (a0 : ByteArray) : Option (Bool) := if (a0.size : Int) > 200 then (some false) else (note_word.l0 k a0 (a0.size : Int) 0)
theorem note_word.mono_l : ∀ k, (∀ y0 y1 y2, LeO (note_word.l0 k y0 y1 y2) (note_word.l0 (k + 1) y0 y1 y2))
 | 0 => fun _ _ _ r h => by simp [note_word.l0] at h
 | k + 1 => by
  have ih0 := note_word.mono_l k
  ·intro y0 y1 y2
   unfold note_word.l0
   repeat' first | with_reducible exact ih0 _ _ _ | with_reducible exact LeO.refl _ | with_reducible exact LeO.none _ | with_reducible refine LeO.ite ?_ ?_ | with_reducible refine LeO.bind ?_ (fun _ => ?_)
theorem note_word.mono : ∀ a0 k, LeO (note_word.f k a0) (note_word.f (k + 1) a0) := by
 intro a0 k
 have ih0 := note_word.mono_l k
 unfold note_word.f
 repeat' first | with_reducible exact ih0 _ _ _ | with_reducible exact LeO.refl _ | with_reducible exact LeO.none _ | with_reducible refine LeO.ite ?_ ?_ | with_reducible refine LeO.bind ?_ (fun _ => ?_)
set_option maxHeartbeats 8000000 in
set_option maxRecDepth 100000 in
theorem note_word.calls (k : Nat) (a0 : ByteArray) (r : Bool) (w : World) (h : note_word.f k a0 = some r) :
  Calls Tryd.prog 40 #[.string a0] w fun e w' => e = .returned (.bool r) ∧ Drawn0 w w' := by
 have H := h
 clear h
 unfold note_word.f at H
 by_cases c2 : (a0.size : Int) > 200
 ·rw [if_pos c2] at H
  have c2b0 : decide (200 < (a0.size : Int)) = true := decide_eq_true c2
  have c2b1 : decide (200 < a0.size) = true := decide_eq_true (by omega)
  clear c2
  obtain rfl := Option.some.inj H
  go_enter Tryd.func40, Tryd.ntmps40
  go_wp2
  go_ret
  exact ⟨by rfl, by repeat (exact Drawn0.refl _)⟩
 ·rw [if_neg c2] at H
  have c2b0 : decide (200 < (a0.size : Int)) = false := decide_eq_false c2
  have c2b1 : decide (200 < a0.size) = false := decide_eq_false (by omega)
  clear c2
  have H' := Aside0.mk H
  clear H
  go_enter Tryd.func40, Tryd.ntmps40
  go_wp2
  go_loopg [9] k (fun kq v9 w' => ∃ (x9_1 : Int), v9 = .int .i64 x9_1 ∧ Aside0 (note_word.l0 kq a0 (a0.size : Int) x9_1 = some r) ∧ Aside0 (kq ≤ k) ∧ Drawn0 w w')
  case atStart => exact ⟨(0), (by rfl), H', ⟨Nat.le_refl _⟩, by repeat (exact Drawn0.refl _)⟩
  case round =>
   clear H'
   (try clear c2b0); (try clear c2b1)
   obtain ⟨x9_1, rfl, HA, HK1, ⟨m1, rfl⟩⟩ := hrel
   cases gk with
   | zero => exact absurd HA.out (by simp [note_word.l0])
   | succ k1 =>
    have H := HA.out
    clear HA
    simp only [note_word.l0] at H
    replace H := iD H; rcases H with ⟨c3b0, H⟩ | ⟨c3b0, H⟩
    ·replace H := iN H; obtain ⟨c4b0, H⟩ := H
     replace H := iN H; obtain ⟨c5b0, H⟩ := H
     replace H := iD H; rcases H with ⟨c7b0, H⟩ | ⟨c7b0, H⟩
     ·obtain rfl := Option.some.inj H
      have p6 : 0 ≤ (x9_1 : Int) := of_decide_eq_true (by (with_reducible assumption))
      have q6 : x9_1 < (a0.size : Int) := of_decide_eq_true (by (with_reducible assumption))
      have hx6 := bt_at a0 x9_1
      replace p6 := eq_true p6
      replace q6 := eq_true q6
      go_wp2
      go_ret
      exact ⟨by rfl, by repeat (first | exact Drawn0.refl _ | apply Drawn0.step)⟩
     ·replace H := iD H; rcases H with ⟨c9b0, H⟩ | ⟨c9b0, H⟩
      ·replace c9b0 : decide (126 < (bt a0 x9_1)) = true := c9b0
       obtain rfl := Option.some.inj H
       have p6 : 0 ≤ (x9_1 : Int) := of_decide_eq_true (by (with_reducible assumption))
       have q6 : x9_1 < (a0.size : Int) := of_decide_eq_true (by (with_reducible assumption))
       have hx6 := bt_at a0 x9_1
       replace p6 := eq_true p6
       replace q6 := eq_true q6
       have p8 : 0 ≤ (x9_1 : Int) := of_decide_eq_true (by (with_reducible assumption))
       have q8 : x9_1 < (a0.size : Int) := of_decide_eq_true (by (with_reducible assumption))
       have hx8 := bt_at a0 x9_1
       replace p8 := eq_true p8
       replace q8 := eq_true q8
       go_wp2
       go_ret
       exact ⟨by rfl, by repeat (first | exact Drawn0.refl _ | apply Drawn0.step)⟩
      ·replace c9b0 : decide (126 < (bt a0 x9_1)) = false := c9b0
       have H' := Aside0.mk H
       clear H
       have p6 : 0 ≤ (x9_1 : Int) := of_decide_eq_true (by (with_reducible assumption))
       have q6 : x9_1 < (a0.size : Int) := of_decide_eq_true (by (with_reducible assumption))
       have hx6 := bt_at a0 x9_1
       replace p6 := eq_true p6
       replace q6 := eq_true q6
       have p8 : 0 ≤ (x9_1 : Int) := of_decide_eq_true (by (with_reducible assumption))
       have q8 : x9_1 < (a0.size : Int) := of_decide_eq_true (by (with_reducible assumption))
       have hx8 := bt_at a0 x9_1
       replace p8 := eq_true p8
       replace q8 := eq_true q8
       go_wp2
       go_roundg k1
       case measure => have := HK1.out; omega
       case rel => exact ⟨(wrap64 (x9_1 + 1)), (by rfl), H', ⟨by have := HK1.out; omega⟩, by repeat (first | exact Drawn0.refl _ | apply Drawn0.step)⟩
    ·obtain rfl := Option.some.inj H
     go_wp2
     go_ret
     exact ⟨by rfl, by repeat (first | exact Drawn0.refl _ | apply Drawn0.step)⟩
end Go.Proofs.YtlamgdibnnmbmaaDoor.PChk
end
section
namespace Go.Proofs.YtlamgdibnnmbmaaDoor.PChk
open Go.RowKit Go.Proofs.YtlamgdibnnmbmaaDoorW.PrintWords Go.Proofs.YtlamgdibnnmbmaaDoorW.PrintLast Go.Proofs.YtlamgdibnnmbmaaDoorW.PrintMore
attribute [local go_sem] max2_int min2_int max_two min_two max_three min_three max_four min_four
set_option linter.unusedVariables false
set_option linter.unusedSimpArgs false
def note_Check.j0 : Nat → Bool → ByteArray → Int → Int → Int → ByteArray → Option (Int)
 | 0, _, _, _, _, _, _ => none
 | k + 1, x8, x106000, x106001, x106002, x106003, x106004 => if x8 = true then (some 2) else ((note_word.f k x106004).bind fun t108 => (if t108 = true then (some 0) else (some 4)))
def note_Check.f (k : Nat) (a0_0 : ByteArray) (a0_1 : Int) (a0_2 : Int) (a0_3 : Int) (a0_4 : ByteArray) : Option (Int) := (note_File.f k a0_0).bind fun t106 => (if t106 = true then (if a0_1 < 1 then (note_Check.j0 k true a0_0 a0_1 a0_2 a0_3 a0_4) else (if a0_1 > 16000 then (note_Check.j0 k true a0_0 a0_1 a0_2 a0_3 a0_4) else (if a0_2 < 1 then (note_Check.j0 k true a0_0 a0_1 a0_2 a0_3 a0_4) else (if a0_2 > 16001 then (note_Check.j0 k true a0_0 a0_1 a0_2 a0_3 a0_4) else ((note_Name.f a0_3).bind fun t107 => (note_Check.j0 k (t107.toList == ([] : List UInt8)) a0_0 a0_1 a0_2 a0_3 a0_4)))))) else (some 9))
theorem note_Check.mono_l : ∀ k, (∀ y0 y1 y2 y3 y4 y5, LeO (note_Check.j0 k y0 y1 y2 y3 y4 y5) (note_Check.j0 (k + 1) y0 y1 y2 y3 y4 y5))
 | 0 => fun _ _ _ _ _ _ r h => by simp [note_Check.j0] at h
 | k + 1 => by
  have ih0 := note_Check.mono_l k
  ·intro y0 y1 y2 y3 y4 y5
   unfold note_Check.j0
   repeat' first | with_reducible exact ih0 _ _ _ _ _ _ | with_reducible exact note_File.mono _ _ | with_reducible exact note_word.mono _ _ | with_reducible exact LeO.refl _ | with_reducible exact LeO.none _ | with_reducible refine LeO.ite ?_ ?_ | with_reducible refine LeO.bind ?_ (fun _ => ?_)
theorem note_Check.mono : ∀ a0 a1 a2 a3 a4 k, LeO (note_Check.f k a0 a1 a2 a3 a4) (note_Check.f (k + 1) a0 a1 a2 a3 a4) := by
 intro a0 a1 a2 a3 a4 k
 have ih0 := note_Check.mono_l k
 unfold note_Check.f
 repeat' first | with_reducible exact ih0 _ _ _ _ _ _ | with_reducible exact note_File.mono _ _ | with_reducible exact note_word.mono _ _ | with_reducible exact LeO.refl _ | with_reducible exact LeO.none _ | with_reducible refine LeO.ite ?_ ?_ | with_reducible refine LeO.bind ?_ (fun _ => ?_)
set_option maxHeartbeats 8000000 in
set_option maxRecDepth 100000 in
theorem note_Check.calls (k : Nat) (a0_0 : ByteArray) (a0_1 : Int) (a0_2 : Int) (a0_3 : Int) (a0_4 : ByteArray) (r : Int) (w : World) (h : note_Check.f k a0_0 a0_1 a0_2 a0_3 a0_4 = some r) :
  Calls Tryd.prog 15 #[.agg #[.string a0_0, .int .i64 a0_1, .int .i64 a0_2, .int .i64 a0_3, .string a0_4]] w fun e w' => e = .returned (.int .i64 r) ∧ Below w.heap.size w w' := by
 have hu24 := Tryd.underlying24
 have HB := Aside0.mk (Below.refl w.heap.size w)
 have H := h
 clear h
 unfold note_Check.f at H
 replace H := bN H; obtain ⟨t106, A2, H⟩ := H
 replace H := iB H; rcases H with ⟨rfl, H⟩ | ⟨rfl, H⟩
 ·have HC4 := Aside0.mk H
  clear H
  go_enter Tryd.func15, Tryd.ntmps15
  go_upto_region 3 with (first | (refine boxA HB 1 #[.string a0_0, .int .i64 a0_1, .int .i64 a0_2, .int .i64 a0_3, .string a0_4] 24 ?_; clear HB; intro gb105 w5 BK105 GE105 hg hb HB; clear hb hg; obtain ⟨hcz6_0, hcz6_1, hcz6_2, hcz6_3, hcz6_4, hfz6_0, hfz6_1, hfz6_2, hfz6_3, hfz6_4⟩ := cf5 BK105) | (refine callA (some 6) Tryd.func11 #[.string a0_0] ?_; (with_reducible refine (note_File.calls k a0_0 true _ A2.out).mono ?_); rintro e w' ⟨rfl, ⟨nd, rfl⟩⟩; refine ⟨_, rfl, ?_⟩))
  go_cut [8] (fun v8 wc => ∃ (kq : Nat) (x8_3 : Bool), v8 = .bool x8_3 ∧ Aside0 (note_Check.j0 kq x8_3 a0_0 a0_1 a0_2 a0_3 a0_4 = some r) ∧ Aside0 (kq ≤ k) ∧ Aside0 (wc.heap[gb105]? = some (.cells #[.string a0_0, .int .i64 a0_1, .int .i64 a0_2, .int .i64 a0_3, .string a0_4] 24 (0, 0))) ∧ Aside0 (Below w.heap.size w wc))
  case first =>
   have H := HC4.out
   clear HC4
   replace H := iD H; rcases H with ⟨c7b0, H⟩ | ⟨c7b0, H⟩
   ·(skip)
    have H' := Aside0.mk H
    clear H
    obtain ⟨hcz8_0, hcz8_1, hcz8_2, hcz8_3, hcz8_4, hfz8_0, hfz8_1, hfz8_2, hfz8_3, hfz8_4⟩ := cf5 BK105
    go_wp2
    go_meet
    case rel => exact ⟨_, (true), (by rfl), H', ⟨by omega⟩, ⟨by (with_reducible repeat (refine blk_drewN ?_ _)); exact BK105.out⟩, ⟨by repeat (with_reducible first | exact HB.out | apply pw_below_drewN)⟩⟩
   ·(skip)
    replace H := iD H; rcases H with ⟨c9b0, H⟩ | ⟨c9b0, H⟩
    ·replace c9b0 : decide (16000 < a0_1) = true := c9b0
     have H' := Aside0.mk H
     clear H
     obtain ⟨hcz10_0, hcz10_1, hcz10_2, hcz10_3, hcz10_4, hfz10_0, hfz10_1, hfz10_2, hfz10_3, hfz10_4⟩ := cf5 BK105
     go_wp2
     go_meet
     case rel => exact ⟨_, (true), (by rfl), H', ⟨by omega⟩, ⟨by (with_reducible repeat (refine blk_drewN ?_ _)); exact BK105.out⟩, ⟨by repeat (with_reducible first | exact HB.out | apply pw_below_drewN)⟩⟩
    ·replace c9b0 : decide (16000 < a0_1) = false := c9b0
     replace H := iD H; rcases H with ⟨c11b0, H⟩ | ⟨c11b0, H⟩
     ·have H' := Aside0.mk H
      clear H
      obtain ⟨hcz12_0, hcz12_1, hcz12_2, hcz12_3, hcz12_4, hfz12_0, hfz12_1, hfz12_2, hfz12_3, hfz12_4⟩ := cf5 BK105
      go_wp2
      go_meet
      case rel => exact ⟨_, (true), (by rfl), H', ⟨by omega⟩, ⟨by (with_reducible repeat (refine blk_drewN ?_ _)); exact BK105.out⟩, ⟨by repeat (with_reducible first | exact HB.out | apply pw_below_drewN)⟩⟩
     ·replace H := iD H; rcases H with ⟨c13b0, H⟩ | ⟨c13b0, H⟩
      ·replace c13b0 : decide (16001 < a0_2) = true := c13b0
       have H' := Aside0.mk H
       clear H
       obtain ⟨hcz14_0, hcz14_1, hcz14_2, hcz14_3, hcz14_4, hfz14_0, hfz14_1, hfz14_2, hfz14_3, hfz14_4⟩ := cf5 BK105
       go_wp2
       go_meet
       case rel => exact ⟨_, (true), (by rfl), H', ⟨by omega⟩, ⟨by (with_reducible repeat (refine blk_drewN ?_ _)); exact BK105.out⟩, ⟨by repeat (with_reducible first | exact HB.out | apply pw_below_drewN)⟩⟩
      ·replace c13b0 : decide (16001 < a0_2) = false := c13b0
       replace H := bN H; obtain ⟨t107, A15, H⟩ := H
       have H' := Aside0.mk H
       clear H
       obtain ⟨hcz16_0, hcz16_1, hcz16_2, hcz16_3, hcz16_4, hfz16_0, hfz16_1, hfz16_2, hfz16_3, hfz16_4⟩ := cf5 BK105
       go_wp2_with ((go_at_call 13; (with_reducible refine (note_Name.calls a0_3 t107 _ A15.out).mono ?_); rintro e w17 ⟨rfl, hb⟩; replace BK105 := bk1 BK105 hb; replace HB := hb1 HB hb; (try clear hb)))
       go_meet
       case rel => exact ⟨_, (t107.toList == ([] : List UInt8)), (by (simp; done)), H', ⟨by omega⟩, ⟨by exact BK105.out⟩, ⟨by repeat (with_reducible exact HB.out)⟩⟩
  case rest =>
   clear HC4
   (try clear hcz6_0 hcz6_1 hcz6_2 hcz6_3 hcz6_4); (try clear hfz6_0 hfz6_1 hfz6_2 hfz6_3 hfz6_4)
   obtain ⟨kq, x8_3, rfl, HA, HJ3, BK105, HB⟩ := hcut
   cases kq with
   | zero => exact absurd HA.out (by simp [note_Check.j0])
   | succ kj3 =>
    have H := HA.out
    clear HA
    simp only [note_Check.j0] at H
    replace H := iB H; rcases H with ⟨rfl, H⟩ | ⟨rfl, H⟩
    ·obtain rfl := Option.some.inj H
     go_wp2
     go_ret
     exact ⟨by rfl, by repeat (with_reducible exact HB.out)⟩
    ·replace H := bN H; obtain ⟨t108, A19, H⟩ := H
     replace H := iB H; rcases H with ⟨rfl, H⟩ | ⟨rfl, H⟩
     ·obtain rfl := Option.some.inj H
      obtain ⟨hcz21_0, hcz21_1, hcz21_2, hcz21_3, hcz21_4, hfz21_0, hfz21_1, hfz21_2, hfz21_3, hfz21_4⟩ := cf5 BK105
      go_wp2_with ((refine callA (some 36) Tryd.func40 #[.string a0_4] ?_; (with_reducible refine (note_word.calls kj3 a0_4 true _ A19.out).mono ?_); rintro e w' ⟨rfl, ⟨nd, rfl⟩⟩; refine ⟨_, rfl, ?_⟩))
      go_ret
      exact ⟨by rfl, by repeat (with_reducible first | exact HB.out | apply pw_below_drewN)⟩
     ·obtain rfl := Option.some.inj H
      obtain ⟨hcz22_0, hcz22_1, hcz22_2, hcz22_3, hcz22_4, hfz22_0, hfz22_1, hfz22_2, hfz22_3, hfz22_4⟩ := cf5 BK105
      go_wp2_with ((refine callA (some 36) Tryd.func40 #[.string a0_4] ?_; (with_reducible refine (note_word.calls kj3 a0_4 false _ A19.out).mono ?_); rintro e w' ⟨rfl, ⟨nd, rfl⟩⟩; refine ⟨_, rfl, ?_⟩))
      go_ret
      exact ⟨by rfl, by repeat (with_reducible first | exact HB.out | apply pw_below_drewN)⟩
 ·obtain rfl := Option.some.inj H
  go_enter Tryd.func15, Tryd.ntmps15
  go_wp2_with (first | (refine boxA HB 1 #[.string a0_0, .int .i64 a0_1, .int .i64 a0_2, .int .i64 a0_3, .string a0_4] 24 ?_; clear HB; intro gb105 w23 BK105 GE105 hg hb HB; clear hb hg; obtain ⟨hcz24_0, hcz24_1, hcz24_2, hcz24_3, hcz24_4, hfz24_0, hfz24_1, hfz24_2, hfz24_3, hfz24_4⟩ := cf5 BK105) | (refine callA (some 6) Tryd.func11 #[.string a0_0] ?_; (with_reducible refine (note_File.calls k a0_0 false _ A2.out).mono ?_); rintro e w' ⟨rfl, ⟨nd, rfl⟩⟩; refine ⟨_, rfl, ?_⟩))
  go_ret
  exact ⟨by rfl, by repeat (with_reducible first | exact HB.out | apply pw_below_drewN)⟩
end Go.Proofs.YtlamgdibnnmbmaaDoor.PChk
end
section
namespace Go.Proofs.YtlamgdibnnmbmaaDoor.PChk
open Go.RowKit Go.Proofs.YtlamgdibnnmbmaaDoorW.PrintWords Go.Proofs.YtlamgdibnnmbmaaDoorW.PrintLast Go.Proofs.YtlamgdibnnmbmaaDoorW.PrintMore
attribute [local go_sem] max2_int min2_int max_two min_two max_three min_three max_four min_four
set_option linter.unusedVariables false
set_option linter.unusedSimpArgs false
def note_Text.f (k : Nat) (a0_0 : ByteArray) (a0_1 : Int) (a0_2 : Int) (a0_3 : Int) (a0_4 : ByteArray) : Option (ByteArray × Int) := (note_Check.f k a0_0 a0_1 a0_2 a0_3 a0_4).bind fun t110 => (if t110 = 0 then (if a0_0.size + 1 ≤ 9223372036854775807 then ((strconv_Itoa_all.f a0_1).bind fun t111 => (if (a0_0 ++ (⟨#[58]⟩ : ByteArray)).size + t111.size ≤ 9223372036854775807 then (if ((a0_0 ++ (⟨#[58]⟩ : ByteArray)) ++ t111).size + 1 ≤ 9223372036854775807 then ((strconv_Itoa_all.f a0_2).bind fun t112 => (if (((a0_0 ++ (⟨#[58]⟩ : ByteArray)) ++ t111) ++ (⟨#[58]⟩ : ByteArray)).size + t112.size ≤ 9223372036854775807 then (if ((((a0_0 ++ (⟨#[58]⟩ : ByteArray)) ++ t111) ++ (⟨#[58]⟩ : ByteArray)) ++ t112).size + 2 ≤ 9223372036854775807 then ((note_Name.f a0_3).bind fun t113 => (if (((((a0_0 ++ (⟨#[58]⟩ : ByteArray)) ++ t111) ++ (⟨#[58]⟩ : ByteArray)) ++ t112) ++ (⟨#[58, 32]⟩ : ByteArray)).size + t113.size ≤ 9223372036854775807 then (if a0_4.toList = ([] : List UInt8) then (some ((((((a0_0 ++ (⟨#[58]⟩ : ByteArray)) ++ t111) ++ (⟨#[58]⟩ : ByteArray)) ++ t112) ++ (⟨#[58, 32]⟩ : ByteArray)) ++ t113, 0)) else (if 1 + a0_4.size ≤ 9223372036854775807 then (if ((((((a0_0 ++ (⟨#[58]⟩ : ByteArray)) ++ t111) ++ (⟨#[58]⟩ : ByteArray)) ++ t112) ++ (⟨#[58, 32]⟩ : ByteArray)) ++ t113).size + ((⟨#[32]⟩ : ByteArray) ++ a0_4).size ≤ 9223372036854775807 then (some (((((((a0_0 ++ (⟨#[58]⟩ : ByteArray)) ++ t111) ++ (⟨#[58]⟩ : ByteArray)) ++ t112) ++ (⟨#[58, 32]⟩ : ByteArray)) ++ t113) ++ ((⟨#[32]⟩ : ByteArray) ++ a0_4), 0)) else (none)) else (none))) else (none))) else (none)) else (none))) else (none)) else (none))) else (none)) else (some ((⟨#[]⟩ : ByteArray), t110)))
theorem note_Text.mono : ∀ a0 a1 a2 a3 a4 k, LeO (note_Text.f k a0 a1 a2 a3 a4) (note_Text.f (k + 1) a0 a1 a2 a3 a4) := by
 intro a0 a1 a2 a3 a4 k
 unfold note_Text.f
 repeat' first | with_reducible exact note_Check.mono _ _ _ _ _ _ | with_reducible exact LeO.refl _ | with_reducible exact LeO.none _ | with_reducible refine LeO.ite ?_ ?_ | with_reducible refine LeO.bind ?_ (fun _ => ?_)
def note_Text.T4 : Bool × List (List Nat × List Nat) := (true, [([], []), ([0], [0]), ([1], [1]), ([], []), ([3], [3]), ([4], [4]), ([2, 5], [2, 5]), ([6], [6]), ([], []), ([8], [8]), ([9, 5], [9]), ([7, 10], [7, 10]), ([11], [11]), ([], []), ([13], [13]), ([14, 10], [14]), ([12, 15], [12, 15]), ([16, 15, 0, 1, 2, 3, 4, 5, 6, 7, 8, 9, 10, 11, 12, 13, 14, 15, 16], [16])])
def note_Text.B4 : List Nat := [0, 1, 3, 0, 8, 24, 63, 127, 0, 256, 824, 2047, 4095, 0, 8192, 26424, 65535, 131071]
theorem note_Text.tab4 : rtab .any (opsOf Tryd.f9 4) = note_Text.T4 := by kernel_rfl
theorem note_Text.bits4 : waitsOk note_Text.T4.2 note_Text.B4 = true := by kernel_rfl
set_option maxHeartbeats 8000000 in
set_option maxRecDepth 100000 in
theorem note_Text.calls (k : Nat) (a0_0 : ByteArray) (a0_1 : Int) (a0_2 : Int) (a0_3 : Int) (a0_4 : ByteArray) (r1 : ByteArray) (r2 : Int) (w : World) (h : note_Text.f k a0_0 a0_1 a0_2 a0_3 a0_4 = some (r1, r2)) (hG : Glob w) :
  Calls Tryd.prog 9 #[.agg #[.string a0_0, .int .i64 a0_1, .int .i64 a0_2, .int .i64 a0_3, .string a0_4]] w fun e w' => e = .returned (.tuple #[.string r1, .int .i64 r2]) ∧ Below w.heap.size w w' := by
 have HG := Aside0.mk hG
 clear hG
 have hu24 := Tryd.underlying24
 have HB := Aside0.mk (Below.refl w.heap.size w)
 have H := h
 clear h
 unfold note_Text.f at H
 replace H := bN H; obtain ⟨t110, A2, H⟩ := H
 replace H := iE H; rcases H with ⟨c3b0, c3b1, H⟩ | ⟨c3, c3b0, c3b1, H⟩
 ·by_cases c4 : a0_0.size + 1 ≤ 9223372036854775807
  ·rw [if_pos c4] at H
   have c4b0 := eq_true c4
   have c4b1 : decide (a0_0.size + 1 ≤ 9223372036854775807) = true := decide_eq_true c4
   try have c4b2 : (9223372036854775807 < a0_0.size + 1) = False := eq_false (Nat.not_lt.2 c4)
   replace H := bN H; obtain ⟨t111, A5, H⟩ := H
   by_cases c6 : (a0_0 ++ (⟨#[58]⟩ : ByteArray)).size + t111.size ≤ 9223372036854775807
   ·rw [if_pos c6] at H
    have c6b0 := eq_true c6
    have c6b1 : decide ((a0_0 ++ (⟨#[58]⟩ : ByteArray)).size + t111.size ≤ 9223372036854775807) = true := decide_eq_true c6
    try have c6b2 : (9223372036854775807 < (a0_0 ++ (⟨#[58]⟩ : ByteArray)).size + t111.size) = False := eq_false (Nat.not_lt.2 c6)
    try have c6b3 : (9223372036854775807 < a0_0.size + 1 + t111.size) = False := by have h_ := c6b2; simp only [ByteArray.size_append] at h_; exact h_
    by_cases c7 : ((a0_0 ++ (⟨#[58]⟩ : ByteArray)) ++ t111).size + 1 ≤ 9223372036854775807
    ·rw [if_pos c7] at H
     have c7b0 := eq_true c7
     have c7b1 : decide (((a0_0 ++ (⟨#[58]⟩ : ByteArray)) ++ t111).size + 1 ≤ 9223372036854775807) = true := decide_eq_true c7
     try have c7b2 : (9223372036854775807 < ((a0_0 ++ (⟨#[58]⟩ : ByteArray)) ++ t111).size + 1) = False := eq_false (Nat.not_lt.2 c7)
     try have c7b3 : (9223372036854775807 < a0_0.size + 1 + t111.size + 1) = False := by have h_ := c7b2; simp only [ByteArray.size_append] at h_; exact h_
     replace H := bN H; obtain ⟨t112, A8, H⟩ := H
     by_cases c9 : (((a0_0 ++ (⟨#[58]⟩ : ByteArray)) ++ t111) ++ (⟨#[58]⟩ : ByteArray)).size + t112.size ≤ 9223372036854775807
     ·rw [if_pos c9] at H
      have c9b0 := eq_true c9
      have c9b1 : decide ((((a0_0 ++ (⟨#[58]⟩ : ByteArray)) ++ t111) ++ (⟨#[58]⟩ : ByteArray)).size + t112.size ≤ 9223372036854775807) = true := decide_eq_true c9
      try have c9b2 : (9223372036854775807 < (((a0_0 ++ (⟨#[58]⟩ : ByteArray)) ++ t111) ++ (⟨#[58]⟩ : ByteArray)).size + t112.size) = False := eq_false (Nat.not_lt.2 c9)
      try have c9b3 : (9223372036854775807 < a0_0.size + 1 + t111.size + 1 + t112.size) = False := by have h_ := c9b2; simp only [ByteArray.size_append] at h_; exact h_
      by_cases c10 : ((((a0_0 ++ (⟨#[58]⟩ : ByteArray)) ++ t111) ++ (⟨#[58]⟩ : ByteArray)) ++ t112).size + 2 ≤ 9223372036854775807
      ·rw [if_pos c10] at H
       have c10b0 := eq_true c10
       have c10b1 : decide (((((a0_0 ++ (⟨#[58]⟩ : ByteArray)) ++ t111) ++ (⟨#[58]⟩ : ByteArray)) ++ t112).size + 2 ≤ 9223372036854775807) = true := decide_eq_true c10
       try have c10b2 : (9223372036854775807 < ((((a0_0 ++ (⟨#[58]⟩ : ByteArray)) ++ t111) ++ (⟨#[58]⟩ : ByteArray)) ++ t112).size + 2) = False := eq_false (Nat.not_lt.2 c10)
       try have c10b3 : (9223372036854775807 < a0_0.size + 1 + t111.size + 1 + t112.size + 2) = False := by have h_ := c10b2; simp only [ByteArray.size_append] at h_; exact h_
       replace H := bN H; obtain ⟨t113, A11, H⟩ := H
       by_cases c12 : (((((a0_0 ++ (⟨#[58]⟩ : ByteArray)) ++ t111) ++ (⟨#[58]⟩ : ByteArray)) ++ t112) ++ (⟨#[58, 32]⟩ : ByteArray)).size + t113.size ≤ 9223372036854775807
       ·rw [if_pos c12] at H
        have c12b0 := eq_true c12
        have c12b1 : decide ((((((a0_0 ++ (⟨#[58]⟩ : ByteArray)) ++ t111) ++ (⟨#[58]⟩ : ByteArray)) ++ t112) ++ (⟨#[58, 32]⟩ : ByteArray)).size + t113.size ≤ 9223372036854775807) = true := decide_eq_true c12
        try have c12b2 : (9223372036854775807 < (((((a0_0 ++ (⟨#[58]⟩ : ByteArray)) ++ t111) ++ (⟨#[58]⟩ : ByteArray)) ++ t112) ++ (⟨#[58, 32]⟩ : ByteArray)).size + t113.size) = False := eq_false (Nat.not_lt.2 c12)
        try have c12b3 : (9223372036854775807 < a0_0.size + 1 + t111.size + 1 + t112.size + 2 + t113.size) = False := by have h_ := c12b2; simp only [ByteArray.size_append] at h_; exact h_
        replace H := iE H; rcases H with ⟨c13b0, c13b1, H⟩ | ⟨c13, c13b0, c13b1, H⟩
        ·replace H := s2 H; obtain ⟨rfl, rfl⟩ := H
         go_enter Tryd.func9, Tryd.ntmps9
         try go_wp2_with (first | (refine boxA HB 1 #[.string a0_0, .int .i64 a0_1, .int .i64 a0_2, .int .i64 a0_3, .string a0_4] 24 ?_; clear HB; intro gb109 w14 BK109 GE109 hg hb HB; clear hb hg; obtain ⟨hcz15_0, hcz15_1, hcz15_2, hcz15_3, hcz15_4, hfz15_0, hfz15_1, hfz15_2, hfz15_3, hfz15_4⟩ := cf5 BK109) | (refine callA (some 7) Tryd.func15 #[.agg #[.string a0_0, .int .i64 a0_1, .int .i64 a0_2, .int .i64 a0_3, .string a0_4]] ?_; (with_reducible refine (note_Check.calls k a0_0 a0_1 a0_2 a0_3 a0_4 t110 _ A2.out).mono ?_); rintro e w16 ⟨rfl, hb⟩; refine ⟨_, rfl, ?_⟩; replace BK109 := bk1 BK109 hb; replace HB := hb1 HB hb; (try clear hb)))
         replace BK109 := bkd BK109
         replace HB := hbd HB
         refine start_ (n := 18) (S := fun w' => w'.cell? ⟨gb109, 0, none⟩ = some (.string a0_0) ∧ w'.cell? ⟨gb109, 1, none⟩ = some (.int .i64 a0_1) ∧ w'.cell? ⟨gb109, 2, none⟩ = some (.int .i64 a0_2) ∧ w'.cell? ⟨gb109, 3, none⟩ = some (.int .i64 a0_3) ∧ w'.cell? ⟨gb109, 4, none⟩ = some (.string a0_4)) (ds := []) (tb 18 0) (by kernel_rfl) rfl (by kernel_rfl) ⟨(blk_cell BK109.out 0).trans rfl, (blk_cell BK109.out 1).trans rfl, (blk_cell BK109.out 2).trans rfl, (blk_cell BK109.out 3).trans rfl, (blk_cell BK109.out 4).trans rfl⟩ (fun hHeld => ?_); refine with_tabW note_Text.tab4 note_Text.bits4 (fun HT_ HW_ => ?_)
         generalize w16.drew = w17 at BK109 HB hHeld ⊢
         refine pA 0 11 (tb 18 1) HT_ ?_
         refine pA 3 14 (tb 18 9) HT_ ?_
         refine pA 8 19 (tb 18 265) HT_ ?_
         refine pA 13 24 (tb 18 8457) HT_ ?_
         refine tA 1 12 (tb 18 8459) HT_ HW_ hHeld ?_
         refine pA 2 13 (tb 18 8463) HT_ ?_
         refine tA 4 15 (tb 18 8479) HT_ HW_ hHeld ?_
         refine tA 9 20 (tb 18 8991) HT_ HW_ hHeld ?_
         refine tA 14 25 (tb 18 25375) HT_ HW_ hHeld ?_
         refine oA 5 (some 16) (tb 18 25407) HT_ (fun K hK => ?_)
         refine gA Tryd.func39 #[.int .i64 a0_1] ?_
         with_reducible refine (strconv_Itoa_all.calls a0_1 t111 _ A5.out ?side90).mono ?_
         (case side90 => exact HG.out.below HB.out)
         rintro e w18 ⟨rfl, hb⟩
         refine ⟨_, rfl, ?_⟩
         replace BK109 := bk1 BK109 hb
         replace HB := hb1 HB hb
         (try clear hb)
         refine hK.out _ _ ⟨(blk_cell BK109.out 0).trans rfl, (blk_cell BK109.out 1).trans rfl, (blk_cell BK109.out 2).trans rfl, (blk_cell BK109.out 3).trans rfl, (blk_cell BK109.out 4).trans rfl⟩ (fun hHeld => ?_)
         clear hK K
         refine nA ?_
         refine pA 6 17 (tb 18 25471) HT_ ?_
         refine pA 7 18 (tb 18 25599) HT_ ?_
         refine oA 10 (some 21) (tb 18 26623) HT_ (fun K hK => ?_)
         refine gA Tryd.func39 #[.int .i64 a0_2] ?_
         with_reducible refine (strconv_Itoa_all.calls a0_2 t112 _ A8.out ?side90).mono ?_
         (case side90 => exact HG.out.below HB.out)
         rintro e w19 ⟨rfl, hb⟩
         refine ⟨_, rfl, ?_⟩
         replace BK109 := bk1 BK109 hb
         replace HB := hb1 HB hb
         (try clear hb)
         refine hK.out _ _ ⟨(blk_cell BK109.out 0).trans rfl, (blk_cell BK109.out 1).trans rfl, (blk_cell BK109.out 2).trans rfl, (blk_cell BK109.out 3).trans rfl, (blk_cell BK109.out 4).trans rfl⟩ (fun hHeld => ?_)
         clear hK K
         refine nA ?_
         refine pA 11 22 (tb 18 28671) HT_ ?_
         refine pA 12 23 (tb 18 32767) HT_ ?_
         refine oA 15 (some 26) (tb 18 65535) HT_ (fun K hK => ?_)
         refine gA Tryd.func13 #[.int .i64 a0_3] ?_
         with_reducible refine (note_Name.calls a0_3 t113 _ A11.out).mono ?_
         rintro e w20 ⟨rfl, hb⟩
         refine ⟨_, rfl, ?_⟩
         replace BK109 := bk1 BK109 hb
         replace HB := hb1 HB hb
         (try clear hb)
         refine hK.out _ _ ⟨(blk_cell BK109.out 0).trans rfl, (blk_cell BK109.out 1).trans rfl, (blk_cell BK109.out 2).trans rfl, (blk_cell BK109.out 3).trans rfl, (blk_cell BK109.out 4).trans rfl⟩ (fun hHeld => ?_)
         clear hK K
         refine nA ?_
         refine pA 16 27 (tb 18 131071) HT_ ?_
         refine pA 17 5 (tb 18 262143) HT_ ?_
         refine done_ (done_of HT_.out (by kernel_rfl)) ?_
         obtain ⟨hcz21_0, hcz21_1, hcz21_2, hcz21_3, hcz21_4, hfz21_0, hfz21_1, hfz21_2, hfz21_3, hfz21_4⟩ := cf5 BK109
         try go_wp2
         go_ret2
         exact ⟨by rfl, by repeat (with_reducible exact HB.out)⟩
        ·by_cases c22 : 1 + a0_4.size ≤ 9223372036854775807
         ·rw [if_pos c22] at H
          have c22b0 := eq_true c22
          have c22b1 : decide (1 + a0_4.size ≤ 9223372036854775807) = true := decide_eq_true c22
          try have c22b2 : (9223372036854775807 < 1 + a0_4.size) = False := eq_false (Nat.not_lt.2 c22)
          by_cases c23 : ((((((a0_0 ++ (⟨#[58]⟩ : ByteArray)) ++ t111) ++ (⟨#[58]⟩ : ByteArray)) ++ t112) ++ (⟨#[58, 32]⟩ : ByteArray)) ++ t113).size + ((⟨#[32]⟩ : ByteArray) ++ a0_4).size ≤ 9223372036854775807
          ·rw [if_pos c23] at H
           have c23b0 := eq_true c23
           have c23b1 : decide (((((((a0_0 ++ (⟨#[58]⟩ : ByteArray)) ++ t111) ++ (⟨#[58]⟩ : ByteArray)) ++ t112) ++ (⟨#[58, 32]⟩ : ByteArray)) ++ t113).size + ((⟨#[32]⟩ : ByteArray) ++ a0_4).size ≤ 9223372036854775807) = true := decide_eq_true c23
           try have c23b2 : (9223372036854775807 < ((((((a0_0 ++ (⟨#[58]⟩ : ByteArray)) ++ t111) ++ (⟨#[58]⟩ : ByteArray)) ++ t112) ++ (⟨#[58, 32]⟩ : ByteArray)) ++ t113).size + ((⟨#[32]⟩ : ByteArray) ++ a0_4).size) = False := eq_false (Nat.not_lt.2 c23)
           try have c23b3 : (9223372036854775807 < a0_0.size + 1 + t111.size + 1 + t112.size + 2 + t113.size + (1 + a0_4.size)) = False := by have h_ := c23b2; simp only [ByteArray.size_append] at h_; exact h_
           replace H := s2 H; obtain ⟨rfl, rfl⟩ := H
           go_enter Tryd.func9, Tryd.ntmps9
           try go_wp2_with (first | (refine boxA HB 1 #[.string a0_0, .int .i64 a0_1, .int .i64 a0_2, .int .i64 a0_3, .string a0_4] 24 ?_; clear HB; intro gb109 w24 BK109 GE109 hg hb HB; clear hb hg; obtain ⟨hcz25_0, hcz25_1, hcz25_2, hcz25_3, hcz25_4, hfz25_0, hfz25_1, hfz25_2, hfz25_3, hfz25_4⟩ := cf5 BK109) | (refine callA (some 7) Tryd.func15 #[.agg #[.string a0_0, .int .i64 a0_1, .int .i64 a0_2, .int .i64 a0_3, .string a0_4]] ?_; (with_reducible refine (note_Check.calls k a0_0 a0_1 a0_2 a0_3 a0_4 t110 _ A2.out).mono ?_); rintro e w26 ⟨rfl, hb⟩; refine ⟨_, rfl, ?_⟩; replace BK109 := bk1 BK109 hb; replace HB := hb1 HB hb; (try clear hb)))
           replace BK109 := bkd BK109
           replace HB := hbd HB
           refine start_ (n := 18) (S := fun w' => w'.cell? ⟨gb109, 0, none⟩ = some (.string a0_0) ∧ w'.cell? ⟨gb109, 1, none⟩ = some (.int .i64 a0_1) ∧ w'.cell? ⟨gb109, 2, none⟩ = some (.int .i64 a0_2) ∧ w'.cell? ⟨gb109, 3, none⟩ = some (.int .i64 a0_3) ∧ w'.cell? ⟨gb109, 4, none⟩ = some (.string a0_4)) (ds := []) (tb 18 0) (by kernel_rfl) rfl (by kernel_rfl) ⟨(blk_cell BK109.out 0).trans rfl, (blk_cell BK109.out 1).trans rfl, (blk_cell BK109.out 2).trans rfl, (blk_cell BK109.out 3).trans rfl, (blk_cell BK109.out 4).trans rfl⟩ (fun hHeld => ?_); refine with_tabW note_Text.tab4 note_Text.bits4 (fun HT_ HW_ => ?_)
           generalize w26.drew = w27 at BK109 HB hHeld ⊢
           refine pA 0 11 (tb 18 1) HT_ ?_
           refine pA 3 14 (tb 18 9) HT_ ?_
           refine pA 8 19 (tb 18 265) HT_ ?_
           refine pA 13 24 (tb 18 8457) HT_ ?_
           refine tA 1 12 (tb 18 8459) HT_ HW_ hHeld ?_
           refine pA 2 13 (tb 18 8463) HT_ ?_
           refine tA 4 15 (tb 18 8479) HT_ HW_ hHeld ?_
           refine tA 9 20 (tb 18 8991) HT_ HW_ hHeld ?_
           refine tA 14 25 (tb 18 25375) HT_ HW_ hHeld ?_
           refine oA 5 (some 16) (tb 18 25407) HT_ (fun K hK => ?_)
           refine gA Tryd.func39 #[.int .i64 a0_1] ?_
           with_reducible refine (strconv_Itoa_all.calls a0_1 t111 _ A5.out ?side90).mono ?_
           (case side90 => exact HG.out.below HB.out)
           rintro e w28 ⟨rfl, hb⟩
           refine ⟨_, rfl, ?_⟩
           replace BK109 := bk1 BK109 hb
           replace HB := hb1 HB hb
           (try clear hb)
           refine hK.out _ _ ⟨(blk_cell BK109.out 0).trans rfl, (blk_cell BK109.out 1).trans rfl, (blk_cell BK109.out 2).trans rfl, (blk_cell BK109.out 3).trans rfl, (blk_cell BK109.out 4).trans rfl⟩ (fun hHeld => ?_)
           clear hK K
           refine nA ?_
           refine pA 6 17 (tb 18 25471) HT_ ?_
           refine pA 7 18 (tb 18 25599) HT_ ?_
           refine oA 10 (some 21) (tb 18 26623) HT_ (fun K hK => ?_)
           refine gA Tryd.func39 #[.int .i64 a0_2] ?_
           with_reducible refine (strconv_Itoa_all.calls a0_2 t112 _ A8.out ?side90).mono ?_
           (case side90 => exact HG.out.below HB.out)
           rintro e w29 ⟨rfl, hb⟩
           refine ⟨_, rfl, ?_⟩
           replace BK109 := bk1 BK109 hb
           replace HB := hb1 HB hb
           (try clear hb)
           refine hK.out _ _ ⟨(blk_cell BK109.out 0).trans rfl, (blk_cell BK109.out 1).trans rfl, (blk_cell BK109.out 2).trans rfl, (blk_cell BK109.out 3).trans rfl, (blk_cell BK109.out 4).trans rfl⟩ (fun hHeld => ?_)
           clear hK K
           refine nA ?_
           refine pA 11 22 (tb 18 28671) HT_ ?_
           refine pA 12 23 (tb 18 32767) HT_ ?_
           refine oA 15 (some 26) (tb 18 65535) HT_ (fun K hK => ?_)
           refine gA Tryd.func13 #[.int .i64 a0_3] ?_
           with_reducible refine (note_Name.calls a0_3 t113 _ A11.out).mono ?_
           rintro e w30 ⟨rfl, hb⟩
           refine ⟨_, rfl, ?_⟩
           replace BK109 := bk1 BK109 hb
           replace HB := hb1 HB hb
           (try clear hb)
           refine hK.out _ _ ⟨(blk_cell BK109.out 0).trans rfl, (blk_cell BK109.out 1).trans rfl, (blk_cell BK109.out 2).trans rfl, (blk_cell BK109.out 3).trans rfl, (blk_cell BK109.out 4).trans rfl⟩ (fun hHeld => ?_)
           clear hK K
           refine nA ?_
           refine pA 16 27 (tb 18 131071) HT_ ?_
           refine pA 17 5 (tb 18 262143) HT_ ?_
           refine done_ (done_of HT_.out (by kernel_rfl)) ?_
           obtain ⟨hcz31_0, hcz31_1, hcz31_2, hcz31_3, hcz31_4, hfz31_0, hfz31_1, hfz31_2, hfz31_3, hfz31_4⟩ := cf5 BK109
           try go_wp2
           go_ret2
           exact ⟨by rfl, by repeat (with_reducible exact HB.out)⟩
          ·rw [if_neg c23] at H
           exact absurd H (by simp)
         ·rw [if_neg c22] at H
          exact absurd H (by simp)
       ·rw [if_neg c12] at H
        exact absurd H (by simp)
      ·rw [if_neg c10] at H
       exact absurd H (by simp)
     ·rw [if_neg c9] at H
      exact absurd H (by simp)
    ·rw [if_neg c7] at H
     exact absurd H (by simp)
   ·rw [if_neg c6] at H
    exact absurd H (by simp)
  ·rw [if_neg c4] at H
   exact absurd H (by simp)
 ·replace H := s2 H; obtain ⟨rfl, rfl⟩ := H
  go_enter Tryd.func9, Tryd.ntmps9
  go_wp2_with (first | (refine boxA HB 1 #[.string a0_0, .int .i64 a0_1, .int .i64 a0_2, .int .i64 a0_3, .string a0_4] 24 ?_; clear HB; intro gb109 w32 BK109 GE109 hg hb HB; clear hb hg; obtain ⟨hcz33_0, hcz33_1, hcz33_2, hcz33_3, hcz33_4, hfz33_0, hfz33_1, hfz33_2, hfz33_3, hfz33_4⟩ := cf5 BK109) | (refine callA (some 7) Tryd.func15 #[.agg #[.string a0_0, .int .i64 a0_1, .int .i64 a0_2, .int .i64 a0_3, .string a0_4]] ?_; (with_reducible refine (note_Check.calls k a0_0 a0_1 a0_2 a0_3 a0_4 t110 _ A2.out).mono ?_); rintro e w34 ⟨rfl, hb⟩; refine ⟨_, rfl, ?_⟩; replace BK109 := bk1 BK109 hb; replace HB := hb1 HB hb; (try clear hb)))
  go_ret2
  exact ⟨by rfl, by repeat (with_reducible exact HB.out)⟩
end Go.Proofs.YtlamgdibnnmbmaaDoor.PChk
end
section
namespace Go.Proofs.YtlamgdibnnmbmaaDoor.PChk
open Go.RowKit Go.Proofs.YtlamgdibnnmbmaaDoorW.PrintWords Go.Proofs.YtlamgdibnnmbmaaDoorW.PrintLast Go.Proofs.YtlamgdibnnmbmaaDoorW.PrintMore
attribute [local go_sem] max2_int min2_int max_two min_two max_three min_three max_four min_four
set_option linter.unusedVariables false
set_option linter.unusedSimpArgs false
def masklaw1_told.f (k : Nat)  : Option (Bool) := (note_Text.f k (⟨#[97, 46, 109, 119]⟩ : ByteArray) 3 7 7 (⟨#[99, 110, 116]⟩ : ByteArray)).bind fun bt114 => (if bt114.2 = 0 then (some (bt114.1.toList == ([97, 46, 109, 119, 58, 51, 58, 55, 58, 32, 117, 110, 107, 110, 111, 119, 110, 32, 99, 110, 116] : List UInt8))) else (some false))
theorem masklaw1_told.mono : ∀ k, LeO (masklaw1_told.f k ) (masklaw1_told.f (k + 1) ) := by
 intro  k
 unfold masklaw1_told.f
 repeat' first | with_reducible exact note_Text.mono _ _ _ _ _ _ | with_reducible exact LeO.refl _ | with_reducible exact LeO.none _ | with_reducible refine LeO.ite ?_ ?_ | with_reducible refine LeO.bind ?_ (fun _ => ?_)
set_option maxHeartbeats 8000000 in
set_option maxRecDepth 100000 in
theorem masklaw1_told.calls (k : Nat)  (r : Bool) (w : World) (h : masklaw1_told.f k  = some r) (hG : Glob w) :
  Calls Tryd.prog 10 #[] w fun e w' => e = .returned (.bool r) ∧ Below w.heap.size w w' := by
 have HG := Aside0.mk hG
 clear hG
 have hu24 := Tryd.underlying24
 have HB := Aside0.mk (Below.refl w.heap.size w)
 have H := h
 clear h
 unfold masklaw1_told.f at H
 replace H := bN H; obtain ⟨⟨t114, t115⟩, A1, H⟩ := H; dsimp only at H
 replace H := iE H; rcases H with ⟨c2b0, c2b1, H⟩ | ⟨c2, c2b0, c2b1, H⟩
 ·obtain rfl := Option.some.inj H
  go_enter Tryd.func10, Tryd.ntmps10
  go_wp2_with ((refine callA (some 5) Tryd.func9 #[.agg #[.string (⟨#[97, 46, 109, 119]⟩ : ByteArray), .int .i64 3, .int .i64 7, .int .i64 7, .string (⟨#[99, 110, 116]⟩ : ByteArray)]] ?_; (with_reducible refine (note_Text.calls k (⟨#[97, 46, 109, 119]⟩ : ByteArray) 3 7 7 (⟨#[99, 110, 116]⟩ : ByteArray) t114 t115 _ A1.out ?side90).mono ?_); (case side90 => exact HG.out.below HB.out); rintro e w3 ⟨rfl, hb⟩; refine ⟨_, rfl, ?_⟩; replace HB := hb1 HB hb; (try clear hb)))
  go_ret
  exact ⟨by rfl, by repeat (with_reducible exact HB.out)⟩
 ·obtain rfl := Option.some.inj H
  go_enter Tryd.func10, Tryd.ntmps10
  go_wp2_with ((refine callA (some 5) Tryd.func9 #[.agg #[.string (⟨#[97, 46, 109, 119]⟩ : ByteArray), .int .i64 3, .int .i64 7, .int .i64 7, .string (⟨#[99, 110, 116]⟩ : ByteArray)]] ?_; (with_reducible refine (note_Text.calls k (⟨#[97, 46, 109, 119]⟩ : ByteArray) 3 7 7 (⟨#[99, 110, 116]⟩ : ByteArray) t114 t115 _ A1.out ?side90).mono ?_); (case side90 => exact HG.out.below HB.out); rintro e w4 ⟨rfl, hb⟩; refine ⟨_, rfl, ?_⟩; replace HB := hb1 HB hb; (try clear hb)))
  go_ret
  exact ⟨by rfl, by repeat (with_reducible exact HB.out)⟩
end Go.Proofs.YtlamgdibnnmbmaaDoor.PChk
end
section
namespace Go.Proofs.YtlamgdibnnmbmaaDoor.PChk
open Go.RowKit Go.Proofs.YtlamgdibnnmbmaaDoorW.PrintWords Go.Proofs.YtlamgdibnnmbmaaDoorW.PrintLast Go.Proofs.YtlamgdibnnmbmaaDoorW.PrintMore
attribute [local go_sem] max2_int min2_int max_two min_two max_three min_three max_four min_four
set_option linter.unusedVariables false
set_option linter.unusedSimpArgs false
mutual
def maskref1_NoteWord.l0 : Nat → Int → Int → Int → Int → Option (ByteArray)
 | 0, _, _, _, _ => none
 | k + 1, x0, x3, x4, x5 => if x5 ≤ 130 then (if x5 < 130 then (if 0 ≤ x5 then (maskref1_NoteWord.j1 k x0 x3 x4 x5 ((bt (⟨#[32, 97, 114, 103, 117, 109, 101, 110, 116, 32, 114, 97, 110, 103, 101, 32, 108, 97, 114, 103, 101, 32, 102, 111, 114, 109, 32, 111, 114, 100, 101, 114, 32, 116, 119, 105, 99, 101, 32, 117, 110, 107, 110, 111, 119, 110, 32, 116, 121, 112, 101, 32, 110, 97, 109, 101, 32, 115, 121, 110, 116, 97, 120, 32, 115, 104, 111, 114, 116, 32, 115, 117, 109, 32, 115, 116, 97, 116, 101, 32, 102, 117, 108, 108, 32, 99, 108, 97, 115, 104, 32, 108, 111, 115, 116, 32, 108, 111, 111, 112, 32, 111, 112, 101, 110, 32, 99, 111, 110, 115, 116, 97, 110, 116, 32, 119, 105, 100, 116, 104, 32, 116, 105, 109, 101, 32, 114, 117, 108, 101]⟩ : ByteArray) x5) != 32)) else (none)) else (maskref1_NoteWord.j1 k x0 x3 x4 x5 false)) else (some (⟨#[]⟩ : ByteArray))
def maskref1_NoteWord.j1 : Nat → Int → Int → Int → Int → Bool → Option (ByteArray)
 | 0, _, _, _, _, _ => none
 | k + 1, x0, x3, x4, x5, x16 => if x16 = true then (maskref1_NoteWord.l0 k x0 x3 x4 (wrap64 (x5 + 1))) else (if x3 = x0 then (if 0 ≤ x4 then (if x4 ≤ x5 then (if x5 ≤ 130 then (some ((⟨#[32, 97, 114, 103, 117, 109, 101, 110, 116, 32, 114, 97, 110, 103, 101, 32, 108, 97, 114, 103, 101, 32, 102, 111, 114, 109, 32, 111, 114, 100, 101, 114, 32, 116, 119, 105, 99, 101, 32, 117, 110, 107, 110, 111, 119, 110, 32, 116, 121, 112, 101, 32, 110, 97, 109, 101, 32, 115, 121, 110, 116, 97, 120, 32, 115, 104, 111, 114, 116, 32, 115, 117, 109, 32, 115, 116, 97, 116, 101, 32, 102, 117, 108, 108, 32, 99, 108, 97, 115, 104, 32, 108, 111, 115, 116, 32, 108, 111, 111, 112, 32, 111, 112, 101, 110, 32, 99, 111, 110, 115, 116, 97, 110, 116, 32, 119, 105, 100, 116, 104, 32, 116, 105, 109, 101, 32, 114, 117, 108, 101]⟩ : ByteArray).extract (x4 : Int).toNat (x5 : Int).toNat)) else (none)) else (none)) else (none)) else (maskref1_NoteWord.l0 k x0 (wrap64 (x3 + 1)) (wrap64 (x5 + 1)) (wrap64 (x5 + 1))))
end
def maskref1_NoteWord.f (k : Nat) (a0 : Int) : Option (ByteArray) := maskref1_NoteWord.l0 k a0 0 0 0
set_option maxHeartbeats 8000000 in
set_option maxRecDepth 100000 in
theorem maskref1_NoteWord.calls (k : Nat) (a0 : Int) (r : ByteArray) (w : World) (h : maskref1_NoteWord.f k a0 = some r) :
  Calls Tryd.prog 14 #[.int .i64 a0] w fun e w' => e = .returned (.string r) ∧ Drawn0 w w' := by
 have H := h
 clear h
 unfold maskref1_NoteWord.f at H
 have H' := Aside0.mk H
 clear H
 go_enter Tryd.func14, Tryd.ntmps14
 go_wp2
 go_loopg [3, 4, 5] k (fun kq v3 v4 v5 w' => ∃ (x3_1 : Int) (x4_1 : Int) (x5_1 : Int), v3 = .int .i64 x3_1 ∧ v4 = .int .i64 x4_1 ∧ v5 = .int .i64 x5_1 ∧ Aside0 (maskref1_NoteWord.l0 kq a0 x3_1 x4_1 x5_1 = some r) ∧ Aside0 (kq ≤ k) ∧ Drawn0 w w')
 case atStart => exact ⟨(0), (0), (0), (by rfl), (by rfl), (by rfl), H', ⟨Nat.le_refl _⟩, by repeat (exact Drawn0.refl _)⟩
 case round =>
  clear H'
  try clear c1
  obtain ⟨x3_1, x4_1, x5_1, rfl, rfl, rfl, HA, HK1, ⟨m1, rfl⟩⟩ := hrel
  cases gk with
  | zero => exact absurd HA.out (by simp [maskref1_NoteWord.l0])
  | succ k1 =>
   have H := HA.out
   clear HA
   simp only [maskref1_NoteWord.l0] at H
   replace H := iD H; rcases H with ⟨c2b0, H⟩ | ⟨c2b0, H⟩
   ·have HC3 := Aside0.mk H
    clear H
    go_upto_region 6 with (fail)
    go_cut [16] (fun v16 wc => ∃ (kq : Nat) (x16_2 : Bool), v16 = .bool x16_2 ∧ Aside0 (maskref1_NoteWord.j1 kq a0 x3_1 x4_1 x5_1 x16_2 = some r) ∧ Aside0 (kq ≤ k1) ∧ Drawn0 w wc)
    case first =>
     have H := HC3.out
     clear HC3
     replace H := iD H; rcases H with ⟨c4b0, H⟩ | ⟨c4b0, H⟩
     ·(skip)
      replace H := iN H; obtain ⟨c5b0, H⟩ := H
      have H' := Aside0.mk H
      clear H
      have p6 : 0 ≤ (x5_1 : Int) := of_decide_eq_true (by (with_reducible assumption))
      have q6 : x5_1 < (130 : Int) := of_decide_eq_true (by (with_reducible assumption))
      have hx6 := bt_at (⟨#[32, 97, 114, 103, 117, 109, 101, 110, 116, 32, 114, 97, 110, 103, 101, 32, 108, 97, 114, 103, 101, 32, 102, 111, 114, 109, 32, 111, 114, 100, 101, 114, 32, 116, 119, 105, 99, 101, 32, 117, 110, 107, 110, 111, 119, 110, 32, 116, 121, 112, 101, 32, 110, 97, 109, 101, 32, 115, 121, 110, 116, 97, 120, 32, 115, 104, 111, 114, 116, 32, 115, 117, 109, 32, 115, 116, 97, 116, 101, 32, 102, 117, 108, 108, 32, 99, 108, 97, 115, 104, 32, 108, 111, 115, 116, 32, 108, 111, 111, 112, 32, 111, 112, 101, 110, 32, 99, 111, 110, 115, 116, 97, 110, 116, 32, 119, 105, 100, 116, 104, 32, 116, 105, 109, 101, 32, 114, 117, 108, 101]⟩ : ByteArray) x5_1
      replace p6 := eq_true p6
      replace q6 := eq_true q6
      go_wp2
      go_meet
      case rel => exact ⟨_, (((bt (⟨#[32, 97, 114, 103, 117, 109, 101, 110, 116, 32, 114, 97, 110, 103, 101, 32, 108, 97, 114, 103, 101, 32, 102, 111, 114, 109, 32, 111, 114, 100, 101, 114, 32, 116, 119, 105, 99, 101, 32, 117, 110, 107, 110, 111, 119, 110, 32, 116, 121, 112, 101, 32, 110, 97, 109, 101, 32, 115, 121, 110, 116, 97, 120, 32, 115, 104, 111, 114, 116, 32, 115, 117, 109, 32, 115, 116, 97, 116, 101, 32, 102, 117, 108, 108, 32, 99, 108, 97, 115, 104, 32, 108, 111, 115, 116, 32, 108, 111, 111, 112, 32, 111, 112, 101, 110, 32, 99, 111, 110, 115, 116, 97, 110, 116, 32, 119, 105, 100, 116, 104, 32, 116, 105, 109, 101, 32, 114, 117, 108, 101]⟩ : ByteArray) x5_1) != 32)), (by rfl), H', ⟨by have := HK1.out; omega⟩, by repeat (first | exact Drawn0.refl _ | apply Drawn0.step)⟩
     ·(skip)
      have H' := Aside0.mk H
      clear H
      go_wp2
      go_meet
      case rel => exact ⟨_, (false), (by rfl), H', ⟨by have := HK1.out; omega⟩, by repeat (first | exact Drawn0.refl _ | apply Drawn0.step)⟩
    case rest =>
     clear HC3
     (try clear c2b0)
     obtain ⟨kq, x16_2, rfl, HA, HJ2, ⟨mc2, rfl⟩⟩ := hcut
     cases kq with
     | zero => exact absurd HA.out (by simp [maskref1_NoteWord.j1])
     | succ kj2 =>
      have H := HA.out
      clear HA
      simp only [maskref1_NoteWord.j1] at H
      replace H := iB H; rcases H with ⟨rfl, H⟩ | ⟨rfl, H⟩
      ·have H' := Aside0.mk H
       clear H
       go_wp2
       go_roundg kj2
       case measure => have := HK1.out; have := HJ2.out; omega
       case rel => exact ⟨(x3_1), (x4_1), (wrap64 (x5_1 + 1)), (by rfl), (by rfl), (by rfl), H', ⟨by have := HK1.out; have := HJ2.out; omega⟩, by repeat (first | exact Drawn0.refl _ | apply Drawn0.step)⟩
      ·replace H := iE H; rcases H with ⟨c8b0, c8b1, H⟩ | ⟨c8, c8b0, c8b1, H⟩
       ·by_cases c9 : 0 ≤ x4_1
        ·rw [if_pos c9] at H
         have c9b0 := eq_true c9
         have c9b1 : decide (0 ≤ x4_1) = true := decide_eq_true c9
         clear c9
         by_cases c10 : x4_1 ≤ x5_1
         ·rw [if_pos c10] at H
          have c10b0 := eq_true c10
          have c10b1 : decide (x4_1 ≤ x5_1) = true := decide_eq_true c10
          clear c10
          by_cases c11 : x5_1 ≤ 130
          ·rw [if_pos c11] at H
           have c11b0 := eq_true c11
           have c11b1 : decide (x5_1 ≤ 130) = true := decide_eq_true c11
           clear c11
           obtain rfl := Option.some.inj H
           go_wp2
           go_ret
           exact ⟨by rfl, by repeat (first | exact Drawn0.refl _ | apply Drawn0.step)⟩
          ·rw [if_neg c11] at H
           exact absurd H (by simp)
         ·rw [if_neg c10] at H
          exact absurd H (by simp)
        ·rw [if_neg c9] at H
         exact absurd H (by simp)
       ·have H' := Aside0.mk H
        clear H
        go_wp2
        go_roundg kj2
        case measure => have := HK1.out; have := HJ2.out; omega
        case rel => exact ⟨(wrap64 (x3_1 + 1)), (wrap64 (x5_1 + 1)), (wrap64 (x5_1 + 1)), (by rfl), (by rfl), (by rfl), H', ⟨by have := HK1.out; have := HJ2.out; omega⟩, by repeat (first | exact Drawn0.refl _ | apply Drawn0.step)⟩
   ·obtain rfl := Option.some.inj H
    go_wp2
    go_ret
    exact ⟨by rfl, by repeat (first | exact Drawn0.refl _ | apply Drawn0.step)⟩
end Go.Proofs.YtlamgdibnnmbmaaDoor.PChk
end
section
namespace Go.Proofs.YtlamgdibnnmbmaaDoor.PChk
open Go.RowKit Go.Proofs.YtlamgdibnnmbmaaDoorW.PrintWords Go.Proofs.YtlamgdibnnmbmaaDoorW.PrintLast Go.Proofs.YtlamgdibnnmbmaaDoorW.PrintMore
attribute [local go_sem] max2_int min2_int max_two min_two max_three min_three max_four min_four
set_option linter.unusedVariables false
set_option linter.unusedSimpArgs false
def maskref1_decimal.f : Nat → Int → Option (ByteArray)
 | 0, _ => none
 | k + 1, a0 => (some (([(wrap64 (48 + (Int.tmod a0 10))) % 256] : List Int) : List Int)).bind fun y116 => (if a0 < 10 then (some (strOfNums y116)) else ((maskref1_decimal.f k (wrap64 (Int.tdiv a0 10))).bind fun t119 => (if t119.size + (strOfNums y116).size ≤ 9223372036854775807 then (some (t119 ++ (strOfNums y116))) else (none))))
set_option maxHeartbeats 8000000 in
set_option maxRecDepth 100000 in
theorem maskref1_decimal.calls (k : Nat) : ∀ (a0 : Int) (r : ByteArray) (w : World) (h : maskref1_decimal.f k a0 = some r),
  Calls Tryd.prog 41 #[.int .i64 a0] w fun e w' => e = .returned (.string r) ∧ Below w.heap.size w w' := by
 induction k using Nat.strongRecOn with
 | _ k ih =>
 intro a0 r w h
 cases k with
 | zero => exact absurd h (by simp [maskref1_decimal.f])
 | succ k =>
 simp only [maskref1_decimal.f] at h
 have HB := Aside0.mk (Below.refl w.heap.size w)
 have H := h
 clear h
 obtain ⟨y116, hy116⟩ : ∃ y_ : List Int, y_ = (([(wrap64 (48 + (Int.tmod a0 10))) % 256] : List Int)) := ⟨_, rfl⟩
 replace H : (if a0 < 10 then (some (strOfNums y116)) else ((maskref1_decimal.f k (wrap64 (Int.tdiv a0 10))).bind fun t119 => (if t119.size + (strOfNums y116).size ≤ 9223372036854775807 then (some (t119 ++ (strOfNums y116))) else (none)))) = some r := by (have H2_ := (Option.bind_some _ _).symm.trans H; rw [hy116]; with_reducible exact H2_)
 have Ny116 := Aside0.mk hy116
 clear hy116
 replace H := iD H; rcases H with ⟨c2b0, H⟩ | ⟨c2b0, H⟩
 ·obtain rfl := Option.some.inj H
  go_enter Tryd.func41, Tryd.ntmps41
  go_wp2_with (((with_reducible refine gate_dst (N := 8) rfl ?_); refine Kd.R_lit (Kd.int .u8) _ 5 ?hg (N := 8) ?hd (xs := ([(wrap64 (48 + (Int.tmod a0 10))) % 256] : List Int)) (inner := [.int .u8 ((wrap64 (48 + (Int.tmod a0 10))) % 256)]) (ok := fun _ => True) (okp := fun _ => True) ?hr ?hp (fun _ hk => hk) trivial (Below.refl _ _) (Nat.le_refl _) (by simp) ?_; (case hd => rfl); (case hg => rfl); (case hr => (go_simp; done)); (case hp => exact (Reps.one (show Kd.M (Kd.int .u8) _ _ _ ((wrap64 (48 + (Int.tmod a0 10))) % 256) [.int .u8 ((wrap64 (48 + (Int.tmod a0 10))) % 256)] from rfl) (Reps.none _ _))); intro v117 w3 ho4 hb hg_ hnew_; clear hg_ hnew_; (rw [← Ny116.out] at ho4); have HO118 := Aside0.mk (Kd.R_lower ho4 (below_size HB.out)); replace HB := hb1 HB hb; clear hb ho4; have hcv5 := own_string (P := Tryd.prog) Tryd.underlying75 Tryd.underlying5 Tryd.underlying9 (Kd.own_of_R HO118.out)))
  go_ret
  exact ⟨by rfl, by repeat (with_reducible exact HB.out)⟩
 ·replace H := bN H; obtain ⟨t119, A6, H⟩ := H
  by_cases c7 : t119.size + (strOfNums y116).size ≤ 9223372036854775807
  ·rw [if_pos c7] at H
   have c7b0 := eq_true c7
   have c7b1 : decide (t119.size + (strOfNums y116).size ≤ 9223372036854775807) = true := decide_eq_true c7
   try have c7b2 : (9223372036854775807 < t119.size + (strOfNums y116).size) = False := eq_false (Nat.not_lt.2 c7)
   obtain rfl := Option.some.inj H
   go_enter Tryd.func41, Tryd.ntmps41
   go_wp2_with (first | ((with_reducible refine gate_dst (N := 8) rfl ?_); refine Kd.R_lit (Kd.int .u8) _ 5 ?hg (N := 8) ?hd (xs := ([(wrap64 (48 + (Int.tmod a0 10))) % 256] : List Int)) (inner := [.int .u8 ((wrap64 (48 + (Int.tmod a0 10))) % 256)]) (ok := fun _ => True) (okp := fun _ => True) ?hr ?hp (fun _ hk => hk) trivial (Below.refl _ _) (Nat.le_refl _) (by simp) ?_; (case hd => rfl); (case hg => rfl); (case hr => (go_simp; done)); (case hp => exact (Reps.one (show Kd.M (Kd.int .u8) _ _ _ ((wrap64 (48 + (Int.tmod a0 10))) % 256) [.int .u8 ((wrap64 (48 + (Int.tmod a0 10))) % 256)] from rfl) (Reps.none _ _))); intro v117 w8 ho9 hb hg_ hnew_; clear hg_ hnew_; (rw [← Ny116.out] at ho9); have HO118 := Aside0.mk (Kd.R_lower ho9 (below_size HB.out)); replace HB := hb1 HB hb; clear hb ho9; have hcv10 := own_string (P := Tryd.prog) Tryd.underlying75 Tryd.underlying5 Tryd.underlying9 (Kd.own_of_R HO118.out)) | (refine callA (some 15) Tryd.func41 #[.int .i64 (wrap64 (Int.tdiv a0 10))] ?_; (with_reducible refine (ih k (by omega) (wrap64 (Int.tdiv a0 10)) t119 _ A6.out).mono ?_); rintro e w11 ⟨rfl, hb⟩; refine ⟨_, rfl, ?_⟩; replace HO118 := Kd.rb1 HO118 hb; replace HB := hb1 HB hb; (try clear hb)))
   go_ret
   exact ⟨by rfl, by repeat (with_reducible exact HB.out)⟩
  ·rw [if_neg c7] at H
   exact absurd H (by simp)
end Go.Proofs.YtlamgdibnnmbmaaDoor.PChk
end
section
namespace Go.Proofs.YtlamgdibnnmbmaaDoor.PChk
open Go.RowKit Go.Proofs.YtlamgdibnnmbmaaDoorW.PrintWords Go.Proofs.YtlamgdibnnmbmaaDoorW.PrintLast Go.Proofs.YtlamgdibnnmbmaaDoorW.PrintMore
attribute [local go_sem] max2_int min2_int max_two min_two max_three min_three max_four min_four
set_option linter.unusedVariables false
set_option linter.unusedSimpArgs false
def maskref1_NoteText.f (k : Nat) (a0_0 : ByteArray) (a0_1 : Int) (a0_2 : Int) (a0_3 : Int) (a0_4 : ByteArray) : Option (ByteArray) := if a0_0.size + 1 ≤ 9223372036854775807 then ((maskref1_decimal.f k a0_1).bind fun t121 => (if (a0_0 ++ (⟨#[58]⟩ : ByteArray)).size + t121.size ≤ 9223372036854775807 then (if ((a0_0 ++ (⟨#[58]⟩ : ByteArray)) ++ t121).size + 1 ≤ 9223372036854775807 then ((maskref1_decimal.f k a0_2).bind fun t122 => (if (((a0_0 ++ (⟨#[58]⟩ : ByteArray)) ++ t121) ++ (⟨#[58]⟩ : ByteArray)).size + t122.size ≤ 9223372036854775807 then (if ((((a0_0 ++ (⟨#[58]⟩ : ByteArray)) ++ t121) ++ (⟨#[58]⟩ : ByteArray)) ++ t122).size + 2 ≤ 9223372036854775807 then ((maskref1_NoteWord.f k a0_3).bind fun t123 => (if (((((a0_0 ++ (⟨#[58]⟩ : ByteArray)) ++ t121) ++ (⟨#[58]⟩ : ByteArray)) ++ t122) ++ (⟨#[58, 32]⟩ : ByteArray)).size + t123.size ≤ 9223372036854775807 then (if a0_4.toList = ([] : List UInt8) then (some ((((((a0_0 ++ (⟨#[58]⟩ : ByteArray)) ++ t121) ++ (⟨#[58]⟩ : ByteArray)) ++ t122) ++ (⟨#[58, 32]⟩ : ByteArray)) ++ t123)) else (if 1 + a0_4.size ≤ 9223372036854775807 then (if ((((((a0_0 ++ (⟨#[58]⟩ : ByteArray)) ++ t121) ++ (⟨#[58]⟩ : ByteArray)) ++ t122) ++ (⟨#[58, 32]⟩ : ByteArray)) ++ t123).size + ((⟨#[32]⟩ : ByteArray) ++ a0_4).size ≤ 9223372036854775807 then (some (((((((a0_0 ++ (⟨#[58]⟩ : ByteArray)) ++ t121) ++ (⟨#[58]⟩ : ByteArray)) ++ t122) ++ (⟨#[58, 32]⟩ : ByteArray)) ++ t123) ++ ((⟨#[32]⟩ : ByteArray) ++ a0_4))) else (none)) else (none))) else (none))) else (none)) else (none))) else (none)) else (none))) else (none)
def maskref1_NoteText.T1 : Bool × List (List Nat × List Nat) := (true, [([], []), ([0], [0]), ([1], [1]), ([], []), ([3], [3]), ([4], [4]), ([2, 5], [2, 5]), ([6], [6]), ([], []), ([8], [8]), ([9, 5], [9]), ([7, 10], [7, 10]), ([11], [11]), ([], []), ([13], [13]), ([14, 10], [14]), ([12, 15], [12, 15]), ([16, 15, 0, 1, 2, 3, 4, 5, 6, 7, 8, 9, 10, 11, 12, 13, 14, 15, 16], [16])])
def maskref1_NoteText.B1 : List Nat := [0, 1, 3, 0, 8, 24, 63, 127, 0, 256, 824, 2047, 4095, 0, 8192, 26424, 65535, 131071]
theorem maskref1_NoteText.tab1 : rtab .any (opsOf Tryd.f16 1) = maskref1_NoteText.T1 := by kernel_rfl
theorem maskref1_NoteText.bits1 : waitsOk maskref1_NoteText.T1.2 maskref1_NoteText.B1 = true := by kernel_rfl
set_option maxHeartbeats 8000000 in
set_option maxRecDepth 100000 in
theorem maskref1_NoteText.calls (k : Nat) (a0_0 : ByteArray) (a0_1 : Int) (a0_2 : Int) (a0_3 : Int) (a0_4 : ByteArray) (r : ByteArray) (w : World) (h : maskref1_NoteText.f k a0_0 a0_1 a0_2 a0_3 a0_4 = some r) :
  Calls Tryd.prog 16 #[.agg #[.string a0_0, .int .i64 a0_1, .int .i64 a0_2, .int .i64 a0_3, .string a0_4]] w fun e w' => e = .returned (.string r) ∧ Below w.heap.size w w' := by
 have hu24 := Tryd.underlying24
 have HB := Aside0.mk (Below.refl w.heap.size w)
 have H := h
 clear h
 unfold maskref1_NoteText.f at H
 by_cases c2 : a0_0.size + 1 ≤ 9223372036854775807
 ·rw [if_pos c2] at H
  have c2b0 := eq_true c2
  have c2b1 : decide (a0_0.size + 1 ≤ 9223372036854775807) = true := decide_eq_true c2
  try have c2b2 : (9223372036854775807 < a0_0.size + 1) = False := eq_false (Nat.not_lt.2 c2)
  replace H := bN H; obtain ⟨t121, A3, H⟩ := H
  by_cases c4 : (a0_0 ++ (⟨#[58]⟩ : ByteArray)).size + t121.size ≤ 9223372036854775807
  ·rw [if_pos c4] at H
   have c4b0 := eq_true c4
   have c4b1 : decide ((a0_0 ++ (⟨#[58]⟩ : ByteArray)).size + t121.size ≤ 9223372036854775807) = true := decide_eq_true c4
   try have c4b2 : (9223372036854775807 < (a0_0 ++ (⟨#[58]⟩ : ByteArray)).size + t121.size) = False := eq_false (Nat.not_lt.2 c4)
   try have c4b3 : (9223372036854775807 < a0_0.size + 1 + t121.size) = False := by have h_ := c4b2; simp only [ByteArray.size_append] at h_; exact h_
   by_cases c5 : ((a0_0 ++ (⟨#[58]⟩ : ByteArray)) ++ t121).size + 1 ≤ 9223372036854775807
   ·rw [if_pos c5] at H
    have c5b0 := eq_true c5
    have c5b1 : decide (((a0_0 ++ (⟨#[58]⟩ : ByteArray)) ++ t121).size + 1 ≤ 9223372036854775807) = true := decide_eq_true c5
    try have c5b2 : (9223372036854775807 < ((a0_0 ++ (⟨#[58]⟩ : ByteArray)) ++ t121).size + 1) = False := eq_false (Nat.not_lt.2 c5)
    try have c5b3 : (9223372036854775807 < a0_0.size + 1 + t121.size + 1) = False := by have h_ := c5b2; simp only [ByteArray.size_append] at h_; exact h_
    replace H := bN H; obtain ⟨t122, A6, H⟩ := H
    by_cases c7 : (((a0_0 ++ (⟨#[58]⟩ : ByteArray)) ++ t121) ++ (⟨#[58]⟩ : ByteArray)).size + t122.size ≤ 9223372036854775807
    ·rw [if_pos c7] at H
     have c7b0 := eq_true c7
     have c7b1 : decide ((((a0_0 ++ (⟨#[58]⟩ : ByteArray)) ++ t121) ++ (⟨#[58]⟩ : ByteArray)).size + t122.size ≤ 9223372036854775807) = true := decide_eq_true c7
     try have c7b2 : (9223372036854775807 < (((a0_0 ++ (⟨#[58]⟩ : ByteArray)) ++ t121) ++ (⟨#[58]⟩ : ByteArray)).size + t122.size) = False := eq_false (Nat.not_lt.2 c7)
     try have c7b3 : (9223372036854775807 < a0_0.size + 1 + t121.size + 1 + t122.size) = False := by have h_ := c7b2; simp only [ByteArray.size_append] at h_; exact h_
     by_cases c8 : ((((a0_0 ++ (⟨#[58]⟩ : ByteArray)) ++ t121) ++ (⟨#[58]⟩ : ByteArray)) ++ t122).size + 2 ≤ 9223372036854775807
     ·rw [if_pos c8] at H
      have c8b0 := eq_true c8
      have c8b1 : decide (((((a0_0 ++ (⟨#[58]⟩ : ByteArray)) ++ t121) ++ (⟨#[58]⟩ : ByteArray)) ++ t122).size + 2 ≤ 9223372036854775807) = true := decide_eq_true c8
      try have c8b2 : (9223372036854775807 < ((((a0_0 ++ (⟨#[58]⟩ : ByteArray)) ++ t121) ++ (⟨#[58]⟩ : ByteArray)) ++ t122).size + 2) = False := eq_false (Nat.not_lt.2 c8)
      try have c8b3 : (9223372036854775807 < a0_0.size + 1 + t121.size + 1 + t122.size + 2) = False := by have h_ := c8b2; simp only [ByteArray.size_append] at h_; exact h_
      replace H := bN H; obtain ⟨t123, A9, H⟩ := H
      by_cases c10 : (((((a0_0 ++ (⟨#[58]⟩ : ByteArray)) ++ t121) ++ (⟨#[58]⟩ : ByteArray)) ++ t122) ++ (⟨#[58, 32]⟩ : ByteArray)).size + t123.size ≤ 9223372036854775807
      ·rw [if_pos c10] at H
       have c10b0 := eq_true c10
       have c10b1 : decide ((((((a0_0 ++ (⟨#[58]⟩ : ByteArray)) ++ t121) ++ (⟨#[58]⟩ : ByteArray)) ++ t122) ++ (⟨#[58, 32]⟩ : ByteArray)).size + t123.size ≤ 9223372036854775807) = true := decide_eq_true c10
       try have c10b2 : (9223372036854775807 < (((((a0_0 ++ (⟨#[58]⟩ : ByteArray)) ++ t121) ++ (⟨#[58]⟩ : ByteArray)) ++ t122) ++ (⟨#[58, 32]⟩ : ByteArray)).size + t123.size) = False := eq_false (Nat.not_lt.2 c10)
       try have c10b3 : (9223372036854775807 < a0_0.size + 1 + t121.size + 1 + t122.size + 2 + t123.size) = False := by have h_ := c10b2; simp only [ByteArray.size_append] at h_; exact h_
       replace H := iE H; rcases H with ⟨c11b0, c11b1, H⟩ | ⟨c11, c11b0, c11b1, H⟩
       ·obtain rfl := Option.some.inj H
        go_enter Tryd.func16, Tryd.ntmps16
        try go_wp2_with ((refine boxA HB 1 #[.string a0_0, .int .i64 a0_1, .int .i64 a0_2, .int .i64 a0_3, .string a0_4] 24 ?_; clear HB; intro gb120 w12 BK120 GE120 hg hb HB; clear hb hg))
        replace BK120 := bkd BK120
        replace HB := hbd HB
        refine start_ (n := 18) (S := fun w' => w'.cell? ⟨gb120, 0, none⟩ = some (.string a0_0) ∧ w'.cell? ⟨gb120, 1, none⟩ = some (.int .i64 a0_1) ∧ w'.cell? ⟨gb120, 2, none⟩ = some (.int .i64 a0_2) ∧ w'.cell? ⟨gb120, 3, none⟩ = some (.int .i64 a0_3) ∧ w'.cell? ⟨gb120, 4, none⟩ = some (.string a0_4)) (ds := []) (tb 18 0) (by kernel_rfl) rfl (by kernel_rfl) ⟨(blk_cell BK120.out 0).trans rfl, (blk_cell BK120.out 1).trans rfl, (blk_cell BK120.out 2).trans rfl, (blk_cell BK120.out 3).trans rfl, (blk_cell BK120.out 4).trans rfl⟩ (fun hHeld => ?_); refine with_tabW maskref1_NoteText.tab1 maskref1_NoteText.bits1 (fun HT_ HW_ => ?_)
        generalize w12.drew = w13 at BK120 HB hHeld ⊢
        refine pA 0 4 (tb 18 1) HT_ ?_
        refine pA 3 7 (tb 18 9) HT_ ?_
        refine pA 8 12 (tb 18 265) HT_ ?_
        refine pA 13 17 (tb 18 8457) HT_ ?_
        refine tA 1 5 (tb 18 8459) HT_ HW_ hHeld ?_
        refine pA 2 6 (tb 18 8463) HT_ ?_
        refine tA 4 8 (tb 18 8479) HT_ HW_ hHeld ?_
        refine tA 9 13 (tb 18 8991) HT_ HW_ hHeld ?_
        refine tA 14 18 (tb 18 25375) HT_ HW_ hHeld ?_
        refine oA 5 (some 9) (tb 18 25407) HT_ (fun K hK => ?_)
        refine gA Tryd.func41 #[.int .i64 a0_1] ?_
        with_reducible refine (maskref1_decimal.calls k a0_1 t121 _ A3.out).mono ?_
        rintro e w14 ⟨rfl, hb⟩
        refine ⟨_, rfl, ?_⟩
        replace BK120 := bk1 BK120 hb
        replace HB := hb1 HB hb
        (try clear hb)
        refine hK.out _ _ ⟨(blk_cell BK120.out 0).trans rfl, (blk_cell BK120.out 1).trans rfl, (blk_cell BK120.out 2).trans rfl, (blk_cell BK120.out 3).trans rfl, (blk_cell BK120.out 4).trans rfl⟩ (fun hHeld => ?_)
        clear hK K
        refine nA ?_
        refine pA 6 10 (tb 18 25471) HT_ ?_
        refine pA 7 11 (tb 18 25599) HT_ ?_
        refine oA 10 (some 14) (tb 18 26623) HT_ (fun K hK => ?_)
        refine gA Tryd.func41 #[.int .i64 a0_2] ?_
        with_reducible refine (maskref1_decimal.calls k a0_2 t122 _ A6.out).mono ?_
        rintro e w15 ⟨rfl, hb⟩
        refine ⟨_, rfl, ?_⟩
        replace BK120 := bk1 BK120 hb
        replace HB := hb1 HB hb
        (try clear hb)
        refine hK.out _ _ ⟨(blk_cell BK120.out 0).trans rfl, (blk_cell BK120.out 1).trans rfl, (blk_cell BK120.out 2).trans rfl, (blk_cell BK120.out 3).trans rfl, (blk_cell BK120.out 4).trans rfl⟩ (fun hHeld => ?_)
        clear hK K
        refine nA ?_
        refine pA 11 15 (tb 18 28671) HT_ ?_
        refine pA 12 16 (tb 18 32767) HT_ ?_
        refine oA 15 (some 19) (tb 18 65535) HT_ (fun K hK => ?_)
        refine gA Tryd.func14 #[.int .i64 a0_3] ?_
        with_reducible refine (maskref1_NoteWord.calls k a0_3 t123 _ A9.out).mono ?_
        rintro e w' ⟨rfl, ⟨nd, rfl⟩⟩
        refine ⟨_, rfl, ?_⟩
        refine hK.out _ _ ⟨(blk_cell BK120.out 0).trans rfl, (blk_cell BK120.out 1).trans rfl, (blk_cell BK120.out 2).trans rfl, (blk_cell BK120.out 3).trans rfl, (blk_cell BK120.out 4).trans rfl⟩ (fun hHeld => ?_)
        clear hK K
        refine nA ?_
        refine pA 16 20 (tb 18 131071) HT_ ?_
        refine pA 17 3 (tb 18 262143) HT_ ?_
        refine done_ (done_of HT_.out (by kernel_rfl)) ?_
        obtain ⟨hcz16_0, hcz16_1, hcz16_2, hcz16_3, hcz16_4, hfz16_0, hfz16_1, hfz16_2, hfz16_3, hfz16_4⟩ := cf5 BK120
        try go_wp2
        go_ret
        exact ⟨by rfl, by repeat (with_reducible first | exact HB.out | apply pw_below_drewN)⟩
       ·by_cases c17 : 1 + a0_4.size ≤ 9223372036854775807
        ·rw [if_pos c17] at H
         have c17b0 := eq_true c17
         have c17b1 : decide (1 + a0_4.size ≤ 9223372036854775807) = true := decide_eq_true c17
         try have c17b2 : (9223372036854775807 < 1 + a0_4.size) = False := eq_false (Nat.not_lt.2 c17)
         by_cases c18 : ((((((a0_0 ++ (⟨#[58]⟩ : ByteArray)) ++ t121) ++ (⟨#[58]⟩ : ByteArray)) ++ t122) ++ (⟨#[58, 32]⟩ : ByteArray)) ++ t123).size + ((⟨#[32]⟩ : ByteArray) ++ a0_4).size ≤ 9223372036854775807
         ·rw [if_pos c18] at H
          have c18b0 := eq_true c18
          have c18b1 : decide (((((((a0_0 ++ (⟨#[58]⟩ : ByteArray)) ++ t121) ++ (⟨#[58]⟩ : ByteArray)) ++ t122) ++ (⟨#[58, 32]⟩ : ByteArray)) ++ t123).size + ((⟨#[32]⟩ : ByteArray) ++ a0_4).size ≤ 9223372036854775807) = true := decide_eq_true c18
          try have c18b2 : (9223372036854775807 < ((((((a0_0 ++ (⟨#[58]⟩ : ByteArray)) ++ t121) ++ (⟨#[58]⟩ : ByteArray)) ++ t122) ++ (⟨#[58, 32]⟩ : ByteArray)) ++ t123).size + ((⟨#[32]⟩ : ByteArray) ++ a0_4).size) = False := eq_false (Nat.not_lt.2 c18)
          try have c18b3 : (9223372036854775807 < a0_0.size + 1 + t121.size + 1 + t122.size + 2 + t123.size + (1 + a0_4.size)) = False := by have h_ := c18b2; simp only [ByteArray.size_append] at h_; exact h_
          obtain rfl := Option.some.inj H
          go_enter Tryd.func16, Tryd.ntmps16
          try go_wp2_with ((refine boxA HB 1 #[.string a0_0, .int .i64 a0_1, .int .i64 a0_2, .int .i64 a0_3, .string a0_4] 24 ?_; clear HB; intro gb120 w19 BK120 GE120 hg hb HB; clear hb hg))
          replace BK120 := bkd BK120
          replace HB := hbd HB
          refine start_ (n := 18) (S := fun w' => w'.cell? ⟨gb120, 0, none⟩ = some (.string a0_0) ∧ w'.cell? ⟨gb120, 1, none⟩ = some (.int .i64 a0_1) ∧ w'.cell? ⟨gb120, 2, none⟩ = some (.int .i64 a0_2) ∧ w'.cell? ⟨gb120, 3, none⟩ = some (.int .i64 a0_3) ∧ w'.cell? ⟨gb120, 4, none⟩ = some (.string a0_4)) (ds := []) (tb 18 0) (by kernel_rfl) rfl (by kernel_rfl) ⟨(blk_cell BK120.out 0).trans rfl, (blk_cell BK120.out 1).trans rfl, (blk_cell BK120.out 2).trans rfl, (blk_cell BK120.out 3).trans rfl, (blk_cell BK120.out 4).trans rfl⟩ (fun hHeld => ?_); refine with_tabW maskref1_NoteText.tab1 maskref1_NoteText.bits1 (fun HT_ HW_ => ?_)
          generalize w19.drew = w20 at BK120 HB hHeld ⊢
          refine pA 0 4 (tb 18 1) HT_ ?_
          refine pA 3 7 (tb 18 9) HT_ ?_
          refine pA 8 12 (tb 18 265) HT_ ?_
          refine pA 13 17 (tb 18 8457) HT_ ?_
          refine tA 1 5 (tb 18 8459) HT_ HW_ hHeld ?_
          refine pA 2 6 (tb 18 8463) HT_ ?_
          refine tA 4 8 (tb 18 8479) HT_ HW_ hHeld ?_
          refine tA 9 13 (tb 18 8991) HT_ HW_ hHeld ?_
          refine tA 14 18 (tb 18 25375) HT_ HW_ hHeld ?_
          refine oA 5 (some 9) (tb 18 25407) HT_ (fun K hK => ?_)
          refine gA Tryd.func41 #[.int .i64 a0_1] ?_
          with_reducible refine (maskref1_decimal.calls k a0_1 t121 _ A3.out).mono ?_
          rintro e w21 ⟨rfl, hb⟩
          refine ⟨_, rfl, ?_⟩
          replace BK120 := bk1 BK120 hb
          replace HB := hb1 HB hb
          (try clear hb)
          refine hK.out _ _ ⟨(blk_cell BK120.out 0).trans rfl, (blk_cell BK120.out 1).trans rfl, (blk_cell BK120.out 2).trans rfl, (blk_cell BK120.out 3).trans rfl, (blk_cell BK120.out 4).trans rfl⟩ (fun hHeld => ?_)
          clear hK K
          refine nA ?_
          refine pA 6 10 (tb 18 25471) HT_ ?_
          refine pA 7 11 (tb 18 25599) HT_ ?_
          refine oA 10 (some 14) (tb 18 26623) HT_ (fun K hK => ?_)
          refine gA Tryd.func41 #[.int .i64 a0_2] ?_
          with_reducible refine (maskref1_decimal.calls k a0_2 t122 _ A6.out).mono ?_
          rintro e w22 ⟨rfl, hb⟩
          refine ⟨_, rfl, ?_⟩
          replace BK120 := bk1 BK120 hb
          replace HB := hb1 HB hb
          (try clear hb)
          refine hK.out _ _ ⟨(blk_cell BK120.out 0).trans rfl, (blk_cell BK120.out 1).trans rfl, (blk_cell BK120.out 2).trans rfl, (blk_cell BK120.out 3).trans rfl, (blk_cell BK120.out 4).trans rfl⟩ (fun hHeld => ?_)
          clear hK K
          refine nA ?_
          refine pA 11 15 (tb 18 28671) HT_ ?_
          refine pA 12 16 (tb 18 32767) HT_ ?_
          refine oA 15 (some 19) (tb 18 65535) HT_ (fun K hK => ?_)
          refine gA Tryd.func14 #[.int .i64 a0_3] ?_
          with_reducible refine (maskref1_NoteWord.calls k a0_3 t123 _ A9.out).mono ?_
          rintro e w' ⟨rfl, ⟨nd, rfl⟩⟩
          refine ⟨_, rfl, ?_⟩
          refine hK.out _ _ ⟨(blk_cell BK120.out 0).trans rfl, (blk_cell BK120.out 1).trans rfl, (blk_cell BK120.out 2).trans rfl, (blk_cell BK120.out 3).trans rfl, (blk_cell BK120.out 4).trans rfl⟩ (fun hHeld => ?_)
          clear hK K
          refine nA ?_
          refine pA 16 20 (tb 18 131071) HT_ ?_
          refine pA 17 3 (tb 18 262143) HT_ ?_
          refine done_ (done_of HT_.out (by kernel_rfl)) ?_
          obtain ⟨hcz23_0, hcz23_1, hcz23_2, hcz23_3, hcz23_4, hfz23_0, hfz23_1, hfz23_2, hfz23_3, hfz23_4⟩ := cf5 BK120
          try go_wp2
          go_ret
          exact ⟨by rfl, by repeat (with_reducible first | exact HB.out | apply pw_below_drewN)⟩
         ·rw [if_neg c18] at H
          exact absurd H (by simp)
        ·rw [if_neg c17] at H
         exact absurd H (by simp)
      ·rw [if_neg c10] at H
       exact absurd H (by simp)
     ·rw [if_neg c8] at H
      exact absurd H (by simp)
    ·rw [if_neg c7] at H
     exact absurd H (by simp)
   ·rw [if_neg c5] at H
    exact absurd H (by simp)
  ·rw [if_neg c4] at H
   exact absurd H (by simp)
 ·rw [if_neg c2] at H
  exact absurd H (by simp)
end Go.Proofs.YtlamgdibnnmbmaaDoor.PChk
end
section
namespace Go.Proofs.YtlamgdibnnmbmaaDoor.PChk
open Go.RowKit Go.Proofs.YtlamgdibnnmbmaaDoorW.PrintWords Go.Proofs.YtlamgdibnnmbmaaDoorW.PrintLast Go.Proofs.YtlamgdibnnmbmaaDoorW.PrintMore
attribute [local go_sem] max2_int min2_int max_two min_two max_three min_three max_four min_four
set_option linter.unusedVariables false
set_option linter.unusedSimpArgs false
def masklaw1_NoteChecks.j0 : Nat → Int → ByteArray → Bool → ByteArray → Int → Int → Int → ByteArray → Option (Bool)
 | 0, _, _, _, _, _, _, _, _ => none
 | k + 1, x3, x4, x43, x125000, x125001, x125002, x125003, x125004 => if x43 = true then (some false) else (if x3 = 0 then ((maskref1_NoteText.f k x125000 x125001 x125002 x125003 x125004).bind fun t134 => (some (x4.toList == t134.toList))) else (some (x4.toList == ([] : List UInt8))))
def masklaw1_NoteChecks.f (k : Nat) (a0_0 : ByteArray) (a0_1 : Int) (a0_2 : Int) (a0_3 : Int) (a0_4 : ByteArray) : Option (Bool) := (maskref1_NoteFault.f k a0_0 a0_1 a0_2 a0_3 a0_4).bind fun t125 => ((note_Text.f k a0_0 a0_1 a0_2 a0_3 a0_4).bind fun bt126 => ((masklaw1_told.f k).bind fun t128 => (if t128 = true then ((note_File.f k a0_0).bind fun t129 => ((maskref1_FileName.f k a0_0).bind fun t130 => (if (t129 != t130) = true then (masklaw1_NoteChecks.j0 k t125 bt126.1 true a0_0 a0_1 a0_2 a0_3 a0_4) else ((note_Name.f a0_3).bind fun t131 => ((maskref1_NoteWord.f k a0_3).bind fun t132 => (if t131.toList = t132.toList then ((note_Check.f k a0_0 a0_1 a0_2 a0_3 a0_4).bind fun t133 => (if t133 = t125 then (masklaw1_NoteChecks.j0 k t125 bt126.1 (bt126.2 != t125) a0_0 a0_1 a0_2 a0_3 a0_4) else (masklaw1_NoteChecks.j0 k t125 bt126.1 true a0_0 a0_1 a0_2 a0_3 a0_4))) else (masklaw1_NoteChecks.j0 k t125 bt126.1 true a0_0 a0_1 a0_2 a0_3 a0_4))))))) else (masklaw1_NoteChecks.j0 k t125 bt126.1 true a0_0 a0_1 a0_2 a0_3 a0_4))))
def masklaw1_NoteChecks.T3 : Bool × List (List Nat × List Nat) := (true, [([], []), ([0], [0]), ([1, 0], [1]), ([2], [2]), ([3, 2], [2, 3]), ([4, 2, 2], [2, 4]), ([2], [2]), ([6, 2], [2, 6]), ([7, 5, 2], [2, 7]), ([5, 8, 2], [2, 5, 8]), ([2, 9], [2, 9]), ([10, 8], [10]), ([11], [11]), ([12, 11], [11, 12]), ([13, 11, 11], [11, 13]), ([11], [11]), ([15, 11], [11, 15]), ([16, 14, 11], [11, 16]), ([14, 17, 11], [11, 14, 17]), ([11, 18], [11, 18]), ([19, 17], [19]), ([20], [20]), ([21, 20, 20], [20, 21]), ([20], [20]), ([22, 23, 20], [20, 22, 23]), ([20, 24], [20, 24]), ([25, 22], [25]), ([26], [26]), ([26], [26]), ([27, 28, 26], [26, 27, 28]), ([26, 29], [26, 29])])
def masklaw1_NoteChecks.B3 : List Nat := [0, 1, 3, 7, 15, 31, 7, 71, 255, 511, 1023, 2047, 4095, 8191, 16383, 4095, 36863, 131071, 262143, 524287, 1048575, 2097151, 4194303, 2097151, 16777215, 33554431, 67108863, 134217727, 134217727, 536870911, 1073741823]
theorem masklaw1_NoteChecks.tab3 : rtab .any (opsOf Tryd.f3 3) = masklaw1_NoteChecks.T3 := by kernel_rfl
theorem masklaw1_NoteChecks.bits3 : waitsOk masklaw1_NoteChecks.T3.2 masklaw1_NoteChecks.B3 = true := by kernel_rfl
set_option maxHeartbeats 8000000 in
set_option maxRecDepth 100000 in
theorem masklaw1_NoteChecks.calls (k : Nat) (a0_0 : ByteArray) (a0_1 : Int) (a0_2 : Int) (a0_3 : Int) (a0_4 : ByteArray) (r : Bool) (w : World) (h : masklaw1_NoteChecks.f k a0_0 a0_1 a0_2 a0_3 a0_4 = some r) (hG : Glob w) :
  Calls Tryd.prog 3 #[.agg #[.string a0_0, .int .i64 a0_1, .int .i64 a0_2, .int .i64 a0_3, .string a0_4]] w fun e w' => e = .returned (.bool r) ∧ Below w.heap.size w w' := by
 have HG := Aside0.mk hG
 clear hG
 have hu24 := Tryd.underlying24
 have HB := Aside0.mk (Below.refl w.heap.size w)
 have H := h
 clear h
 unfold masklaw1_NoteChecks.f at H
 replace H := bN H; obtain ⟨t125, A2, H⟩ := H
 replace H := bN H; obtain ⟨⟨t126, t127⟩, A3, H⟩ := H; dsimp only at H
 have HC4 := Aside0.mk H
 clear H
 go_enter Tryd.func3, Tryd.ntmps3
 go_upto_region 3 with (first | (refine boxA HB 1 #[.string a0_0, .int .i64 a0_1, .int .i64 a0_2, .int .i64 a0_3, .string a0_4] 24 ?_; clear HB; intro gb124 w5 BK124 GE124 hg hb HB; clear hb hg; obtain ⟨hcz6_0, hcz6_1, hcz6_2, hcz6_3, hcz6_4, hfz6_0, hfz6_1, hfz6_2, hfz6_3, hfz6_4⟩ := cf5 BK124) | (refine callA (some 7) Tryd.func8 #[.agg #[.string a0_0, .int .i64 a0_1, .int .i64 a0_2, .int .i64 a0_3, .string a0_4]] ?_; (with_reducible refine (maskref1_NoteFault.calls k a0_0 a0_1 a0_2 a0_3 a0_4 t125 _ A2.out).mono ?_); rintro e w7 ⟨rfl, hb⟩; refine ⟨_, rfl, ?_⟩; replace BK124 := bk1 BK124 hb; replace HB := hb1 HB hb; (try clear hb); obtain ⟨hcz8_0, hcz8_1, hcz8_2, hcz8_3, hcz8_4, hfz8_0, hfz8_1, hfz8_2, hfz8_3, hfz8_4⟩ := cf5 BK124) | (refine callA (some 10) Tryd.func9 #[.agg #[.string a0_0, .int .i64 a0_1, .int .i64 a0_2, .int .i64 a0_3, .string a0_4]] ?_; (with_reducible refine (note_Text.calls k a0_0 a0_1 a0_2 a0_3 a0_4 t126 t127 _ A3.out ?side90).mono ?_); (case side90 => exact HG.out.below HB.out); rintro e w9 ⟨rfl, hb⟩; refine ⟨_, rfl, ?_⟩; replace BK124 := bk1 BK124 hb; replace HB := hb1 HB hb; (try clear hb)))
 go_cut [43] (fun v43 wc => ∃ (kq : Nat) (x43_3 : Bool), v43 = .bool x43_3 ∧ Aside0 (masklaw1_NoteChecks.j0 kq t125 t126 x43_3 a0_0 a0_1 a0_2 a0_3 a0_4 = some r) ∧ Aside0 (kq ≤ k) ∧ Aside0 (wc.heap[gb124]? = some (.cells #[.string a0_0, .int .i64 a0_1, .int .i64 a0_2, .int .i64 a0_3, .string a0_4] 24 (0, 0))) ∧ Aside0 (Below w.heap.size w wc))
 case first =>
  have H := HC4.out
  clear HC4
  replace H := bN H; obtain ⟨t128, A10, H⟩ := H
  replace H := iB H; rcases H with ⟨rfl, H⟩ | ⟨rfl, H⟩
  ·replace H := bN H; obtain ⟨t129, A12, H⟩ := H
   replace H := bN H; obtain ⟨t130, A13, H⟩ := H
   by_cases c14 : (t129 != t130) = true
   ·rw [if_pos c14] at H
    have c14b0 : (t129 != t130) = true := c14
    (try (have c14b1 : decide (t129 = t130) = false := by simpa using c14))
    (try (have c14b2 : (t129 == t130) = false := by simpa using c14))
    (try (have c14b3 : ¬ (t129 = t130) := by simpa using c14))
    clear c14
    (skip)
    have H' := Aside0.mk H
    clear H
    try go_wp2
    replace BK124 := bkd BK124
    replace HB := hbd HB
    refine start_ (n := 31) (S := fun w' => w'.cell? ⟨gb124, 0, none⟩ = some (.string a0_0) ∧ w'.cell? ⟨gb124, 1, none⟩ = some (.int .i64 a0_1) ∧ w'.cell? ⟨gb124, 2, none⟩ = some (.int .i64 a0_2) ∧ w'.cell? ⟨gb124, 3, none⟩ = some (.int .i64 a0_3) ∧ w'.cell? ⟨gb124, 4, none⟩ = some (.string a0_4)) (ds := []) (tb 31 0) (by kernel_rfl) rfl (by kernel_rfl) ⟨(blk_cell BK124.out 0).trans rfl, (blk_cell BK124.out 1).trans rfl, (blk_cell BK124.out 2).trans rfl, (blk_cell BK124.out 3).trans rfl, (blk_cell BK124.out 4).trans rfl⟩ (fun hHeld => ?_); refine with_tabW masklaw1_NoteChecks.tab3 masklaw1_NoteChecks.bits3 (fun HT_ HW_ => ?_)
    generalize w9.drew = w15 at BK124 HB hHeld ⊢
    refine oA 0 (some 13) (tb 31 1) HT_ (fun K hK => ?_)
    refine gA Tryd.func10 #[] ?_
    with_reducible refine (masklaw1_told.calls k  true _ A10.out ?side90).mono ?_
    (case side90 => exact HG.out.below HB.out)
    rintro e w16 ⟨rfl, hb⟩
    refine ⟨_, rfl, ?_⟩
    replace BK124 := bk1 BK124 hb
    replace HB := hb1 HB hb
    (try clear hb)
    refine hK.out _ _ ⟨(blk_cell BK124.out 0).trans rfl, (blk_cell BK124.out 1).trans rfl, (blk_cell BK124.out 2).trans rfl, (blk_cell BK124.out 3).trans rfl, (blk_cell BK124.out 4).trans rfl⟩ (fun hHeld => ?_)
    clear hK K
    refine nA ?_
    refine pA 1 14 (tb 31 3) HT_ ?_
    refine pA 2 15 (tb 31 7) HT_ ?_
    refine pA 3 16 (tb 31 15) HT_ ?_
    refine pA 6 19 (tb 31 79) HT_ ?_
    refine tA 4 17 (tb 31 95) HT_ HW_ hHeld ?_
    refine tA 7 20 (tb 31 223) HT_ HW_ hHeld ?_
    refine oA 5 (some 18) (tb 31 255) HT_ (fun K hK => ?_)
    refine gA Tryd.func11 #[.string a0_0] ?_
    with_reducible refine (note_File.calls k a0_0 t129 _ A12.out).mono ?_
    rintro e w' ⟨rfl, ⟨nd, rfl⟩⟩
    refine ⟨_, rfl, ?_⟩
    refine hK.out _ _ ⟨(blk_cell BK124.out 0).trans rfl, (blk_cell BK124.out 1).trans rfl, (blk_cell BK124.out 2).trans rfl, (blk_cell BK124.out 3).trans rfl, (blk_cell BK124.out 4).trans rfl⟩ (fun hHeld => ?_)
    clear hK K
    refine nA ?_
    refine oA 8 (some 21) (tb 31 511) HT_ (fun K hK => ?_)
    refine gA Tryd.func12 #[.string a0_0] ?_
    with_reducible refine (maskref1_FileName.calls k a0_0 t130 _ A13.out).mono ?_
    rintro e w' ⟨rfl, ⟨nd, rfl⟩⟩
    refine ⟨_, rfl, ?_⟩
    refine hK.out _ _ ⟨(blk_cell BK124.out 0).trans rfl, (blk_cell BK124.out 1).trans rfl, (blk_cell BK124.out 2).trans rfl, (blk_cell BK124.out 3).trans rfl, (blk_cell BK124.out 4).trans rfl⟩ (fun hHeld => ?_)
    clear hK K
    refine nA ?_
    refine pA 9 22 (tb 31 1023) HT_ ?_
    refine pA 10 23 (tb 31 2047) HT_ ?_
    refine pA 11 24 (tb 31 4095) HT_ ?_
    refine pU 12 25 (tb 31 8191) HT_ ?_
    refine pU 13 26 (tb 31 16383) HT_ ?_
    refine pU 14 27 (tb 31 32767) HT_ ?_
    refine pU 15 28 (tb 31 65535) HT_ ?_
    refine pU 16 29 (tb 31 131071) HT_ ?_
    refine pU 17 30 (tb 31 262143) HT_ ?_
    refine pU 18 31 (tb 31 524287) HT_ ?_
    refine pA 19 32 (tb 31 1048575) HT_ ?_
    refine pA 20 33 (tb 31 2097151) HT_ ?_
    refine pU 21 34 (tb 31 4194303) HT_ ?_
    refine pU 22 35 (tb 31 8388607) HT_ ?_
    refine pU 23 36 (tb 31 16777215) HT_ ?_
    refine pU 24 37 (tb 31 33554431) HT_ ?_
    refine pA 25 38 (tb 31 67108863) HT_ ?_
    refine pA 26 39 (tb 31 134217727) HT_ ?_
    refine pU 27 40 (tb 31 268435455) HT_ ?_
    refine pU 28 41 (tb 31 536870911) HT_ ?_
    refine pU 29 42 (tb 31 1073741823) HT_ ?_
    refine pA 30 43 (tb 31 2147483647) HT_ ?_
    refine done_ (done_of HT_.out (by kernel_rfl)) ?_
    try go_wp2
    go_meet
    case rel => exact ⟨_, (true), (by rfl), H', ⟨by omega⟩, ⟨by (with_reducible repeat (refine blk_drewN ?_ _)); exact BK124.out⟩, ⟨by repeat (with_reducible first | exact HB.out | apply pw_below_drewN)⟩⟩
   ·rw [if_neg c14] at H
    have c14b0 : (t129 != t130) = false := by simpa using c14
    (try (have c14b1 : decide (t129 = t130) = true := by simpa using c14))
    (try (have c14b2 : (t129 == t130) = true := by simpa using c14))
    clear c14
    (skip)
    replace H := bN H; obtain ⟨t131, A17, H⟩ := H
    replace H := bN H; obtain ⟨t132, A18, H⟩ := H
    replace H := iE H; rcases H with ⟨c19b0, c19b1, H⟩ | ⟨c19, c19b0, c19b1, H⟩
    ·replace H := bN H; obtain ⟨t133, A20, H⟩ := H
     replace H := iE H; rcases H with ⟨c21b0, c21b1, H⟩ | ⟨c21, c21b0, c21b1, H⟩
     ·have H' := Aside0.mk H
      clear H
      try go_wp2
      replace BK124 := bkd BK124
      replace HB := hbd HB
      refine start_ (n := 31) (S := fun w' => w'.cell? ⟨gb124, 0, none⟩ = some (.string a0_0) ∧ w'.cell? ⟨gb124, 1, none⟩ = some (.int .i64 a0_1) ∧ w'.cell? ⟨gb124, 2, none⟩ = some (.int .i64 a0_2) ∧ w'.cell? ⟨gb124, 3, none⟩ = some (.int .i64 a0_3) ∧ w'.cell? ⟨gb124, 4, none⟩ = some (.string a0_4)) (ds := []) (tb 31 0) (by kernel_rfl) rfl (by kernel_rfl) ⟨(blk_cell BK124.out 0).trans rfl, (blk_cell BK124.out 1).trans rfl, (blk_cell BK124.out 2).trans rfl, (blk_cell BK124.out 3).trans rfl, (blk_cell BK124.out 4).trans rfl⟩ (fun hHeld => ?_); refine with_tabW masklaw1_NoteChecks.tab3 masklaw1_NoteChecks.bits3 (fun HT_ HW_ => ?_)
      generalize w9.drew = w22 at BK124 HB hHeld ⊢
      refine oA 0 (some 13) (tb 31 1) HT_ (fun K hK => ?_)
      refine gA Tryd.func10 #[] ?_
      with_reducible refine (masklaw1_told.calls k  true _ A10.out ?side90).mono ?_
      (case side90 => exact HG.out.below HB.out)
      rintro e w23 ⟨rfl, hb⟩
      refine ⟨_, rfl, ?_⟩
      replace BK124 := bk1 BK124 hb
      replace HB := hb1 HB hb
      (try clear hb)
      refine hK.out _ _ ⟨(blk_cell BK124.out 0).trans rfl, (blk_cell BK124.out 1).trans rfl, (blk_cell BK124.out 2).trans rfl, (blk_cell BK124.out 3).trans rfl, (blk_cell BK124.out 4).trans rfl⟩ (fun hHeld => ?_)
      clear hK K
      refine nA ?_
      refine pA 1 14 (tb 31 3) HT_ ?_
      refine pA 2 15 (tb 31 7) HT_ ?_
      refine pA 3 16 (tb 31 15) HT_ ?_
      refine pA 6 19 (tb 31 79) HT_ ?_
      refine tA 4 17 (tb 31 95) HT_ HW_ hHeld ?_
      refine tA 7 20 (tb 31 223) HT_ HW_ hHeld ?_
      refine oA 5 (some 18) (tb 31 255) HT_ (fun K hK => ?_)
      refine gA Tryd.func11 #[.string a0_0] ?_
      with_reducible refine (note_File.calls k a0_0 t129 _ A12.out).mono ?_
      rintro e w' ⟨rfl, ⟨nd, rfl⟩⟩
      refine ⟨_, rfl, ?_⟩
      refine hK.out _ _ ⟨(blk_cell BK124.out 0).trans rfl, (blk_cell BK124.out 1).trans rfl, (blk_cell BK124.out 2).trans rfl, (blk_cell BK124.out 3).trans rfl, (blk_cell BK124.out 4).trans rfl⟩ (fun hHeld => ?_)
      clear hK K
      refine nA ?_
      refine oA 8 (some 21) (tb 31 511) HT_ (fun K hK => ?_)
      refine gA Tryd.func12 #[.string a0_0] ?_
      with_reducible refine (maskref1_FileName.calls k a0_0 t130 _ A13.out).mono ?_
      rintro e w' ⟨rfl, ⟨nd, rfl⟩⟩
      refine ⟨_, rfl, ?_⟩
      refine hK.out _ _ ⟨(blk_cell BK124.out 0).trans rfl, (blk_cell BK124.out 1).trans rfl, (blk_cell BK124.out 2).trans rfl, (blk_cell BK124.out 3).trans rfl, (blk_cell BK124.out 4).trans rfl⟩ (fun hHeld => ?_)
      clear hK K
      refine nA ?_
      refine pA 9 22 (tb 31 1023) HT_ ?_
      refine pA 10 23 (tb 31 2047) HT_ ?_
      refine pA 11 24 (tb 31 4095) HT_ ?_
      refine pA 12 25 (tb 31 8191) HT_ ?_
      refine pA 15 28 (tb 31 40959) HT_ ?_
      refine tA 13 26 (tb 31 49151) HT_ HW_ hHeld ?_
      refine tA 16 29 (tb 31 114687) HT_ HW_ hHeld ?_
      refine oA 14 (some 27) (tb 31 131071) HT_ (fun K hK => ?_)
      refine gA Tryd.func13 #[.int .i64 a0_3] ?_
      with_reducible refine (note_Name.calls a0_3 t131 _ A17.out).mono ?_
      rintro e w24 ⟨rfl, hb⟩
      refine ⟨_, rfl, ?_⟩
      replace BK124 := bk1 BK124 hb
      replace HB := hb1 HB hb
      (try clear hb)
      refine hK.out _ _ ⟨(blk_cell BK124.out 0).trans rfl, (blk_cell BK124.out 1).trans rfl, (blk_cell BK124.out 2).trans rfl, (blk_cell BK124.out 3).trans rfl, (blk_cell BK124.out 4).trans rfl⟩ (fun hHeld => ?_)
      clear hK K
      refine nA ?_
      refine oA 17 (some 30) (tb 31 262143) HT_ (fun K hK => ?_)
      refine gA Tryd.func14 #[.int .i64 a0_3] ?_
      with_reducible refine (maskref1_NoteWord.calls k a0_3 t132 _ A18.out).mono ?_
      rintro e w' ⟨rfl, ⟨nd, rfl⟩⟩
      refine ⟨_, rfl, ?_⟩
      refine hK.out _ _ ⟨(blk_cell BK124.out 0).trans rfl, (blk_cell BK124.out 1).trans rfl, (blk_cell BK124.out 2).trans rfl, (blk_cell BK124.out 3).trans rfl, (blk_cell BK124.out 4).trans rfl⟩ (fun hHeld => ?_)
      clear hK K
      refine nA ?_
      refine pA 18 31 (tb 31 524287) HT_ ?_
      refine pA 19 32 (tb 31 1048575) HT_ ?_
      refine pA 20 33 (tb 31 2097151) HT_ ?_
      refine pA 23 36 (tb 31 10485759) HT_ ?_
      refine tA 21 34 (tb 31 12582911) HT_ HW_ hHeld ?_
      refine oA 22 (some 35) (tb 31 16777215) HT_ (fun K hK => ?_)
      refine gA Tryd.func15 #[.agg #[.string a0_0, .int .i64 a0_1, .int .i64 a0_2, .int .i64 a0_3, .string a0_4]] ?_
      with_reducible refine (note_Check.calls k a0_0 a0_1 a0_2 a0_3 a0_4 t133 _ A20.out).mono ?_
      rintro e w25 ⟨rfl, hb⟩
      refine ⟨_, rfl, ?_⟩
      replace BK124 := bk1 BK124 hb
      replace HB := hb1 HB hb
      (try clear hb)
      refine hK.out _ _ ⟨(blk_cell BK124.out 0).trans rfl, (blk_cell BK124.out 1).trans rfl, (blk_cell BK124.out 2).trans rfl, (blk_cell BK124.out 3).trans rfl, (blk_cell BK124.out 4).trans rfl⟩ (fun hHeld => ?_)
      clear hK K
      refine nA ?_
      refine pA 24 37 (tb 31 33554431) HT_ ?_
      refine pA 25 38 (tb 31 67108863) HT_ ?_
      refine pA 26 39 (tb 31 134217727) HT_ ?_
      refine pA 27 40 (tb 31 268435455) HT_ ?_
      refine pA 28 41 (tb 31 536870911) HT_ ?_
      refine pA 29 42 (tb 31 1073741823) HT_ ?_
      refine pA 30 43 (tb 31 2147483647) HT_ ?_
      refine done_ (done_of HT_.out (by kernel_rfl)) ?_
      try go_wp2
      go_meet
      case rel => exact ⟨_, (t127 != t125), (by rfl), H', ⟨by omega⟩, ⟨by exact BK124.out⟩, ⟨by repeat (with_reducible exact HB.out)⟩⟩
     ·have H' := Aside0.mk H
      clear H
      try go_wp2
      replace BK124 := bkd BK124
      replace HB := hbd HB
      refine start_ (n := 31) (S := fun w' => w'.cell? ⟨gb124, 0, none⟩ = some (.string a0_0) ∧ w'.cell? ⟨gb124, 1, none⟩ = some (.int .i64 a0_1) ∧ w'.cell? ⟨gb124, 2, none⟩ = some (.int .i64 a0_2) ∧ w'.cell? ⟨gb124, 3, none⟩ = some (.int .i64 a0_3) ∧ w'.cell? ⟨gb124, 4, none⟩ = some (.string a0_4)) (ds := []) (tb 31 0) (by kernel_rfl) rfl (by kernel_rfl) ⟨(blk_cell BK124.out 0).trans rfl, (blk_cell BK124.out 1).trans rfl, (blk_cell BK124.out 2).trans rfl, (blk_cell BK124.out 3).trans rfl, (blk_cell BK124.out 4).trans rfl⟩ (fun hHeld => ?_); refine with_tabW masklaw1_NoteChecks.tab3 masklaw1_NoteChecks.bits3 (fun HT_ HW_ => ?_)
      generalize w9.drew = w26 at BK124 HB hHeld ⊢
      refine oA 0 (some 13) (tb 31 1) HT_ (fun K hK => ?_)
      refine gA Tryd.func10 #[] ?_
      with_reducible refine (masklaw1_told.calls k  true _ A10.out ?side90).mono ?_
      (case side90 => exact HG.out.below HB.out)
      rintro e w27 ⟨rfl, hb⟩
      refine ⟨_, rfl, ?_⟩
      replace BK124 := bk1 BK124 hb
      replace HB := hb1 HB hb
      (try clear hb)
      refine hK.out _ _ ⟨(blk_cell BK124.out 0).trans rfl, (blk_cell BK124.out 1).trans rfl, (blk_cell BK124.out 2).trans rfl, (blk_cell BK124.out 3).trans rfl, (blk_cell BK124.out 4).trans rfl⟩ (fun hHeld => ?_)
      clear hK K
      refine nA ?_
      refine pA 1 14 (tb 31 3) HT_ ?_
      refine pA 2 15 (tb 31 7) HT_ ?_
      refine pA 3 16 (tb 31 15) HT_ ?_
      refine pA 6 19 (tb 31 79) HT_ ?_
      refine tA 4 17 (tb 31 95) HT_ HW_ hHeld ?_
      refine tA 7 20 (tb 31 223) HT_ HW_ hHeld ?_
      refine oA 5 (some 18) (tb 31 255) HT_ (fun K hK => ?_)
      refine gA Tryd.func11 #[.string a0_0] ?_
      with_reducible refine (note_File.calls k a0_0 t129 _ A12.out).mono ?_
      rintro e w' ⟨rfl, ⟨nd, rfl⟩⟩
      refine ⟨_, rfl, ?_⟩
      refine hK.out _ _ ⟨(blk_cell BK124.out 0).trans rfl, (blk_cell BK124.out 1).trans rfl, (blk_cell BK124.out 2).trans rfl, (blk_cell BK124.out 3).trans rfl, (blk_cell BK124.out 4).trans rfl⟩ (fun hHeld => ?_)
      clear hK K
      refine nA ?_
      refine oA 8 (some 21) (tb 31 511) HT_ (fun K hK => ?_)
      refine gA Tryd.func12 #[.string a0_0] ?_
      with_reducible refine (maskref1_FileName.calls k a0_0 t130 _ A13.out).mono ?_
      rintro e w' ⟨rfl, ⟨nd, rfl⟩⟩
      refine ⟨_, rfl, ?_⟩
      refine hK.out _ _ ⟨(blk_cell BK124.out 0).trans rfl, (blk_cell BK124.out 1).trans rfl, (blk_cell BK124.out 2).trans rfl, (blk_cell BK124.out 3).trans rfl, (blk_cell BK124.out 4).trans rfl⟩ (fun hHeld => ?_)
      clear hK K
      refine nA ?_
      refine pA 9 22 (tb 31 1023) HT_ ?_
      refine pA 10 23 (tb 31 2047) HT_ ?_
      refine pA 11 24 (tb 31 4095) HT_ ?_
      refine pA 12 25 (tb 31 8191) HT_ ?_
      refine pA 15 28 (tb 31 40959) HT_ ?_
      refine tA 13 26 (tb 31 49151) HT_ HW_ hHeld ?_
      refine tA 16 29 (tb 31 114687) HT_ HW_ hHeld ?_
      refine oA 14 (some 27) (tb 31 131071) HT_ (fun K hK => ?_)
      refine gA Tryd.func13 #[.int .i64 a0_3] ?_
      with_reducible refine (note_Name.calls a0_3 t131 _ A17.out).mono ?_
      rintro e w28 ⟨rfl, hb⟩
      refine ⟨_, rfl, ?_⟩
      replace BK124 := bk1 BK124 hb
      replace HB := hb1 HB hb
      (try clear hb)
      refine hK.out _ _ ⟨(blk_cell BK124.out 0).trans rfl, (blk_cell BK124.out 1).trans rfl, (blk_cell BK124.out 2).trans rfl, (blk_cell BK124.out 3).trans rfl, (blk_cell BK124.out 4).trans rfl⟩ (fun hHeld => ?_)
      clear hK K
      refine nA ?_
      refine oA 17 (some 30) (tb 31 262143) HT_ (fun K hK => ?_)
      refine gA Tryd.func14 #[.int .i64 a0_3] ?_
      with_reducible refine (maskref1_NoteWord.calls k a0_3 t132 _ A18.out).mono ?_
      rintro e w' ⟨rfl, ⟨nd, rfl⟩⟩
      refine ⟨_, rfl, ?_⟩
      refine hK.out _ _ ⟨(blk_cell BK124.out 0).trans rfl, (blk_cell BK124.out 1).trans rfl, (blk_cell BK124.out 2).trans rfl, (blk_cell BK124.out 3).trans rfl, (blk_cell BK124.out 4).trans rfl⟩ (fun hHeld => ?_)
      clear hK K
      refine nA ?_
      refine pA 18 31 (tb 31 524287) HT_ ?_
      refine pA 19 32 (tb 31 1048575) HT_ ?_
      refine pA 20 33 (tb 31 2097151) HT_ ?_
      refine pA 23 36 (tb 31 10485759) HT_ ?_
      refine tA 21 34 (tb 31 12582911) HT_ HW_ hHeld ?_
      refine oA 22 (some 35) (tb 31 16777215) HT_ (fun K hK => ?_)
      refine gA Tryd.func15 #[.agg #[.string a0_0, .int .i64 a0_1, .int .i64 a0_2, .int .i64 a0_3, .string a0_4]] ?_
      with_reducible refine (note_Check.calls k a0_0 a0_1 a0_2 a0_3 a0_4 t133 _ A20.out).mono ?_
      rintro e w29 ⟨rfl, hb⟩
      refine ⟨_, rfl, ?_⟩
      replace BK124 := bk1 BK124 hb
      replace HB := hb1 HB hb
      (try clear hb)
      refine hK.out _ _ ⟨(blk_cell BK124.out 0).trans rfl, (blk_cell BK124.out 1).trans rfl, (blk_cell BK124.out 2).trans rfl, (blk_cell BK124.out 3).trans rfl, (blk_cell BK124.out 4).trans rfl⟩ (fun hHeld => ?_)
      clear hK K
      refine nA ?_
      refine pA 24 37 (tb 31 33554431) HT_ ?_
      refine pA 25 38 (tb 31 67108863) HT_ ?_
      refine pA 26 39 (tb 31 134217727) HT_ ?_
      refine pU 27 40 (tb 31 268435455) HT_ ?_
      refine pU 28 41 (tb 31 536870911) HT_ ?_
      refine pU 29 42 (tb 31 1073741823) HT_ ?_
      refine pA 30 43 (tb 31 2147483647) HT_ ?_
      refine done_ (done_of HT_.out (by kernel_rfl)) ?_
      try go_wp2
      go_meet
      case rel => exact ⟨_, (true), (by rfl), H', ⟨by omega⟩, ⟨by exact BK124.out⟩, ⟨by repeat (with_reducible exact HB.out)⟩⟩
    ·have H' := Aside0.mk H
     clear H
     try go_wp2
     replace BK124 := bkd BK124
     replace HB := hbd HB
     refine start_ (n := 31) (S := fun w' => w'.cell? ⟨gb124, 0, none⟩ = some (.string a0_0) ∧ w'.cell? ⟨gb124, 1, none⟩ = some (.int .i64 a0_1) ∧ w'.cell? ⟨gb124, 2, none⟩ = some (.int .i64 a0_2) ∧ w'.cell? ⟨gb124, 3, none⟩ = some (.int .i64 a0_3) ∧ w'.cell? ⟨gb124, 4, none⟩ = some (.string a0_4)) (ds := []) (tb 31 0) (by kernel_rfl) rfl (by kernel_rfl) ⟨(blk_cell BK124.out 0).trans rfl, (blk_cell BK124.out 1).trans rfl, (blk_cell BK124.out 2).trans rfl, (blk_cell BK124.out 3).trans rfl, (blk_cell BK124.out 4).trans rfl⟩ (fun hHeld => ?_); refine with_tabW masklaw1_NoteChecks.tab3 masklaw1_NoteChecks.bits3 (fun HT_ HW_ => ?_)
     generalize w9.drew = w30 at BK124 HB hHeld ⊢
     refine oA 0 (some 13) (tb 31 1) HT_ (fun K hK => ?_)
     refine gA Tryd.func10 #[] ?_
     with_reducible refine (masklaw1_told.calls k  true _ A10.out ?side90).mono ?_
     (case side90 => exact HG.out.below HB.out)
     rintro e w31 ⟨rfl, hb⟩
     refine ⟨_, rfl, ?_⟩
     replace BK124 := bk1 BK124 hb
     replace HB := hb1 HB hb
     (try clear hb)
     refine hK.out _ _ ⟨(blk_cell BK124.out 0).trans rfl, (blk_cell BK124.out 1).trans rfl, (blk_cell BK124.out 2).trans rfl, (blk_cell BK124.out 3).trans rfl, (blk_cell BK124.out 4).trans rfl⟩ (fun hHeld => ?_)
     clear hK K
     refine nA ?_
     refine pA 1 14 (tb 31 3) HT_ ?_
     refine pA 2 15 (tb 31 7) HT_ ?_
     refine pA 3 16 (tb 31 15) HT_ ?_
     refine pA 6 19 (tb 31 79) HT_ ?_
     refine tA 4 17 (tb 31 95) HT_ HW_ hHeld ?_
     refine tA 7 20 (tb 31 223) HT_ HW_ hHeld ?_
     refine oA 5 (some 18) (tb 31 255) HT_ (fun K hK => ?_)
     refine gA Tryd.func11 #[.string a0_0] ?_
     with_reducible refine (note_File.calls k a0_0 t129 _ A12.out).mono ?_
     rintro e w' ⟨rfl, ⟨nd, rfl⟩⟩
     refine ⟨_, rfl, ?_⟩
     refine hK.out _ _ ⟨(blk_cell BK124.out 0).trans rfl, (blk_cell BK124.out 1).trans rfl, (blk_cell BK124.out 2).trans rfl, (blk_cell BK124.out 3).trans rfl, (blk_cell BK124.out 4).trans rfl⟩ (fun hHeld => ?_)
     clear hK K
     refine nA ?_
     refine oA 8 (some 21) (tb 31 511) HT_ (fun K hK => ?_)
     refine gA Tryd.func12 #[.string a0_0] ?_
     with_reducible refine (maskref1_FileName.calls k a0_0 t130 _ A13.out).mono ?_
     rintro e w' ⟨rfl, ⟨nd, rfl⟩⟩
     refine ⟨_, rfl, ?_⟩
     refine hK.out _ _ ⟨(blk_cell BK124.out 0).trans rfl, (blk_cell BK124.out 1).trans rfl, (blk_cell BK124.out 2).trans rfl, (blk_cell BK124.out 3).trans rfl, (blk_cell BK124.out 4).trans rfl⟩ (fun hHeld => ?_)
     clear hK K
     refine nA ?_
     refine pA 9 22 (tb 31 1023) HT_ ?_
     refine pA 10 23 (tb 31 2047) HT_ ?_
     refine pA 11 24 (tb 31 4095) HT_ ?_
     refine pA 12 25 (tb 31 8191) HT_ ?_
     refine pA 15 28 (tb 31 40959) HT_ ?_
     refine tA 13 26 (tb 31 49151) HT_ HW_ hHeld ?_
     refine tA 16 29 (tb 31 114687) HT_ HW_ hHeld ?_
     refine oA 14 (some 27) (tb 31 131071) HT_ (fun K hK => ?_)
     refine gA Tryd.func13 #[.int .i64 a0_3] ?_
     with_reducible refine (note_Name.calls a0_3 t131 _ A17.out).mono ?_
     rintro e w32 ⟨rfl, hb⟩
     refine ⟨_, rfl, ?_⟩
     replace BK124 := bk1 BK124 hb
     replace HB := hb1 HB hb
     (try clear hb)
     refine hK.out _ _ ⟨(blk_cell BK124.out 0).trans rfl, (blk_cell BK124.out 1).trans rfl, (blk_cell BK124.out 2).trans rfl, (blk_cell BK124.out 3).trans rfl, (blk_cell BK124.out 4).trans rfl⟩ (fun hHeld => ?_)
     clear hK K
     refine nA ?_
     refine oA 17 (some 30) (tb 31 262143) HT_ (fun K hK => ?_)
     refine gA Tryd.func14 #[.int .i64 a0_3] ?_
     with_reducible refine (maskref1_NoteWord.calls k a0_3 t132 _ A18.out).mono ?_
     rintro e w' ⟨rfl, ⟨nd, rfl⟩⟩
     refine ⟨_, rfl, ?_⟩
     refine hK.out _ _ ⟨(blk_cell BK124.out 0).trans rfl, (blk_cell BK124.out 1).trans rfl, (blk_cell BK124.out 2).trans rfl, (blk_cell BK124.out 3).trans rfl, (blk_cell BK124.out 4).trans rfl⟩ (fun hHeld => ?_)
     clear hK K
     refine nA ?_
     refine pA 18 31 (tb 31 524287) HT_ ?_
     refine pA 19 32 (tb 31 1048575) HT_ ?_
     refine pA 20 33 (tb 31 2097151) HT_ ?_
     refine pU 21 34 (tb 31 4194303) HT_ ?_
     refine pU 22 35 (tb 31 8388607) HT_ ?_
     refine pU 23 36 (tb 31 16777215) HT_ ?_
     refine pU 24 37 (tb 31 33554431) HT_ ?_
     refine pA 25 38 (tb 31 67108863) HT_ ?_
     refine pA 26 39 (tb 31 134217727) HT_ ?_
     refine pU 27 40 (tb 31 268435455) HT_ ?_
     refine pU 28 41 (tb 31 536870911) HT_ ?_
     refine pU 29 42 (tb 31 1073741823) HT_ ?_
     refine pA 30 43 (tb 31 2147483647) HT_ ?_
     refine done_ (done_of HT_.out (by kernel_rfl)) ?_
     try go_wp2
     go_meet
     case rel => exact ⟨_, (true), (by rfl), H', ⟨by omega⟩, ⟨by (with_reducible repeat (refine blk_drewN ?_ _)); exact BK124.out⟩, ⟨by repeat (with_reducible first | exact HB.out | apply pw_below_drewN)⟩⟩
  ·have H' := Aside0.mk H
   clear H
   try go_wp2
   replace BK124 := bkd BK124
   replace HB := hbd HB
   refine start_ (n := 31) (S := fun w' => True) (ds := []) (tb 31 0) (by kernel_rfl) rfl (by kernel_rfl) trivial (fun hHeld => ?_); refine with_tabW masklaw1_NoteChecks.tab3 masklaw1_NoteChecks.bits3 (fun HT_ HW_ => ?_)
   generalize w9.drew = w33 at BK124 HB hHeld ⊢
   refine oA 0 (some 13) (tb 31 1) HT_ (fun K hK => ?_)
   refine gA Tryd.func10 #[] ?_
   with_reducible refine (masklaw1_told.calls k  false _ A10.out ?side90).mono ?_
   (case side90 => exact HG.out.below HB.out)
   rintro e w34 ⟨rfl, hb⟩
   refine ⟨_, rfl, ?_⟩
   replace BK124 := bk1 BK124 hb
   replace HB := hb1 HB hb
   (try clear hb)
   refine hK.out _ _ trivial (fun hHeld => ?_)
   clear hK K
   refine nA ?_
   refine pA 1 14 (tb 31 3) HT_ ?_
   refine pA 2 15 (tb 31 7) HT_ ?_
   refine pU 3 16 (tb 31 15) HT_ ?_
   refine pU 4 17 (tb 31 31) HT_ ?_
   refine pU 5 18 (tb 31 63) HT_ ?_
   refine pU 6 19 (tb 31 127) HT_ ?_
   refine pU 7 20 (tb 31 255) HT_ ?_
   refine pU 8 21 (tb 31 511) HT_ ?_
   refine pU 9 22 (tb 31 1023) HT_ ?_
   refine pA 10 23 (tb 31 2047) HT_ ?_
   refine pA 11 24 (tb 31 4095) HT_ ?_
   refine pU 12 25 (tb 31 8191) HT_ ?_
   refine pU 13 26 (tb 31 16383) HT_ ?_
   refine pU 14 27 (tb 31 32767) HT_ ?_
   refine pU 15 28 (tb 31 65535) HT_ ?_
   refine pU 16 29 (tb 31 131071) HT_ ?_
   refine pU 17 30 (tb 31 262143) HT_ ?_
   refine pU 18 31 (tb 31 524287) HT_ ?_
   refine pA 19 32 (tb 31 1048575) HT_ ?_
   refine pA 20 33 (tb 31 2097151) HT_ ?_
   refine pU 21 34 (tb 31 4194303) HT_ ?_
   refine pU 22 35 (tb 31 8388607) HT_ ?_
   refine pU 23 36 (tb 31 16777215) HT_ ?_
   refine pU 24 37 (tb 31 33554431) HT_ ?_
   refine pA 25 38 (tb 31 67108863) HT_ ?_
   refine pA 26 39 (tb 31 134217727) HT_ ?_
   refine pU 27 40 (tb 31 268435455) HT_ ?_
   refine pU 28 41 (tb 31 536870911) HT_ ?_
   refine pU 29 42 (tb 31 1073741823) HT_ ?_
   refine pA 30 43 (tb 31 2147483647) HT_ ?_
   refine done_ (done_of HT_.out (by kernel_rfl)) ?_
   try go_wp2
   go_meet
   case rel => exact ⟨_, (true), (by rfl), H', ⟨by omega⟩, ⟨by exact BK124.out⟩, ⟨by repeat (with_reducible exact HB.out)⟩⟩
 case rest =>
  clear HC4
  obtain ⟨kq, x43_3, rfl, HA, HJ3, BK124, HB⟩ := hcut
  cases kq with
  | zero => exact absurd HA.out (by simp [masklaw1_NoteChecks.j0])
  | succ kj3 =>
   have H := HA.out
   clear HA
   simp only [masklaw1_NoteChecks.j0] at H
   replace H := iB H; rcases H with ⟨rfl, H⟩ | ⟨rfl, H⟩
   ·obtain rfl := Option.some.inj H
    go_wp2
    go_ret
    exact ⟨by rfl, by repeat (with_reducible exact HB.out)⟩
   ·replace H := iE H; rcases H with ⟨c36b0, c36b1, H⟩ | ⟨c36, c36b0, c36b1, H⟩
    ·replace H := bN H; obtain ⟨t134, A37, H⟩ := H
     obtain rfl := Option.some.inj H
     obtain ⟨hcz38_0, hcz38_1, hcz38_2, hcz38_3, hcz38_4, hfz38_0, hfz38_1, hfz38_2, hfz38_3, hfz38_4⟩ := cf5 BK124
     go_wp2_with ((refine callA (some 50) Tryd.func16 #[.agg #[.string a0_0, .int .i64 a0_1, .int .i64 a0_2, .int .i64 a0_3, .string a0_4]] ?_; (with_reducible refine (maskref1_NoteText.calls kj3 a0_0 a0_1 a0_2 a0_3 a0_4 t134 _ A37.out).mono ?_); rintro e w39 ⟨rfl, hb⟩; refine ⟨_, rfl, ?_⟩; replace BK124 := bk1 BK124 hb; replace HB := hb1 HB hb; (try clear hb)))
     go_ret
     exact ⟨by rfl, by repeat (with_reducible exact HB.out)⟩
    ·obtain rfl := Option.some.inj H
     go_wp2
     go_ret
     exact ⟨by rfl, by repeat (with_reducible exact HB.out)⟩
end Go.Proofs.YtlamgdibnnmbmaaDoor.PChk
end
