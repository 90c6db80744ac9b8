/- Part 24 of the proof of NoteSortsCardSaid: The law NoteSorts: for all arguments it returns true; each argument reads behind the call as it read before. Out of the plain theorem of YtlamgdibnnmbmaaDoorPureNoteSorts and the printed contract. -/
import Derived.Test.YtlamgdibnnmbmaaDoorQNoteSorts15
import Derived.Test.YtlamgdibnnmbmaaDoorQNoteSorts17
section
namespace Go.Proofs.YtlamgdibnnmbmaaDoor.PSort
open Go.RowKit Go.Proofs.YtlamgdibnnmbmaaDoorW.PrintWords Go.Proofs.YtlamgdibnnmbmaaDoorW.PrintLast Go.Proofs.YtlamgdibnnmbmaaDoorW.PrintMore
attribute [local go_sem] max2_int min2_int max_two min_two max_three min_three max_four min_four
set_option linter.unusedVariables false
set_option linter.unusedSimpArgs false
mutual
def note_File.j0 : Nat → ByteArray → Bool → Option (Bool)
 | 0, _, _ => none
 | k + 1, x0, x11 => if x11 = true then (some false) else (note_File.l0 k x0 (x0.size : Int) 0)
def note_File.l0 : Nat → ByteArray → Int → Int → Option (Bool)
 | 0, _, _, _ => none
 | k + 1, x0, x13, x14 => if x14 < x13 then (if 0 ≤ x14 then (if x14 < (x0.size : Int) then (if (bt x0 x14) < 33 then (note_File.j2 k x0 x13 x14 true) else (if (bt x0 x14) > 126 then (note_File.j2 k x0 x13 x14 true) else (if (bt x0 x14) = 58 then (note_File.j2 k x0 x13 x14 true) else (note_File.j2 k x0 x13 x14 ((bt x0 x14) == 34))))) else (none)) else (none)) else (some true)
def note_File.j2 : Nat → ByteArray → Int → Int → Bool → Option (Bool)
 | 0, _, _, _, _ => none
 | k + 1, x0, x13, x14, x38 => if x38 = true then (some false) else (note_File.l0 k x0 x13 (wrap64 (x14 + 1)))
end
def note_File.f (k : Nat) (a0 : ByteArray) : Option (Bool) := if (a0.size : Int) < 1 then (note_File.j0 k a0 true) else (note_File.j0 k a0 (decide ((a0.size : Int) > 60)))
theorem note_File.mono_l : ∀ k, (∀ y0 y1, LeO (note_File.j0 k y0 y1) (note_File.j0 (k + 1) y0 y1)) ∧ (∀ y0 y1 y2, LeO (note_File.l0 k y0 y1 y2) (note_File.l0 (k + 1) y0 y1 y2)) ∧ (∀ y0 y1 y2 y3, LeO (note_File.j2 k y0 y1 y2 y3) (note_File.j2 (k + 1) y0 y1 y2 y3))
 | 0 => ⟨fun _ _ r h => by simp [note_File.j0] at h, fun _ _ _ r h => by simp [note_File.l0] at h, fun _ _ _ _ r h => by simp [note_File.j2] at h⟩
 | k + 1 => by
  obtain ⟨ih0, ih1, ih2⟩ := note_File.mono_l k
  refine ⟨?_, ?_, ?_⟩
  ·intro y0 y1
   unfold note_File.j0
   repeat' first | with_reducible exact ih0 _ _ | with_reducible exact ih1 _ _ _ | with_reducible exact ih2 _ _ _ _ | with_reducible exact LeO.refl _ | with_reducible exact LeO.none _ | with_reducible refine LeO.ite ?_ ?_ | with_reducible refine LeO.bind ?_ (fun _ => ?_)
  ·intro y0 y1 y2
   unfold note_File.l0
   repeat' first | with_reducible exact ih0 _ _ | with_reducible exact ih1 _ _ _ | with_reducible exact ih2 _ _ _ _ | with_reducible exact LeO.refl _ | with_reducible exact LeO.none _ | with_reducible refine LeO.ite ?_ ?_ | with_reducible refine LeO.bind ?_ (fun _ => ?_)
  ·intro y0 y1 y2 y3
   unfold note_File.j2
   repeat' first | with_reducible exact ih0 _ _ | with_reducible exact ih1 _ _ _ | with_reducible exact ih2 _ _ _ _ | with_reducible exact LeO.refl _ | with_reducible exact LeO.none _ | with_reducible refine LeO.ite ?_ ?_ | with_reducible refine LeO.bind ?_ (fun _ => ?_)
theorem note_File.mono : ∀ a0 k, LeO (note_File.f k a0) (note_File.f (k + 1) a0) := by
 intro a0 k
 obtain ⟨ih0, ih1, ih2⟩ := note_File.mono_l k
 unfold note_File.f
 repeat' first | with_reducible exact ih0 _ _ | with_reducible exact ih1 _ _ _ | with_reducible exact ih2 _ _ _ _ | with_reducible exact LeO.refl _ | with_reducible exact LeO.none _ | with_reducible refine LeO.ite ?_ ?_ | with_reducible refine LeO.bind ?_ (fun _ => ?_)
set_option maxHeartbeats 8000000 in
set_option maxRecDepth 100000 in
theorem note_File.calls (k : Nat) (a0 : ByteArray) (r : Bool) (w : World) (h : note_File.f k a0 = some r) :
  Calls Tryd.prog 11 #[.string a0] w fun e w' => e = .returned (.bool r) ∧ Drawn0 w w' := by
 have H := h
 clear h
 unfold note_File.f at H
 have HC2 := Aside0.mk H
 clear H
 go_enter Tryd.func11, Tryd.ntmps11
 go_upto_region 1 with (fail)
 go_cut [11] (fun v11 wc => ∃ (kq : Nat) (x11_1 : Bool), v11 = .bool x11_1 ∧ Aside0 (note_File.j0 kq a0 x11_1 = some r) ∧ Aside0 (kq ≤ k) ∧ Drawn0 w wc)
 case first =>
  have H := HC2.out
  clear HC2
  by_cases c3 : (a0.size : Int) < 1
  ·rw [if_pos c3] at H
   have c3b0 : decide ((a0.size : Int) < 1) = true := decide_eq_true c3
   have c3b1 : decide (a0.size < 1) = true := decide_eq_true (by omega)
   clear c3
   (skip)
   have H' := Aside0.mk H
   clear H
   go_wp2
   go_meet
   case rel => exact ⟨_, (true), (by rfl), H', ⟨by omega⟩, by repeat (exact Drawn0.refl _)⟩
  ·rw [if_neg c3] at H
   have c3b0 : decide ((a0.size : Int) < 1) = false := decide_eq_false c3
   have c3b1 : decide (a0.size < 1) = false := decide_eq_false (by omega)
   clear c3
   (skip)
   have H' := Aside0.mk H
   clear H
   go_wp2
   go_meet
   case rel => exact ⟨_, (decide ((a0.size : Int) > 60)), (by rfl), H', ⟨by omega⟩, by repeat (exact Drawn0.refl _)⟩
 case rest =>
  clear HC2
  obtain ⟨kq, x11_1, rfl, HA, HJ1, ⟨mc1, rfl⟩⟩ := hcut
  cases kq with
  | zero => exact absurd HA.out (by simp [note_File.j0])
  | succ kj1 =>
   have H := HA.out
   clear HA
   simp only [note_File.j0] at H
   replace H := iB H; rcases H with ⟨rfl, H⟩ | ⟨rfl, H⟩
   ·obtain rfl := Option.some.inj H
    go_wp2
    go_ret
    exact ⟨by rfl, by repeat (first | exact Drawn0.refl _ | apply Drawn0.step)⟩
   ·have H' := Aside0.mk H
    clear H
    go_wp2
    go_loopg [14] kj1 (fun kq v14 w' => ∃ (x14_2 : Int), v14 = .int .i64 x14_2 ∧ Aside0 (note_File.l0 kq a0 (a0.size : Int) x14_2 = some r) ∧ Aside0 (kq ≤ kj1) ∧ Drawn0 w w')
    case atStart => exact ⟨(0), (by rfl), H', ⟨Nat.le_refl _⟩, by repeat (first | exact Drawn0.refl _ | apply Drawn0.step)⟩
    case round =>
     clear H'
     obtain ⟨x14_2, rfl, HA, HK2, ⟨m2, rfl⟩⟩ := hrel
     cases gk with
     | zero => exact absurd HA.out (by simp [note_File.l0])
     | succ k2 =>
      have H := HA.out
      clear HA
      simp only [note_File.l0] at H
      replace H := iD H; rcases H with ⟨c5b0, H⟩ | ⟨c5b0, H⟩
      ·have HC6 := Aside0.mk H
       clear H
       go_upto_region 6 with (fail)
       go_cut [38] (fun v38 wc => ∃ (kq : Nat) (x38_5 : Bool), v38 = .bool x38_5 ∧ Aside0 (note_File.j2 kq a0 (a0.size : Int) x14_2 x38_5 = some r) ∧ Aside0 (kq ≤ k2) ∧ Drawn0 w wc)
       case first =>
        have H := HC6.out
        clear HC6
        replace H := iN H; obtain ⟨c7b0, H⟩ := H
        (skip)
        replace H := iN H; obtain ⟨c8b0, H⟩ := H
        replace H := iD H; rcases H with ⟨c10b0, H⟩ | ⟨c10b0, H⟩
        ·have H' := Aside0.mk H
         clear H
         have p9 : 0 ≤ (x14_2 : Int) := of_decide_eq_true (by (with_reducible assumption))
         have q9 : x14_2 < (a0.size : Int) := of_decide_eq_true (by (with_reducible assumption))
         have hx9 := bt_at a0 x14_2
         replace p9 := eq_true p9
         replace q9 := eq_true q9
         go_wp2
         go_meet
         case rel => exact ⟨_, (true), (by rfl), H', ⟨by have := HJ1.out; have := HK2.out; omega⟩, by repeat (first | exact Drawn0.refl _ | apply Drawn0.step)⟩
        ·replace H := iD H; rcases H with ⟨c12b0, H⟩ | ⟨c12b0, H⟩
         ·replace c12b0 : decide (126 < (bt a0 x14_2)) = true := c12b0
          have H' := Aside0.mk H
          clear H
          have p9 : 0 ≤ (x14_2 : Int) := of_decide_eq_true (by (with_reducible assumption))
          have q9 : x14_2 < (a0.size : Int) := of_decide_eq_true (by (with_reducible assumption))
          have hx9 := bt_at a0 x14_2
          replace p9 := eq_true p9
          replace q9 := eq_true q9
          have p11 : 0 ≤ (x14_2 : Int) := of_decide_eq_true (by (with_reducible assumption))
          have q11 : x14_2 < (a0.size : Int) := of_decide_eq_true (by (with_reducible assumption))
          have hx11 := bt_at a0 x14_2
          replace p11 := eq_true p11
          replace q11 := eq_true q11
          go_wp2
          go_meet
          case rel => exact ⟨_, (true), (by rfl), H', ⟨by have := HJ1.out; have := HK2.out; omega⟩, by repeat (first | exact Drawn0.refl _ | apply Drawn0.step)⟩
         ·replace c12b0 : decide (126 < (bt a0 x14_2)) = false := c12b0
          replace H := iE H; rcases H with ⟨c14b0, c14b1, H⟩ | ⟨c14, c14b0, c14b1, H⟩
          ·have H' := Aside0.mk H
           clear H
           have p9 : 0 ≤ (x14_2 : Int) := of_decide_eq_true (by (with_reducible assumption))
           have q9 : x14_2 < (a0.size : Int) := of_decide_eq_true (by (with_reducible assumption))
           have hx9 := bt_at a0 x14_2
           replace p9 := eq_true p9
           replace q9 := eq_true q9
           have p11 : 0 ≤ (x14_2 : Int) := of_decide_eq_true (by (with_reducible assumption))
           have q11 : x14_2 < (a0.size : Int) := of_decide_eq_true (by (with_reducible assumption))
           have hx11 := bt_at a0 x14_2
           replace p11 := eq_true p11
           replace q11 := eq_true q11
           have p13 : 0 ≤ (x14_2 : Int) := of_decide_eq_true (by (with_reducible assumption))
           have q13 : x14_2 < (a0.size : Int) := of_decide_eq_true (by (with_reducible assumption))
           have hx13 := bt_at a0 x14_2
           replace p13 := eq_true p13
           replace q13 := eq_true q13
           go_wp2
           go_meet
           case rel => exact ⟨_, (true), (by rfl), H', ⟨by have := HJ1.out; have := HK2.out; omega⟩, by repeat (first | exact Drawn0.refl _ | apply Drawn0.step)⟩
          ·have H' := Aside0.mk H
           clear H
           have p9 : 0 ≤ (x14_2 : Int) := of_decide_eq_true (by (with_reducible assumption))
           have q9 : x14_2 < (a0.size : Int) := of_decide_eq_true (by (with_reducible assumption))
           have hx9 := bt_at a0 x14_2
           replace p9 := eq_true p9
           replace q9 := eq_true q9
           have p11 : 0 ≤ (x14_2 : Int) := of_decide_eq_true (by (with_reducible assumption))
           have q11 : x14_2 < (a0.size : Int) := of_decide_eq_true (by (with_reducible assumption))
           have hx11 := bt_at a0 x14_2
           replace p11 := eq_true p11
           replace q11 := eq_true q11
           have p13 : 0 ≤ (x14_2 : Int) := of_decide_eq_true (by (with_reducible assumption))
           have q13 : x14_2 < (a0.size : Int) := of_decide_eq_true (by (with_reducible assumption))
           have hx13 := bt_at a0 x14_2
           replace p13 := eq_true p13
           replace q13 := eq_true q13
           have p15 : 0 ≤ (x14_2 : Int) := of_decide_eq_true (by (with_reducible assumption))
           have q15 : x14_2 < (a0.size : Int) := of_decide_eq_true (by (with_reducible assumption))
           have hx15 := bt_at a0 x14_2
           replace p15 := eq_true p15
           replace q15 := eq_true q15
           go_wp2
           go_meet
           case rel => exact ⟨_, ((bt a0 x14_2) == 34), (by rfl), H', ⟨by have := HJ1.out; have := HK2.out; omega⟩, by repeat (first | exact Drawn0.refl _ | apply Drawn0.step)⟩
       case rest =>
        clear HC6
        (try clear c5b0)
        obtain ⟨kq, x38_5, rfl, HA, HJ5, ⟨mc5, rfl⟩⟩ := hcut
        cases kq with
        | zero => exact absurd HA.out (by simp [note_File.j2])
        | succ kj5 =>
         have H := HA.out
         clear HA
         simp only [note_File.j2] at H
         replace H := iB H; rcases H with ⟨rfl, H⟩ | ⟨rfl, H⟩
         ·obtain rfl := Option.some.inj H
          go_wp2
          go_ret
          exact ⟨by rfl, by repeat (first | exact Drawn0.refl _ | apply Drawn0.step)⟩
         ·have H' := Aside0.mk H
          clear H
          go_wp2
          go_roundg kj5
          case measure => have := HJ1.out; have := HK2.out; have := HJ5.out; omega
          case rel => exact ⟨(wrap64 (x14_2 + 1)), (by rfl), H', ⟨by have := HJ1.out; have := HK2.out; have := HJ5.out; omega⟩, by repeat (first | exact Drawn0.refl _ | apply Drawn0.step)⟩
      ·obtain rfl := Option.some.inj H
       go_wp2
       go_ret
       exact ⟨by rfl, by repeat (first | exact Drawn0.refl _ | apply Drawn0.step)⟩
end Go.Proofs.YtlamgdibnnmbmaaDoor.PSort
end
section
namespace Go.Proofs.YtlamgdibnnmbmaaDoor.PSort
open Go.RowKit Go.Proofs.YtlamgdibnnmbmaaDoorW.PrintWords Go.Proofs.YtlamgdibnnmbmaaDoorW.PrintLast Go.Proofs.YtlamgdibnnmbmaaDoorW.PrintMore
attribute [local go_sem] max2_int min2_int max_two min_two max_three min_three max_four min_four
set_option linter.unusedVariables false
set_option linter.unusedSimpArgs false
def note_word.l0 : Nat → ByteArray → Int → Int → Option (Bool)
 | 0, _, _, _ => none
 | k + 1, x0, x8, x9 => if x9 < x8 then (if 0 ≤ x9 then (if x9 < (x0.size : Int) then (if (bt x0 x9) < 32 then (some false) else (if (bt x0 x9) > 126 then (some false) else (note_word.l0 k x0 x8 (wrap64 (x9 + 1))))) else (none)) else (none)) else (some true)
def note_word.f (k : Nat) (a0 : ByteArray) : Option (Bool) := if (a0.size : Int) > 200 then (some false) else (note_word.l0 k a0 (a0.size : Int) 0)
theorem note_word.mono_l : ∀ k, (∀ y0 y1 y2, LeO (note_word.l0 k y0 y1 y2) (note_word.l0 (k + 1) y0 y1 y2))
 | 0 => fun _ _ _ r h => by simp [note_word.l0] at h
 | k + 1 => by
  have ih0 := note_word.mono_l k
  ·intro y0 y1 y2
   unfold note_word.l0
   repeat' first | with_reducible exact ih0 _ _ _ | with_reducible exact LeO.refl _ | with_reducible exact LeO.none _ | with_reducible refine LeO.ite ?_ ?_ | with_reducible refine LeO.bind ?_ (fun _ => ?_)
theorem note_word.mono : ∀ a0 k, LeO (note_word.f k a0) (note_word.f (k + 1) a0) := by
 intro a0 k
 have ih0 := note_word.mono_l k
 unfold note_word.f
 repeat' first | with_reducible exact ih0 _ _ _ | with_reducible exact LeO.refl _ | with_reducible exact LeO.none _ | with_reducible refine LeO.ite ?_ ?_ | with_reducible refine LeO.bind ?_ (fun _ => ?_)
set_option maxHeartbeats 8000000 in
set_option maxRecDepth 100000 in
theorem note_word.calls (k : Nat) (a0 : ByteArray) (r : Bool) (w : World) (h : note_word.f k a0 = some r) :
  Calls Tryd.prog 40 #[.string a0] w fun e w' => e = .returned (.bool r) ∧ Drawn0 w w' := by
 have H := h
 clear h
 unfold note_word.f at H
 by_cases c2 : (a0.size : Int) > 200
 ·rw [if_pos c2] at H
  have c2b0 : decide (200 < (a0.size : Int)) = true := decide_eq_true c2
  have c2b1 : decide (200 < a0.size) = true := decide_eq_true (by omega)
  clear c2
  obtain rfl := Option.some.inj H
  go_enter Tryd.func40, Tryd.ntmps40
  go_wp2
  go_ret
  exact ⟨by rfl, by repeat (exact Drawn0.refl _)⟩
 ·rw [if_neg c2] at H
  have c2b0 : decide (200 < (a0.size : Int)) = false := decide_eq_false c2
  have c2b1 : decide (200 < a0.size) = false := decide_eq_false (by omega)
  clear c2
  have H' := Aside0.mk H
  clear H
  go_enter Tryd.func40, Tryd.ntmps40
  go_wp2
  go_loopg [9] k (fun kq v9 w' => ∃ (x9_1 : Int), v9 = .int .i64 x9_1 ∧ Aside0 (note_word.l0 kq a0 (a0.size : Int) x9_1 = some r) ∧ Aside0 (kq ≤ k) ∧ Drawn0 w w')
  case atStart => exact ⟨(0), (by rfl), H', ⟨Nat.le_refl _⟩, by repeat (exact Drawn0.refl _)⟩
  case round =>
   clear H'
   (try clear c2b0); (try clear c2b1)
   obtain ⟨x9_1, rfl, HA, HK1, ⟨m1, rfl⟩⟩ := hrel
   cases gk with
   | zero => exact absurd HA.out (by simp [note_word.l0])
   | succ k1 =>
    have H := HA.out
    clear HA
    simp only [note_word.l0] at H
    replace H := iD H; rcases H with ⟨c3b0, H⟩ | ⟨c3b0, H⟩
    ·replace H := iN H; obtain ⟨c4b0, H⟩ := H
     replace H := iN H; obtain ⟨c5b0, H⟩ := H
     replace H := iD H; rcases H with ⟨c7b0, H⟩ | ⟨c7b0, H⟩
     ·obtain rfl := Option.some.inj H
      have p6 : 0 ≤ (x9_1 : Int) := of_decide_eq_true (by (with_reducible assumption))
      have q6 : x9_1 < (a0.size : Int) := of_decide_eq_true (by (with_reducible assumption))
      have hx6 := bt_at a0 x9_1
      replace p6 := eq_true p6
      replace q6 := eq_true q6
      go_wp2
      go_ret
      exact ⟨by rfl, by repeat (first | exact Drawn0.refl _ | apply Drawn0.step)⟩
     ·replace H := iD H; rcases H with ⟨c9b0, H⟩ | ⟨c9b0, H⟩
      ·replace c9b0 : decide (126 < (bt a0 x9_1)) = true := c9b0
       obtain rfl := Option.some.inj H
       have p6 : 0 ≤ (x9_1 : Int) := of_decide_eq_true (by (with_reducible assumption))
       have q6 : x9_1 < (a0.size : Int) := of_decide_eq_true (by (with_reducible assumption))
       have hx6 := bt_at a0 x9_1
       replace p6 := eq_true p6
       replace q6 := eq_true q6
       have p8 : 0 ≤ (x9_1 : Int) := of_decide_eq_true (by (with_reducible assumption))
       have q8 : x9_1 < (a0.size : Int) := of_decide_eq_true (by (with_reducible assumption))
       have hx8 := bt_at a0 x9_1
       replace p8 := eq_true p8
       replace q8 := eq_true q8
       go_wp2
       go_ret
       exact ⟨by rfl, by repeat (first | exact Drawn0.refl _ | apply Drawn0.step)⟩
      ·replace c9b0 : decide (126 < (bt a0 x9_1)) = false := c9b0
       have H' := Aside0.mk H
       clear H
       have p6 : 0 ≤ (x9_1 : Int) := of_decide_eq_true (by (with_reducible assumption))
       have q6 : x9_1 < (a0.size : Int) := of_decide_eq_true (by (with_reducible assumption))
       have hx6 := bt_at a0 x9_1
       replace p6 := eq_true p6
       replace q6 := eq_true q6
       have p8 : 0 ≤ (x9_1 : Int) := of_decide_eq_true (by (with_reducible assumption))
       have q8 : x9_1 < (a0.size : Int) := of_decide_eq_true (by (with_reducible assumption))
       have hx8 := bt_at a0 x9_1
       replace p8 := eq_true p8
       replace q8 := eq_true q8
       go_wp2
       go_roundg k1
       case measure => have := HK1.out; omega
       case rel => exact ⟨(wrap64 (x9_1 + 1)), (by rfl), H', ⟨by have := HK1.out; omega⟩, by repeat (first | exact Drawn0.refl _ | apply Drawn0.step)⟩
    ·obtain rfl := Option.some.inj H
     go_wp2
     go_ret
     exact ⟨by rfl, by repeat (first | exact Drawn0.refl _ | apply Drawn0.step)⟩
end Go.Proofs.YtlamgdibnnmbmaaDoor.PSort
end
