/- Part 26 of the proof of LexTokensSaid: The law LexTokens: for all arguments it returns true; each argument reads behind the call as it read before. Out of the plain theorem of YtlamgdibnnmbmaaLtA and the printed contract. -/
import Derived.Test.YtlamgdibnnmbmaaQLexTokens13
import Derived.Test.YtlamgdibnnmbmaaQLexTokens15
section
namespace Go.Proofs.Ytlamgdibnnmbmaa.PLex
open Go.RowKit Go.Proofs.YtlamgdibnnmbmaaW.PrintWords Go.Proofs.YtlamgdibnnmbmaaW.PrintLast Go.Proofs.YtlamgdibnnmbmaaW.PrintMore
attribute [local go_sem] max2_int min2_int max_two min_two max_three min_three max_four min_four
set_option linter.unusedVariables false
set_option linter.unusedSimpArgs false
def cmp_isNaN_string.f (a0 : ByteArray) : Option (Bool) := some (a0.toList != a0.toList)
set_option maxHeartbeats 8000000 in
set_option maxRecDepth 100000 in
theorem cmp_isNaN_string.calls (a0 : ByteArray) (r : Bool) (w : World) (h : cmp_isNaN_string.f a0 = some r) :
  Calls Try.prog 86 #[.string a0] w fun e w' => e = .returned (.bool r) ∧ Drawn0 w w' := by
 have H := h
 clear h
 unfold cmp_isNaN_string.f at H
 obtain rfl := Option.some.inj H
 go_enter Try.func86, Try.ntmps86
 go_wp2
 go_ret
 exact ⟨by rfl, by repeat (exact Drawn0.refl _)⟩
end Go.Proofs.Ytlamgdibnnmbmaa.PLex
end
section
namespace Go.Proofs.Ytlamgdibnnmbmaa.PLex
open Go.RowKit Go.Proofs.YtlamgdibnnmbmaaW.PrintWords Go.Proofs.YtlamgdibnnmbmaaW.PrintLast Go.Proofs.YtlamgdibnnmbmaaW.PrintMore
attribute [local go_sem] max2_int min2_int max_two min_two max_three min_three max_four min_four
set_option linter.unusedVariables false
set_option linter.unusedSimpArgs false
def cmp_Less_string.f (a0 : ByteArray) (a1 : ByteArray) : Option (Bool) := (cmp_isNaN_string.f a0).bind fun t106 => (if t106 = true then ((cmp_isNaN_string.f a1).bind fun t107 => (if t107 = true then (some (Op.bytesLess a0.toList a1.toList)) else (some true))) else (some (Op.bytesLess a0.toList a1.toList)))
set_option maxHeartbeats 8000000 in
set_option maxRecDepth 100000 in
theorem cmp_Less_string.calls (a0 : ByteArray) (a1 : ByteArray) (r : Bool) (w : World) (h : cmp_Less_string.f a0 a1 = some r) :
  Calls Try.prog 70 #[.string a0, .string a1] w fun e w' => e = .returned (.bool r) ∧ Drawn0 w w' := by
 have H := h
 clear h
 unfold cmp_Less_string.f at H
 replace H := bN H; obtain ⟨t106, A3, H⟩ := H
 replace H := iB H; rcases H with ⟨rfl, H⟩ | ⟨rfl, H⟩
 ·replace H := bN H; obtain ⟨t107, A5, H⟩ := H
  replace H := iB H; rcases H with ⟨rfl, H⟩ | ⟨rfl, H⟩
  ·obtain rfl := Option.some.inj H
   go_enter Try.func70, Try.ntmps70
   go_wp2_with (first | (refine callA (some 6) Try.func86 #[.string a0] ?_; (with_reducible refine (cmp_isNaN_string.calls a0 true _ A3.out).mono ?_); rintro e w' ⟨rfl, ⟨nd, rfl⟩⟩; refine ⟨_, rfl, ?_⟩) | (go_at_call 86; (with_reducible refine (cmp_isNaN_string.calls a1 true _ A5.out).mono ?_); rintro e w' ⟨rfl, ⟨nd, rfl⟩⟩))
   go_ret
   exact ⟨by rfl, by repeat (first | exact Drawn0.refl _ | apply Drawn0.step)⟩
  ·obtain rfl := Option.some.inj H
   go_enter Try.func70, Try.ntmps70
   go_wp2_with (first | (refine callA (some 6) Try.func86 #[.string a0] ?_; (with_reducible refine (cmp_isNaN_string.calls a0 true _ A3.out).mono ?_); rintro e w' ⟨rfl, ⟨nd, rfl⟩⟩; refine ⟨_, rfl, ?_⟩) | (go_at_call 86; (with_reducible refine (cmp_isNaN_string.calls a1 false _ A5.out).mono ?_); rintro e w' ⟨rfl, ⟨nd, rfl⟩⟩))
   go_ret
   exact ⟨by rfl, by repeat (first | exact Drawn0.refl _ | apply Drawn0.step)⟩
 ·obtain rfl := Option.some.inj H
  go_enter Try.func70, Try.ntmps70
  go_wp2_with ((refine callA (some 6) Try.func86 #[.string a0] ?_; (with_reducible refine (cmp_isNaN_string.calls a0 false _ A3.out).mono ?_); rintro e w' ⟨rfl, ⟨nd, rfl⟩⟩; refine ⟨_, rfl, ?_⟩))
  go_ret
  exact ⟨by rfl, by repeat (first | exact Drawn0.refl _ | apply Drawn0.step)⟩
end Go.Proofs.Ytlamgdibnnmbmaa.PLex
end
section
namespace Go.Proofs.Ytlamgdibnnmbmaa.PLex
open Go.RowKit Go.Proofs.YtlamgdibnnmbmaaW.PrintWords Go.Proofs.YtlamgdibnnmbmaaW.PrintLast Go.Proofs.YtlamgdibnnmbmaaW.PrintMore
attribute [local go_sem] max2_int min2_int max_two min_two max_three min_three max_four min_four
set_option linter.unusedVariables false
set_option linter.unusedSimpArgs false
def slices_isNaN_string.f (a0 : ByteArray) : Option (Bool) := some (a0.toList != a0.toList)
set_option maxHeartbeats 8000000 in
set_option maxRecDepth 100000 in
theorem slices_isNaN_string.calls (a0 : ByteArray) (r : Bool) (w : World) (h : slices_isNaN_string.f a0 = some r) :
  Calls Try.prog 71 #[.string a0] w fun e w' => e = .returned (.bool r) ∧ Drawn0 w w' := by
 have H := h
 clear h
 unfold slices_isNaN_string.f at H
 obtain rfl := Option.some.inj H
 go_enter Try.func71, Try.ntmps71
 go_wp2
 go_ret
 exact ⟨by rfl, by repeat (exact Drawn0.refl _)⟩
end Go.Proofs.Ytlamgdibnnmbmaa.PLex
end
section
namespace Go.Proofs.Ytlamgdibnnmbmaa.PLex
open Go.RowKit Go.Proofs.YtlamgdibnnmbmaaW.PrintWords Go.Proofs.YtlamgdibnnmbmaaW.PrintLast Go.Proofs.YtlamgdibnnmbmaaW.PrintMore
attribute [local go_sem] max2_int min2_int max_two min_two max_three min_three max_four min_four
set_option linter.unusedVariables false
set_option linter.unusedSimpArgs false
def slices_BinarySearch_string_string.l0 : Nat → List ByteArray → ByteArray → Int → Int → Int → Option (Int × Bool)
 | 0, _, _, _, _, _ => none
 | k + 1, x0, x1, x6, x7, x8 => if x7 < x8 then (if 0 ≤ (wrap64 ((IntKind.u64.wrap (wrap64 (x7 + x8))) / 2)) then (if (wrap64 ((IntKind.u64.wrap (wrap64 (x7 + x8))) / 2)) < (x0.length : Int) then ((cmp_Less_string.f (rdOf ByteArray.empty x0 (wrap64 ((IntKind.u64.wrap (wrap64 (x7 + x8))) / 2))) x1).bind fun t109 => (if t109 = true then (slices_BinarySearch_string_string.l0 k x0 x1 x6 (wrap64 ((wrap64 ((IntKind.u64.wrap (wrap64 (x7 + x8))) / 2)) + 1)) x8) else (slices_BinarySearch_string_string.l0 k x0 x1 x6 x7 (wrap64 ((IntKind.u64.wrap (wrap64 (x7 + x8))) / 2))))) else (none)) else (none)) else (if x7 < x6 then (if 0 ≤ x7 then (if x7 < (x0.length : Int) then (if (rdOf ByteArray.empty x0 x7).toList = x1.toList then (some (x7, true)) else ((slices_isNaN_string.f (rdOf ByteArray.empty x0 x7)).bind fun t112 => (if t112 = true then ((slices_isNaN_string.f x1).bind fun t113 => (some (x7, t113))) else (some (x7, false))))) else (none)) else (none)) else (some (x7, false)))
def slices_BinarySearch_string_string.f (k : Nat) (l0 : List ByteArray) (a1 : ByteArray) : Option (Int × Bool) := slices_BinarySearch_string_string.l0 k l0 a1 (l0.length : Int) 0 (l0.length : Int)
theorem slices_BinarySearch_string_string.mono_l : ∀ k, (∀ y0 y1 y2 y3 y4, LeO (slices_BinarySearch_string_string.l0 k y0 y1 y2 y3 y4) (slices_BinarySearch_string_string.l0 (k + 1) y0 y1 y2 y3 y4))
 | 0 => fun _ _ _ _ _ r h => by simp [slices_BinarySearch_string_string.l0] at h
 | k + 1 => by
  have ih0 := slices_BinarySearch_string_string.mono_l k
  ·intro y0 y1 y2 y3 y4
   unfold slices_BinarySearch_string_string.l0
   repeat' first | with_reducible exact ih0 _ _ _ _ _ | with_reducible exact LeO.refl _ | with_reducible exact LeO.none _ | with_reducible refine LeO.ite ?_ ?_ | with_reducible refine LeO.bind ?_ (fun _ => ?_)
theorem slices_BinarySearch_string_string.mono : ∀ a0 a1 k, LeO (slices_BinarySearch_string_string.f k a0 a1) (slices_BinarySearch_string_string.f (k + 1) a0 a1) := by
 intro a0 a1 k
 have ih0 := slices_BinarySearch_string_string.mono_l k
 unfold slices_BinarySearch_string_string.f
 repeat' first | with_reducible exact ih0 _ _ _ _ _ | with_reducible exact LeO.refl _ | with_reducible exact LeO.none _ | with_reducible refine LeO.ite ?_ ?_ | with_reducible refine LeO.bind ?_ (fun _ => ?_)
set_option maxHeartbeats 8000000 in
set_option maxRecDepth 100000 in
theorem slices_BinarySearch_string_string.calls (k : Nat) (A0 : Option Addr) (c0 : Nat) (l0 : List ByteArray) (a1 : ByteArray) (r1 : Int) (r2 : Bool) (w : World) (hr0 : Kd.C Kd.string w A0 l0.length l0) (hc0 : l0.length ≤ c0) (h : slices_BinarySearch_string_string.f k l0 a1 = some (r1, r2)) :
  Calls Try.prog 46 #[.slice A0 l0.length c0, .string a1] w fun e w' => e = .returned (.tuple #[.int .i64 r1, .bool r2]) ∧ Drawn0 w w' := by
 have HR0 := Aside0.mk hr0
 have HC0 := Aside0.mk hc0
 clear hr0 hc0
 have H := h
 clear h
 unfold slices_BinarySearch_string_string.f at H
 have H' := Aside0.mk H
 clear H
 go_enter Try.func46, Try.ntmps46
 go_wp2
 go_loopg [7, 8] k (fun kq v7 v8 w' => ∃ (x7_1 : Int) (x8_1 : Int), v7 = .int .i64 x7_1 ∧ v8 = .int .i64 x8_1 ∧ Aside0 (slices_BinarySearch_string_string.l0 kq l0 a1 (l0.length : Int) x7_1 x8_1 = some (r1, r2)) ∧ Aside0 (kq ≤ k) ∧ Drawn0 w w')
 case atStart => exact ⟨(0), (l0.length : Int), (by rfl), (by rfl), H', ⟨Nat.le_refl _⟩, by repeat (exact Drawn0.refl _)⟩
 case round =>
  clear H'
  try clear p2
  obtain ⟨x7_1, x8_1, rfl, rfl, HA, HK1, ⟨m1, rfl⟩⟩ := hrel
  cases gk with
  | zero => exact absurd HA.out (by simp [slices_BinarySearch_string_string.l0])
  | succ k1 =>
   have H := HA.out
   clear HA
   simp only [slices_BinarySearch_string_string.l0] at H
   replace H := iD H; rcases H with ⟨c3b0, H⟩ | ⟨c3b0, H⟩
   ·obtain ⟨ji4, hji4⟩ : ∃ j_ : Int, (wrap64 ((IntKind.u64.wrap (wrap64 (x7_1 + x8_1))) / 2)) = j_ := ⟨_, rfl⟩
    replace H : (if 0 ≤ (ji4) then (if (ji4) < (l0.length : Int) then ((cmp_Less_string.f (rdOf ByteArray.empty l0 (ji4)) a1).bind fun t109 => (if t109 = true then (slices_BinarySearch_string_string.l0 k1 l0 a1 (l0.length : Int) (wrap64 ((ji4) + 1)) x8_1) else (slices_BinarySearch_string_string.l0 k1 l0 a1 (l0.length : Int) x7_1 ji4))) else (none)) else (none)) = some (r1, r2) := by (rw [hji4] at H; exact H)
    have hji4w : (IntKind.i64.wrap ((IntKind.u64.wrap (wrap64 (x7_1 + x8_1))) / 2)) = ji4 := (i64_w _).trans hji4
    replace H := iN H; obtain ⟨c5b0, H⟩ := H
    replace H := iN H; obtain ⟨c6b0, H⟩ := H
    replace H := bN H; obtain ⟨t109, A7, H⟩ := H
    replace H := iB H; rcases H with ⟨rfl, H⟩ | ⟨rfl, H⟩
    ·have H' := Aside0.mk H
     clear H
     have p108 : 0 ≤ ((ji4) : Int) := of_decide_eq_true (by (with_reducible assumption))
     have q108 : (ji4) < (l0.length : Int) := of_decide_eq_true (by (with_reducible assumption))
     obtain ⟨ad108, e108, hx108_0⟩ := Kd.at_string HR0.out (ji4) p108 q108
     cases e108
     replace p108 := eq_true p108
     replace q108 := eq_true q108
     go_wp2_with ((refine callA (some 27) Try.func70 #[.string (rdOf ByteArray.empty l0 (ji4)), .string a1] ?_; (with_reducible refine (cmp_Less_string.calls (rdOf ByteArray.empty l0 (ji4)) a1 true _ A7.out).mono ?_); rintro e w' ⟨rfl, ⟨nd, rfl⟩⟩; refine ⟨_, rfl, ?_⟩))
     go_roundg k1
     case measure => have := HK1.out; omega
     case rel => exact ⟨(wrap64 ((ji4) + 1)), (x8_1), (by rfl), (by rfl), H', ⟨by have := HK1.out; omega⟩, by repeat (first | exact Drawn0.refl _ | apply Drawn0.step)⟩
    ·have H' := Aside0.mk H
     clear H
     have p108 : 0 ≤ ((ji4) : Int) := of_decide_eq_true (by (with_reducible assumption))
     have q108 : (ji4) < (l0.length : Int) := of_decide_eq_true (by (with_reducible assumption))
     obtain ⟨ad108, e108, hx108_0⟩ := Kd.at_string HR0.out (ji4) p108 q108
     cases e108
     replace p108 := eq_true p108
     replace q108 := eq_true q108
     go_wp2_with ((refine callA (some 27) Try.func70 #[.string (rdOf ByteArray.empty l0 (ji4)), .string a1] ?_; (with_reducible refine (cmp_Less_string.calls (rdOf ByteArray.empty l0 (ji4)) a1 false _ A7.out).mono ?_); rintro e w' ⟨rfl, ⟨nd, rfl⟩⟩; refine ⟨_, rfl, ?_⟩))
     go_roundg k1
     case measure => have := HK1.out; omega
     case rel => exact ⟨(x7_1), (ji4), (by rfl), (by rfl), H', ⟨by have := HK1.out; omega⟩, by repeat (first | exact Drawn0.refl _ | apply Drawn0.step)⟩
   ·replace H := iD H; rcases H with ⟨c9b0, H⟩ | ⟨c9b0, H⟩
    ·replace H := iN H; obtain ⟨c10b0, H⟩ := H
     replace H := iN H; obtain ⟨c11b0, H⟩ := H
     replace H := iE H; rcases H with ⟨c12b0, c12b1, H⟩ | ⟨c12, c12b0, c12b1, H⟩
     ·replace H := s2 H; obtain ⟨rfl, rfl⟩ := H
      have p110 : 0 ≤ (x7_1 : Int) := of_decide_eq_true (by (with_reducible assumption))
      have q110 : x7_1 < (l0.length : Int) := of_decide_eq_true (by (with_reducible assumption))
      obtain ⟨ad110, e110, hx110_0⟩ := Kd.at_string HR0.out x7_1 p110 q110
      cases e110
      replace p110 := eq_true p110
      replace q110 := eq_true q110
      go_wp2
      go_ret2
      exact ⟨by rfl, by repeat (first | exact Drawn0.refl _ | apply Drawn0.step)⟩
     ·replace H := bN H; obtain ⟨t112, A13, H⟩ := H
      replace H := iB H; rcases H with ⟨rfl, H⟩ | ⟨rfl, H⟩
      ·replace H := bN H; obtain ⟨t113, A15, H⟩ := H
       replace H := s2 H; obtain ⟨rfl, rfl⟩ := H
       have p110 : 0 ≤ (x7_1 : Int) := of_decide_eq_true (by (with_reducible assumption))
       have q110 : x7_1 < (l0.length : Int) := of_decide_eq_true (by (with_reducible assumption))
       obtain ⟨ad110, e110, hx110_0⟩ := Kd.at_string HR0.out x7_1 p110 q110
       cases e110
       replace p110 := eq_true p110
       replace q110 := eq_true q110
       have p111 : 0 ≤ (x7_1 : Int) := of_decide_eq_true (by (with_reducible assumption))
       have q111 : x7_1 < (l0.length : Int) := of_decide_eq_true (by (with_reducible assumption))
       obtain ⟨ad111, e111, hx111_0⟩ := Kd.at_string HR0.out x7_1 p111 q111
       obtain rfl : ad110 = ad111 := (by injection e111)
       replace p111 := eq_true p111
       replace q111 := eq_true q111
       go_wp2_with (first | (go_at_call 71; (with_reducible refine (slices_isNaN_string.calls (rdOf ByteArray.empty l0 x7_1) true _ A13.out).mono ?_); rintro e w' ⟨rfl, ⟨nd, rfl⟩⟩) | (go_at_call 71; (with_reducible refine (slices_isNaN_string.calls a1 t113 _ A15.out).mono ?_); rintro e w' ⟨rfl, ⟨nd, rfl⟩⟩))
       go_ret2
       exact ⟨by rfl, by repeat (first | exact Drawn0.refl _ | apply Drawn0.step)⟩
      ·replace H := s2 H; obtain ⟨rfl, rfl⟩ := H
       have p110 : 0 ≤ (x7_1 : Int) := of_decide_eq_true (by (with_reducible assumption))
       have q110 : x7_1 < (l0.length : Int) := of_decide_eq_true (by (with_reducible assumption))
       obtain ⟨ad110, e110, hx110_0⟩ := Kd.at_string HR0.out x7_1 p110 q110
       cases e110
       replace p110 := eq_true p110
       replace q110 := eq_true q110
       have p111 : 0 ≤ (x7_1 : Int) := of_decide_eq_true (by (with_reducible assumption))
       have q111 : x7_1 < (l0.length : Int) := of_decide_eq_true (by (with_reducible assumption))
       obtain ⟨ad111, e111, hx111_0⟩ := Kd.at_string HR0.out x7_1 p111 q111
       obtain rfl : ad110 = ad111 := (by injection e111)
       replace p111 := eq_true p111
       replace q111 := eq_true q111
       go_wp2_with ((go_at_call 71; (with_reducible refine (slices_isNaN_string.calls (rdOf ByteArray.empty l0 x7_1) false _ A13.out).mono ?_); rintro e w' ⟨rfl, ⟨nd, rfl⟩⟩))
       go_ret2
       exact ⟨by rfl, by repeat (first | exact Drawn0.refl _ | apply Drawn0.step)⟩
    ·replace H := s2 H; obtain ⟨rfl, rfl⟩ := H
     go_wp2
     go_ret2
     exact ⟨by rfl, by repeat (first | exact Drawn0.refl _ | apply Drawn0.step)⟩
end Go.Proofs.Ytlamgdibnnmbmaa.PLex
end
section
namespace Go.Proofs.Ytlamgdibnnmbmaa.PLex
open Go.RowKit Go.Proofs.YtlamgdibnnmbmaaW.PrintWords Go.Proofs.YtlamgdibnnmbmaaW.PrintLast Go.Proofs.YtlamgdibnnmbmaaW.PrintMore
attribute [local go_sem] max2_int min2_int max_two min_two max_three min_three max_four min_four
set_option linter.unusedVariables false
set_option linter.unusedSimpArgs false
def lex_Words.f  : Option (List ByteArray) := some (([(⟨#[97, 102, 116, 101, 114]⟩ : ByteArray), (⟨#[97, 108, 119, 97, 121, 115]⟩ : ByteArray), (⟨#[97, 110, 100]⟩ : ByteArray), (⟨#[97, 115, 115, 105, 103, 110]⟩ : ByteArray), (⟨#[99, 97, 115, 101]⟩ : ByteArray), (⟨#[99, 97, 115, 101, 120]⟩ : ByteArray), (⟨#[99, 97, 115, 101, 122]⟩ : ByteArray), (⟨#[99, 97, 116]⟩ : ByteArray), (⟨#[99, 104, 101, 99, 107]⟩ : ByteArray), (⟨#[99, 111, 109, 98]⟩ : ByteArray), (⟨#[99, 111, 110, 115, 116]⟩ : ByteArray), (⟨#[100, 101, 102, 97, 117, 108, 116]⟩ : ByteArray), (⟨#[100, 101, 108, 97, 121]⟩ : ByteArray), (⟨#[100, 111, 119, 110, 116, 111]⟩ : ByteArray), (⟨#[101, 108, 115, 101]⟩ : ByteArray), (⟨#[101, 110, 117, 109]⟩ : ByteArray), (⟨#[102, 97, 108, 108]⟩ : ByteArray), (⟨#[102, 111, 114]⟩ : ByteArray), (⟨#[102, 117, 110, 99, 116, 105, 111, 110]⟩ : ByteArray), (⟨#[105, 102]⟩ : ByteArray), (⟨#[105, 110]⟩ : ByteArray), (⟨#[105, 110, 105, 116, 105, 97, 108]⟩ : ByteArray), (⟨#[105, 110, 115, 116]⟩ : ByteArray), (⟨#[105, 110, 116, 101, 114, 102, 97, 99, 101]⟩ : ByteArray), (⟨#[108, 105, 110, 107]⟩ : ByteArray), (⟨#[108, 111, 103]⟩ : ByteArray), (⟨#[109, 111, 100, 117, 108, 101]⟩ : ByteArray), (⟨#[109, 111, 110, 105, 116, 111, 114]⟩ : ByteArray), (⟨#[110, 111, 119]⟩ : ByteArray), (⟨#[111, 110]⟩ : ByteArray), (⟨#[111, 114]⟩ : ByteArray), (⟨#[111, 117, 116]⟩ : ByteArray), (⟨#[112, 114, 111, 112, 101, 114, 116, 121]⟩ : ByteArray), (⟨#[114, 101, 112]⟩ : ByteArray), (⟨#[114, 101, 112, 101, 97, 116]⟩ : ByteArray), (⟨#[114, 105, 115, 101]⟩ : ByteArray), (⟨#[115, 101, 113]⟩ : ByteArray), (⟨#[115, 104, 111, 119]⟩ : ByteArray), (⟨#[115, 105, 103, 110, 101, 100]⟩ : ByteArray), (⟨#[115, 105, 122, 101]⟩ : ByteArray), (⟨#[115, 116, 111, 112]⟩ : ByteArray), (⟨#[115, 116, 114, 111, 98, 101]⟩ : ByteArray), (⟨#[115, 116, 114, 117, 99, 116]⟩ : ByteArray), (⟨#[116, 104, 101, 110]⟩ : ByteArray), (⟨#[116, 105, 109, 101, 115]⟩ : ByteArray), (⟨#[116, 111]⟩ : ByteArray), (⟨#[117, 110, 115, 105, 103, 110, 101, 100]⟩ : ByteArray), (⟨#[118, 97, 114]⟩ : ByteArray), (⟨#[118, 105, 101, 119]⟩ : ByteArray), (⟨#[119, 97, 105, 116]⟩ : ByteArray), (⟨#[119, 104, 105, 108, 101]⟩ : ByteArray), (⟨#[119, 105, 100, 116, 104]⟩ : ByteArray), (⟨#[119, 105, 114, 101]⟩ : ByteArray), (⟨#[119, 114, 105, 116, 101]⟩ : ByteArray)] : List ByteArray))
set_option maxHeartbeats 8000000 in
set_option maxRecDepth 100000 in
theorem lex_Words.calls  (r : List ByteArray) (w : World) (h : lex_Words.f  = some r) :
  Calls Try.prog 47 #[] w fun e w' => ∃ v0_ : Value, e = .returned (v0_) ∧ Kd.R Kd.string 9 w' w.heap.size (fun _ => True) v0_ r ∧ Below w.heap.size w w' := by
 have HB := Aside0.mk (Below.refl w.heap.size w)
 have H := h
 clear h
 unfold lex_Words.f at H
 obtain ⟨y114, hy114⟩ : ∃ y_ : List ByteArray, y_ = ([(⟨#[97, 102, 116, 101, 114]⟩ : ByteArray), (⟨#[97, 108, 119, 97, 121, 115]⟩ : ByteArray), (⟨#[97, 110, 100]⟩ : ByteArray), (⟨#[97, 115, 115, 105, 103, 110]⟩ : ByteArray), (⟨#[99, 97, 115, 101]⟩ : ByteArray), (⟨#[99, 97, 115, 101, 120]⟩ : ByteArray), (⟨#[99, 97, 115, 101, 122]⟩ : ByteArray), (⟨#[99, 97, 116]⟩ : ByteArray), (⟨#[99, 104, 101, 99, 107]⟩ : ByteArray), (⟨#[99, 111, 109, 98]⟩ : ByteArray), (⟨#[99, 111, 110, 115, 116]⟩ : ByteArray), (⟨#[100, 101, 102, 97, 117, 108, 116]⟩ : ByteArray), (⟨#[100, 101, 108, 97, 121]⟩ : ByteArray), (⟨#[100, 111, 119, 110, 116, 111]⟩ : ByteArray), (⟨#[101, 108, 115, 101]⟩ : ByteArray), (⟨#[101, 110, 117, 109]⟩ : ByteArray), (⟨#[102, 97, 108, 108]⟩ : ByteArray), (⟨#[102, 111, 114]⟩ : ByteArray), (⟨#[102, 117, 110, 99, 116, 105, 111, 110]⟩ : ByteArray), (⟨#[105, 102]⟩ : ByteArray), (⟨#[105, 110]⟩ : ByteArray), (⟨#[105, 110, 105, 116, 105, 97, 108]⟩ : ByteArray), (⟨#[105, 110, 115, 116]⟩ : ByteArray), (⟨#[105, 110, 116, 101, 114, 102, 97, 99, 101]⟩ : ByteArray), (⟨#[108, 105, 110, 107]⟩ : ByteArray), (⟨#[108, 111, 103]⟩ : ByteArray), (⟨#[109, 111, 100, 117, 108, 101]⟩ : ByteArray), (⟨#[109, 111, 110, 105, 116, 111, 114]⟩ : ByteArray), (⟨#[110, 111, 119]⟩ : ByteArray), (⟨#[111, 110]⟩ : ByteArray), (⟨#[111, 114]⟩ : ByteArray), (⟨#[111, 117, 116]⟩ : ByteArray), (⟨#[112, 114, 111, 112, 101, 114, 116, 121]⟩ : ByteArray), (⟨#[114, 101, 112]⟩ : ByteArray), (⟨#[114, 101, 112, 101, 97, 116]⟩ : ByteArray), (⟨#[114, 105, 115, 101]⟩ : ByteArray), (⟨#[115, 101, 113]⟩ : ByteArray), (⟨#[115, 104, 111, 119]⟩ : ByteArray), (⟨#[115, 105, 103, 110, 101, 100]⟩ : ByteArray), (⟨#[115, 105, 122, 101]⟩ : ByteArray), (⟨#[115, 116, 111, 112]⟩ : ByteArray), (⟨#[115, 116, 114, 111, 98, 101]⟩ : ByteArray), (⟨#[115, 116, 114, 117, 99, 116]⟩ : ByteArray), (⟨#[116, 104, 101, 110]⟩ : ByteArray), (⟨#[116, 105, 109, 101, 115]⟩ : ByteArray), (⟨#[116, 111]⟩ : ByteArray), (⟨#[117, 110, 115, 105, 103, 110, 101, 100]⟩ : ByteArray), (⟨#[118, 97, 114]⟩ : ByteArray), (⟨#[118, 105, 101, 119]⟩ : ByteArray), (⟨#[119, 97, 105, 116]⟩ : ByteArray), (⟨#[119, 104, 105, 108, 101]⟩ : ByteArray), (⟨#[119, 105, 100, 116, 104]⟩ : ByteArray), (⟨#[119, 105, 114, 101]⟩ : ByteArray), (⟨#[119, 114, 105, 116, 101]⟩ : ByteArray)] : List ByteArray) := ⟨_, rfl⟩
 replace H : (some y114) = some r := by (rw [hy114]; with_reducible exact H)
 have Ny114 := Aside0.mk hy114
 clear hy114
 obtain rfl := Option.some.inj H
 go_enter Try.func47, Try.ntmps47
 go_wp2_with (((with_reducible refine gate_dst (N := 1) rfl ?_); refine Kd.R_lit Kd.string _ 9 ?hg (N := 1) ?hd (xs := ([(⟨#[97, 102, 116, 101, 114]⟩ : ByteArray), (⟨#[97, 108, 119, 97, 121, 115]⟩ : ByteArray), (⟨#[97, 110, 100]⟩ : ByteArray), (⟨#[97, 115, 115, 105, 103, 110]⟩ : ByteArray), (⟨#[99, 97, 115, 101]⟩ : ByteArray), (⟨#[99, 97, 115, 101, 120]⟩ : ByteArray), (⟨#[99, 97, 115, 101, 122]⟩ : ByteArray), (⟨#[99, 97, 116]⟩ : ByteArray), (⟨#[99, 104, 101, 99, 107]⟩ : ByteArray), (⟨#[99, 111, 109, 98]⟩ : ByteArray), (⟨#[99, 111, 110, 115, 116]⟩ : ByteArray), (⟨#[100, 101, 102, 97, 117, 108, 116]⟩ : ByteArray), (⟨#[100, 101, 108, 97, 121]⟩ : ByteArray), (⟨#[100, 111, 119, 110, 116, 111]⟩ : ByteArray), (⟨#[101, 108, 115, 101]⟩ : ByteArray), (⟨#[101, 110, 117, 109]⟩ : ByteArray), (⟨#[102, 97, 108, 108]⟩ : ByteArray), (⟨#[102, 111, 114]⟩ : ByteArray), (⟨#[102, 117, 110, 99, 116, 105, 111, 110]⟩ : ByteArray), (⟨#[105, 102]⟩ : ByteArray), (⟨#[105, 110]⟩ : ByteArray), (⟨#[105, 110, 105, 116, 105, 97, 108]⟩ : ByteArray), (⟨#[105, 110, 115, 116]⟩ : ByteArray), (⟨#[105, 110, 116, 101, 114, 102, 97, 99, 101]⟩ : ByteArray), (⟨#[108, 105, 110, 107]⟩ : ByteArray), (⟨#[108, 111, 103]⟩ : ByteArray), (⟨#[109, 111, 100, 117, 108, 101]⟩ : ByteArray), (⟨#[109, 111, 110, 105, 116, 111, 114]⟩ : ByteArray), (⟨#[110, 111, 119]⟩ : ByteArray), (⟨#[111, 110]⟩ : ByteArray), (⟨#[111, 114]⟩ : ByteArray), (⟨#[111, 117, 116]⟩ : ByteArray), (⟨#[112, 114, 111, 112, 101, 114, 116, 121]⟩ : ByteArray), (⟨#[114, 101, 112]⟩ : ByteArray), (⟨#[114, 101, 112, 101, 97, 116]⟩ : ByteArray), (⟨#[114, 105, 115, 101]⟩ : ByteArray), (⟨#[115, 101, 113]⟩ : ByteArray), (⟨#[115, 104, 111, 119]⟩ : ByteArray), (⟨#[115, 105, 103, 110, 101, 100]⟩ : ByteArray), (⟨#[115, 105, 122, 101]⟩ : ByteArray), (⟨#[115, 116, 111, 112]⟩ : ByteArray), (⟨#[115, 116, 114, 111, 98, 101]⟩ : ByteArray), (⟨#[115, 116, 114, 117, 99, 116]⟩ : ByteArray), (⟨#[116, 104, 101, 110]⟩ : ByteArray), (⟨#[116, 105, 109, 101, 115]⟩ : ByteArray), (⟨#[116, 111]⟩ : ByteArray), (⟨#[117, 110, 115, 105, 103, 110, 101, 100]⟩ : ByteArray), (⟨#[118, 97, 114]⟩ : ByteArray), (⟨#[118, 105, 101, 119]⟩ : ByteArray), (⟨#[119, 97, 105, 116]⟩ : ByteArray), (⟨#[119, 104, 105, 108, 101]⟩ : ByteArray), (⟨#[119, 105, 100, 116, 104]⟩ : ByteArray), (⟨#[119, 105, 114, 101]⟩ : ByteArray), (⟨#[119, 114, 105, 116, 101]⟩ : ByteArray)] : List ByteArray)) (inner := [.string (⟨#[97, 102, 116, 101, 114]⟩ : ByteArray), .string (⟨#[97, 108, 119, 97, 121, 115]⟩ : ByteArray), .string (⟨#[97, 110, 100]⟩ : ByteArray), .string (⟨#[97, 115, 115, 105, 103, 110]⟩ : ByteArray), .string (⟨#[99, 97, 115, 101]⟩ : ByteArray), .string (⟨#[99, 97, 115, 101, 120]⟩ : ByteArray), .string (⟨#[99, 97, 115, 101, 122]⟩ : ByteArray), .string (⟨#[99, 97, 116]⟩ : ByteArray), .string (⟨#[99, 104, 101, 99, 107]⟩ : ByteArray), .string (⟨#[99, 111, 109, 98]⟩ : ByteArray), .string (⟨#[99, 111, 110, 115, 116]⟩ : ByteArray), .string (⟨#[100, 101, 102, 97, 117, 108, 116]⟩ : ByteArray), .string (⟨#[100, 101, 108, 97, 121]⟩ : ByteArray), .string (⟨#[100, 111, 119, 110, 116, 111]⟩ : ByteArray), .string (⟨#[101, 108, 115, 101]⟩ : ByteArray), .string (⟨#[101, 110, 117, 109]⟩ : ByteArray), .string (⟨#[102, 97, 108, 108]⟩ : ByteArray), .string (⟨#[102, 111, 114]⟩ : ByteArray), .string (⟨#[102, 117, 110, 99, 116, 105, 111, 110]⟩ : ByteArray), .string (⟨#[105, 102]⟩ : ByteArray), .string (⟨#[105, 110]⟩ : ByteArray), .string (⟨#[105, 110, 105, 116, 105, 97, 108]⟩ : ByteArray), .string (⟨#[105, 110, 115, 116]⟩ : ByteArray), .string (⟨#[105, 110, 116, 101, 114, 102, 97, 99, 101]⟩ : ByteArray), .string (⟨#[108, 105, 110, 107]⟩ : ByteArray), .string (⟨#[108, 111, 103]⟩ : ByteArray), .string (⟨#[109, 111, 100, 117, 108, 101]⟩ : ByteArray), .string (⟨#[109, 111, 110, 105, 116, 111, 114]⟩ : ByteArray), .string (⟨#[110, 111, 119]⟩ : ByteArray), .string (⟨#[111, 110]⟩ : ByteArray), .string (⟨#[111, 114]⟩ : ByteArray), .string (⟨#[111, 117, 116]⟩ : ByteArray), .string (⟨#[112, 114, 111, 112, 101, 114, 116, 121]⟩ : ByteArray), .string (⟨#[114, 101, 112]⟩ : ByteArray), .string (⟨#[114, 101, 112, 101, 97, 116]⟩ : ByteArray), .string (⟨#[114, 105, 115, 101]⟩ : ByteArray), .string (⟨#[115, 101, 113]⟩ : ByteArray), .string (⟨#[115, 104, 111, 119]⟩ : ByteArray), .string (⟨#[115, 105, 103, 110, 101, 100]⟩ : ByteArray), .string (⟨#[115, 105, 122, 101]⟩ : ByteArray), .string (⟨#[115, 116, 111, 112]⟩ : ByteArray), .string (⟨#[115, 116, 114, 111, 98, 101]⟩ : ByteArray), .string (⟨#[115, 116, 114, 117, 99, 116]⟩ : ByteArray), .string (⟨#[116, 104, 101, 110]⟩ : ByteArray), .string (⟨#[116, 105, 109, 101, 115]⟩ : ByteArray), .string (⟨#[116, 111]⟩ : ByteArray), .string (⟨#[117, 110, 115, 105, 103, 110, 101, 100]⟩ : ByteArray), .string (⟨#[118, 97, 114]⟩ : ByteArray), .string (⟨#[118, 105, 101, 119]⟩ : ByteArray), .string (⟨#[119, 97, 105, 116]⟩ : ByteArray), .string (⟨#[119, 104, 105, 108, 101]⟩ : ByteArray), .string (⟨#[119, 105, 100, 116, 104]⟩ : ByteArray), .string (⟨#[119, 105, 114, 101]⟩ : ByteArray), .string (⟨#[119, 114, 105, 116, 101]⟩ : ByteArray)]) (ok := fun _ => True) (okp := fun _ => True) ?hr ?hp (fun _ hk => hk) trivial (Below.refl _ _) (Nat.le_refl _) (by simp) ?_; (case hd => rfl); (case hg => rfl); (case hr => (go_simp; done)); (case hp => exact (Reps.one (show Kd.M Kd.string _ _ _ (⟨#[97, 102, 116, 101, 114]⟩ : ByteArray) [.string (⟨#[97, 102, 116, 101, 114]⟩ : ByteArray)] from rfl) (Reps.one (show Kd.M Kd.string _ _ _ (⟨#[97, 108, 119, 97, 121, 115]⟩ : ByteArray) [.string (⟨#[97, 108, 119, 97, 121, 115]⟩ : ByteArray)] from rfl) (Reps.one (show Kd.M Kd.string _ _ _ (⟨#[97, 110, 100]⟩ : ByteArray) [.string (⟨#[97, 110, 100]⟩ : ByteArray)] from rfl) (Reps.one (show Kd.M Kd.string _ _ _ (⟨#[97, 115, 115, 105, 103, 110]⟩ : ByteArray) [.string (⟨#[97, 115, 115, 105, 103, 110]⟩ : ByteArray)] from rfl) (Reps.one (show Kd.M Kd.string _ _ _ (⟨#[99, 97, 115, 101]⟩ : ByteArray) [.string (⟨#[99, 97, 115, 101]⟩ : ByteArray)] from rfl) (Reps.one (show Kd.M Kd.string _ _ _ (⟨#[99, 97, 115, 101, 120]⟩ : ByteArray) [.string (⟨#[99, 97, 115, 101, 120]⟩ : ByteArray)] from rfl) (Reps.one (show Kd.M Kd.string _ _ _ (⟨#[99, 97, 115, 101, 122]⟩ : ByteArray) [.string (⟨#[99, 97, 115, 101, 122]⟩ : ByteArray)] from rfl) (Reps.one (show Kd.M Kd.string _ _ _ (⟨#[99, 97, 116]⟩ : ByteArray) [.string (⟨#[99, 97, 116]⟩ : ByteArray)] from rfl) (Reps.one (show Kd.M Kd.string _ _ _ (⟨#[99, 104, 101, 99, 107]⟩ : ByteArray) [.string (⟨#[99, 104, 101, 99, 107]⟩ : ByteArray)] from rfl) (Reps.one (show Kd.M Kd.string _ _ _ (⟨#[99, 111, 109, 98]⟩ : ByteArray) [.string (⟨#[99, 111, 109, 98]⟩ : ByteArray)] from rfl) (Reps.one (show Kd.M Kd.string _ _ _ (⟨#[99, 111, 110, 115, 116]⟩ : ByteArray) [.string (⟨#[99, 111, 110, 115, 116]⟩ : ByteArray)] from rfl) (Reps.one (show Kd.M Kd.string _ _ _ (⟨#[100, 101, 102, 97, 117, 108, 116]⟩ : ByteArray) [.string (⟨#[100, 101, 102, 97, 117, 108, 116]⟩ : ByteArray)] from rfl) (Reps.one (show Kd.M Kd.string _ _ _ (⟨#[100, 101, 108, 97, 121]⟩ : ByteArray) [.string (⟨#[100, 101, 108, 97, 121]⟩ : ByteArray)] from rfl) (Reps.one (show Kd.M Kd.string _ _ _ (⟨#[100, 111, 119, 110, 116, 111]⟩ : ByteArray) [.string (⟨#[100, 111, 119, 110, 116, 111]⟩ : ByteArray)] from rfl) (Reps.one (show Kd.M Kd.string _ _ _ (⟨#[101, 108, 115, 101]⟩ : ByteArray) [.string (⟨#[101, 108, 115, 101]⟩ : ByteArray)] from rfl) (Reps.one (show Kd.M Kd.string _ _ _ (⟨#[101, 110, 117, 109]⟩ : ByteArray) [.string (⟨#[101, 110, 117, 109]⟩ : ByteArray)] from rfl) (Reps.one (show Kd.M Kd.string _ _ _ (⟨#[102, 97, 108, 108]⟩ : ByteArray) [.string (⟨#[102, 97, 108, 108]⟩ : ByteArray)] from rfl) (Reps.one (show Kd.M Kd.string _ _ _ (⟨#[102, 111, 114]⟩ : ByteArray) [.string (⟨#[102, 111, 114]⟩ : ByteArray)] from rfl) (Reps.one (show Kd.M Kd.string _ _ _ (⟨#[102, 117, 110, 99, 116, 105, 111, 110]⟩ : ByteArray) [.string (⟨#[102, 117, 110, 99, 116, 105, 111, 110]⟩ : ByteArray)] from rfl) (Reps.one (show Kd.M Kd.string _ _ _ (⟨#[105, 102]⟩ : ByteArray) [.string (⟨#[105, 102]⟩ : ByteArray)] from rfl) (Reps.one (show Kd.M Kd.string _ _ _ (⟨#[105, 110]⟩ : ByteArray) [.string (⟨#[105, 110]⟩ : ByteArray)] from rfl) (Reps.one (show Kd.M Kd.string _ _ _ (⟨#[105, 110, 105, 116, 105, 97, 108]⟩ : ByteArray) [.string (⟨#[105, 110, 105, 116, 105, 97, 108]⟩ : ByteArray)] from rfl) (Reps.one (show Kd.M Kd.string _ _ _ (⟨#[105, 110, 115, 116]⟩ : ByteArray) [.string (⟨#[105, 110, 115, 116]⟩ : ByteArray)] from rfl) (Reps.one (show Kd.M Kd.string _ _ _ (⟨#[105, 110, 116, 101, 114, 102, 97, 99, 101]⟩ : ByteArray) [.string (⟨#[105, 110, 116, 101, 114, 102, 97, 99, 101]⟩ : ByteArray)] from rfl) (Reps.one (show Kd.M Kd.string _ _ _ (⟨#[108, 105, 110, 107]⟩ : ByteArray) [.string (⟨#[108, 105, 110, 107]⟩ : ByteArray)] from rfl) (Reps.one (show Kd.M Kd.string _ _ _ (⟨#[108, 111, 103]⟩ : ByteArray) [.string (⟨#[108, 111, 103]⟩ : ByteArray)] from rfl) (Reps.one (show Kd.M Kd.string _ _ _ (⟨#[109, 111, 100, 117, 108, 101]⟩ : ByteArray) [.string (⟨#[109, 111, 100, 117, 108, 101]⟩ : ByteArray)] from rfl) (Reps.one (show Kd.M Kd.string _ _ _ (⟨#[109, 111, 110, 105, 116, 111, 114]⟩ : ByteArray) [.string (⟨#[109, 111, 110, 105, 116, 111, 114]⟩ : ByteArray)] from rfl) (Reps.one (show Kd.M Kd.string _ _ _ (⟨#[110, 111, 119]⟩ : ByteArray) [.string (⟨#[110, 111, 119]⟩ : ByteArray)] from rfl) (Reps.one (show Kd.M Kd.string _ _ _ (⟨#[111, 110]⟩ : ByteArray) [.string (⟨#[111, 110]⟩ : ByteArray)] from rfl) (Reps.one (show Kd.M Kd.string _ _ _ (⟨#[111, 114]⟩ : ByteArray) [.string (⟨#[111, 114]⟩ : ByteArray)] from rfl) (Reps.one (show Kd.M Kd.string _ _ _ (⟨#[111, 117, 116]⟩ : ByteArray) [.string (⟨#[111, 117, 116]⟩ : ByteArray)] from rfl) (Reps.one (show Kd.M Kd.string _ _ _ (⟨#[112, 114, 111, 112, 101, 114, 116, 121]⟩ : ByteArray) [.string (⟨#[112, 114, 111, 112, 101, 114, 116, 121]⟩ : ByteArray)] from rfl) (Reps.one (show Kd.M Kd.string _ _ _ (⟨#[114, 101, 112]⟩ : ByteArray) [.string (⟨#[114, 101, 112]⟩ : ByteArray)] from rfl) (Reps.one (show Kd.M Kd.string _ _ _ (⟨#[114, 101, 112, 101, 97, 116]⟩ : ByteArray) [.string (⟨#[114, 101, 112, 101, 97, 116]⟩ : ByteArray)] from rfl) (Reps.one (show Kd.M Kd.string _ _ _ (⟨#[114, 105, 115, 101]⟩ : ByteArray) [.string (⟨#[114, 105, 115, 101]⟩ : ByteArray)] from rfl) (Reps.one (show Kd.M Kd.string _ _ _ (⟨#[115, 101, 113]⟩ : ByteArray) [.string (⟨#[115, 101, 113]⟩ : ByteArray)] from rfl) (Reps.one (show Kd.M Kd.string _ _ _ (⟨#[115, 104, 111, 119]⟩ : ByteArray) [.string (⟨#[115, 104, 111, 119]⟩ : ByteArray)] from rfl) (Reps.one (show Kd.M Kd.string _ _ _ (⟨#[115, 105, 103, 110, 101, 100]⟩ : ByteArray) [.string (⟨#[115, 105, 103, 110, 101, 100]⟩ : ByteArray)] from rfl) (Reps.one (show Kd.M Kd.string _ _ _ (⟨#[115, 105, 122, 101]⟩ : ByteArray) [.string (⟨#[115, 105, 122, 101]⟩ : ByteArray)] from rfl) (Reps.one (show Kd.M Kd.string _ _ _ (⟨#[115, 116, 111, 112]⟩ : ByteArray) [.string (⟨#[115, 116, 111, 112]⟩ : ByteArray)] from rfl) (Reps.one (show Kd.M Kd.string _ _ _ (⟨#[115, 116, 114, 111, 98, 101]⟩ : ByteArray) [.string (⟨#[115, 116, 114, 111, 98, 101]⟩ : ByteArray)] from rfl) (Reps.one (show Kd.M Kd.string _ _ _ (⟨#[115, 116, 114, 117, 99, 116]⟩ : ByteArray) [.string (⟨#[115, 116, 114, 117, 99, 116]⟩ : ByteArray)] from rfl) (Reps.one (show Kd.M Kd.string _ _ _ (⟨#[116, 104, 101, 110]⟩ : ByteArray) [.string (⟨#[116, 104, 101, 110]⟩ : ByteArray)] from rfl) (Reps.one (show Kd.M Kd.string _ _ _ (⟨#[116, 105, 109, 101, 115]⟩ : ByteArray) [.string (⟨#[116, 105, 109, 101, 115]⟩ : ByteArray)] from rfl) (Reps.one (show Kd.M Kd.string _ _ _ (⟨#[116, 111]⟩ : ByteArray) [.string (⟨#[116, 111]⟩ : ByteArray)] from rfl) (Reps.one (show Kd.M Kd.string _ _ _ (⟨#[117, 110, 115, 105, 103, 110, 101, 100]⟩ : ByteArray) [.string (⟨#[117, 110, 115, 105, 103, 110, 101, 100]⟩ : ByteArray)] from rfl) (Reps.one (show Kd.M Kd.string _ _ _ (⟨#[118, 97, 114]⟩ : ByteArray) [.string (⟨#[118, 97, 114]⟩ : ByteArray)] from rfl) (Reps.one (show Kd.M Kd.string _ _ _ (⟨#[118, 105, 101, 119]⟩ : ByteArray) [.string (⟨#[118, 105, 101, 119]⟩ : ByteArray)] from rfl) (Reps.one (show Kd.M Kd.string _ _ _ (⟨#[119, 97, 105, 116]⟩ : ByteArray) [.string (⟨#[119, 97, 105, 116]⟩ : ByteArray)] from rfl) (Reps.one (show Kd.M Kd.string _ _ _ (⟨#[119, 104, 105, 108, 101]⟩ : ByteArray) [.string (⟨#[119, 104, 105, 108, 101]⟩ : ByteArray)] from rfl) (Reps.one (show Kd.M Kd.string _ _ _ (⟨#[119, 105, 100, 116, 104]⟩ : ByteArray) [.string (⟨#[119, 105, 100, 116, 104]⟩ : ByteArray)] from rfl) (Reps.one (show Kd.M Kd.string _ _ _ (⟨#[119, 105, 114, 101]⟩ : ByteArray) [.string (⟨#[119, 105, 114, 101]⟩ : ByteArray)] from rfl) (Reps.one (show Kd.M Kd.string _ _ _ (⟨#[119, 114, 105, 116, 101]⟩ : ByteArray) [.string (⟨#[119, 114, 105, 116, 101]⟩ : ByteArray)] from rfl) (Reps.none _ _)))))))))))))))))))))))))))))))))))))))))))))))))))))))); intro v115 w1 ho2 hb hg_ hnew_; clear hg_ hnew_; (rw [← Ny114.out] at ho2); have HO116 := Aside0.mk (Kd.R_lower ho2 (below_size HB.out)); replace HB := hb1 HB hb; clear hb ho2))
 go_ret
 exact ⟨_, by rfl, by exact HO116.out, by repeat (with_reducible exact HB.out)⟩
end Go.Proofs.Ytlamgdibnnmbmaa.PLex
end
section
namespace Go.Proofs.Ytlamgdibnnmbmaa.PLex
open Go.RowKit Go.Proofs.YtlamgdibnnmbmaaW.PrintWords Go.Proofs.YtlamgdibnnmbmaaW.PrintLast Go.Proofs.YtlamgdibnnmbmaaW.PrintMore
attribute [local go_sem] max2_int min2_int max_two min_two max_three min_three max_four min_four
set_option linter.unusedVariables false
set_option linter.unusedSimpArgs false
def bits_mask.f (a0 : Int) : Option (Int) := if a0 ≥ 64 then (some 18446744073709551615) else (if 0 ≤ a0 then (some (IntKind.u64.wrap ((shl .u64 1 a0) - 1))) else (none))
set_option maxHeartbeats 8000000 in
set_option maxRecDepth 100000 in
theorem bits_mask.calls (a0 : Int) (r : Int) (w : World) (h : bits_mask.f a0 = some r) :
  Calls Try.prog 90 #[.int .i64 a0] w fun e w' => e = .returned (.int .u64 r) ∧ Drawn0 w w' := by
 have H := h
 clear h
 unfold bits_mask.f at H
 replace H := iD H; rcases H with ⟨c2b0, H⟩ | ⟨c2b0, H⟩
 ·replace c2b0 : decide (64 ≤ a0) = true := c2b0
  obtain rfl := Option.some.inj H
  go_enter Try.func90, Try.ntmps90
  go_wp2
  go_ret
  exact ⟨by rfl, by repeat (exact Drawn0.refl _)⟩
 ·replace c2b0 : decide (64 ≤ a0) = false := c2b0
  by_cases c3 : 0 ≤ a0
  ·rw [if_pos c3] at H
   have c3b0 := eq_true c3
   have c3b1 : decide (0 ≤ a0) = true := decide_eq_true c3
   clear c3
   obtain ⟨ji4, hji4⟩ : ∃ j_ : Int, (shl .u64 1 a0) = j_ := ⟨_, rfl⟩
   replace H : (some (IntKind.u64.wrap ((ji4) - 1))) = some r := by (rw [hji4] at H; exact H)
   have hji4_ : (IntKind.u64.wrap (1 * 2 ^ min a0.toNat 64)) = ji4 := hji4
   have hji4z : a0 ≤ 64 → (IntKind.u64.wrap (1 * 2 ^ a0.toNat)) = ji4 := shl_small hji4
   have hji4u : (IntKind.u64.wrap (2 ^ min a0.toNat 64)) = ji4 := by have h_ := hji4_; rw [Int.one_mul] at h_; exact h_
   have hji4v : a0 ≤ 64 → (IntKind.u64.wrap (2 ^ a0.toNat)) = ji4 := fun hle_ => by have h_ := hji4z hle_; rw [Int.one_mul] at h_; exact h_
   obtain rfl := Option.some.inj H
   go_enter Try.func90, Try.ntmps90
   go_wp2
   go_ret
   exact ⟨by rfl, by repeat (exact Drawn0.refl _)⟩
  ·rw [if_neg c3] at H
   exact absurd H (by simp)
end Go.Proofs.Ytlamgdibnnmbmaa.PLex
end
section
namespace Go.Proofs.Ytlamgdibnnmbmaa.PLex
open Go.RowKit Go.Proofs.YtlamgdibnnmbmaaW.PrintWords Go.Proofs.YtlamgdibnnmbmaaW.PrintLast Go.Proofs.YtlamgdibnnmbmaaW.PrintMore
attribute [local go_sem] max2_int min2_int max_two min_two max_three min_three max_four min_four
set_option linter.unusedVariables false
set_option linter.unusedSimpArgs false
def bits_Of.f (a0 : Int) (a1 : Int) : Option (Int × Int × Int) := if a0 < 1 then (some (0, 0, 0)) else (if a0 > 64 then (some (0, 0, 0)) else ((bits_mask.f a0).bind fun t118 => (some (a0, Go.bits .and .u64 a1 t118, 0))))
set_option maxHeartbeats 8000000 in
set_option maxRecDepth 100000 in
theorem bits_Of.calls (a0 : Int) (a1 : Int) (r1 : Int) (r2 : Int) (r3 : Int) (w : World) (h : bits_Of.f a0 a1 = some (r1, r2, r3)) :
  Calls Try.prog 75 #[.int .i64 a0, .int .u64 a1] w fun e w' => e = .returned (.agg #[.int .i64 r1, .int .u64 r2, .int .u64 r3]) ∧ Below w.heap.size w w' := by
 have hu24 := Try.underlying24
 have HB := Aside0.mk (Below.refl w.heap.size w)
 have H := h
 clear h
 unfold bits_Of.f at H
 replace H := iD H; rcases H with ⟨c3b0, H⟩ | ⟨c3b0, H⟩
 ·replace H := s3 H; obtain ⟨rfl, rfl, rfl⟩ := H
  go_enter Try.func75, Try.ntmps75
  go_wp2_with ((refine boxA HB 4 #[.int .i64 0, .int .u64 0, .int .u64 0] 24 ?_; clear HB; intro gb117 w4 BK117 GE117 hg hb HB; clear hb hg; obtain ⟨hcz5_0, hcz5_1, hcz5_2, hfz5_0, hfz5_1, hfz5_2⟩ := cf3 BK117))
  refine retA gb117 24 #[.int .i64 0, .int .u64 0, .int .u64 0] (put3 BK117) Try.underlying24 ?_
  exact ⟨by rfl, by repeat (with_reducible first | exact HB.out | refine below_set ?_ GE117.out)⟩
 ·replace H := iD H; rcases H with ⟨c6b0, H⟩ | ⟨c6b0, H⟩
  ·replace c6b0 : decide (64 < a0) = true := c6b0
   replace H := s3 H; obtain ⟨rfl, rfl, rfl⟩ := H
   go_enter Try.func75, Try.ntmps75
   go_wp2_with ((refine boxA HB 4 #[.int .i64 0, .int .u64 0, .int .u64 0] 24 ?_; clear HB; intro gb117 w7 BK117 GE117 hg hb HB; clear hb hg; obtain ⟨hcz8_0, hcz8_1, hcz8_2, hfz8_0, hfz8_1, hfz8_2⟩ := cf3 BK117))
   refine retA gb117 24 #[.int .i64 0, .int .u64 0, .int .u64 0] (put3 BK117) Try.underlying24 ?_
   exact ⟨by rfl, by repeat (with_reducible first | exact HB.out | refine below_set ?_ GE117.out)⟩
  ·replace c6b0 : decide (64 < a0) = false := c6b0
   replace H := bN H; obtain ⟨t118, A9, H⟩ := H
   replace H := s3 H; obtain ⟨rfl, rfl, rfl⟩ := H
   go_enter Try.func75, Try.ntmps75
   go_wp2_with (first | (refine boxA HB 4 #[.int .i64 0, .int .u64 0, .int .u64 0] 24 ?_; clear HB; intro gb117 w10 BK117 GE117 hg hb HB; clear hb hg) | (refine callA (some 15) Try.func90 #[.int .i64 a0] ?_; (with_reducible refine (bits_mask.calls a0 t118 _ A9.out).mono ?_); rintro e w' ⟨rfl, ⟨nd, rfl⟩⟩; refine ⟨_, rfl, ?_⟩; (try (rw [drewN_self w10]; generalize hq_ : World.drewN w10 _ = w10; have n0_ : Aside0 (w10.heap[gb117]? = some (.cells #[.int .i64 0, .int .u64 0, .int .u64 0] 24 (0, 0))) := ⟨by rw [← hq_]; exact (by (with_reducible repeat (refine blk_drewN ?_ _)); exact BK117.out)⟩; have n1_ : Aside0 (Below w.heap.size w w10) := ⟨by rw [← hq_]; exact (by repeat (with_reducible first | exact HB.out | apply pw_below_drewN))⟩; clear BK117 HB hq_; have BK117 := n0_; have HB := n1_; clear n0_ n1_)); obtain ⟨hcz11_0, hcz11_1, hcz11_2, hfz11_0, hfz11_1, hfz11_2⟩ := cf3 BK117))
   refine retA gb117 24 #[.int .i64 a0, .int .u64 (Go.bits .and .u64 a1 t118), .int .u64 0] (put3 BK117) Try.underlying24 ?_
   exact ⟨by rfl, by repeat (with_reducible first | exact HB.out | refine below_set ?_ GE117.out)⟩
end Go.Proofs.Ytlamgdibnnmbmaa.PLex
end
section
namespace Go.Proofs.Ytlamgdibnnmbmaa.PLex
open Go.RowKit Go.Proofs.YtlamgdibnnmbmaaW.PrintWords Go.Proofs.YtlamgdibnnmbmaaW.PrintLast Go.Proofs.YtlamgdibnnmbmaaW.PrintMore
attribute [local go_sem] max2_int min2_int max_two min_two max_three min_three max_four min_four
set_option linter.unusedVariables false
set_option linter.unusedSimpArgs false
mutual
def bits_size.l0 : Nat → ByteArray → Int → Int → Option (Int × Int × Int)
 | 0, _, _, _ => none
 | k + 1, x0, x5, x6 => if x6 < (x0.size : Int) then (if 0 ≤ x6 then (if (bt x0 x6) ≥ 48 then (bits_size.j1 k x0 x5 x6 (decide ((bt x0 x6) ≤ 57))) else (bits_size.j1 k x0 x5 x6 false)) else (none)) else (bits_size.j1 k x0 x5 x6 false)
def bits_size.j1 : Nat → ByteArray → Int → Int → Bool → Option (Int × Int × Int)
 | 0, _, _, _, _ => none
 | k + 1, x0, x5, x6, x22 => if x22 = true then (if 0 ≤ x6 then (if x6 < (x0.size : Int) then (bits_size.l0 k x0 (mn (wrap64 ((wrap64 (10 * x5)) + (((bt x0 x6) - 48) % 256))) 1000) (wrap64 (x6 + 1))) else (none)) else (none)) else (if x6 = 0 then (bits_size.j2 k x5 x6 true) else (if 0 < (x0.size : Int) then (bits_size.j2 k x5 x6 ((bt x0 0) == 48)) else (none)))
def bits_size.j2 : Nat → Int → Int → Bool → Option (Int × Int × Int)
 | 0, _, _, _ => none
 | k + 1, x5, x6, x34 => if x34 = true then (some (0, 0, 10)) else (if x5 > 64 then (some (x5, x6, 2)) else (some (x5, x6, 0)))
end
def bits_size.f (k : Nat) (a0 : ByteArray) : Option (Int × Int × Int) := bits_size.l0 k a0 0 0
theorem bits_size.mono_l : ∀ k, (∀ y0 y1 y2, LeO (bits_size.l0 k y0 y1 y2) (bits_size.l0 (k + 1) y0 y1 y2)) ∧ (∀ y0 y1 y2 y3, LeO (bits_size.j1 k y0 y1 y2 y3) (bits_size.j1 (k + 1) y0 y1 y2 y3)) ∧ (∀ y0 y1 y2, LeO (bits_size.j2 k y0 y1 y2) (bits_size.j2 (k + 1) y0 y1 y2))
 | 0 => ⟨fun _ _ _ r h => by simp [bits_size.l0] at h, fun _ _ _ _ r h => by simp [bits_size.j1] at h, fun _ _ _ r h => by simp [bits_size.j2] at h⟩
 | k + 1 => by
  obtain ⟨ih0, ih1, ih2⟩ := bits_size.mono_l k
  refine ⟨?_, ?_, ?_⟩
  ·intro y0 y1 y2
   unfold bits_size.l0
   repeat' first | with_reducible exact ih0 _ _ _ | with_reducible exact ih1 _ _ _ _ | with_reducible exact ih2 _ _ _ | with_reducible exact LeO.refl _ | with_reducible exact LeO.none _ | with_reducible refine LeO.ite ?_ ?_ | with_reducible refine LeO.bind ?_ (fun _ => ?_)
  ·intro y0 y1 y2 y3
   unfold bits_size.j1
   repeat' first | with_reducible exact ih0 _ _ _ | with_reducible exact ih1 _ _ _ _ | with_reducible exact ih2 _ _ _ | with_reducible exact LeO.refl _ | with_reducible exact LeO.none _ | with_reducible refine LeO.ite ?_ ?_ | with_reducible refine LeO.bind ?_ (fun _ => ?_)
  ·intro y0 y1 y2
   unfold bits_size.j2
   repeat' first | with_reducible exact ih0 _ _ _ | with_reducible exact ih1 _ _ _ _ | with_reducible exact ih2 _ _ _ | with_reducible exact LeO.refl _ | with_reducible exact LeO.none _ | with_reducible refine LeO.ite ?_ ?_ | with_reducible refine LeO.bind ?_ (fun _ => ?_)
theorem bits_size.mono : ∀ a0 k, LeO (bits_size.f k a0) (bits_size.f (k + 1) a0) := by
 intro a0 k
 obtain ⟨ih0, ih1, ih2⟩ := bits_size.mono_l k
 unfold bits_size.f
 repeat' first | with_reducible exact ih0 _ _ _ | with_reducible exact ih1 _ _ _ _ | with_reducible exact ih2 _ _ _ | with_reducible exact LeO.refl _ | with_reducible exact LeO.none _ | with_reducible refine LeO.ite ?_ ?_ | with_reducible refine LeO.bind ?_ (fun _ => ?_)
set_option maxHeartbeats 8000000 in
set_option maxRecDepth 100000 in
theorem bits_size.calls (k : Nat) (a0 : ByteArray) (r1 : Int) (r2 : Int) (r3 : Int) (w : World) (h : bits_size.f k a0 = some (r1, r2, r3)) :
  Calls Try.prog 87 #[.string a0] w fun e w' => e = .returned (.tuple #[.int .i64 r1, .int .i64 r2, .int .i64 r3]) ∧ Below w.heap.size w w' := by
 have HB := Aside0.mk (Below.refl w.heap.size w)
 have H := h
 clear h
 unfold bits_size.f at H
 have H' := Aside0.mk H
 clear H
 go_enter Try.func87, Try.ntmps87
 go_wp2
 go_loopg [5, 6] k (fun kq v5 v6 w' => ∃ (x5_1 : Int) (x6_1 : Int), v5 = .int .i64 x5_1 ∧ v6 = .int .i64 x6_1 ∧ Aside0 (bits_size.l0 kq a0 x5_1 x6_1 = some (r1, r2, r3)) ∧ Aside0 (kq ≤ k) ∧ Aside0 (Below w.heap.size w w'))
 case atStart => exact ⟨(0), (0), (by rfl), (by rfl), H', ⟨Nat.le_refl _⟩, ⟨by repeat (with_reducible exact HB.out)⟩⟩
 case round =>
  clear H'
  obtain ⟨x5_1, x6_1, rfl, rfl, HA, HK1, HB⟩ := hrel
  cases gk with
  | zero => exact absurd HA.out (by simp [bits_size.l0])
  | succ k1 =>
   have H := HA.out
   clear HA
   simp only [bits_size.l0] at H
   have HC2 := Aside0.mk H
   clear H
   go_upto_region 2 with (fail)
   go_cut [22] (fun v22 wc => ∃ (kq : Nat) (x22_1 : Bool), v22 = .bool x22_1 ∧ Aside0 (bits_size.j1 kq a0 x5_1 x6_1 x22_1 = some (r1, r2, r3)) ∧ Aside0 (kq ≤ k1) ∧ Aside0 (Below w.heap.size w wc))
   case first =>
    have H := HC2.out
    clear HC2
    replace H := iD H; rcases H with ⟨c3b0, H⟩ | ⟨c3b0, H⟩
    ·(skip)
     replace H := iN H; obtain ⟨c4b0, H⟩ := H
     replace H := iD H; rcases H with ⟨c6b0, H⟩ | ⟨c6b0, H⟩
     ·replace c6b0 : decide (48 ≤ (bt a0 x6_1)) = true := c6b0
      have H' := Aside0.mk H
      clear H
      have p5 : 0 ≤ (x6_1 : Int) := of_decide_eq_true (by (with_reducible assumption))
      have q5 : x6_1 < (a0.size : Int) := of_decide_eq_true (by (with_reducible assumption))
      have hx5 := bt_at a0 x6_1
      replace p5 := eq_true p5
      replace q5 := eq_true q5
      have p7 : 0 ≤ (x6_1 : Int) := of_decide_eq_true (by (with_reducible assumption))
      have q7 : x6_1 < (a0.size : Int) := of_decide_eq_true (by (with_reducible assumption))
      have hx7 := bt_at a0 x6_1
      replace p7 := eq_true p7
      replace q7 := eq_true q7
      go_wp2
      go_meet
      case rel => exact ⟨_, (decide ((bt a0 x6_1) ≤ 57)), (by rfl), H', ⟨by have := HK1.out; omega⟩, ⟨by repeat (with_reducible exact HB.out)⟩⟩
     ·replace c6b0 : decide (48 ≤ (bt a0 x6_1)) = false := c6b0
      have H' := Aside0.mk H
      clear H
      have p5 : 0 ≤ (x6_1 : Int) := of_decide_eq_true (by (with_reducible assumption))
      have q5 : x6_1 < (a0.size : Int) := of_decide_eq_true (by (with_reducible assumption))
      have hx5 := bt_at a0 x6_1
      replace p5 := eq_true p5
      replace q5 := eq_true q5
      go_wp2
      go_meet
      case rel => exact ⟨_, (false), (by rfl), H', ⟨by have := HK1.out; omega⟩, ⟨by repeat (with_reducible exact HB.out)⟩⟩
    ·(skip)
     have H' := Aside0.mk H
     clear H
     go_wp2
     go_meet
     case rel => exact ⟨_, (false), (by rfl), H', ⟨by have := HK1.out; omega⟩, ⟨by repeat (with_reducible exact HB.out)⟩⟩
   case rest =>
    clear HC2
    obtain ⟨kq, x22_1, rfl, HA, HJ1, HB⟩ := hcut
    cases kq with
    | zero => exact absurd HA.out (by simp [bits_size.j1])
    | succ kj1 =>
     have H := HA.out
     clear HA
     simp only [bits_size.j1] at H
     replace H := iB H; rcases H with ⟨rfl, H⟩ | ⟨rfl, H⟩
     ·replace H := iN H; obtain ⟨c9b0, H⟩ := H
      replace H := iN H; obtain ⟨c10b0, H⟩ := H
      obtain ⟨ji12, hji12⟩ : ∃ j_ : Int, (mn (wrap64 ((wrap64 (10 * x5_1)) + (((bt a0 x6_1) - 48) % 256))) 1000) = j_ := ⟨_, rfl⟩
      replace H : (bits_size.l0 kj1 a0 ji12 (wrap64 (x6_1 + 1))) = some (r1, r2, r3) := by (rw [hji12] at H; exact H)
      have hji12_ : (if 1000 < (wrap64 ((wrap64 (10 * x5_1)) + (((bt a0 x6_1) - 48) % 256))) then 1000 else (wrap64 ((wrap64 (10 * x5_1)) + (((bt a0 x6_1) - 48) % 256)))) = ji12 := hji12
      have H' := Aside0.mk H
      clear H
      have p11 : 0 ≤ (x6_1 : Int) := of_decide_eq_true (by (with_reducible assumption))
      have q11 : x6_1 < (a0.size : Int) := of_decide_eq_true (by (with_reducible assumption))
      have hx11 := bt_at a0 x6_1
      replace p11 := eq_true p11
      replace q11 := eq_true q11
      go_wp2
      go_roundg kj1
      case measure => have := HK1.out; have := HJ1.out; omega
      case rel => exact ⟨(ji12), (wrap64 (x6_1 + 1)), (by rfl), (by rfl), H', ⟨by have := HK1.out; have := HJ1.out; omega⟩, ⟨by repeat (with_reducible exact HB.out)⟩⟩
     ·have HC13 := Aside0.mk H
      clear H
      go_upto_region 5 with (fail)
      go_cut [34] (fun v34 wc => ∃ (kq : Nat) (x34_12 : Bool), v34 = .bool x34_12 ∧ Aside0 (bits_size.j2 kq x5_1 x6_1 x34_12 = some (r1, r2, r3)) ∧ Aside0 (kq ≤ kj1) ∧ Aside0 (Below w.heap.size w wc))
      case first =>
       have H := HC13.out
       clear HC13
       replace H := iE H; rcases H with ⟨c14b0, c14b1, H⟩ | ⟨c14, c14b0, c14b1, H⟩
       ·(skip)
        have H' := Aside0.mk H
        clear H
        go_wp2
        go_meet
        case rel => exact ⟨_, (true), (by rfl), H', ⟨by have := HK1.out; have := HJ1.out; omega⟩, ⟨by repeat (with_reducible exact HB.out)⟩⟩
       ·(skip)
        by_cases c15 : 0 < (a0.size : Int)
        ·rw [if_pos c15] at H
         have c15b0 : decide (0 < (a0.size : Int)) = true := decide_eq_true c15
         have c15b1 : decide (0 < a0.size) = true := decide_eq_true (by omega)
         clear c15
         have H' := Aside0.mk H
         clear H
         have p16 : 0 ≤ (0 : Int) := (by omega)
         have q16 : 0 < a0.size := (by have : (0 : Int) < (a0.size : Int) := of_decide_eq_true (by (with_reducible assumption)); omega)
         have hx16 : ∀ h : 0 < a0.size, ((a0[0]'h).toNat : Int) = bt a0 0 := bt_at a0 0
         clear p16
         have qi16 : (0 < (a0.size : Int)) = True := eq_true (of_decide_eq_true (by (with_reducible assumption)))
         replace q16 := eq_true q16
         go_wp2
         go_meet
         case rel => exact ⟨_, ((bt a0 0) == 48), (by rfl), H', ⟨by have := HK1.out; have := HJ1.out; omega⟩, ⟨by repeat (with_reducible exact HB.out)⟩⟩
        ·rw [if_neg c15] at H
         exact absurd H (by simp)
      case rest =>
       clear HC13
       obtain ⟨kq, x34_12, rfl, HA, HJ12, HB⟩ := hcut
       cases kq with
       | zero => exact absurd HA.out (by simp [bits_size.j2])
       | succ kj12 =>
        have H := HA.out
        clear HA
        simp only [bits_size.j2] at H
        replace H := iB H; rcases H with ⟨rfl, H⟩ | ⟨rfl, H⟩
        ·replace H := s3 H; obtain ⟨rfl, rfl, rfl⟩ := H
         go_wp2
         go_ret3
         exact ⟨by rfl, by repeat (with_reducible exact HB.out)⟩
        ·replace H := iD H; rcases H with ⟨c18b0, H⟩ | ⟨c18b0, H⟩
         ·replace c18b0 : decide (64 < x5_1) = true := c18b0
          replace H := s3 H; obtain ⟨rfl, rfl, rfl⟩ := H
          go_wp2
          go_ret3
          exact ⟨by rfl, by repeat (with_reducible exact HB.out)⟩
         ·replace c18b0 : decide (64 < x5_1) = false := c18b0
          replace H := s3 H; obtain ⟨rfl, rfl, rfl⟩ := H
          go_wp2
          go_ret3
          exact ⟨by rfl, by repeat (with_reducible exact HB.out)⟩
end Go.Proofs.Ytlamgdibnnmbmaa.PLex
end
section
namespace Go.Proofs.Ytlamgdibnnmbmaa.PLex
open Go.RowKit Go.Proofs.YtlamgdibnnmbmaaW.PrintWords Go.Proofs.YtlamgdibnnmbmaaW.PrintLast Go.Proofs.YtlamgdibnnmbmaaW.PrintMore
attribute [local go_sem] max2_int min2_int max_two min_two max_three min_three max_four min_four
set_option linter.unusedVariables false
set_option linter.unusedSimpArgs false
def bits_All.j0 : Nat → Int → Int → Bool → Option (Int × Int × Int)
 | 0, _, _, _ => none
 | k + 1, x0, x1, x11 => if x11 = true then (some (0, 0, 0)) else ((bits_mask.f x0).bind fun t120 => (if x1 = 48 then (some (x0, 0, 0)) else (if x1 = 49 then (some (x0, t120, 0)) else (if x1 = 120 then (some (x0, t120, t120)) else (if x1 = 122 then (some (x0, 0, t120)) else (some (0, 0, 0)))))))
def bits_All.f (k : Nat) (a0 : Int) (a1 : Int) : Option (Int × Int × Int) := if a0 < 1 then (bits_All.j0 k a0 a1 true) else (bits_All.j0 k a0 a1 (decide (a0 > 64)))
theorem bits_All.mono_l : ∀ k, (∀ y0 y1 y2, LeO (bits_All.j0 k y0 y1 y2) (bits_All.j0 (k + 1) y0 y1 y2))
 | 0 => fun _ _ _ r h => by simp [bits_All.j0] at h
 | k + 1 => by
  have ih0 := bits_All.mono_l k
  ·intro y0 y1 y2
   unfold bits_All.j0
   repeat' first | with_reducible exact ih0 _ _ _ | with_reducible exact LeO.refl _ | with_reducible exact LeO.none _ | with_reducible refine LeO.ite ?_ ?_ | with_reducible refine LeO.bind ?_ (fun _ => ?_)
theorem bits_All.mono : ∀ a0 a1 k, LeO (bits_All.f k a0 a1) (bits_All.f (k + 1) a0 a1) := by
 intro a0 a1 k
 have ih0 := bits_All.mono_l k
 unfold bits_All.f
 repeat' first | with_reducible exact ih0 _ _ _ | with_reducible exact LeO.refl _ | with_reducible exact LeO.none _ | with_reducible refine LeO.ite ?_ ?_ | with_reducible refine LeO.bind ?_ (fun _ => ?_)
set_option maxHeartbeats 8000000 in
set_option maxRecDepth 100000 in
theorem bits_All.calls (k : Nat) (a0 : Int) (a1 : Int) (r1 : Int) (r2 : Int) (r3 : Int) (w : World) (h : bits_All.f k a0 a1 = some (r1, r2, r3)) :
  Calls Try.prog 95 #[.int .i64 a0, .int .u8 a1] w fun e w' => e = .returned (.agg #[.int .i64 r1, .int .u64 r2, .int .u64 r3]) ∧ Below w.heap.size w w' := by
 have hu24 := Try.underlying24
 have HB := Aside0.mk (Below.refl w.heap.size w)
 have H := h
 clear h
 unfold bits_All.f at H
 have HC3 := Aside0.mk H
 clear H
 go_enter Try.func95, Try.ntmps95
 go_upto_region 1 with ((refine boxA HB 4 #[.int .i64 0, .int .u64 0, .int .u64 0] 24 ?_; clear HB; intro gb119 w4 BK119 GE119 hg hb HB; clear hb hg))
 (try simp only [Act.put, List.setIfInBounds_toArray, List.set_cons_zero, List.set_cons_succ])
 go_cut [11] (fun v11 wc => ∃ (kq : Nat) (x11_2 : Bool), v11 = .bool x11_2 ∧ Aside0 (bits_All.j0 kq a0 a1 x11_2 = some (r1, r2, r3)) ∧ Aside0 (kq ≤ k) ∧ Aside0 (wc.heap[gb119]? = some (.cells #[.int .i64 0, .int .u64 0, .int .u64 0] 24 (0, 0))) ∧ Aside0 (Below w.heap.size w wc))
 case first =>
  have H := HC3.out
  clear HC3
  replace H := iD H; rcases H with ⟨c5b0, H⟩ | ⟨c5b0, H⟩
  ·(skip)
   have H' := Aside0.mk H
   clear H
   go_wp2
   go_meet
   case rel => exact ⟨_, (true), (by rfl), H', ⟨by omega⟩, ⟨by exact BK119.out⟩, ⟨by repeat (with_reducible exact HB.out)⟩⟩
  ·(skip)
   have H' := Aside0.mk H
   clear H
   go_wp2
   go_meet
   case rel => exact ⟨_, (decide (a0 > 64)), (by rfl), H', ⟨by omega⟩, ⟨by exact BK119.out⟩, ⟨by repeat (with_reducible exact HB.out)⟩⟩
 case rest =>
  clear HC3
  obtain ⟨kq, x11_2, rfl, HA, HJ2, BK119, HB⟩ := hcut
  cases kq with
  | zero => exact absurd HA.out (by simp [bits_All.j0])
  | succ kj2 =>
   have H := HA.out
   clear HA
   simp only [bits_All.j0] at H
   replace H := iB H; rcases H with ⟨rfl, H⟩ | ⟨rfl, H⟩
   ·replace H := s3 H; obtain ⟨rfl, rfl, rfl⟩ := H
    obtain ⟨hcz7_0, hcz7_1, hcz7_2, hfz7_0, hfz7_1, hfz7_2⟩ := cf3 BK119
    go_wp2
    refine retA gb119 24 #[.int .i64 0, .int .u64 0, .int .u64 0] (put3 BK119) Try.underlying24 ?_
    exact ⟨by rfl, by repeat (with_reducible first | exact HB.out | refine below_set ?_ GE119.out)⟩
   ·replace H := bN H; obtain ⟨t120, A8, H⟩ := H
    replace H := iE H; rcases H with ⟨c9b0, c9b1, H⟩ | ⟨c9, c9b0, c9b1, H⟩
    ·replace H := s3 H; obtain ⟨rfl, rfl, rfl⟩ := H
     go_wp2_with ((refine callA (some 14) Try.func90 #[.int .i64 a0] ?_; (with_reducible refine (bits_mask.calls a0 t120 _ A8.out).mono ?_); rintro e w' ⟨rfl, ⟨nd, rfl⟩⟩; refine ⟨_, rfl, ?_⟩; (try (rw [drewN_self wc]; generalize hq_ : World.drewN wc _ = wc; have n0_ : Aside0 (wc.heap[gb119]? = some (.cells #[.int .i64 0, .int .u64 0, .int .u64 0] 24 (0, 0))) := ⟨by rw [← hq_]; exact (by (with_reducible repeat (refine blk_drewN ?_ _)); exact BK119.out)⟩; have n1_ : Aside0 (Below w.heap.size w wc) := ⟨by rw [← hq_]; exact (by repeat (with_reducible first | exact HB.out | apply pw_below_drewN))⟩; clear BK119 HB hq_; have BK119 := n0_; have HB := n1_; clear n0_ n1_)); obtain ⟨hcz10_0, hcz10_1, hcz10_2, hfz10_0, hfz10_1, hfz10_2⟩ := cf3 BK119))
     refine retA gb119 24 #[.int .i64 a0, .int .u64 0, .int .u64 0] (put3 BK119) Try.underlying24 ?_
     exact ⟨by rfl, by repeat (with_reducible first | exact HB.out | refine below_set ?_ GE119.out)⟩
    ·replace H := iE H; rcases H with ⟨c11b0, c11b1, H⟩ | ⟨c11, c11b0, c11b1, H⟩
     ·replace H := s3 H; obtain ⟨rfl, rfl, rfl⟩ := H
      go_wp2_with ((refine callA (some 14) Try.func90 #[.int .i64 a0] ?_; (with_reducible refine (bits_mask.calls a0 t120 _ A8.out).mono ?_); rintro e w' ⟨rfl, ⟨nd, rfl⟩⟩; refine ⟨_, rfl, ?_⟩; (try (rw [drewN_self wc]; generalize hq_ : World.drewN wc _ = wc; have n0_ : Aside0 (wc.heap[gb119]? = some (.cells #[.int .i64 0, .int .u64 0, .int .u64 0] 24 (0, 0))) := ⟨by rw [← hq_]; exact (by (with_reducible repeat (refine blk_drewN ?_ _)); exact BK119.out)⟩; have n1_ : Aside0 (Below w.heap.size w wc) := ⟨by rw [← hq_]; exact (by repeat (with_reducible first | exact HB.out | apply pw_below_drewN))⟩; clear BK119 HB hq_; have BK119 := n0_; have HB := n1_; clear n0_ n1_)); obtain ⟨hcz12_0, hcz12_1, hcz12_2, hfz12_0, hfz12_1, hfz12_2⟩ := cf3 BK119))
      refine retA gb119 24 #[.int .i64 a0, .int .u64 t120, .int .u64 0] (put3 BK119) Try.underlying24 ?_
      exact ⟨by rfl, by repeat (with_reducible first | exact HB.out | refine below_set ?_ GE119.out)⟩
     ·replace H := iE H; rcases H with ⟨c13b0, c13b1, H⟩ | ⟨c13, c13b0, c13b1, H⟩
      ·replace H := s3 H; obtain ⟨rfl, rfl, rfl⟩ := H
       go_wp2_with ((refine callA (some 14) Try.func90 #[.int .i64 a0] ?_; (with_reducible refine (bits_mask.calls a0 t120 _ A8.out).mono ?_); rintro e w' ⟨rfl, ⟨nd, rfl⟩⟩; refine ⟨_, rfl, ?_⟩; (try (rw [drewN_self wc]; generalize hq_ : World.drewN wc _ = wc; have n0_ : Aside0 (wc.heap[gb119]? = some (.cells #[.int .i64 0, .int .u64 0, .int .u64 0] 24 (0, 0))) := ⟨by rw [← hq_]; exact (by (with_reducible repeat (refine blk_drewN ?_ _)); exact BK119.out)⟩; have n1_ : Aside0 (Below w.heap.size w wc) := ⟨by rw [← hq_]; exact (by repeat (with_reducible first | exact HB.out | apply pw_below_drewN))⟩; clear BK119 HB hq_; have BK119 := n0_; have HB := n1_; clear n0_ n1_)); obtain ⟨hcz14_0, hcz14_1, hcz14_2, hfz14_0, hfz14_1, hfz14_2⟩ := cf3 BK119))
       refine retA gb119 24 #[.int .i64 a0, .int .u64 t120, .int .u64 t120] (put3 BK119) Try.underlying24 ?_
       exact ⟨by rfl, by repeat (with_reducible first | exact HB.out | refine below_set ?_ GE119.out)⟩
      ·replace H := iE H; rcases H with ⟨c15b0, c15b1, H⟩ | ⟨c15, c15b0, c15b1, H⟩
       ·replace H := s3 H; obtain ⟨rfl, rfl, rfl⟩ := H
        go_wp2_with ((refine callA (some 14) Try.func90 #[.int .i64 a0] ?_; (with_reducible refine (bits_mask.calls a0 t120 _ A8.out).mono ?_); rintro e w' ⟨rfl, ⟨nd, rfl⟩⟩; refine ⟨_, rfl, ?_⟩; (try (rw [drewN_self wc]; generalize hq_ : World.drewN wc _ = wc; have n0_ : Aside0 (wc.heap[gb119]? = some (.cells #[.int .i64 0, .int .u64 0, .int .u64 0] 24 (0, 0))) := ⟨by rw [← hq_]; exact (by (with_reducible repeat (refine blk_drewN ?_ _)); exact BK119.out)⟩; have n1_ : Aside0 (Below w.heap.size w wc) := ⟨by rw [← hq_]; exact (by repeat (with_reducible first | exact HB.out | apply pw_below_drewN))⟩; clear BK119 HB hq_; have BK119 := n0_; have HB := n1_; clear n0_ n1_)); obtain ⟨hcz16_0, hcz16_1, hcz16_2, hfz16_0, hfz16_1, hfz16_2⟩ := cf3 BK119))
        refine retA gb119 24 #[.int .i64 a0, .int .u64 0, .int .u64 t120] (put3 BK119) Try.underlying24 ?_
        exact ⟨by rfl, by repeat (with_reducible first | exact HB.out | refine below_set ?_ GE119.out)⟩
       ·replace H := s3 H; obtain ⟨rfl, rfl, rfl⟩ := H
        go_wp2_with ((refine callA (some 14) Try.func90 #[.int .i64 a0] ?_; (with_reducible refine (bits_mask.calls a0 t120 _ A8.out).mono ?_); rintro e w' ⟨rfl, ⟨nd, rfl⟩⟩; refine ⟨_, rfl, ?_⟩; (try (rw [drewN_self wc]; generalize hq_ : World.drewN wc _ = wc; have n0_ : Aside0 (wc.heap[gb119]? = some (.cells #[.int .i64 0, .int .u64 0, .int .u64 0] 24 (0, 0))) := ⟨by rw [← hq_]; exact (by (with_reducible repeat (refine blk_drewN ?_ _)); exact BK119.out)⟩; have n1_ : Aside0 (Below w.heap.size w wc) := ⟨by rw [← hq_]; exact (by repeat (with_reducible first | exact HB.out | apply pw_below_drewN))⟩; clear BK119 HB hq_; have BK119 := n0_; have HB := n1_; clear n0_ n1_)); obtain ⟨hcz17_0, hcz17_1, hcz17_2, hfz17_0, hfz17_1, hfz17_2⟩ := cf3 BK119))
        refine retA gb119 24 #[.int .i64 0, .int .u64 0, .int .u64 0] (put3 BK119) Try.underlying24 ?_
        exact ⟨by rfl, by repeat (with_reducible first | exact HB.out | refine below_set ?_ GE119.out)⟩
end Go.Proofs.Ytlamgdibnnmbmaa.PLex
end
section
namespace Go.Proofs.Ytlamgdibnnmbmaa.PLex
open Go.RowKit Go.Proofs.YtlamgdibnnmbmaaW.PrintWords Go.Proofs.YtlamgdibnnmbmaaW.PrintLast Go.Proofs.YtlamgdibnnmbmaaW.PrintMore
attribute [local go_sem] max2_int min2_int max_two min_two max_three min_three max_four min_four
set_option linter.unusedVariables false
set_option linter.unusedSimpArgs false
mutual
def bits_decimal.j0 : Nat → ByteArray → Int → Int → Bool → Option (Int × Int × Int × Int)
 | 0, _, _, _, _ => none
 | k + 1, x0, x1, x2, x17 => if x17 = true then (if x2 = 0 then (if 0 < (x0.size : Int) then ((bits_All.f k x1 (bt x0 0)).bind fun bt122 => (some (bt122.1, bt122.2.1, bt122.2.2, 0))) else (none)) else (some (0, 0, 0, x2))) else (bits_decimal.l0 k x0 x1 x2 0 false (x0.size : Int) 0)
def bits_decimal.l0 : Nat → ByteArray → Int → Int → Int → Bool → Int → Int → Option (Int × Int × Int × Int)
 | 0, _, _, _, _, _, _, _ => none
 | k + 1, x0, x1, x2, x8, x9, x27, x28 => if x28 < x27 then (if 0 ≤ x28 then (if x28 < (x0.size : Int) then (if (bt x0 x28) < 48 then (bits_decimal.j2 k x0 x1 x2 x8 x9 x28 x27 x28 true) else (bits_decimal.j2 k x0 x1 x2 x8 x9 x28 x27 x28 (decide ((bt x0 x28) > 57)))) else (none)) else (none)) else (if x2 = 0 then (if x9 = true then (some (0, 0, 0, 3)) else ((bits_mask.f x1).bind fun t125 => (if (Go.bits .andNot .u64 x8 t125) = 0 then ((bits_Of.f x1 x8).bind fun bt126 => (some (bt126.1, bt126.2.1, bt126.2.2, 0))) else (some (0, 0, 0, 3))))) else (some (0, 0, 0, x2)))
def bits_decimal.j2 : Nat → ByteArray → Int → Int → Int → Bool → Int → Int → Int → Bool → Option (Int × Int × Int × Int)
 | 0, _, _, _, _, _, _, _, _, _ => none
 | k + 1, x0, x1, x2, x8, x9, x10, x27, x28, x40 => if x40 = true then (some (0, 0, 0, 10)) else (if 0 ≤ x10 then (if x10 < (x0.size : Int) then (if x8 > ((18446744073709551615 - (((bt x0 x10) - 48) % 256)) / 10) then (bits_decimal.l0 k x0 x1 x2 (IntKind.u64.wrap ((IntKind.u64.wrap (10 * x8)) + (((bt x0 x10) - 48) % 256))) true x27 (wrap64 (x28 + 1))) else (bits_decimal.l0 k x0 x1 x2 (IntKind.u64.wrap ((IntKind.u64.wrap (10 * x8)) + (((bt x0 x10) - 48) % 256))) x9 x27 (wrap64 (x28 + 1)))) else (none)) else (none))
end
def bits_decimal.f (k : Nat) (a0 : ByteArray) (a1 : Int) (a2 : Int) : Option (Int × Int × Int × Int) := if a0.toList = ([120] : List UInt8) then (bits_decimal.j0 k a0 a1 a2 true) else (bits_decimal.j0 k a0 a1 a2 (a0.toList == ([122] : List UInt8)))
theorem bits_decimal.mono_l : ∀ k, (∀ y0 y1 y2 y3, LeO (bits_decimal.j0 k y0 y1 y2 y3) (bits_decimal.j0 (k + 1) y0 y1 y2 y3)) ∧ (∀ y0 y1 y2 y3 y4 y5 y6, LeO (bits_decimal.l0 k y0 y1 y2 y3 y4 y5 y6) (bits_decimal.l0 (k + 1) y0 y1 y2 y3 y4 y5 y6)) ∧ (∀ y0 y1 y2 y3 y4 y5 y6 y7 y8, LeO (bits_decimal.j2 k y0 y1 y2 y3 y4 y5 y6 y7 y8) (bits_decimal.j2 (k + 1) y0 y1 y2 y3 y4 y5 y6 y7 y8))
 | 0 => ⟨fun _ _ _ _ r h => by simp [bits_decimal.j0] at h, fun _ _ _ _ _ _ _ r h => by simp [bits_decimal.l0] at h, fun _ _ _ _ _ _ _ _ _ r h => by simp [bits_decimal.j2] at h⟩
 | k + 1 => by
  obtain ⟨ih0, ih1, ih2⟩ := bits_decimal.mono_l k
  refine ⟨?_, ?_, ?_⟩
  ·intro y0 y1 y2 y3
   unfold bits_decimal.j0
   repeat' first | with_reducible exact ih0 _ _ _ _ | with_reducible exact ih1 _ _ _ _ _ _ _ | with_reducible exact ih2 _ _ _ _ _ _ _ _ _ | with_reducible exact bits_All.mono _ _ _ | with_reducible exact LeO.refl _ | with_reducible exact LeO.none _ | with_reducible refine LeO.ite ?_ ?_ | with_reducible refine LeO.bind ?_ (fun _ => ?_)
  ·intro y0 y1 y2 y3 y4 y5 y6
   unfold bits_decimal.l0
   repeat' first | with_reducible exact ih0 _ _ _ _ | with_reducible exact ih1 _ _ _ _ _ _ _ | with_reducible exact ih2 _ _ _ _ _ _ _ _ _ | with_reducible exact bits_All.mono _ _ _ | with_reducible exact LeO.refl _ | with_reducible exact LeO.none _ | with_reducible refine LeO.ite ?_ ?_ | with_reducible refine LeO.bind ?_ (fun _ => ?_)
  ·intro y0 y1 y2 y3 y4 y5 y6 y7 y8
   unfold bits_decimal.j2
   repeat' first | with_reducible exact ih0 _ _ _ _ | with_reducible exact ih1 _ _ _ _ _ _ _ | with_reducible exact ih2 _ _ _ _ _ _ _ _ _ | with_reducible exact bits_All.mono _ _ _ | with_reducible exact LeO.refl _ | with_reducible exact LeO.none _ | with_reducible refine LeO.ite ?_ ?_ | with_reducible refine LeO.bind ?_ (fun _ => ?_)
theorem bits_decimal.mono : ∀ a0 a1 a2 k, LeO (bits_decimal.f k a0 a1 a2) (bits_decimal.f (k + 1) a0 a1 a2) := by
 intro a0 a1 a2 k
 obtain ⟨ih0, ih1, ih2⟩ := bits_decimal.mono_l k
 unfold bits_decimal.f
 repeat' first | with_reducible exact ih0 _ _ _ _ | with_reducible exact ih1 _ _ _ _ _ _ _ | with_reducible exact ih2 _ _ _ _ _ _ _ _ _ | with_reducible exact bits_All.mono _ _ _ | with_reducible exact LeO.refl _ | with_reducible exact LeO.none _ | with_reducible refine LeO.ite ?_ ?_ | with_reducible refine LeO.bind ?_ (fun _ => ?_)
set_option maxHeartbeats 8000000 in
set_option maxRecDepth 100000 in
theorem bits_decimal.calls (k : Nat) (a0 : ByteArray) (a1 : Int) (a2 : Int) (r1 : Int) (r2 : Int) (r3 : Int) (r4 : Int) (w : World) (h : bits_decimal.f k a0 a1 a2 = some (r1, r2, r3, r4)) :
  Calls Try.prog 88 #[.string a0, .int .i64 a1, .int .i64 a2] w fun e w' => e = .returned (.tuple #[.agg #[.int .i64 r1, .int .u64 r2, .int .u64 r3], .int .i64 r4]) ∧ Below w.heap.size w w' := by
 have hu24 := Try.underlying24
 have HB := Aside0.mk (Below.refl w.heap.size w)
 have H := h
 clear h
 unfold bits_decimal.f at H
 have HC4 := Aside0.mk H
 clear H
 go_enter Try.func88, Try.ntmps88
 go_upto_region 1 with ((refine boxA HB 6 #[.int .i64 0, .int .u64 0, .int .u64 0] 24 ?_; clear HB; intro gb121 w5 BK121 GE121 hg hb HB; clear hb hg))
 go_cut [17] (fun v17 wc => ∃ (kq : Nat) (x17_3 : Bool), v17 = .bool x17_3 ∧ Aside0 (bits_decimal.j0 kq a0 a1 a2 x17_3 = some (r1, r2, r3, r4)) ∧ Aside0 (kq ≤ k) ∧ Aside0 (wc.heap[gb121]? = some (.cells #[.int .i64 0, .int .u64 0, .int .u64 0] 24 (0, 0))) ∧ Aside0 (Below w.heap.size w wc))
 case first =>
  have H := HC4.out
  clear HC4
  replace H := iE H; rcases H with ⟨c6b0, c6b1, H⟩ | ⟨c6, c6b0, c6b1, H⟩
  ·(skip)
   have H' := Aside0.mk H
   clear H
   go_wp2
   go_meet
   case rel => exact ⟨_, (true), (by rfl), H', ⟨by omega⟩, ⟨by exact BK121.out⟩, ⟨by repeat (with_reducible exact HB.out)⟩⟩
  ·(skip)
   have H' := Aside0.mk H
   clear H
   go_wp2
   go_meet
   case rel => exact ⟨_, (a0.toList == ([122] : List UInt8)), (by rfl), H', ⟨by omega⟩, ⟨by exact BK121.out⟩, ⟨by repeat (with_reducible exact HB.out)⟩⟩
 case rest =>
  clear HC4
  obtain ⟨kq, x17_3, rfl, HA, HJ3, BK121, HB⟩ := hcut
  cases kq with
  | zero => exact absurd HA.out (by simp [bits_decimal.j0])
  | succ kj3 =>
   have H := HA.out
   clear HA
   simp only [bits_decimal.j0] at H
   replace H := iB H; rcases H with ⟨rfl, H⟩ | ⟨rfl, H⟩
   ·replace H := iE H; rcases H with ⟨c8b0, c8b1, H⟩ | ⟨c8, c8b0, c8b1, H⟩
    ·by_cases c9 : 0 < (a0.size : Int)
     ·rw [if_pos c9] at H
      have c9b0 : decide (0 < (a0.size : Int)) = true := decide_eq_true c9
      have c9b1 : decide (0 < a0.size) = true := decide_eq_true (by omega)
      clear c9
      replace H := bN H; obtain ⟨⟨t122, t123, t124⟩, A11, H⟩ := H; dsimp only at H
      replace H := s4 H; obtain ⟨rfl, rfl, rfl, rfl⟩ := H
      have p10 : 0 ≤ (0 : Int) := (by omega)
      have q10 : 0 < a0.size := (by have : (0 : Int) < (a0.size : Int) := of_decide_eq_true (by (with_reducible assumption)); omega)
      have hx10 : ∀ h : 0 < a0.size, ((a0[0]'h).toNat : Int) = bt a0 0 := bt_at a0 0
      clear p10
      have qi10 : (0 < (a0.size : Int)) = True := eq_true (of_decide_eq_true (by (with_reducible assumption)))
      replace q10 := eq_true q10
      go_wp2_with ((refine callA (some 25) Try.func95 #[.int .i64 a1, .int .u8 (bt a0 0)] ?_; (with_reducible refine (bits_All.calls kj3 a1 (bt a0 0) t122 t123 t124 _ A11.out).mono ?_); rintro e w12 ⟨rfl, hb⟩; refine ⟨_, rfl, ?_⟩; replace BK121 := bk1 BK121 hb; replace HB := hb1 HB hb; (try clear hb); obtain ⟨hcz13_0, hcz13_1, hcz13_2, hfz13_0, hfz13_1, hfz13_2⟩ := cf3 BK121))
      refine bodyPost_ret (results_ct rfl _ _ gb121 24 #[.int .i64 t122, .int .u64 t123, .int .u64 t124] (0, 0) _ rfl (by refine blk_put (cs := #[.int .i64 t122, .int .u64 t123, .int .u64 0]) ?_ 2 _ rfl; refine blk_put (cs := #[.int .i64 t122, .int .u64 0, .int .u64 0]) ?_ 1 _ rfl; refine blk_put (cs := #[.int .i64 0, .int .u64 0, .int .u64 0]) ?_ 0 _ rfl; exact BK121.out) Try.underlying24 rfl (by kernel_rfl)) rfl ?_
      exact ⟨by rfl, by repeat (with_reducible first | exact HB.out | refine below_set ?_ GE121.out)⟩
     ·rw [if_neg c9] at H
      exact absurd H (by simp)
    ·replace H := s4 H; obtain ⟨rfl, rfl, rfl, rfl⟩ := H
     obtain ⟨hcz14_0, hcz14_1, hcz14_2, hfz14_0, hfz14_1, hfz14_2⟩ := cf3 BK121
     go_wp2
     refine bodyPost_ret (results_ct rfl _ _ gb121 24 #[.int .i64 0, .int .u64 0, .int .u64 0] (0, 0) _ rfl (by refine blk_put (cs := #[.int .i64 0, .int .u64 0, .int .u64 0]) ?_ 2 _ rfl; refine blk_put (cs := #[.int .i64 0, .int .u64 0, .int .u64 0]) ?_ 1 _ rfl; refine blk_put (cs := #[.int .i64 0, .int .u64 0, .int .u64 0]) ?_ 0 _ rfl; exact BK121.out) Try.underlying24 rfl (by kernel_rfl)) rfl ?_
     exact ⟨by rfl, by repeat (with_reducible first | exact HB.out | refine below_set ?_ GE121.out)⟩
   ·have H' := Aside0.mk H
    clear H
    go_wp2
    go_loopg [8, 9, 28] kj3 (fun kq v8 v9 v28 w' => ∃ (x8_2 : Int) (x9_2 : Bool) (x28_2 : Int) (x122000_2 : Int) (x122001_2 : Int) (x122002_2 : Int), v8 = .int .u64 x8_2 ∧ v9 = .bool x9_2 ∧ v28 = .int .i64 x28_2 ∧ Aside0 (bits_decimal.l0 kq a0 a1 a2 x8_2 x9_2 (a0.size : Int) x28_2 = some (r1, r2, r3, r4)) ∧ Aside0 (kq ≤ kj3) ∧ Aside0 (w'.heap[gb121]? = some (.cells #[.int .i64 x122000_2, .int .u64 x122001_2, .int .u64 x122002_2] 24 (0, 0))) ∧ Aside0 (Below w.heap.size w w'))
    case atStart => exact ⟨(0), (false), (0), (0), (0), (0), (by rfl), (by rfl), (by rfl), H', ⟨Nat.le_refl _⟩, ⟨by exact BK121.out⟩, ⟨by repeat (with_reducible exact HB.out)⟩⟩
    case round =>
     clear H'
     obtain ⟨x8_2, x9_2, x28_2, x122000_2, x122001_2, x122002_2, rfl, rfl, rfl, HA, HK2, BK121, HB⟩ := hrel
     cases gk with
     | zero => exact absurd HA.out (by simp [bits_decimal.l0])
     | succ k2 =>
      have H := HA.out
      clear HA
      simp only [bits_decimal.l0] at H
      replace H := iD H; rcases H with ⟨c15b0, H⟩ | ⟨c15b0, H⟩
      ·have HC16 := Aside0.mk H
       clear H
       go_upto_region 10 with (fail)
       go_cut [40] (fun v40 wc => ∃ (kq : Nat) (x40_15 : Bool), v40 = .bool x40_15 ∧ Aside0 (bits_decimal.j2 kq a0 a1 a2 x8_2 x9_2 x28_2 (a0.size : Int) x28_2 x40_15 = some (r1, r2, r3, r4)) ∧ Aside0 (kq ≤ k2) ∧ Aside0 (wc.heap[gb121]? = some (.cells #[.int .i64 x122000_2, .int .u64 x122001_2, .int .u64 x122002_2] 24 (0, 0))) ∧ Aside0 (Below w.heap.size w wc))
       case first =>
        have H := HC16.out
        clear HC16
        replace H := iN H; obtain ⟨c17b0, H⟩ := H
        (skip)
        replace H := iN H; obtain ⟨c18b0, H⟩ := H
        replace H := iD H; rcases H with ⟨c20b0, H⟩ | ⟨c20b0, H⟩
        ·have H' := Aside0.mk H
         clear H
         have p19 : 0 ≤ (x28_2 : Int) := of_decide_eq_true (by (with_reducible assumption))
         have q19 : x28_2 < (a0.size : Int) := of_decide_eq_true (by (with_reducible assumption))
         have hx19 := bt_at a0 x28_2
         replace p19 := eq_true p19
         replace q19 := eq_true q19
         go_wp2
         go_meet
         case rel => exact ⟨_, (true), (by rfl), H', ⟨by have := HJ3.out; have := HK2.out; omega⟩, ⟨by exact BK121.out⟩, ⟨by repeat (with_reducible exact HB.out)⟩⟩
        ·have H' := Aside0.mk H
         clear H
         have p19 : 0 ≤ (x28_2 : Int) := of_decide_eq_true (by (with_reducible assumption))
         have q19 : x28_2 < (a0.size : Int) := of_decide_eq_true (by (with_reducible assumption))
         have hx19 := bt_at a0 x28_2
         replace p19 := eq_true p19
         replace q19 := eq_true q19
         have p21 : 0 ≤ (x28_2 : Int) := of_decide_eq_true (by (with_reducible assumption))
         have q21 : x28_2 < (a0.size : Int) := of_decide_eq_true (by (with_reducible assumption))
         have hx21 := bt_at a0 x28_2
         replace p21 := eq_true p21
         replace q21 := eq_true q21
         go_wp2
         go_meet
         case rel => exact ⟨_, (decide ((bt a0 x28_2) > 57)), (by rfl), H', ⟨by have := HJ3.out; have := HK2.out; omega⟩, ⟨by exact BK121.out⟩, ⟨by repeat (with_reducible exact HB.out)⟩⟩
       case rest =>
        clear HC16
        (try clear c15b0)
        obtain ⟨kq, x40_15, rfl, HA, HJ15, BK121, HB⟩ := hcut
        cases kq with
        | zero => exact absurd HA.out (by simp [bits_decimal.j2])
        | succ kj15 =>
         have H := HA.out
         clear HA
         simp only [bits_decimal.j2] at H
         replace H := iB H; rcases H with ⟨rfl, H⟩ | ⟨rfl, H⟩
         ·replace H := s4 H; obtain ⟨rfl, rfl, rfl, rfl⟩ := H
          obtain ⟨hcz23_0, hcz23_1, hcz23_2, hfz23_0, hfz23_1, hfz23_2⟩ := cf3 BK121
          go_wp2
          refine bodyPost_ret (results_ct rfl _ _ gb121 24 #[.int .i64 0, .int .u64 0, .int .u64 0] (0, 0) _ rfl (by refine blk_put (cs := #[.int .i64 0, .int .u64 0, .int .u64 x122002_2]) ?_ 2 _ rfl; refine blk_put (cs := #[.int .i64 0, .int .u64 x122001_2, .int .u64 x122002_2]) ?_ 1 _ rfl; refine blk_put (cs := #[.int .i64 x122000_2, .int .u64 x122001_2, .int .u64 x122002_2]) ?_ 0 _ rfl; exact BK121.out) Try.underlying24 rfl (by kernel_rfl)) rfl ?_
          exact ⟨by rfl, by repeat (with_reducible first | exact HB.out | refine below_set ?_ GE121.out)⟩
         ·replace H := iN H; obtain ⟨c24b0, H⟩ := H
          replace H := iN H; obtain ⟨c25b0, H⟩ := H
          replace H := iD H; rcases H with ⟨c27b0, H⟩ | ⟨c27b0, H⟩
          ·replace c27b0 : decide (((18446744073709551615 - (((bt a0 x28_2) - 48) % 256)) / 10) < x8_2) = true := c27b0
           have H' := Aside0.mk H
           clear H
           have p26 : 0 ≤ (x28_2 : Int) := of_decide_eq_true (by (with_reducible assumption))
           have q26 : x28_2 < (a0.size : Int) := of_decide_eq_true (by (with_reducible assumption))
           have hx26 := bt_at a0 x28_2
           replace p26 := eq_true p26
           replace q26 := eq_true q26
           go_wp2
           go_roundg kj15
           case measure => have := HJ3.out; have := HK2.out; have := HJ15.out; omega
           case rel => exact ⟨(IntKind.u64.wrap ((IntKind.u64.wrap (10 * x8_2)) + (((bt a0 x28_2) - 48) % 256))), (true), (wrap64 (x28_2 + 1)), (x122000_2), (x122001_2), (x122002_2), (by rfl), (by rfl), (by rfl), H', ⟨by have := HJ3.out; have := HK2.out; have := HJ15.out; omega⟩, ⟨by exact BK121.out⟩, ⟨by repeat (with_reducible exact HB.out)⟩⟩
          ·replace c27b0 : decide (((18446744073709551615 - (((bt a0 x28_2) - 48) % 256)) / 10) < x8_2) = false := c27b0
           have H' := Aside0.mk H
           clear H
           have p26 : 0 ≤ (x28_2 : Int) := of_decide_eq_true (by (with_reducible assumption))
           have q26 : x28_2 < (a0.size : Int) := of_decide_eq_true (by (with_reducible assumption))
           have hx26 := bt_at a0 x28_2
           replace p26 := eq_true p26
           replace q26 := eq_true q26
           go_wp2
           go_roundg kj15
           case measure => have := HJ3.out; have := HK2.out; have := HJ15.out; omega
           case rel => exact ⟨(IntKind.u64.wrap ((IntKind.u64.wrap (10 * x8_2)) + (((bt a0 x28_2) - 48) % 256))), (x9_2), (wrap64 (x28_2 + 1)), (x122000_2), (x122001_2), (x122002_2), (by rfl), (by rfl), (by rfl), H', ⟨by have := HJ3.out; have := HK2.out; have := HJ15.out; omega⟩, ⟨by exact BK121.out⟩, ⟨by repeat (with_reducible exact HB.out)⟩⟩
      ·replace H := iE H; rcases H with ⟨c28b0, c28b1, H⟩ | ⟨c28, c28b0, c28b1, H⟩
       ·replace H := iB H; rcases H with ⟨rfl, H⟩ | ⟨rfl, H⟩
        ·replace H := s4 H; obtain ⟨rfl, rfl, rfl, rfl⟩ := H
         obtain ⟨hcz30_0, hcz30_1, hcz30_2, hfz30_0, hfz30_1, hfz30_2⟩ := cf3 BK121
         go_wp2
         refine bodyPost_ret (results_ct rfl _ _ gb121 24 #[.int .i64 0, .int .u64 0, .int .u64 0] (0, 0) _ rfl (by refine blk_put (cs := #[.int .i64 0, .int .u64 0, .int .u64 x122002_2]) ?_ 2 _ rfl; refine blk_put (cs := #[.int .i64 0, .int .u64 x122001_2, .int .u64 x122002_2]) ?_ 1 _ rfl; refine blk_put (cs := #[.int .i64 x122000_2, .int .u64 x122001_2, .int .u64 x122002_2]) ?_ 0 _ rfl; exact BK121.out) Try.underlying24 rfl (by kernel_rfl)) rfl ?_
         exact ⟨by rfl, by repeat (with_reducible first | exact HB.out | refine below_set ?_ GE121.out)⟩
        ·replace H := bN H; obtain ⟨t125, A31, H⟩ := H
         replace H := iE H; rcases H with ⟨c32b0, c32b1, H⟩ | ⟨c32, c32b0, c32b1, H⟩
         ·replace H := bN H; obtain ⟨⟨t126, t127, t128⟩, A33, H⟩ := H; dsimp only at H
          replace H := s4 H; obtain ⟨rfl, rfl, rfl, rfl⟩ := H
          go_wp2_with (first | (go_at_call 90; (with_reducible refine (bits_mask.calls a1 t125 _ A31.out).mono ?_); rintro e w' ⟨rfl, ⟨nd, rfl⟩⟩; (try (rw [drewN_self wr]; generalize hq_ : World.drewN wr _ = wr; have n0_ : Aside0 (wr.heap[gb121]? = some (.cells #[.int .i64 x122000_2, .int .u64 x122001_2, .int .u64 x122002_2] 24 (0, 0))) := ⟨by rw [← hq_]; exact (by (with_reducible repeat (refine blk_drewN ?_ _)); exact BK121.out)⟩; have n1_ : Aside0 (Below w.heap.size w wr) := ⟨by rw [← hq_]; exact (by repeat (with_reducible first | exact HB.out | apply pw_below_drewN))⟩; clear BK121 HB hq_; have BK121 := n0_; have HB := n1_; clear n0_ n1_))) | (refine callA (some 74) Try.func75 #[.int .i64 a1, .int .u64 x8_2] ?_; (with_reducible refine (bits_Of.calls a1 x8_2 t126 t127 t128 _ A33.out).mono ?_); rintro e w34 ⟨rfl, hb⟩; refine ⟨_, rfl, ?_⟩; replace BK121 := bk1 BK121 hb; replace HB := hb1 HB hb; (try clear hb); obtain ⟨hcz35_0, hcz35_1, hcz35_2, hfz35_0, hfz35_1, hfz35_2⟩ := cf3 BK121))
          refine bodyPost_ret (results_ct rfl _ _ gb121 24 #[.int .i64 t126, .int .u64 t127, .int .u64 t128] (0, 0) _ rfl (by refine blk_put (cs := #[.int .i64 t126, .int .u64 t127, .int .u64 x122002_2]) ?_ 2 _ rfl; refine blk_put (cs := #[.int .i64 t126, .int .u64 x122001_2, .int .u64 x122002_2]) ?_ 1 _ rfl; refine blk_put (cs := #[.int .i64 x122000_2, .int .u64 x122001_2, .int .u64 x122002_2]) ?_ 0 _ rfl; exact BK121.out) Try.underlying24 rfl (by kernel_rfl)) rfl ?_
          exact ⟨by rfl, by repeat (with_reducible first | exact HB.out | refine below_set ?_ GE121.out)⟩
         ·replace H := s4 H; obtain ⟨rfl, rfl, rfl, rfl⟩ := H
          go_wp2_with ((go_at_call 90; (with_reducible refine (bits_mask.calls a1 t125 _ A31.out).mono ?_); rintro e w' ⟨rfl, ⟨nd, rfl⟩⟩; (try (rw [drewN_self wr]; generalize hq_ : World.drewN wr _ = wr; have n0_ : Aside0 (wr.heap[gb121]? = some (.cells #[.int .i64 x122000_2, .int .u64 x122001_2, .int .u64 x122002_2] 24 (0, 0))) := ⟨by rw [← hq_]; exact (by (with_reducible repeat (refine blk_drewN ?_ _)); exact BK121.out)⟩; have n1_ : Aside0 (Below w.heap.size w wr) := ⟨by rw [← hq_]; exact (by repeat (with_reducible first | exact HB.out | apply pw_below_drewN))⟩; clear BK121 HB hq_; have BK121 := n0_; have HB := n1_; clear n0_ n1_)); obtain ⟨hcz36_0, hcz36_1, hcz36_2, hfz36_0, hfz36_1, hfz36_2⟩ := cf3 BK121))
          refine bodyPost_ret (results_ct rfl _ _ gb121 24 #[.int .i64 0, .int .u64 0, .int .u64 0] (0, 0) _ rfl (by refine blk_put (cs := #[.int .i64 0, .int .u64 0, .int .u64 x122002_2]) ?_ 2 _ rfl; refine blk_put (cs := #[.int .i64 0, .int .u64 x122001_2, .int .u64 x122002_2]) ?_ 1 _ rfl; refine blk_put (cs := #[.int .i64 x122000_2, .int .u64 x122001_2, .int .u64 x122002_2]) ?_ 0 _ rfl; exact BK121.out) Try.underlying24 rfl (by kernel_rfl)) rfl ?_
          exact ⟨by rfl, by repeat (with_reducible first | exact HB.out | refine below_set ?_ GE121.out)⟩
       ·replace H := s4 H; obtain ⟨rfl, rfl, rfl, rfl⟩ := H
        obtain ⟨hcz37_0, hcz37_1, hcz37_2, hfz37_0, hfz37_1, hfz37_2⟩ := cf3 BK121
        go_wp2
        refine bodyPost_ret (results_ct rfl _ _ gb121 24 #[.int .i64 0, .int .u64 0, .int .u64 0] (0, 0) _ rfl (by refine blk_put (cs := #[.int .i64 0, .int .u64 0, .int .u64 x122002_2]) ?_ 2 _ rfl; refine blk_put (cs := #[.int .i64 0, .int .u64 x122001_2, .int .u64 x122002_2]) ?_ 1 _ rfl; refine blk_put (cs := #[.int .i64 x122000_2, .int .u64 x122001_2, .int .u64 x122002_2]) ?_ 0 _ rfl; exact BK121.out) Try.underlying24 rfl (by kernel_rfl)) rfl ?_
        exact ⟨by rfl, by repeat (with_reducible first | exact HB.out | refine below_set ?_ GE121.out)⟩
end Go.Proofs.Ytlamgdibnnmbmaa.PLex
end
section
namespace Go.Proofs.Ytlamgdibnnmbmaa.PLex
open Go.RowKit Go.Proofs.YtlamgdibnnmbmaaW.PrintWords Go.Proofs.YtlamgdibnnmbmaaW.PrintLast Go.Proofs.YtlamgdibnnmbmaaW.PrintMore
attribute [local go_sem] max2_int min2_int max_two min_two max_three min_three max_four min_four
set_option linter.unusedVariables false
set_option linter.unusedSimpArgs false
def bits_digit.j0 : Nat → Int → Bool → Option (Int)
 | 0, _, _ => none
 | k + 1, x0, x3 => if x3 = true then (some ((x0 - 48) % 256)) else (if x0 ≥ 97 then (if x0 ≤ 102 then (some (((x0 - 97) % 256) + 10)) else (some (-1))) else (some (-1)))
def bits_digit.f (k : Nat) (a0 : Int) : Option (Int) := if a0 ≥ 48 then (bits_digit.j0 k a0 (decide (a0 ≤ 57))) else (bits_digit.j0 k a0 false)
theorem bits_digit.mono_l : ∀ k, (∀ y0 y1, LeO (bits_digit.j0 k y0 y1) (bits_digit.j0 (k + 1) y0 y1))
 | 0 => fun _ _ r h => by simp [bits_digit.j0] at h
 | k + 1 => by
  have ih0 := bits_digit.mono_l k
  ·intro y0 y1
   unfold bits_digit.j0
   repeat' first | with_reducible exact ih0 _ _ | with_reducible exact LeO.refl _ | with_reducible exact LeO.none _ | with_reducible refine LeO.ite ?_ ?_ | with_reducible refine LeO.bind ?_ (fun _ => ?_)
theorem bits_digit.mono : ∀ a0 k, LeO (bits_digit.f k a0) (bits_digit.f (k + 1) a0) := by
 intro a0 k
 have ih0 := bits_digit.mono_l k
 unfold bits_digit.f
 repeat' first | with_reducible exact ih0 _ _ | with_reducible exact LeO.refl _ | with_reducible exact LeO.none _ | with_reducible refine LeO.ite ?_ ?_ | with_reducible refine LeO.bind ?_ (fun _ => ?_)
set_option maxHeartbeats 8000000 in
set_option maxRecDepth 100000 in
theorem bits_digit.calls (k : Nat) (a0 : Int) (r : Int) (w : World) (h : bits_digit.f k a0 = some r) :
  Calls Try.prog 96 #[.int .u8 a0] w fun e w' => e = .returned (.int .i64 r) ∧ Drawn0 w w' := by
 have H := h
 clear h
 unfold bits_digit.f at H
 have HC2 := Aside0.mk H
 clear H
 go_enter Try.func96, Try.ntmps96
 go_upto_region 1 with (fail)
 go_cut [3] (fun v3 wc => ∃ (kq : Nat) (x3_1 : Bool), v3 = .bool x3_1 ∧ Aside0 (bits_digit.j0 kq a0 x3_1 = some r) ∧ Aside0 (kq ≤ k) ∧ Drawn0 w wc)
 case first =>
  have H := HC2.out
  clear HC2
  replace H := iD H; rcases H with ⟨c3b0, H⟩ | ⟨c3b0, H⟩
  ·replace c3b0 : decide (48 ≤ a0) = true := c3b0
   (skip)
   have H' := Aside0.mk H
   clear H
   go_wp2
   go_meet
   case rel => exact ⟨_, (decide (a0 ≤ 57)), (by rfl), H', ⟨by omega⟩, by repeat (exact Drawn0.refl _)⟩
  ·replace c3b0 : decide (48 ≤ a0) = false := c3b0
   (skip)
   have H' := Aside0.mk H
   clear H
   go_wp2
   go_meet
   case rel => exact ⟨_, (false), (by rfl), H', ⟨by omega⟩, by repeat (exact Drawn0.refl _)⟩
 case rest =>
  clear HC2
  obtain ⟨kq, x3_1, rfl, HA, HJ1, ⟨mc1, rfl⟩⟩ := hcut
  cases kq with
  | zero => exact absurd HA.out (by simp [bits_digit.j0])
  | succ kj1 =>
   have H := HA.out
   clear HA
   simp only [bits_digit.j0] at H
   replace H := iB H; rcases H with ⟨rfl, H⟩ | ⟨rfl, H⟩
   ·obtain rfl := Option.some.inj H
    go_wp2
    go_ret
    exact ⟨by rfl, by repeat (first | exact Drawn0.refl _ | apply Drawn0.step)⟩
   ·replace H := iD H; rcases H with ⟨c5b0, H⟩ | ⟨c5b0, H⟩
    ·replace c5b0 : decide (97 ≤ a0) = true := c5b0
     replace H := iD H; rcases H with ⟨c6b0, H⟩ | ⟨c6b0, H⟩
     ·obtain rfl := Option.some.inj H
      go_wp2
      go_ret
      exact ⟨by rfl, by repeat (first | exact Drawn0.refl _ | apply Drawn0.step)⟩
     ·obtain rfl := Option.some.inj H
      go_wp2
      go_ret
      exact ⟨by rfl, by repeat (first | exact Drawn0.refl _ | apply Drawn0.step)⟩
    ·replace c5b0 : decide (97 ≤ a0) = false := c5b0
     obtain rfl := Option.some.inj H
     go_wp2
     go_ret
     exact ⟨by rfl, by repeat (first | exact Drawn0.refl _ | apply Drawn0.step)⟩
end Go.Proofs.Ytlamgdibnnmbmaa.PLex
end
section
namespace Go.Proofs.Ytlamgdibnnmbmaa.PLex
open Go.RowKit Go.Proofs.YtlamgdibnnmbmaaW.PrintWords Go.Proofs.YtlamgdibnnmbmaaW.PrintLast Go.Proofs.YtlamgdibnnmbmaaW.PrintMore
attribute [local go_sem] max2_int min2_int max_two min_two max_three min_three max_four min_four
set_option linter.unusedVariables false
set_option linter.unusedSimpArgs false
def bits_Check.j0 : Nat → Bool → Int → Int → Int → Option (Int)
 | 0, _, _, _, _ => none
 | k + 1, x10, x130000, x130001, x130002 => if x10 = true then (some 2) else ((bits_mask.f x130000).bind fun t130 => (if (Go.bits .andNot .u64 (Go.bits .or .u64 x130001 x130002) t130) = 0 then (some 0) else (some 4)))
def bits_Check.f (k : Nat) (a0_0 : Int) (a0_1 : Int) (a0_2 : Int) : Option (Int) := if a0_0 < 1 then (bits_Check.j0 k true a0_0 a0_1 a0_2) else (bits_Check.j0 k (decide (a0_0 > 64)) a0_0 a0_1 a0_2)
theorem bits_Check.mono_l : ∀ k, (∀ y0 y1 y2 y3, LeO (bits_Check.j0 k y0 y1 y2 y3) (bits_Check.j0 (k + 1) y0 y1 y2 y3))
 | 0 => fun _ _ _ _ r h => by simp [bits_Check.j0] at h
 | k + 1 => by
  have ih0 := bits_Check.mono_l k
  ·intro y0 y1 y2 y3
   unfold bits_Check.j0
   repeat' first | with_reducible exact ih0 _ _ _ _ | with_reducible exact LeO.refl _ | with_reducible exact LeO.none _ | with_reducible refine LeO.ite ?_ ?_ | with_reducible refine LeO.bind ?_ (fun _ => ?_)
theorem bits_Check.mono : ∀ a0 a1 a2 k, LeO (bits_Check.f k a0 a1 a2) (bits_Check.f (k + 1) a0 a1 a2) := by
 intro a0 a1 a2 k
 have ih0 := bits_Check.mono_l k
 unfold bits_Check.f
 repeat' first | with_reducible exact ih0 _ _ _ _ | with_reducible exact LeO.refl _ | with_reducible exact LeO.none _ | with_reducible refine LeO.ite ?_ ?_ | with_reducible refine LeO.bind ?_ (fun _ => ?_)
set_option maxHeartbeats 8000000 in
set_option maxRecDepth 100000 in
theorem bits_Check.calls (k : Nat) (a0_0 : Int) (a0_1 : Int) (a0_2 : Int) (r : Int) (w : World) (h : bits_Check.f k a0_0 a0_1 a0_2 = some r) :
  Calls Try.prog 81 #[.agg #[.int .i64 a0_0, .int .u64 a0_1, .int .u64 a0_2]] w fun e w' => e = .returned (.int .i64 r) ∧ Below w.heap.size w w' := by
 have hu24 := Try.underlying24
 have HB := Aside0.mk (Below.refl w.heap.size w)
 have H := h
 clear h
 unfold bits_Check.f at H
 have HC2 := Aside0.mk H
 clear H
 go_enter Try.func81, Try.ntmps81
 go_upto_region 1 with ((refine boxA HB 1 #[.int .i64 a0_0, .int .u64 a0_1, .int .u64 a0_2] 24 ?_; clear HB; intro gb129 w3 BK129 GE129 hg hb HB; clear hb hg))
 go_cut [10] (fun v10 wc => ∃ (kq : Nat) (x10_1 : Bool), v10 = .bool x10_1 ∧ Aside0 (bits_Check.j0 kq x10_1 a0_0 a0_1 a0_2 = some r) ∧ Aside0 (kq ≤ k) ∧ Aside0 (wc.heap[gb129]? = some (.cells #[.int .i64 a0_0, .int .u64 a0_1, .int .u64 a0_2] 24 (0, 0))) ∧ Aside0 (Below w.heap.size w wc))
 case first =>
  have H := HC2.out
  clear HC2
  replace H := iD H; rcases H with ⟨c4b0, H⟩ | ⟨c4b0, H⟩
  ·(skip)
   have H' := Aside0.mk H
   clear H
   obtain ⟨hcz5_0, hcz5_1, hcz5_2, hfz5_0, hfz5_1, hfz5_2⟩ := cf3 BK129
   go_wp2
   go_meet
   case rel => exact ⟨_, (true), (by rfl), H', ⟨by omega⟩, ⟨by exact BK129.out⟩, ⟨by repeat (with_reducible exact HB.out)⟩⟩
  ·(skip)
   have H' := Aside0.mk H
   clear H
   obtain ⟨hcz6_0, hcz6_1, hcz6_2, hfz6_0, hfz6_1, hfz6_2⟩ := cf3 BK129
   go_wp2
   go_meet
   case rel => exact ⟨_, (decide (a0_0 > 64)), (by rfl), H', ⟨by omega⟩, ⟨by exact BK129.out⟩, ⟨by repeat (with_reducible exact HB.out)⟩⟩
 case rest =>
  clear HC2
  obtain ⟨kq, x10_1, rfl, HA, HJ1, BK129, HB⟩ := hcut
  cases kq with
  | zero => exact absurd HA.out (by simp [bits_Check.j0])
  | succ kj1 =>
   have H := HA.out
   clear HA
   simp only [bits_Check.j0] at H
   replace H := iB H; rcases H with ⟨rfl, H⟩ | ⟨rfl, H⟩
   ·obtain rfl := Option.some.inj H
    go_wp2
    go_ret
    exact ⟨by rfl, by repeat (with_reducible exact HB.out)⟩
   ·replace H := bN H; obtain ⟨t130, A8, H⟩ := H
    replace H := iE H; rcases H with ⟨c9b0, c9b1, H⟩ | ⟨c9, c9b0, c9b1, H⟩
    ·obtain rfl := Option.some.inj H
     obtain ⟨hcz10_0, hcz10_1, hcz10_2, hfz10_0, hfz10_1, hfz10_2⟩ := cf3 BK129
     go_wp2
     repeat (go_quiet ((go_at_call 90; (with_reducible refine (bits_mask.calls a0_0 t130 _ A8.out).mono ?_); rintro e w' ⟨rfl, ⟨nd, rfl⟩⟩; (try exact ⟨rfl, _, World.drewN_drewN _ _ _⟩))); try go_wp2)
     go_ret
     exact ⟨by rfl, by repeat (with_reducible first | exact HB.out | apply pw_below_drewN)⟩
    ·obtain rfl := Option.some.inj H
     obtain ⟨hcz11_0, hcz11_1, hcz11_2, hfz11_0, hfz11_1, hfz11_2⟩ := cf3 BK129
     go_wp2
     repeat (go_quiet ((go_at_call 90; (with_reducible refine (bits_mask.calls a0_0 t130 _ A8.out).mono ?_); rintro e w' ⟨rfl, ⟨nd, rfl⟩⟩; (try exact ⟨rfl, _, World.drewN_drewN _ _ _⟩))); try go_wp2)
     go_ret
     exact ⟨by rfl, by repeat (with_reducible first | exact HB.out | apply pw_below_drewN)⟩
end Go.Proofs.Ytlamgdibnnmbmaa.PLex
end
section
namespace Go.Proofs.Ytlamgdibnnmbmaa.PLex
open Go.RowKit Go.Proofs.YtlamgdibnnmbmaaW.PrintWords Go.Proofs.YtlamgdibnnmbmaaW.PrintLast Go.Proofs.YtlamgdibnnmbmaaW.PrintMore
attribute [local go_sem] max2_int min2_int max_two min_two max_three min_three max_four min_four
set_option linter.unusedVariables false
set_option linter.unusedSimpArgs false
def bits_valid.l0 : Nat → List (S24) → Int → Int → Option (Bool)
 | 0, _, _, _ => none
 | k + 1, x5, x6, x7 => if x7 < x6 then (if 0 ≤ x7 then (if x7 < (x5.length : Int) then ((bits_Check.f k ((rd_T24 x5 x7).f0) ((rd_T24 x5 x7).f1) ((rd_T24 x5 x7).f2)).bind fun t133 => (if t133 = 0 then (bits_valid.l0 k x5 x6 (wrap64 (x7 + 1))) else (some false))) else (none)) else (none)) else (some true)
def bits_valid.f (k : Nat) (l0 : List (S24)) : Option (Bool) := bits_valid.l0 k l0 (l0.length : Int) 0
theorem bits_valid.mono_l : ∀ k, (∀ y0 y1 y2, LeO (bits_valid.l0 k y0 y1 y2) (bits_valid.l0 (k + 1) y0 y1 y2))
 | 0 => fun _ _ _ r h => by simp [bits_valid.l0] at h
 | k + 1 => by
  have ih0 := bits_valid.mono_l k
  ·intro y0 y1 y2
   unfold bits_valid.l0
   repeat' first | with_reducible exact ih0 _ _ _ | with_reducible exact bits_Check.mono _ _ _ _ | with_reducible exact LeO.refl _ | with_reducible exact LeO.none _ | with_reducible refine LeO.ite ?_ ?_ | with_reducible refine LeO.bind ?_ (fun _ => ?_)
theorem bits_valid.mono : ∀ a0 k, LeO (bits_valid.f k a0) (bits_valid.f (k + 1) a0) := by
 intro a0 k
 have ih0 := bits_valid.mono_l k
 unfold bits_valid.f
 repeat' first | with_reducible exact ih0 _ _ _ | with_reducible exact bits_Check.mono _ _ _ _ | with_reducible exact LeO.refl _ | with_reducible exact LeO.none _ | with_reducible refine LeO.ite ?_ ?_ | with_reducible refine LeO.bind ?_ (fun _ => ?_)
set_option maxHeartbeats 8000000 in
set_option maxRecDepth 100000 in
theorem bits_valid.calls (k : Nat) (A0 : Option Addr) (c0 : Nat) (l0 : List (S24)) (r : Bool) (w : World) (hr0 : Kd.C k24 w A0 l0.length l0) (hc0 : l0.length ≤ c0) (h : bits_valid.f k l0 = some r) :
  Calls Try.prog 103 #[.slice A0 l0.length c0] w fun e w' => e = .returned (.bool r) ∧ Below w.heap.size w w' := by
 have hu24 := Try.underlying24
 have HR0 := Aside0.mk hr0
 have HC0 := Aside0.mk hc0
 clear hr0 hc0
 have HB := Aside0.mk (Below.refl w.heap.size w)
 have H := h
 clear h
 unfold bits_valid.f at H
 have H' := Aside0.mk H
 clear H
 go_enter Try.func103, Try.ntmps103
 go_wp2
 go_loopg [7] k (fun kq v7 w' => ∃ (x7_1 : Int), v7 = .int .i64 x7_1 ∧ Aside0 (bits_valid.l0 kq l0 (l0.length : Int) x7_1 = some r) ∧ Aside0 (kq ≤ k) ∧ Aside0 (Below w.heap.size w w'))
 case atStart => exact ⟨(0), (by rfl), H', ⟨Nat.le_refl _⟩, ⟨by repeat (with_reducible exact HB.out)⟩⟩
 case round =>
  clear H'
  try clear c1
  obtain ⟨x7_1, rfl, HA, HK1, HB⟩ := hrel
  cases gk with
  | zero => exact absurd HA.out (by simp [bits_valid.l0])
  | succ k1 =>
   have H := HA.out
   clear HA
   simp only [bits_valid.l0] at H
   replace H := iD H; rcases H with ⟨c2b0, H⟩ | ⟨c2b0, H⟩
   ·replace H := iN H; obtain ⟨c3b0, H⟩ := H
    replace H := iN H; obtain ⟨c4b0, H⟩ := H
    replace H := bN H; obtain ⟨t133, A5, H⟩ := H
    replace H := iE H; rcases H with ⟨c6b0, c6b1, H⟩ | ⟨c6, c6b0, c6b1, H⟩
    ·have H' := Aside0.mk H
     clear H
     have p131 : 0 ≤ (x7_1 : Int) := of_decide_eq_true (by (with_reducible assumption))
     have q131 : x7_1 < (l0.length : Int) := of_decide_eq_true (by (with_reducible assumption))
     obtain ⟨ad131, e131, hx131_0, hx131_1, hx131_2⟩ := at_T24 HR0.out x7_1 p131 q131
     cases e131
     replace hx131_0 := (HB.out.cell (World.block_lt_of_cell? w _ hx131_0)).trans hx131_0
     replace hx131_1 := (HB.out.cell (World.block_lt_of_cell? w _ hx131_1)).trans hx131_1
     replace hx131_2 := (HB.out.cell (World.block_lt_of_cell? w _ hx131_2)).trans hx131_2
     replace p131 := eq_true p131
     replace q131 := eq_true q131
     go_wp2_with (first | (refine boxA HB 4 #[.int .i64 0, .int .u64 0, .int .u64 0] 24 ?_; clear HB; intro gb132 w7 BK132 GE132 hg hb HB; clear hb hg; obtain ⟨hcz8_0, hcz8_1, hcz8_2, hfz8_0, hfz8_1, hfz8_2⟩ := cf3 BK132) | (refine callA (some 12) Try.func81 #[.agg #[.int .i64 ((rd_T24 l0 x7_1).f0), .int .u64 ((rd_T24 l0 x7_1).f1), .int .u64 ((rd_T24 l0 x7_1).f2)]] ?_; (with_reducible refine (bits_Check.calls k1 ((rd_T24 l0 x7_1).f0) ((rd_T24 l0 x7_1).f1) ((rd_T24 l0 x7_1).f2) t133 _ A5.out).mono ?_); rintro e w9 ⟨rfl, hb⟩; refine ⟨_, rfl, ?_⟩; replace BK132 := Aside0.mk (blk_below (g := gb132) (o := .cells #[.int .i64 ((rd_T24 l0 x7_1).f0), .int .u64 ((rd_T24 l0 x7_1).f1), .int .u64 ((rd_T24 l0 x7_1).f2)] 24 (0, 0)) (by refine blk_put (cs := #[.int .i64 ((rd_T24 l0 x7_1).f0), .int .u64 ((rd_T24 l0 x7_1).f1), .int .u64 0]) ?_ 2 _ rfl; refine blk_put (cs := #[.int .i64 ((rd_T24 l0 x7_1).f0), .int .u64 0, .int .u64 0]) ?_ 1 _ rfl; refine blk_put (cs := #[.int .i64 0, .int .u64 0, .int .u64 0]) ?_ 0 _ rfl; exact BK132.out) hb); replace HB := hb1 HB hb; (try clear hb)))
     go_roundg k1
     case measure => have := HK1.out; omega
     case rel => exact ⟨(wrap64 (x7_1 + 1)), (by rfl), H', ⟨by have := HK1.out; omega⟩, ⟨by repeat (with_reducible exact HB.out)⟩⟩
    ·obtain rfl := Option.some.inj H
     have p131 : 0 ≤ (x7_1 : Int) := of_decide_eq_true (by (with_reducible assumption))
     have q131 : x7_1 < (l0.length : Int) := of_decide_eq_true (by (with_reducible assumption))
     obtain ⟨ad131, e131, hx131_0, hx131_1, hx131_2⟩ := at_T24 HR0.out x7_1 p131 q131
     cases e131
     replace hx131_0 := (HB.out.cell (World.block_lt_of_cell? w _ hx131_0)).trans hx131_0
     replace hx131_1 := (HB.out.cell (World.block_lt_of_cell? w _ hx131_1)).trans hx131_1
     replace hx131_2 := (HB.out.cell (World.block_lt_of_cell? w _ hx131_2)).trans hx131_2
     replace p131 := eq_true p131
     replace q131 := eq_true q131
     go_wp2_with (first | (refine boxA HB 4 #[.int .i64 0, .int .u64 0, .int .u64 0] 24 ?_; clear HB; intro gb132 w10 BK132 GE132 hg hb HB; clear hb hg; obtain ⟨hcz11_0, hcz11_1, hcz11_2, hfz11_0, hfz11_1, hfz11_2⟩ := cf3 BK132) | (refine callA (some 12) Try.func81 #[.agg #[.int .i64 ((rd_T24 l0 x7_1).f0), .int .u64 ((rd_T24 l0 x7_1).f1), .int .u64 ((rd_T24 l0 x7_1).f2)]] ?_; (with_reducible refine (bits_Check.calls k1 ((rd_T24 l0 x7_1).f0) ((rd_T24 l0 x7_1).f1) ((rd_T24 l0 x7_1).f2) t133 _ A5.out).mono ?_); rintro e w12 ⟨rfl, hb⟩; refine ⟨_, rfl, ?_⟩; replace BK132 := Aside0.mk (blk_below (g := gb132) (o := .cells #[.int .i64 ((rd_T24 l0 x7_1).f0), .int .u64 ((rd_T24 l0 x7_1).f1), .int .u64 ((rd_T24 l0 x7_1).f2)] 24 (0, 0)) (by refine blk_put (cs := #[.int .i64 ((rd_T24 l0 x7_1).f0), .int .u64 ((rd_T24 l0 x7_1).f1), .int .u64 0]) ?_ 2 _ rfl; refine blk_put (cs := #[.int .i64 ((rd_T24 l0 x7_1).f0), .int .u64 0, .int .u64 0]) ?_ 1 _ rfl; refine blk_put (cs := #[.int .i64 0, .int .u64 0, .int .u64 0]) ?_ 0 _ rfl; exact BK132.out) hb); replace HB := hb1 HB hb; (try clear hb)))
     go_ret
     exact ⟨by rfl, by repeat (with_reducible exact HB.out)⟩
   ·obtain rfl := Option.some.inj H
    go_wp2
    go_ret
    exact ⟨by rfl, by repeat (with_reducible exact HB.out)⟩
end Go.Proofs.Ytlamgdibnnmbmaa.PLex
end
section
namespace Go.Proofs.Ytlamgdibnnmbmaa.PLex
open Go.RowKit Go.Proofs.YtlamgdibnnmbmaaW.PrintWords Go.Proofs.YtlamgdibnnmbmaaW.PrintLast Go.Proofs.YtlamgdibnnmbmaaW.PrintMore
attribute [local go_sem] max2_int min2_int max_two min_two max_three min_three max_four min_four
set_option linter.unusedVariables false
set_option linter.unusedSimpArgs false
def bits_Bit.j0 : Nat → Int → Bool → Int → Int → Int → Option (Int)
 | 0, _, _, _, _, _ => none
 | k + 1, x1, x18, x135000, x135001, x135002 => if x18 = true then (some 0) else (if 0 ≤ x1 then (if 0 ≤ (Go.bits .or .u64 (Go.bits .and .u64 (shr .u64 x135001 x1) 1) (IntKind.u64.wrap ((Go.bits .and .u64 (shr .u64 x135002 x1) 1) * 2))) then (if (Go.bits .or .u64 (Go.bits .and .u64 (shr .u64 x135001 x1) 1) (IntKind.u64.wrap ((Go.bits .and .u64 (shr .u64 x135002 x1) 1) * 2))) < 4 then (some (bt (⟨#[48, 49, 122, 120]⟩ : ByteArray) (Go.bits .or .u64 (Go.bits .and .u64 (shr .u64 x135001 x1) 1) (IntKind.u64.wrap ((Go.bits .and .u64 (shr .u64 x135002 x1) 1) * 2))))) else (none)) else (none)) else (none))
def bits_Bit.f (k : Nat) (a0_0 : Int) (a0_1 : Int) (a0_2 : Int) (a1 : Int) : Option (Int) := (bits_valid.f k (([(⟨a0_0, a0_1, a0_2⟩ : S24)] : List (S24)))).bind fun t138 => (if t138 = true then (if a1 < 0 then (bits_Bit.j0 k a1 true a0_0 a0_1 a0_2) else (bits_Bit.j0 k a1 (decide (a1 ≥ a0_0)) a0_0 a0_1 a0_2)) else (bits_Bit.j0 k a1 true a0_0 a0_1 a0_2))
theorem bits_Bit.mono_l : ∀ k, (∀ y0 y1 y2 y3 y4, LeO (bits_Bit.j0 k y0 y1 y2 y3 y4) (bits_Bit.j0 (k + 1) y0 y1 y2 y3 y4))
 | 0 => fun _ _ _ _ _ r h => by simp [bits_Bit.j0] at h
 | k + 1 => by
  have ih0 := bits_Bit.mono_l k
  ·intro y0 y1 y2 y3 y4
   unfold bits_Bit.j0
   repeat' first | with_reducible exact ih0 _ _ _ _ _ | with_reducible exact bits_valid.mono _ _ | with_reducible exact LeO.refl _ | with_reducible exact LeO.none _ | with_reducible refine LeO.ite ?_ ?_ | with_reducible refine LeO.bind ?_ (fun _ => ?_)
theorem bits_Bit.mono : ∀ a0 a1 a2 a3 k, LeO (bits_Bit.f k a0 a1 a2 a3) (bits_Bit.f (k + 1) a0 a1 a2 a3) := by
 intro a0 a1 a2 a3 k
 have ih0 := bits_Bit.mono_l k
 unfold bits_Bit.f
 repeat' first | with_reducible exact ih0 _ _ _ _ _ | with_reducible exact bits_valid.mono _ _ | with_reducible exact LeO.refl _ | with_reducible exact LeO.none _ | with_reducible refine LeO.ite ?_ ?_ | with_reducible refine LeO.bind ?_ (fun _ => ?_)
set_option maxHeartbeats 8000000 in
set_option maxRecDepth 100000 in
theorem bits_Bit.calls (k : Nat) (a0_0 : Int) (a0_1 : Int) (a0_2 : Int) (a1 : Int) (r : Int) (w : World) (h : bits_Bit.f k a0_0 a0_1 a0_2 a1 = some r) :
  Calls Try.prog 97 #[.agg #[.int .i64 a0_0, .int .u64 a0_1, .int .u64 a0_2], .int .i64 a1] w fun e w' => e = .returned (.int .u8 r) ∧ Below w.heap.size w w' := by
 have hu24 := Try.underlying24
 have HB := Aside0.mk (Below.refl w.heap.size w)
 have H := h
 clear h
 unfold bits_Bit.f at H
 have HC3 := Aside0.mk H
 clear H
 go_enter Try.func97, Try.ntmps97
 go_upto_region 1 with ((refine boxA HB 2 #[.int .i64 a0_0, .int .u64 a0_1, .int .u64 a0_2] 24 ?_; clear HB; intro gb134 w4 BK134 GE134 hg hb HB; clear hb hg))
 go_cut [18] (fun v18 wc => ∃ (kq : Nat) (x18_2 : Bool), v18 = .bool x18_2 ∧ Aside0 (bits_Bit.j0 kq a1 x18_2 a0_0 a0_1 a0_2 = some r) ∧ Aside0 (kq ≤ k) ∧ Aside0 (wc.heap[gb134]? = some (.cells #[.int .i64 a0_0, .int .u64 a0_1, .int .u64 a0_2] 24 (0, 0))) ∧ Aside0 (Below w.heap.size w wc))
 case first =>
  have H := HC3.out
  clear HC3
  obtain ⟨y135, hy135⟩ : ∃ y_ : List (S24), y_ = ([(⟨a0_0, a0_1, a0_2⟩ : S24)] : List (S24)) := ⟨_, rfl⟩
  replace H : ((bits_valid.f k y135).bind fun t138 => (if t138 = true then (if a1 < 0 then (bits_Bit.j0 k a1 true a0_0 a0_1 a0_2) else (bits_Bit.j0 k a1 (decide (a1 ≥ a0_0)) a0_0 a0_1 a0_2)) else (bits_Bit.j0 k a1 true a0_0 a0_1 a0_2))) = some r := by (rw [hy135]; with_reducible exact H)
  have Ny135 := Aside0.mk hy135
  clear hy135
  replace H := bN H; obtain ⟨t138, A5, H⟩ := H
  replace H := iB H; rcases H with ⟨rfl, H⟩ | ⟨rfl, H⟩
  ·replace H := iD H; rcases H with ⟨c7b0, H⟩ | ⟨c7b0, H⟩
   ·(skip)
    have H' := Aside0.mk H
    clear H
    obtain ⟨hcz8_0, hcz8_1, hcz8_2, hfz8_0, hfz8_1, hfz8_2⟩ := cf3 BK134
    go_wp2_with (first | ((with_reducible refine gate_dst (N := 6) rfl ?_); refine Kd.R_lit k24 _ 24 ?hg (N := 6) ?hd (xs := ([(⟨a0_0, a0_1, a0_2⟩ : S24)] : List (S24))) (inner := [.int .i64 a0_0, .int .u64 a0_1, .int .u64 a0_2]) (ok := fun _ => True) (okp := fun _ => True) ?hr ?hp (fun _ hk => hk) trivial (Below.refl _ _) (Nat.le_refl _) (by simp) ?_; (case hd => rfl); (case hg => rfl); (case hr => (go_simp; done)); (case hp => exact (Reps.c3 (show Kd.M k24 _ _ _ (⟨a0_0, a0_1, a0_2⟩ : S24) [.int .i64 a0_0, .int .u64 a0_1, .int .u64 a0_2] from (k24_mkM _ _ _ (⟨a0_0, a0_1, a0_2⟩ : S24) )) (Reps.none _ _))); intro v136 w9 ho10 hb hg_ hnew_; clear hg_ hnew_; (rw [← Ny135.out] at ho10); have HO137 := Aside0.mk (Kd.R_lower (Kd.R_newB ho10 BK134.out) (below_size HB.out)); replace BK134 := bk1 BK134 hb; replace HB := hb1 HB hb; clear hb ho10; obtain ⟨Ao11, co11, eo11⟩ := Kd.R_slice HO137.out; subst eo11) | (go_at_call 103; (with_reducible refine (bits_valid.calls k _ _ y135 true _ ?side1 ?side2 A5.out).mono ?_); (case side1 => exact (Kd.R_reads' HO137.out).2.2); (case side2 => exact (Kd.R_reads' HO137.out).2.1); rintro e w12 ⟨rfl, hb⟩; replace HO137 := Kd.rb1 HO137 hb; replace BK134 := bk1 BK134 hb; replace HB := hb1 HB hb; (try clear hb)))
    go_meet
    case rel => exact ⟨_, (true), (by rfl), H', ⟨by omega⟩, ⟨by exact BK134.out⟩, ⟨by repeat (with_reducible exact HB.out)⟩⟩
   ·(skip)
    have H' := Aside0.mk H
    clear H
    obtain ⟨hcz13_0, hcz13_1, hcz13_2, hfz13_0, hfz13_1, hfz13_2⟩ := cf3 BK134
    go_wp2_with (first | ((with_reducible refine gate_dst (N := 6) rfl ?_); refine Kd.R_lit k24 _ 24 ?hg (N := 6) ?hd (xs := ([(⟨a0_0, a0_1, a0_2⟩ : S24)] : List (S24))) (inner := [.int .i64 a0_0, .int .u64 a0_1, .int .u64 a0_2]) (ok := fun _ => True) (okp := fun _ => True) ?hr ?hp (fun _ hk => hk) trivial (Below.refl _ _) (Nat.le_refl _) (by simp) ?_; (case hd => rfl); (case hg => rfl); (case hr => (go_simp; done)); (case hp => exact (Reps.c3 (show Kd.M k24 _ _ _ (⟨a0_0, a0_1, a0_2⟩ : S24) [.int .i64 a0_0, .int .u64 a0_1, .int .u64 a0_2] from (k24_mkM _ _ _ (⟨a0_0, a0_1, a0_2⟩ : S24) )) (Reps.none _ _))); intro v136 w14 ho15 hb hg_ hnew_; clear hg_ hnew_; (rw [← Ny135.out] at ho15); have HO137 := Aside0.mk (Kd.R_lower (Kd.R_newB ho15 BK134.out) (below_size HB.out)); replace BK134 := bk1 BK134 hb; replace HB := hb1 HB hb; clear hb ho15; obtain ⟨Ao16, co16, eo16⟩ := Kd.R_slice HO137.out; subst eo16) | (go_at_call 103; (with_reducible refine (bits_valid.calls k _ _ y135 true _ ?side1 ?side2 A5.out).mono ?_); (case side1 => exact (Kd.R_reads' HO137.out).2.2); (case side2 => exact (Kd.R_reads' HO137.out).2.1); rintro e w17 ⟨rfl, hb⟩; replace HO137 := Kd.rb1 HO137 hb; replace BK134 := bk1 BK134 hb; replace HB := hb1 HB hb; (try clear hb); obtain ⟨hcz18_0, hcz18_1, hcz18_2, hfz18_0, hfz18_1, hfz18_2⟩ := cf3 BK134))
    go_meet
    case rel => exact ⟨_, (decide (a1 ≥ a0_0)), (by rfl), H', ⟨by omega⟩, ⟨by exact BK134.out⟩, ⟨by repeat (with_reducible exact HB.out)⟩⟩
  ·have H' := Aside0.mk H
   clear H
   obtain ⟨hcz19_0, hcz19_1, hcz19_2, hfz19_0, hfz19_1, hfz19_2⟩ := cf3 BK134
   go_wp2_with (first | ((with_reducible refine gate_dst (N := 6) rfl ?_); refine Kd.R_lit k24 _ 24 ?hg (N := 6) ?hd (xs := ([(⟨a0_0, a0_1, a0_2⟩ : S24)] : List (S24))) (inner := [.int .i64 a0_0, .int .u64 a0_1, .int .u64 a0_2]) (ok := fun _ => True) (okp := fun _ => True) ?hr ?hp (fun _ hk => hk) trivial (Below.refl _ _) (Nat.le_refl _) (by simp) ?_; (case hd => rfl); (case hg => rfl); (case hr => (go_simp; done)); (case hp => exact (Reps.c3 (show Kd.M k24 _ _ _ (⟨a0_0, a0_1, a0_2⟩ : S24) [.int .i64 a0_0, .int .u64 a0_1, .int .u64 a0_2] from (k24_mkM _ _ _ (⟨a0_0, a0_1, a0_2⟩ : S24) )) (Reps.none _ _))); intro v136 w20 ho21 hb hg_ hnew_; clear hg_ hnew_; (rw [← Ny135.out] at ho21); have HO137 := Aside0.mk (Kd.R_lower (Kd.R_newB ho21 BK134.out) (below_size HB.out)); replace BK134 := bk1 BK134 hb; replace HB := hb1 HB hb; clear hb ho21; obtain ⟨Ao22, co22, eo22⟩ := Kd.R_slice HO137.out; subst eo22) | (go_at_call 103; (with_reducible refine (bits_valid.calls k _ _ y135 false _ ?side1 ?side2 A5.out).mono ?_); (case side1 => exact (Kd.R_reads' HO137.out).2.2); (case side2 => exact (Kd.R_reads' HO137.out).2.1); rintro e w23 ⟨rfl, hb⟩; replace HO137 := Kd.rb1 HO137 hb; replace BK134 := bk1 BK134 hb; replace HB := hb1 HB hb; (try clear hb)))
   go_meet
   case rel => exact ⟨_, (true), (by rfl), H', ⟨by omega⟩, ⟨by exact BK134.out⟩, ⟨by repeat (with_reducible exact HB.out)⟩⟩
 case rest =>
  clear HC3
  obtain ⟨kq, x18_2, rfl, HA, HJ2, BK134, HB⟩ := hcut
  cases kq with
  | zero => exact absurd HA.out (by simp [bits_Bit.j0])
  | succ kj2 =>
   have H := HA.out
   clear HA
   simp only [bits_Bit.j0] at H
   replace H := iB H; rcases H with ⟨rfl, H⟩ | ⟨rfl, H⟩
   ·obtain rfl := Option.some.inj H
    go_wp2
    go_ret
    exact ⟨by rfl, by repeat (with_reducible exact HB.out)⟩
   ·by_cases c25 : 0 ≤ a1
    ·rw [if_pos c25] at H
     have c25b0 := eq_true c25
     have c25b1 : decide (0 ≤ a1) = true := decide_eq_true c25
     clear c25
     obtain ⟨ji26, hji26⟩ : ∃ j_ : Int, (shr .u64 a0_1 a1) = j_ := ⟨_, rfl⟩
     replace H : (if 0 ≤ (Go.bits .or .u64 (Go.bits .and .u64 (ji26) 1) (IntKind.u64.wrap ((Go.bits .and .u64 (shr .u64 a0_2 a1) 1) * 2))) then (if (Go.bits .or .u64 (Go.bits .and .u64 (ji26) 1) (IntKind.u64.wrap ((Go.bits .and .u64 (shr .u64 a0_2 a1) 1) * 2))) < 4 then (some (bt (⟨#[48, 49, 122, 120]⟩ : ByteArray) (Go.bits .or .u64 (Go.bits .and .u64 (ji26) 1) (IntKind.u64.wrap ((Go.bits .and .u64 (shr .u64 a0_2 a1) 1) * 2))))) else (none)) else (none)) = some r := by (rw [hji26] at H; exact H)
     have hji26_ : (a0_1 / 2 ^ min a1.toNat 64) = ji26 := hji26
     have hji26z : a1 ≤ 64 → (a0_1 / 2 ^ a1.toNat) = ji26 := shr_small hji26
     have c27b0 := eq_true (of_decide_eq_true (by (with_reducible assumption)) : 0 ≤ a1)
     obtain ⟨ji28, hji28⟩ : ∃ j_ : Int, (shr .u64 a0_2 a1) = j_ := ⟨_, rfl⟩
     replace H : (if 0 ≤ (Go.bits .or .u64 (Go.bits .and .u64 (ji26) 1) (IntKind.u64.wrap ((Go.bits .and .u64 (ji28) 1) * 2))) then (if (Go.bits .or .u64 (Go.bits .and .u64 (ji26) 1) (IntKind.u64.wrap ((Go.bits .and .u64 (ji28) 1) * 2))) < 4 then (some (bt (⟨#[48, 49, 122, 120]⟩ : ByteArray) (Go.bits .or .u64 (Go.bits .and .u64 (ji26) 1) (IntKind.u64.wrap ((Go.bits .and .u64 (ji28) 1) * 2))))) else (none)) else (none)) = some r := by (rw [hji28] at H; exact H)
     have hji28_ : (a0_2 / 2 ^ min a1.toNat 64) = ji28 := hji28
     have hji28z : a1 ≤ 64 → (a0_2 / 2 ^ a1.toNat) = ji28 := shr_small hji28
     obtain ⟨ji29, hji29⟩ : ∃ j_ : Int, (Go.bits .or .u64 (Go.bits .and .u64 (ji26) 1) (IntKind.u64.wrap ((Go.bits .and .u64 (ji28) 1) * 2))) = j_ := ⟨_, rfl⟩
     replace H : (if 0 ≤ (ji29) then (if (ji29) < 4 then (some (bt (⟨#[48, 49, 122, 120]⟩ : ByteArray) (ji29))) else (none)) else (none)) = some r := by (rw [hji29] at H; exact H)
     replace H := iN H; obtain ⟨c30b0, H⟩ := H
     replace H := iN H; obtain ⟨c31b0, H⟩ := H
     obtain rfl := Option.some.inj H
     obtain ⟨hcz33_0, hcz33_1, hcz33_2, hfz33_0, hfz33_1, hfz33_2⟩ := cf3 BK134
     have p32 : 0 ≤ ((ji29) : Int) := of_decide_eq_true (by (with_reducible assumption))
     have q32 : (ji29) < (4 : Int) := of_decide_eq_true (by (with_reducible assumption))
     have hx32 := bt_at (⟨#[48, 49, 122, 120]⟩ : ByteArray) (ji29)
     replace p32 := eq_true p32
     replace q32 := eq_true q32
     go_wp2
     repeat (go_quiet (fail); try go_wp2)
     go_ret
     exact ⟨by rfl, by repeat (with_reducible first | exact HB.out | apply pw_below_drewN)⟩
    ·rw [if_neg c25] at H
     exact absurd H (by simp)
end Go.Proofs.Ytlamgdibnnmbmaa.PLex
end
section
namespace Go.Proofs.Ytlamgdibnnmbmaa.PLex
open Go.RowKit Go.Proofs.YtlamgdibnnmbmaaW.PrintWords Go.Proofs.YtlamgdibnnmbmaaW.PrintLast Go.Proofs.YtlamgdibnnmbmaaW.PrintMore
attribute [local go_sem] max2_int min2_int max_two min_two max_three min_three max_four min_four
set_option linter.unusedVariables false
set_option linter.unusedSimpArgs false
def bits_Put.j0 : Nat → Int → Bool → Int → Int → Int → Int → Int → Int → Option (Int × Int × Int)
 | 0, _, _, _, _, _, _, _, _ => none
 | k + 1, x1, x27, x140000, x140001, x140002, x141000, x141001, x141002 => if x27 = true then ((bits_valid.f k (([(⟨x140000, x140001, x140002⟩ : S24), (⟨x141000, x141001, x141002⟩ : S24)] : List (S24)))).bind fun t149 => (if t149 = true then (some (x140000, x140001, x140002)) else (some (0, 0, 0)))) else ((bits_mask.f x141000).bind fun t150 => (if x1 < 0 then (if 0 ≤ (wrap64 (-x1)) then ((bits_mask.f x140000).bind fun t151 => (some (x140000, Go.bits .or .u64 (Go.bits .andNot .u64 x140001 (Go.bits .and .u64 (shr .u64 t150 (wrap64 (-x1))) t151)) (Go.bits .and .u64 (shr .u64 x141001 (wrap64 (-x1))) (Go.bits .and .u64 (shr .u64 t150 (wrap64 (-x1))) t151)), Go.bits .or .u64 (Go.bits .andNot .u64 x140002 (Go.bits .and .u64 (shr .u64 t150 (wrap64 (-x1))) t151)) (Go.bits .and .u64 (shr .u64 x141002 (wrap64 (-x1))) (Go.bits .and .u64 (shr .u64 t150 (wrap64 (-x1))) t151))))) else (none)) else (if 0 ≤ x1 then ((bits_mask.f x140000).bind fun t152 => (some (x140000, Go.bits .or .u64 (Go.bits .andNot .u64 x140001 (Go.bits .and .u64 (shl .u64 t150 x1) t152)) (Go.bits .and .u64 (shl .u64 x141001 x1) (Go.bits .and .u64 (shl .u64 t150 x1) t152)), Go.bits .or .u64 (Go.bits .andNot .u64 x140002 (Go.bits .and .u64 (shl .u64 t150 x1) t152)) (Go.bits .and .u64 (shl .u64 x141002 x1) (Go.bits .and .u64 (shl .u64 t150 x1) t152))))) else (none))))
def bits_Put.f (k : Nat) (a0_0 : Int) (a0_1 : Int) (a0_2 : Int) (a1 : Int) (a2_0 : Int) (a2_1 : Int) (a2_2 : Int) : Option (Int × Int × Int) := (bits_valid.f k (([(⟨a0_0, a0_1, a0_2⟩ : S24), (⟨a2_0, a2_1, a2_2⟩ : S24)] : List (S24)))).bind fun t145 => (if t145 = true then (if a1 ≤ (wrap64 (-a2_0)) then (bits_Put.j0 k a1 true a0_0 a0_1 a0_2 a2_0 a2_1 a2_2) else (bits_Put.j0 k a1 (decide (a1 ≥ a0_0)) a0_0 a0_1 a0_2 a2_0 a2_1 a2_2)) else (bits_Put.j0 k a1 true a0_0 a0_1 a0_2 a2_0 a2_1 a2_2))
theorem bits_Put.mono_l : ∀ k, (∀ y0 y1 y2 y3 y4 y5 y6 y7, LeO (bits_Put.j0 k y0 y1 y2 y3 y4 y5 y6 y7) (bits_Put.j0 (k + 1) y0 y1 y2 y3 y4 y5 y6 y7))
 | 0 => fun _ _ _ _ _ _ _ _ r h => by simp [bits_Put.j0] at h
 | k + 1 => by
  have ih0 := bits_Put.mono_l k
  ·intro y0 y1 y2 y3 y4 y5 y6 y7
   unfold bits_Put.j0
   repeat' first | with_reducible exact ih0 _ _ _ _ _ _ _ _ | with_reducible exact bits_valid.mono _ _ | with_reducible exact LeO.refl _ | with_reducible exact LeO.none _ | with_reducible refine LeO.ite ?_ ?_ | with_reducible refine LeO.bind ?_ (fun _ => ?_)
theorem bits_Put.mono : ∀ a0 a1 a2 a3 a4 a5 a6 k, LeO (bits_Put.f k a0 a1 a2 a3 a4 a5 a6) (bits_Put.f (k + 1) a0 a1 a2 a3 a4 a5 a6) := by
 intro a0 a1 a2 a3 a4 a5 a6 k
 have ih0 := bits_Put.mono_l k
 unfold bits_Put.f
 repeat' first | with_reducible exact ih0 _ _ _ _ _ _ _ _ | with_reducible exact bits_valid.mono _ _ | with_reducible exact LeO.refl _ | with_reducible exact LeO.none _ | with_reducible refine LeO.ite ?_ ?_ | with_reducible refine LeO.bind ?_ (fun _ => ?_)
set_option maxHeartbeats 8000000 in
set_option maxRecDepth 100000 in
theorem bits_Put.calls (k : Nat) (a0_0 : Int) (a0_1 : Int) (a0_2 : Int) (a1 : Int) (a2_0 : Int) (a2_1 : Int) (a2_2 : Int) (r1 : Int) (r2 : Int) (r3 : Int) (w : World) (h : bits_Put.f k a0_0 a0_1 a0_2 a1 a2_0 a2_1 a2_2 = some (r1, r2, r3)) :
  Calls Try.prog 98 #[.agg #[.int .i64 a0_0, .int .u64 a0_1, .int .u64 a0_2], .int .i64 a1, .agg #[.int .i64 a2_0, .int .u64 a2_1, .int .u64 a2_2]] w fun e w' => e = .returned (.agg #[.int .i64 r1, .int .u64 r2, .int .u64 r3]) ∧ Below w.heap.size w w' := by
 have hu24 := Try.underlying24
 have HB := Aside0.mk (Below.refl w.heap.size w)
 have H := h
 clear h
 unfold bits_Put.f at H
 have HC4 := Aside0.mk H
 clear H
 go_enter Try.func98, Try.ntmps98
 go_upto_region 1 with (first | (refine boxA HB 3 #[.int .i64 a0_0, .int .u64 a0_1, .int .u64 a0_2] 24 ?_; clear HB; intro gb139 w5 BK139 GE139 hg hb HB; clear hb hg) | (refine boxA HB 5 #[.int .i64 a2_0, .int .u64 a2_1, .int .u64 a2_2] 24 ?_; clear HB; intro gb140 w6 BK140 GE140 hg hb HB; have NB139_140 := nbA BK139 hg; have NB140_139 := nbB BK139 hg; replace BK139 := bk1 BK139 hb; clear hb hg) | (refine boxA HB 6 #[.int .i64 0, .int .u64 0, .int .u64 0] 24 ?_; clear HB; intro gb141 w7 BK141 GE141 hg hb HB; have NB139_141 := nbA BK139 hg; have NB141_139 := nbB BK139 hg; replace BK139 := bk1 BK139 hb; have NB140_141 := nbA BK140 hg; have NB141_140 := nbB BK140 hg; replace BK140 := bk1 BK140 hb; clear hb hg))
 (try simp only [Act.put, List.setIfInBounds_toArray, List.set_cons_zero, List.set_cons_succ])
 go_cut [27] (fun v27 wc => ∃ (kq : Nat) (x27_3 : Bool), v27 = .bool x27_3 ∧ Aside0 (bits_Put.j0 kq a1 x27_3 a0_0 a0_1 a0_2 a2_0 a2_1 a2_2 = some (r1, r2, r3)) ∧ Aside0 (kq ≤ k) ∧ Aside0 (wc.heap[gb139]? = some (.cells #[.int .i64 a0_0, .int .u64 a0_1, .int .u64 a0_2] 24 (0, 0))) ∧ Aside0 (wc.heap[gb140]? = some (.cells #[.int .i64 a2_0, .int .u64 a2_1, .int .u64 a2_2] 24 (0, 0))) ∧ Aside0 (wc.heap[gb141]? = some (.cells #[.int .i64 0, .int .u64 0, .int .u64 0] 24 (0, 0))) ∧ Aside0 (Below w.heap.size w wc))
 case first =>
  have H := HC4.out
  clear HC4
  obtain ⟨y142, hy142⟩ : ∃ y_ : List (S24), y_ = ([(⟨a0_0, a0_1, a0_2⟩ : S24), (⟨a2_0, a2_1, a2_2⟩ : S24)] : List (S24)) := ⟨_, rfl⟩
  replace H : ((bits_valid.f k y142).bind fun t145 => (if t145 = true then (if a1 ≤ (wrap64 (-a2_0)) then (bits_Put.j0 k a1 true a0_0 a0_1 a0_2 a2_0 a2_1 a2_2) else (bits_Put.j0 k a1 (decide (a1 ≥ a0_0)) a0_0 a0_1 a0_2 a2_0 a2_1 a2_2)) else (bits_Put.j0 k a1 true a0_0 a0_1 a0_2 a2_0 a2_1 a2_2))) = some (r1, r2, r3) := by (rw [hy142]; with_reducible exact H)
  have Ny142 := Aside0.mk hy142
  clear hy142
  replace H := bN H; obtain ⟨t145, A8, H⟩ := H
  replace H := iB H; rcases H with ⟨rfl, H⟩ | ⟨rfl, H⟩
  ·replace H := iD H; rcases H with ⟨c10b0, H⟩ | ⟨c10b0, H⟩
   ·(skip)
    have H' := Aside0.mk H
    clear H
    have hnb11 := NB139_140.out
    have hnc11 := NB140_139.out
    have hnb12 := NB139_141.out
    have hnc12 := NB141_139.out
    obtain ⟨hcz13_0, hcz13_1, hcz13_2, hfz13_0, hfz13_1, hfz13_2⟩ := cf3 BK139
    have hnb14 := NB140_141.out
    have hnc14 := NB141_140.out
    obtain ⟨hcz15_0, hcz15_1, hcz15_2, hfz15_0, hfz15_1, hfz15_2⟩ := cf3 BK140
    go_wp2_with (first | ((with_reducible refine gate_dst (N := 12) rfl ?_); refine Kd.R_lit k24 _ 24 ?hg (N := 12) ?hd (xs := ([(⟨a0_0, a0_1, a0_2⟩ : S24), (⟨a2_0, a2_1, a2_2⟩ : S24)] : List (S24))) (inner := [.int .i64 a0_0, .int .u64 a0_1, .int .u64 a0_2, .int .i64 a2_0, .int .u64 a2_1, .int .u64 a2_2]) (ok := fun _ => True) (okp := fun _ => True) ?hr ?hp (fun _ hk => hk) trivial (Below.refl _ _) (Nat.le_refl _) (by simp) ?_; (case hd => rfl); (case hg => rfl); (case hr => (go_simp; done)); (case hp => exact (Reps.c3 (show Kd.M k24 _ _ _ (⟨a0_0, a0_1, a0_2⟩ : S24) [.int .i64 a0_0, .int .u64 a0_1, .int .u64 a0_2] from (k24_mkM _ _ _ (⟨a0_0, a0_1, a0_2⟩ : S24) )) (Reps.c3 (show Kd.M k24 _ _ _ (⟨a2_0, a2_1, a2_2⟩ : S24) [.int .i64 a2_0, .int .u64 a2_1, .int .u64 a2_2] from (k24_mkM _ _ _ (⟨a2_0, a2_1, a2_2⟩ : S24) )) (Reps.none _ _)))); intro v143 w16 ho17 hb hg_ hnew_; clear hg_ hnew_; (rw [← Ny142.out] at ho17); have HO144 := Aside0.mk (Kd.R_lower (Kd.R_newB (Kd.R_newB (Kd.R_newB ho17 BK139.out) BK140.out) BK141.out) (below_size HB.out)); replace BK139 := bk1 BK139 hb; replace BK140 := bk1 BK140 hb; replace BK141 := bk1 BK141 hb; replace HB := hb1 HB hb; clear hb ho17; obtain ⟨Ao18, co18, eo18⟩ := Kd.R_slice HO144.out; subst eo18) | (go_at_call 103; (with_reducible refine (bits_valid.calls k _ _ y142 true _ ?side1 ?side2 A8.out).mono ?_); (case side1 => exact (Kd.R_reads' HO144.out).2.2); (case side2 => exact (Kd.R_reads' HO144.out).2.1); rintro e w19 ⟨rfl, hb⟩; replace HO144 := Kd.rb1 HO144 hb; replace BK139 := bk1 BK139 hb; replace BK140 := bk1 BK140 hb; replace BK141 := bk1 BK141 hb; replace HB := hb1 HB hb; (try clear hb); obtain ⟨hcz20_0, hcz20_1, hcz20_2, hfz20_0, hfz20_1, hfz20_2⟩ := cf3 BK140))
    go_meet
    case rel => exact ⟨_, (true), (by rfl), H', ⟨by omega⟩, ⟨by exact BK139.out⟩, ⟨by exact BK140.out⟩, ⟨by exact BK141.out⟩, ⟨by repeat (with_reducible exact HB.out)⟩⟩
   ·(skip)
    have H' := Aside0.mk H
    clear H
    have hnb21 := NB139_140.out
    have hnc21 := NB140_139.out
    have hnb22 := NB139_141.out
    have hnc22 := NB141_139.out
    obtain ⟨hcz23_0, hcz23_1, hcz23_2, hfz23_0, hfz23_1, hfz23_2⟩ := cf3 BK139
    have hnb24 := NB140_141.out
    have hnc24 := NB141_140.out
    obtain ⟨hcz25_0, hcz25_1, hcz25_2, hfz25_0, hfz25_1, hfz25_2⟩ := cf3 BK140
    go_wp2_with (first | ((with_reducible refine gate_dst (N := 12) rfl ?_); refine Kd.R_lit k24 _ 24 ?hg (N := 12) ?hd (xs := ([(⟨a0_0, a0_1, a0_2⟩ : S24), (⟨a2_0, a2_1, a2_2⟩ : S24)] : List (S24))) (inner := [.int .i64 a0_0, .int .u64 a0_1, .int .u64 a0_2, .int .i64 a2_0, .int .u64 a2_1, .int .u64 a2_2]) (ok := fun _ => True) (okp := fun _ => True) ?hr ?hp (fun _ hk => hk) trivial (Below.refl _ _) (Nat.le_refl _) (by simp) ?_; (case hd => rfl); (case hg => rfl); (case hr => (go_simp; done)); (case hp => exact (Reps.c3 (show Kd.M k24 _ _ _ (⟨a0_0, a0_1, a0_2⟩ : S24) [.int .i64 a0_0, .int .u64 a0_1, .int .u64 a0_2] from (k24_mkM _ _ _ (⟨a0_0, a0_1, a0_2⟩ : S24) )) (Reps.c3 (show Kd.M k24 _ _ _ (⟨a2_0, a2_1, a2_2⟩ : S24) [.int .i64 a2_0, .int .u64 a2_1, .int .u64 a2_2] from (k24_mkM _ _ _ (⟨a2_0, a2_1, a2_2⟩ : S24) )) (Reps.none _ _)))); intro v143 w26 ho27 hb hg_ hnew_; clear hg_ hnew_; (rw [← Ny142.out] at ho27); have HO144 := Aside0.mk (Kd.R_lower (Kd.R_newB (Kd.R_newB (Kd.R_newB ho27 BK139.out) BK140.out) BK141.out) (below_size HB.out)); replace BK139 := bk1 BK139 hb; replace BK140 := bk1 BK140 hb; replace BK141 := bk1 BK141 hb; replace HB := hb1 HB hb; clear hb ho27; obtain ⟨Ao28, co28, eo28⟩ := Kd.R_slice HO144.out; subst eo28) | (go_at_call 103; (with_reducible refine (bits_valid.calls k _ _ y142 true _ ?side1 ?side2 A8.out).mono ?_); (case side1 => exact (Kd.R_reads' HO144.out).2.2); (case side2 => exact (Kd.R_reads' HO144.out).2.1); rintro e w29 ⟨rfl, hb⟩; replace HO144 := Kd.rb1 HO144 hb; replace BK139 := bk1 BK139 hb; replace BK140 := bk1 BK140 hb; replace BK141 := bk1 BK141 hb; replace HB := hb1 HB hb; (try clear hb); obtain ⟨hcz30_0, hcz30_1, hcz30_2, hfz30_0, hfz30_1, hfz30_2⟩ := cf3 BK140; obtain ⟨hcz31_0, hcz31_1, hcz31_2, hfz31_0, hfz31_1, hfz31_2⟩ := cf3 BK139))
    go_meet
    case rel => exact ⟨_, (decide (a1 ≥ a0_0)), (by rfl), H', ⟨by omega⟩, ⟨by exact BK139.out⟩, ⟨by exact BK140.out⟩, ⟨by exact BK141.out⟩, ⟨by repeat (with_reducible exact HB.out)⟩⟩
  ·have H' := Aside0.mk H
   clear H
   have hnb32 := NB139_140.out
   have hnc32 := NB140_139.out
   have hnb33 := NB139_141.out
   have hnc33 := NB141_139.out
   obtain ⟨hcz34_0, hcz34_1, hcz34_2, hfz34_0, hfz34_1, hfz34_2⟩ := cf3 BK139
   have hnb35 := NB140_141.out
   have hnc35 := NB141_140.out
   obtain ⟨hcz36_0, hcz36_1, hcz36_2, hfz36_0, hfz36_1, hfz36_2⟩ := cf3 BK140
   go_wp2_with (first | ((with_reducible refine gate_dst (N := 12) rfl ?_); refine Kd.R_lit k24 _ 24 ?hg (N := 12) ?hd (xs := ([(⟨a0_0, a0_1, a0_2⟩ : S24), (⟨a2_0, a2_1, a2_2⟩ : S24)] : List (S24))) (inner := [.int .i64 a0_0, .int .u64 a0_1, .int .u64 a0_2, .int .i64 a2_0, .int .u64 a2_1, .int .u64 a2_2]) (ok := fun _ => True) (okp := fun _ => True) ?hr ?hp (fun _ hk => hk) trivial (Below.refl _ _) (Nat.le_refl _) (by simp) ?_; (case hd => rfl); (case hg => rfl); (case hr => (go_simp; done)); (case hp => exact (Reps.c3 (show Kd.M k24 _ _ _ (⟨a0_0, a0_1, a0_2⟩ : S24) [.int .i64 a0_0, .int .u64 a0_1, .int .u64 a0_2] from (k24_mkM _ _ _ (⟨a0_0, a0_1, a0_2⟩ : S24) )) (Reps.c3 (show Kd.M k24 _ _ _ (⟨a2_0, a2_1, a2_2⟩ : S24) [.int .i64 a2_0, .int .u64 a2_1, .int .u64 a2_2] from (k24_mkM _ _ _ (⟨a2_0, a2_1, a2_2⟩ : S24) )) (Reps.none _ _)))); intro v143 w37 ho38 hb hg_ hnew_; clear hg_ hnew_; (rw [← Ny142.out] at ho38); have HO144 := Aside0.mk (Kd.R_lower (Kd.R_newB (Kd.R_newB (Kd.R_newB ho38 BK139.out) BK140.out) BK141.out) (below_size HB.out)); replace BK139 := bk1 BK139 hb; replace BK140 := bk1 BK140 hb; replace BK141 := bk1 BK141 hb; replace HB := hb1 HB hb; clear hb ho38; obtain ⟨Ao39, co39, eo39⟩ := Kd.R_slice HO144.out; subst eo39) | (go_at_call 103; (with_reducible refine (bits_valid.calls k _ _ y142 false _ ?side1 ?side2 A8.out).mono ?_); (case side1 => exact (Kd.R_reads' HO144.out).2.2); (case side2 => exact (Kd.R_reads' HO144.out).2.1); rintro e w40 ⟨rfl, hb⟩; replace HO144 := Kd.rb1 HO144 hb; replace BK139 := bk1 BK139 hb; replace BK140 := bk1 BK140 hb; replace BK141 := bk1 BK141 hb; replace HB := hb1 HB hb; (try clear hb)))
   go_meet
   case rel => exact ⟨_, (true), (by rfl), H', ⟨by omega⟩, ⟨by exact BK139.out⟩, ⟨by exact BK140.out⟩, ⟨by exact BK141.out⟩, ⟨by repeat (with_reducible exact HB.out)⟩⟩
 case rest =>
  clear HC4
  obtain ⟨kq, x27_3, rfl, HA, HJ3, BK139, BK140, BK141, HB⟩ := hcut
  cases kq with
  | zero => exact absurd HA.out (by simp [bits_Put.j0])
  | succ kj3 =>
   have H := HA.out
   clear HA
   simp only [bits_Put.j0] at H
   replace H := iB H; rcases H with ⟨rfl, H⟩ | ⟨rfl, H⟩
   ·obtain ⟨y146, hy146⟩ : ∃ y_ : List (S24), y_ = ([(⟨a0_0, a0_1, a0_2⟩ : S24), (⟨a2_0, a2_1, a2_2⟩ : S24)] : List (S24)) := ⟨_, rfl⟩
    replace H : ((bits_valid.f kj3 y146).bind fun t149 => (if t149 = true then (some (a0_0, a0_1, a0_2)) else (some (0, 0, 0)))) = some (r1, r2, r3) := by (rw [hy146]; with_reducible exact H)
    have Ny146 := Aside0.mk hy146
    clear hy146
    replace H := bN H; obtain ⟨t149, A42, H⟩ := H
    replace H := iB H; rcases H with ⟨rfl, H⟩ | ⟨rfl, H⟩
    ·replace H := s3 H; obtain ⟨rfl, rfl, rfl⟩ := H
     have hnb44 := NB139_140.out
     have hnc44 := NB140_139.out
     have hnb45 := NB139_141.out
     have hnc45 := NB141_139.out
     obtain ⟨hcz46_0, hcz46_1, hcz46_2, hfz46_0, hfz46_1, hfz46_2⟩ := cf3 BK139
     have hnb47 := NB140_141.out
     have hnc47 := NB141_140.out
     obtain ⟨hcz48_0, hcz48_1, hcz48_2, hfz48_0, hfz48_1, hfz48_2⟩ := cf3 BK140
     go_wp2_with (first | ((with_reducible refine gate_dst (N := 30) rfl ?_); refine Kd.R_lit k24 _ 24 ?hg (N := 30) ?hd (xs := ([(⟨a0_0, a0_1, a0_2⟩ : S24), (⟨a2_0, a2_1, a2_2⟩ : S24)] : List (S24))) (inner := [.int .i64 a0_0, .int .u64 a0_1, .int .u64 a0_2, .int .i64 a2_0, .int .u64 a2_1, .int .u64 a2_2]) (ok := fun _ => True) (okp := fun _ => True) ?hr ?hp (fun _ hk => hk) trivial (Below.refl _ _) (Nat.le_refl _) (by simp) ?_; (case hd => rfl); (case hg => rfl); (case hr => (go_simp; done)); (case hp => exact (Reps.c3 (show Kd.M k24 _ _ _ (⟨a0_0, a0_1, a0_2⟩ : S24) [.int .i64 a0_0, .int .u64 a0_1, .int .u64 a0_2] from (k24_mkM _ _ _ (⟨a0_0, a0_1, a0_2⟩ : S24) )) (Reps.c3 (show Kd.M k24 _ _ _ (⟨a2_0, a2_1, a2_2⟩ : S24) [.int .i64 a2_0, .int .u64 a2_1, .int .u64 a2_2] from (k24_mkM _ _ _ (⟨a2_0, a2_1, a2_2⟩ : S24) )) (Reps.none _ _)))); intro v147 w49 ho50 hb hg_ hnew_; clear hg_ hnew_; (rw [← Ny146.out] at ho50); have HO148 := Aside0.mk (Kd.R_lower (Kd.R_newB (Kd.R_newB (Kd.R_newB ho50 BK139.out) BK140.out) BK141.out) (below_size HB.out)); replace BK139 := bk1 BK139 hb; replace BK140 := bk1 BK140 hb; replace BK141 := bk1 BK141 hb; replace HB := hb1 HB hb; clear hb ho50; obtain ⟨Ao51, co51, eo51⟩ := Kd.R_slice HO148.out; subst eo51) | (go_at_call 103; (with_reducible refine (bits_valid.calls kj3 _ _ y146 true _ ?side1 ?side2 A42.out).mono ?_); (case side1 => exact (Kd.R_reads' HO148.out).2.2); (case side2 => exact (Kd.R_reads' HO148.out).2.1); rintro e w52 ⟨rfl, hb⟩; replace HO148 := Kd.rb1 HO148 hb; replace BK139 := bk1 BK139 hb; replace BK140 := bk1 BK140 hb; replace BK141 := bk1 BK141 hb; replace HB := hb1 HB hb; (try clear hb); obtain ⟨hcz53_0, hcz53_1, hcz53_2, hfz53_0, hfz53_1, hfz53_2⟩ := cf3 BK139; obtain ⟨hcz54_0, hcz54_1, hcz54_2, hfz54_0, hfz54_1, hfz54_2⟩ := cf3 BK141))
     refine retA gb141 24 #[.int .i64 a0_0, .int .u64 a0_1, .int .u64 a0_2] (put3 BK141) Try.underlying24 ?_
     exact ⟨by rfl, by repeat (with_reducible first | exact HB.out | refine below_set ?_ GE141.out)⟩
    ·replace H := s3 H; obtain ⟨rfl, rfl, rfl⟩ := H
     have hnb55 := NB139_140.out
     have hnc55 := NB140_139.out
     have hnb56 := NB139_141.out
     have hnc56 := NB141_139.out
     obtain ⟨hcz57_0, hcz57_1, hcz57_2, hfz57_0, hfz57_1, hfz57_2⟩ := cf3 BK139
     have hnb58 := NB140_141.out
     have hnc58 := NB141_140.out
     obtain ⟨hcz59_0, hcz59_1, hcz59_2, hfz59_0, hfz59_1, hfz59_2⟩ := cf3 BK140
     go_wp2_with (first | ((with_reducible refine gate_dst (N := 30) rfl ?_); refine Kd.R_lit k24 _ 24 ?hg (N := 30) ?hd (xs := ([(⟨a0_0, a0_1, a0_2⟩ : S24), (⟨a2_0, a2_1, a2_2⟩ : S24)] : List (S24))) (inner := [.int .i64 a0_0, .int .u64 a0_1, .int .u64 a0_2, .int .i64 a2_0, .int .u64 a2_1, .int .u64 a2_2]) (ok := fun _ => True) (okp := fun _ => True) ?hr ?hp (fun _ hk => hk) trivial (Below.refl _ _) (Nat.le_refl _) (by simp) ?_; (case hd => rfl); (case hg => rfl); (case hr => (go_simp; done)); (case hp => exact (Reps.c3 (show Kd.M k24 _ _ _ (⟨a0_0, a0_1, a0_2⟩ : S24) [.int .i64 a0_0, .int .u64 a0_1, .int .u64 a0_2] from (k24_mkM _ _ _ (⟨a0_0, a0_1, a0_2⟩ : S24) )) (Reps.c3 (show Kd.M k24 _ _ _ (⟨a2_0, a2_1, a2_2⟩ : S24) [.int .i64 a2_0, .int .u64 a2_1, .int .u64 a2_2] from (k24_mkM _ _ _ (⟨a2_0, a2_1, a2_2⟩ : S24) )) (Reps.none _ _)))); intro v147 w60 ho61 hb hg_ hnew_; clear hg_ hnew_; (rw [← Ny146.out] at ho61); have HO148 := Aside0.mk (Kd.R_lower (Kd.R_newB (Kd.R_newB (Kd.R_newB ho61 BK139.out) BK140.out) BK141.out) (below_size HB.out)); replace BK139 := bk1 BK139 hb; replace BK140 := bk1 BK140 hb; replace BK141 := bk1 BK141 hb; replace HB := hb1 HB hb; clear hb ho61; obtain ⟨Ao62, co62, eo62⟩ := Kd.R_slice HO148.out; subst eo62) | (go_at_call 103; (with_reducible refine (bits_valid.calls kj3 _ _ y146 false _ ?side1 ?side2 A42.out).mono ?_); (case side1 => exact (Kd.R_reads' HO148.out).2.2); (case side2 => exact (Kd.R_reads' HO148.out).2.1); rintro e w63 ⟨rfl, hb⟩; replace HO148 := Kd.rb1 HO148 hb; replace BK139 := bk1 BK139 hb; replace BK140 := bk1 BK140 hb; replace BK141 := bk1 BK141 hb; replace HB := hb1 HB hb; (try clear hb); obtain ⟨hcz64_0, hcz64_1, hcz64_2, hfz64_0, hfz64_1, hfz64_2⟩ := cf3 BK141))
     refine retA gb141 24 #[.int .i64 0, .int .u64 0, .int .u64 0] (put3 BK141) Try.underlying24 ?_
     exact ⟨by rfl, by repeat (with_reducible first | exact HB.out | refine below_set ?_ GE141.out)⟩
   ·replace H := bN H; obtain ⟨t150, A65, H⟩ := H
    replace H := iD H; rcases H with ⟨c66b0, H⟩ | ⟨c66b0, H⟩
    ·obtain ⟨ji67, hji67⟩ : ∃ j_ : Int, (wrap64 (-a1)) = j_ := ⟨_, rfl⟩
     replace H : (if 0 ≤ (ji67) then ((bits_mask.f a0_0).bind fun t151 => (some (a0_0, Go.bits .or .u64 (Go.bits .andNot .u64 a0_1 (Go.bits .and .u64 (shr .u64 t150 (ji67)) t151)) (Go.bits .and .u64 (shr .u64 a2_1 (ji67)) (Go.bits .and .u64 (shr .u64 t150 (ji67)) t151)), Go.bits .or .u64 (Go.bits .andNot .u64 a0_2 (Go.bits .and .u64 (shr .u64 t150 (ji67)) t151)) (Go.bits .and .u64 (shr .u64 a2_2 (ji67)) (Go.bits .and .u64 (shr .u64 t150 (ji67)) t151))))) else (none)) = some (r1, r2, r3) := by (rw [hji67] at H; exact H)
     have hji67w : (IntKind.i64.wrap (-a1)) = ji67 := (i64_w _).trans hji67
     by_cases c68 : 0 ≤ (ji67)
     ·rw [if_pos c68] at H
      have c68b0 := eq_true c68
      have c68b1 : decide (0 ≤ (ji67)) = true := decide_eq_true c68
      clear c68
      obtain ⟨ji69, hji69⟩ : ∃ j_ : Int, (shr .u64 t150 (ji67)) = j_ := ⟨_, rfl⟩
      replace H : ((bits_mask.f a0_0).bind fun t151 => (some (a0_0, Go.bits .or .u64 (Go.bits .andNot .u64 a0_1 (Go.bits .and .u64 (ji69) t151)) (Go.bits .and .u64 (shr .u64 a2_1 (ji67)) (Go.bits .and .u64 (ji69) t151)), Go.bits .or .u64 (Go.bits .andNot .u64 a0_2 (Go.bits .and .u64 (ji69) t151)) (Go.bits .and .u64 (shr .u64 a2_2 (ji67)) (Go.bits .and .u64 (ji69) t151))))) = some (r1, r2, r3) := by (rw [hji69] at H; exact H)
      have hji69_ : (t150 / 2 ^ min (ji67).toNat 64) = ji69 := hji69
      have hji69z : (ji67) ≤ 64 → (t150 / 2 ^ (ji67).toNat) = ji69 := shr_small hji69
      have c70b0 := eq_true (of_decide_eq_true (by (with_reducible assumption)) : 0 ≤ (ji67))
      obtain ⟨ji71, hji71⟩ : ∃ j_ : Int, (shr .u64 a2_1 (ji67)) = j_ := ⟨_, rfl⟩
      replace H : ((bits_mask.f a0_0).bind fun t151 => (some (a0_0, Go.bits .or .u64 (Go.bits .andNot .u64 a0_1 (Go.bits .and .u64 (ji69) t151)) (Go.bits .and .u64 (ji71) (Go.bits .and .u64 (ji69) t151)), Go.bits .or .u64 (Go.bits .andNot .u64 a0_2 (Go.bits .and .u64 (ji69) t151)) (Go.bits .and .u64 (shr .u64 a2_2 (ji67)) (Go.bits .and .u64 (ji69) t151))))) = some (r1, r2, r3) := by (rw [hji71] at H; exact H)
      have hji71_ : (a2_1 / 2 ^ min (ji67).toNat 64) = ji71 := hji71
      have hji71z : (ji67) ≤ 64 → (a2_1 / 2 ^ (ji67).toNat) = ji71 := shr_small hji71
      have c72b0 := eq_true (of_decide_eq_true (by (with_reducible assumption)) : 0 ≤ (ji67))
      obtain ⟨ji73, hji73⟩ : ∃ j_ : Int, (shr .u64 a2_2 (ji67)) = j_ := ⟨_, rfl⟩
      replace H : ((bits_mask.f a0_0).bind fun t151 => (some (a0_0, Go.bits .or .u64 (Go.bits .andNot .u64 a0_1 (Go.bits .and .u64 (ji69) t151)) (Go.bits .and .u64 (ji71) (Go.bits .and .u64 (ji69) t151)), Go.bits .or .u64 (Go.bits .andNot .u64 a0_2 (Go.bits .and .u64 (ji69) t151)) (Go.bits .and .u64 (ji73) (Go.bits .and .u64 (ji69) t151))))) = some (r1, r2, r3) := by (rw [hji73] at H; exact H)
      have hji73_ : (a2_2 / 2 ^ min (ji67).toNat 64) = ji73 := hji73
      have hji73z : (ji67) ≤ 64 → (a2_2 / 2 ^ (ji67).toNat) = ji73 := shr_small hji73
      replace H := bN H; obtain ⟨t151, A74, H⟩ := H
      replace H := s3 H; obtain ⟨rfl, rfl, rfl⟩ := H
      have hnb75 := NB140_139.out
      have hnc75 := NB139_140.out
      have hnb76 := NB140_141.out
      have hnc76 := NB141_140.out
      obtain ⟨hcz77_0, hcz77_1, hcz77_2, hfz77_0, hfz77_1, hfz77_2⟩ := cf3 BK140
      go_wp2
      repeat (go_quiet ((go_at_call 90; (with_reducible refine (bits_mask.calls a2_0 t150 _ A65.out).mono ?_); rintro e w' ⟨rfl, ⟨nd, rfl⟩⟩; (try exact ⟨rfl, _, World.drewN_drewN _ _ _⟩); have hnb78 := NB139_141.out; have hnc78 := NB141_139.out; obtain ⟨hcz79_0, hcz79_1, hcz79_2, hfz79_0, hfz79_1, hfz79_2⟩ := cf3 BK139)); try go_wp2_with ((go_at_call 90; (with_reducible refine (bits_mask.calls a0_0 t151 _ A74.out).mono ?_); rintro e w' ⟨rfl, ⟨nd, rfl⟩⟩; obtain ⟨hcz80_0, hcz80_1, hcz80_2, hfz80_0, hfz80_1, hfz80_2⟩ := cf3 BK141)))
      refine retA gb141 24 #[.int .i64 a0_0, .int .u64 (Go.bits .or .u64 (Go.bits .andNot .u64 a0_1 (Go.bits .and .u64 (ji69) t151)) (Go.bits .and .u64 (ji71) (Go.bits .and .u64 (ji69) t151))), .int .u64 (Go.bits .or .u64 (Go.bits .andNot .u64 a0_2 (Go.bits .and .u64 (ji69) t151)) (Go.bits .and .u64 (ji73) (Go.bits .and .u64 (ji69) t151)))] (put3 BK141) Try.underlying24 ?_
      exact ⟨by rfl, by repeat (with_reducible first | exact HB.out | apply pw_below_drewN | refine below_set ?_ GE141.out)⟩
     ·rw [if_neg c68] at H
      exact absurd H (by simp)
    ·by_cases c81 : 0 ≤ a1
     ·rw [if_pos c81] at H
      have c81b0 := eq_true c81
      have c81b1 : decide (0 ≤ a1) = true := decide_eq_true c81
      clear c81
      obtain ⟨ji82, hji82⟩ : ∃ j_ : Int, (shl .u64 t150 a1) = j_ := ⟨_, rfl⟩
      replace H : ((bits_mask.f a0_0).bind fun t152 => (some (a0_0, Go.bits .or .u64 (Go.bits .andNot .u64 a0_1 (Go.bits .and .u64 (ji82) t152)) (Go.bits .and .u64 (shl .u64 a2_1 a1) (Go.bits .and .u64 (ji82) t152)), Go.bits .or .u64 (Go.bits .andNot .u64 a0_2 (Go.bits .and .u64 (ji82) t152)) (Go.bits .and .u64 (shl .u64 a2_2 a1) (Go.bits .and .u64 (ji82) t152))))) = some (r1, r2, r3) := by (rw [hji82] at H; exact H)
      have hji82_ : (IntKind.u64.wrap (t150 * 2 ^ min a1.toNat 64)) = ji82 := hji82
      have hji82z : a1 ≤ 64 → (IntKind.u64.wrap (t150 * 2 ^ a1.toNat)) = ji82 := shl_small hji82
      have c83b0 := eq_true (of_decide_eq_true (by (with_reducible assumption)) : 0 ≤ a1)
      obtain ⟨ji84, hji84⟩ : ∃ j_ : Int, (shl .u64 a2_1 a1) = j_ := ⟨_, rfl⟩
      replace H : ((bits_mask.f a0_0).bind fun t152 => (some (a0_0, Go.bits .or .u64 (Go.bits .andNot .u64 a0_1 (Go.bits .and .u64 (ji82) t152)) (Go.bits .and .u64 (ji84) (Go.bits .and .u64 (ji82) t152)), Go.bits .or .u64 (Go.bits .andNot .u64 a0_2 (Go.bits .and .u64 (ji82) t152)) (Go.bits .and .u64 (shl .u64 a2_2 a1) (Go.bits .and .u64 (ji82) t152))))) = some (r1, r2, r3) := by (rw [hji84] at H; exact H)
      have hji84_ : (IntKind.u64.wrap (a2_1 * 2 ^ min a1.toNat 64)) = ji84 := hji84
      have hji84z : a1 ≤ 64 → (IntKind.u64.wrap (a2_1 * 2 ^ a1.toNat)) = ji84 := shl_small hji84
      have c85b0 := eq_true (of_decide_eq_true (by (with_reducible assumption)) : 0 ≤ a1)
      obtain ⟨ji86, hji86⟩ : ∃ j_ : Int, (shl .u64 a2_2 a1) = j_ := ⟨_, rfl⟩
      replace H : ((bits_mask.f a0_0).bind fun t152 => (some (a0_0, Go.bits .or .u64 (Go.bits .andNot .u64 a0_1 (Go.bits .and .u64 (ji82) t152)) (Go.bits .and .u64 (ji84) (Go.bits .and .u64 (ji82) t152)), Go.bits .or .u64 (Go.bits .andNot .u64 a0_2 (Go.bits .and .u64 (ji82) t152)) (Go.bits .and .u64 (ji86) (Go.bits .and .u64 (ji82) t152))))) = some (r1, r2, r3) := by (rw [hji86] at H; exact H)
      have hji86_ : (IntKind.u64.wrap (a2_2 * 2 ^ min a1.toNat 64)) = ji86 := hji86
      have hji86z : a1 ≤ 64 → (IntKind.u64.wrap (a2_2 * 2 ^ a1.toNat)) = ji86 := shl_small hji86
      replace H := bN H; obtain ⟨t152, A87, H⟩ := H
      replace H := s3 H; obtain ⟨rfl, rfl, rfl⟩ := H
      have hnb88 := NB140_139.out
      have hnc88 := NB139_140.out
      have hnb89 := NB140_141.out
      have hnc89 := NB141_140.out
      obtain ⟨hcz90_0, hcz90_1, hcz90_2, hfz90_0, hfz90_1, hfz90_2⟩ := cf3 BK140
      go_wp2
      repeat (go_quiet ((go_at_call 90; (with_reducible refine (bits_mask.calls a2_0 t150 _ A65.out).mono ?_); rintro e w' ⟨rfl, ⟨nd, rfl⟩⟩; (try exact ⟨rfl, _, World.drewN_drewN _ _ _⟩); have hnb91 := NB139_141.out; have hnc91 := NB141_139.out; obtain ⟨hcz92_0, hcz92_1, hcz92_2, hfz92_0, hfz92_1, hfz92_2⟩ := cf3 BK139)); try go_wp2_with ((go_at_call 90; (with_reducible refine (bits_mask.calls a0_0 t152 _ A87.out).mono ?_); rintro e w' ⟨rfl, ⟨nd, rfl⟩⟩; obtain ⟨hcz93_0, hcz93_1, hcz93_2, hfz93_0, hfz93_1, hfz93_2⟩ := cf3 BK141)))
      refine retA gb141 24 #[.int .i64 a0_0, .int .u64 (Go.bits .or .u64 (Go.bits .andNot .u64 a0_1 (Go.bits .and .u64 (ji82) t152)) (Go.bits .and .u64 (ji84) (Go.bits .and .u64 (ji82) t152))), .int .u64 (Go.bits .or .u64 (Go.bits .andNot .u64 a0_2 (Go.bits .and .u64 (ji82) t152)) (Go.bits .and .u64 (ji86) (Go.bits .and .u64 (ji82) t152)))] (put3 BK141) Try.underlying24 ?_
      exact ⟨by rfl, by repeat (with_reducible first | exact HB.out | apply pw_below_drewN | refine below_set ?_ GE141.out)⟩
     ·rw [if_neg c81] at H
      exact absurd H (by simp)
end Go.Proofs.Ytlamgdibnnmbmaa.PLex
end
section
namespace Go.Proofs.Ytlamgdibnnmbmaa.PLex
open Go.RowKit Go.Proofs.YtlamgdibnnmbmaaW.PrintWords Go.Proofs.YtlamgdibnnmbmaaW.PrintLast Go.Proofs.YtlamgdibnnmbmaaW.PrintMore
attribute [local go_sem] max2_int min2_int max_two min_two max_three min_three max_four min_four
set_option linter.unusedVariables false
set_option linter.unusedSimpArgs false
mutual
def bits_grouped.l0 : Nat → ByteArray → Int → Int → Int → Int → Int → Int → Int → Int → Option (Int × Int × Int × Int)
 | 0, _, _, _, _, _, _, _, _, _ => none
 | k + 1, x0, x1, x2, x3, x23, x24, x155000, x155001, x155002 => if x24 < x23 then (if 0 ≤ x24 then (if x24 < (x0.size : Int) then (if (bt x0 x24) = 120 then (bits_grouped.j1 k x0 x1 x2 x3 x23 x24 false x155000 x155001 x155002) else (if (bt x0 x24) = 122 then (bits_grouped.j1 k x0 x1 x2 x3 x23 x24 false x155000 x155001 x155002) else ((bits_digit.f k (bt x0 x24)).bind fun t155 => (if t155 < 0 then (bits_grouped.j1 k x0 x1 x2 x3 x23 x24 true x155000 x155001 x155002) else ((bits_digit.f k (bt x0 x24)).bind fun t156 => (if 0 ≤ x2 then (bits_grouped.j1 k x0 x1 x2 x3 x23 x24 (decide (t156 ≥ (shl .i64 1 x2))) x155000 x155001 x155002) else (none))))))) else (none)) else (none)) else (if x3 = 0 then (bits_grouped.l1 k x0 x1 x2 0 (wrap64 ((x0.size : Int) - 1)) x155000 x155001 x155002) else (some (0, 0, 0, x3)))
def bits_grouped.j1 : Nat → ByteArray → Int → Int → Int → Int → Int → Bool → Int → Int → Int → Option (Int × Int × Int × Int)
 | 0, _, _, _, _, _, _, _, _, _, _ => none
 | k + 1, x0, x1, x2, x3, x23, x24, x47, x155000, x155001, x155002 => if x47 = true then (some (0, 0, 0, 10)) else (bits_grouped.l0 k x0 x1 x2 x3 x23 (wrap64 (x24 + 1)) x155000 x155001 x155002)
def bits_grouped.l1 : Nat → ByteArray → Int → Int → Int → Int → Int → Int → Int → Option (Int × Int × Int × Int)
 | 0, _, _, _, _, _, _, _, _ => none
 | k + 1, x0, x1, x2, x13, x14, x155000, x155001, x155002 => if x14 ≥ 0 then (if 0 ≤ x14 then (if x14 < (x0.size : Int) then (if (bt x0 x14) = 120 then (bits_grouped.j3 k x0 x1 x2 x13 x14 (bt x0 x14) true x155000 x155001 x155002) else (bits_grouped.j3 k x0 x1 x2 x13 x14 (bt x0 x14) ((bt x0 x14) == 122) x155000 x155001 x155002)) else (none)) else (none)) else (if 0 < (x0.size : Int) then (if (bt x0 0) = 120 then (bits_grouped.j8 k x1 x13 (bt x0 0) (decide (x13 < x1)) x155000 x155001 x155002) else (if (bt x0 0) = 122 then (bits_grouped.j8 k x1 x13 (bt x0 0) (decide (x13 < x1)) x155000 x155001 x155002) else (bits_grouped.j8 k x1 x13 (bt x0 0) false x155000 x155001 x155002))) else (none))
def bits_grouped.j3 : Nat → ByteArray → Int → Int → Int → Int → Int → Bool → Int → Int → Int → Option (Int × Int × Int × Int)
 | 0, _, _, _, _, _, _, _, _, _, _ => none
 | k + 1, x0, x1, x2, x13, x14, x16, x69, x155000, x155001, x155002 => if x69 = true then ((bits_All.f k x2 x16).bind fun bt158 => (bits_grouped.j4 k x0 x1 x2 x13 x14 x155000 x155001 x155002 bt158.1 bt158.2.1 bt158.2.2)) else ((bits_digit.f k x16).bind fun t161 => ((bits_Of.f x2 (IntKind.u64.wrap (t161))).bind fun bt162 => (bits_grouped.j4 k x0 x1 x2 x13 x14 x155000 x155001 x155002 bt162.1 bt162.2.1 bt162.2.2)))
def bits_grouped.j4 : Nat → ByteArray → Int → Int → Int → Int → Int → Int → Int → Int → Int → Int → Option (Int × Int × Int × Int)
 | 0, _, _, _, _, _, _, _, _, _, _, _ => none
 | k + 1, x0, x1, x2, x13, x14, x155000, x155001, x155002, x158000, x158001, x158002 => bits_grouped.l2 k x0 x1 x2 x13 x14 x2 0 x155000 x155001 x155002 x158000 x158001 x158002
def bits_grouped.l2 : Nat → ByteArray → Int → Int → Int → Int → Int → Int → Int → Int → Int → Int → Int → Int → Option (Int × Int × Int × Int)
 | 0, _, _, _, _, _, _, _, _, _, _, _, _, _ => none
 | k + 1, x0, x1, x2, x13, x14, x78, x79, x155000, x155001, x155002, x158000, x158001, x158002 => if x79 < x78 then (if (wrap64 (x13 + x79)) ≥ x1 then ((bits_Bit.f k x158000 x158001 x158002 x79).bind fun t168 => (bits_grouped.j6 k x0 x1 x2 x13 x14 x78 x79 (t168 != 48) x155000 x155001 x155002 x158000 x158001 x158002)) else (bits_grouped.j6 k x0 x1 x2 x13 x14 x78 x79 false x155000 x155001 x155002 x158000 x158001 x158002)) else ((bits_Put.f k x155000 x155001 x155002 x13 x158000 x158001 x158002).bind fun bt165 => (bits_grouped.l1 k x0 x1 x2 (wrap64 (x13 + x2)) (wrap64 (x14 - 1)) bt165.1 bt165.2.1 bt165.2.2))
def bits_grouped.j6 : Nat → ByteArray → Int → Int → Int → Int → Int → Int → Bool → Int → Int → Int → Int → Int → Int → Option (Int × Int × Int × Int)
 | 0, _, _, _, _, _, _, _, _, _, _, _, _, _, _ => none
 | k + 1, x0, x1, x2, x13, x14, x78, x79, x92, x155000, x155001, x155002, x158000, x158001, x158002 => if x92 = true then (if 0 ≤ x14 then (if x14 < (x0.size : Int) then (if (bt x0 x14) = 120 then (bits_grouped.j7 k x0 x1 x2 x13 x14 x78 x79 (decide (x13 < x1)) x155000 x155001 x155002 x158000 x158001 x158002) else (if (bt x0 x14) = 122 then (bits_grouped.j7 k x0 x1 x2 x13 x14 x78 x79 (decide (x13 < x1)) x155000 x155001 x155002 x158000 x158001 x158002) else (bits_grouped.j7 k x0 x1 x2 x13 x14 x78 x79 false x155000 x155001 x155002 x158000 x158001 x158002))) else (none)) else (none)) else (bits_grouped.l2 k x0 x1 x2 x13 x14 x78 (wrap64 (x79 + 1)) x155000 x155001 x155002 x158000 x158001 x158002)
def bits_grouped.j7 : Nat → ByteArray → Int → Int → Int → Int → Int → Int → Bool → Int → Int → Int → Int → Int → Int → Option (Int × Int × Int × Int)
 | 0, _, _, _, _, _, _, _, _, _, _, _, _, _, _ => none
 | k + 1, x0, x1, x2, x13, x14, x78, x79, x106, x155000, x155001, x155002, x158000, x158001, x158002 => if x106 = true then (bits_grouped.l2 k x0 x1 x2 x13 x14 x78 (wrap64 (x79 + 1)) x155000 x155001 x155002 x158000 x158001 x158002) else (some (0, 0, 0, 3))
def bits_grouped.j8 : Nat → Int → Int → Int → Bool → Int → Int → Int → Option (Int × Int × Int × Int)
 | 0, _, _, _, _, _, _, _ => none
 | k + 1, x1, x13, x19, x128, x155000, x155001, x155002 => if x128 = true then ((bits_All.f k (wrap64 (x1 - x13)) x19).bind fun bt169 => ((bits_Put.f k x155000 x155001 x155002 x13 bt169.1 bt169.2.1 bt169.2.2).bind fun bt172 => (some (bt172.1, bt172.2.1, bt172.2.2, 0)))) else (some (x155000, x155001, x155002, 0))
end
def bits_grouped.f (k : Nat) (a0 : ByteArray) (a1 : Int) (a2 : Int) (a3 : Int) : Option (Int × Int × Int × Int) := bits_grouped.l0 k a0 a1 a2 a3 (a0.size : Int) 0 a1 0 0
theorem bits_grouped.mono_l : ∀ k, (∀ y0 y1 y2 y3 y4 y5 y6 y7 y8, LeO (bits_grouped.l0 k y0 y1 y2 y3 y4 y5 y6 y7 y8) (bits_grouped.l0 (k + 1) y0 y1 y2 y3 y4 y5 y6 y7 y8)) ∧ (∀ y0 y1 y2 y3 y4 y5 y6 y7 y8 y9, LeO (bits_grouped.j1 k y0 y1 y2 y3 y4 y5 y6 y7 y8 y9) (bits_grouped.j1 (k + 1) y0 y1 y2 y3 y4 y5 y6 y7 y8 y9)) ∧ (∀ y0 y1 y2 y3 y4 y5 y6 y7, LeO (bits_grouped.l1 k y0 y1 y2 y3 y4 y5 y6 y7) (bits_grouped.l1 (k + 1) y0 y1 y2 y3 y4 y5 y6 y7)) ∧ (∀ y0 y1 y2 y3 y4 y5 y6 y7 y8 y9, LeO (bits_grouped.j3 k y0 y1 y2 y3 y4 y5 y6 y7 y8 y9) (bits_grouped.j3 (k + 1) y0 y1 y2 y3 y4 y5 y6 y7 y8 y9)) ∧ (∀ y0 y1 y2 y3 y4 y5 y6 y7 y8 y9 y10, LeO (bits_grouped.j4 k y0 y1 y2 y3 y4 y5 y6 y7 y8 y9 y10) (bits_grouped.j4 (k + 1) y0 y1 y2 y3 y4 y5 y6 y7 y8 y9 y10)) ∧ (∀ y0 y1 y2 y3 y4 y5 y6 y7 y8 y9 y10 y11 y12, LeO (bits_grouped.l2 k y0 y1 y2 y3 y4 y5 y6 y7 y8 y9 y10 y11 y12) (bits_grouped.l2 (k + 1) y0 y1 y2 y3 y4 y5 y6 y7 y8 y9 y10 y11 y12)) ∧ (∀ y0 y1 y2 y3 y4 y5 y6 y7 y8 y9 y10 y11 y12 y13, LeO (bits_grouped.j6 k y0 y1 y2 y3 y4 y5 y6 y7 y8 y9 y10 y11 y12 y13) (bits_grouped.j6 (k + 1) y0 y1 y2 y3 y4 y5 y6 y7 y8 y9 y10 y11 y12 y13)) ∧ (∀ y0 y1 y2 y3 y4 y5 y6 y7 y8 y9 y10 y11 y12 y13, LeO (bits_grouped.j7 k y0 y1 y2 y3 y4 y5 y6 y7 y8 y9 y10 y11 y12 y13) (bits_grouped.j7 (k + 1) y0 y1 y2 y3 y4 y5 y6 y7 y8 y9 y10 y11 y12 y13)) ∧ (∀ y0 y1 y2 y3 y4 y5 y6, LeO (bits_grouped.j8 k y0 y1 y2 y3 y4 y5 y6) (bits_grouped.j8 (k + 1) y0 y1 y2 y3 y4 y5 y6))
 | 0 => ⟨fun _ _ _ _ _ _ _ _ _ r h => by simp [bits_grouped.l0] at h, fun _ _ _ _ _ _ _ _ _ _ r h => by simp [bits_grouped.j1] at h, fun _ _ _ _ _ _ _ _ r h => by simp [bits_grouped.l1] at h, fun _ _ _ _ _ _ _ _ _ _ r h => by simp [bits_grouped.j3] at h, fun _ _ _ _ _ _ _ _ _ _ _ r h => by simp [bits_grouped.j4] at h, fun _ _ _ _ _ _ _ _ _ _ _ _ _ r h => by simp [bits_grouped.l2] at h, fun _ _ _ _ _ _ _ _ _ _ _ _ _ _ r h => by simp [bits_grouped.j6] at h, fun _ _ _ _ _ _ _ _ _ _ _ _ _ _ r h => by simp [bits_grouped.j7] at h, fun _ _ _ _ _ _ _ r h => by simp [bits_grouped.j8] at h⟩
 | k + 1 => by
  obtain ⟨ih0, ih1, ih2, ih3, ih4, ih5, ih6, ih7, ih8⟩ := bits_grouped.mono_l k
  refine ⟨?_, ?_, ?_, ?_, ?_, ?_, ?_, ?_, ?_⟩
  ·intro y0 y1 y2 y3 y4 y5 y6 y7 y8
   unfold bits_grouped.l0
   repeat' first | with_reducible exact ih0 _ _ _ _ _ _ _ _ _ | with_reducible exact ih1 _ _ _ _ _ _ _ _ _ _ | with_reducible exact ih2 _ _ _ _ _ _ _ _ | with_reducible exact ih3 _ _ _ _ _ _ _ _ _ _ | with_reducible exact ih4 _ _ _ _ _ _ _ _ _ _ _ | with_reducible exact ih5 _ _ _ _ _ _ _ _ _ _ _ _ _ | with_reducible exact ih6 _ _ _ _ _ _ _ _ _ _ _ _ _ _ | with_reducible exact ih7 _ _ _ _ _ _ _ _ _ _ _ _ _ _ | with_reducible exact ih8 _ _ _ _ _ _ _ | with_reducible exact bits_All.mono _ _ _ | with_reducible exact bits_Bit.mono _ _ _ _ _ | with_reducible exact bits_Put.mono _ _ _ _ _ _ _ _ | with_reducible exact bits_digit.mono _ _ | with_reducible exact LeO.refl _ | with_reducible exact LeO.none _ | with_reducible refine LeO.ite ?_ ?_ | with_reducible refine LeO.bind ?_ (fun _ => ?_)
  ·intro y0 y1 y2 y3 y4 y5 y6 y7 y8 y9
   unfold bits_grouped.j1
   repeat' first | with_reducible exact ih0 _ _ _ _ _ _ _ _ _ | with_reducible exact ih1 _ _ _ _ _ _ _ _ _ _ | with_reducible exact ih2 _ _ _ _ _ _ _ _ | with_reducible exact ih3 _ _ _ _ _ _ _ _ _ _ | with_reducible exact ih4 _ _ _ _ _ _ _ _ _ _ _ | with_reducible exact ih5 _ _ _ _ _ _ _ _ _ _ _ _ _ | with_reducible exact ih6 _ _ _ _ _ _ _ _ _ _ _ _ _ _ | with_reducible exact ih7 _ _ _ _ _ _ _ _ _ _ _ _ _ _ | with_reducible exact ih8 _ _ _ _ _ _ _ | with_reducible exact bits_All.mono _ _ _ | with_reducible exact bits_Bit.mono _ _ _ _ _ | with_reducible exact bits_Put.mono _ _ _ _ _ _ _ _ | with_reducible exact bits_digit.mono _ _ | with_reducible exact LeO.refl _ | with_reducible exact LeO.none _ | with_reducible refine LeO.ite ?_ ?_ | with_reducible refine LeO.bind ?_ (fun _ => ?_)
  ·intro y0 y1 y2 y3 y4 y5 y6 y7
   unfold bits_grouped.l1
   repeat' first | with_reducible exact ih0 _ _ _ _ _ _ _ _ _ | with_reducible exact ih1 _ _ _ _ _ _ _ _ _ _ | with_reducible exact ih2 _ _ _ _ _ _ _ _ | with_reducible exact ih3 _ _ _ _ _ _ _ _ _ _ | with_reducible exact ih4 _ _ _ _ _ _ _ _ _ _ _ | with_reducible exact ih5 _ _ _ _ _ _ _ _ _ _ _ _ _ | with_reducible exact ih6 _ _ _ _ _ _ _ _ _ _ _ _ _ _ | with_reducible exact ih7 _ _ _ _ _ _ _ _ _ _ _ _ _ _ | with_reducible exact ih8 _ _ _ _ _ _ _ | with_reducible exact bits_All.mono _ _ _ | with_reducible exact bits_Bit.mono _ _ _ _ _ | with_reducible exact bits_Put.mono _ _ _ _ _ _ _ _ | with_reducible exact bits_digit.mono _ _ | with_reducible exact LeO.refl _ | with_reducible exact LeO.none _ | with_reducible refine LeO.ite ?_ ?_ | with_reducible refine LeO.bind ?_ (fun _ => ?_)
  ·intro y0 y1 y2 y3 y4 y5 y6 y7 y8 y9
   unfold bits_grouped.j3
   repeat' first | with_reducible exact ih0 _ _ _ _ _ _ _ _ _ | with_reducible exact ih1 _ _ _ _ _ _ _ _ _ _ | with_reducible exact ih2 _ _ _ _ _ _ _ _ | with_reducible exact ih3 _ _ _ _ _ _ _ _ _ _ | with_reducible exact ih4 _ _ _ _ _ _ _ _ _ _ _ | with_reducible exact ih5 _ _ _ _ _ _ _ _ _ _ _ _ _ | with_reducible exact ih6 _ _ _ _ _ _ _ _ _ _ _ _ _ _ | with_reducible exact ih7 _ _ _ _ _ _ _ _ _ _ _ _ _ _ | with_reducible exact ih8 _ _ _ _ _ _ _ | with_reducible exact bits_All.mono _ _ _ | with_reducible exact bits_Bit.mono _ _ _ _ _ | with_reducible exact bits_Put.mono _ _ _ _ _ _ _ _ | with_reducible exact bits_digit.mono _ _ | with_reducible exact LeO.refl _ | with_reducible exact LeO.none _ | with_reducible refine LeO.ite ?_ ?_ | with_reducible refine LeO.bind ?_ (fun _ => ?_)
  ·intro y0 y1 y2 y3 y4 y5 y6 y7 y8 y9 y10
   unfold bits_grouped.j4
   repeat' first | with_reducible exact ih0 _ _ _ _ _ _ _ _ _ | with_reducible exact ih1 _ _ _ _ _ _ _ _ _ _ | with_reducible exact ih2 _ _ _ _ _ _ _ _ | with_reducible exact ih3 _ _ _ _ _ _ _ _ _ _ | with_reducible exact ih4 _ _ _ _ _ _ _ _ _ _ _ | with_reducible exact ih5 _ _ _ _ _ _ _ _ _ _ _ _ _ | with_reducible exact ih6 _ _ _ _ _ _ _ _ _ _ _ _ _ _ | with_reducible exact ih7 _ _ _ _ _ _ _ _ _ _ _ _ _ _ | with_reducible exact ih8 _ _ _ _ _ _ _ | with_reducible exact bits_All.mono _ _ _ | with_reducible exact bits_Bit.mono _ _ _ _ _ | with_reducible exact bits_Put.mono _ _ _ _ _ _ _ _ | with_reducible exact bits_digit.mono _ _ | with_reducible exact LeO.refl _ | with_reducible exact LeO.none _ | with_reducible refine LeO.ite ?_ ?_ | with_reducible refine LeO.bind ?_ (fun _ => ?_)
  ·intro y0 y1 y2 y3 y4 y5 y6 y7 y8 y9 y10 y11 y12
   unfold bits_grouped.l2
   repeat' first | with_reducible exact ih0 _ _ _ _ _ _ _ _ _ | with_reducible exact ih1 _ _ _ _ _ _ _ _ _ _ | with_reducible exact ih2 _ _ _ _ _ _ _ _ | with_reducible exact ih3 _ _ _ _ _ _ _ _ _ _ | with_reducible exact ih4 _ _ _ _ _ _ _ _ _ _ _ | with_reducible exact ih5 _ _ _ _ _ _ _ _ _ _ _ _ _ | with_reducible exact ih6 _ _ _ _ _ _ _ _ _ _ _ _ _ _ | with_reducible exact ih7 _ _ _ _ _ _ _ _ _ _ _ _ _ _ | with_reducible exact ih8 _ _ _ _ _ _ _ | with_reducible exact bits_All.mono _ _ _ | with_reducible exact bits_Bit.mono _ _ _ _ _ | with_reducible exact bits_Put.mono _ _ _ _ _ _ _ _ | with_reducible exact bits_digit.mono _ _ | with_reducible exact LeO.refl _ | with_reducible exact LeO.none _ | with_reducible refine LeO.ite ?_ ?_ | with_reducible refine LeO.bind ?_ (fun _ => ?_)
  ·intro y0 y1 y2 y3 y4 y5 y6 y7 y8 y9 y10 y11 y12 y13
   unfold bits_grouped.j6
   repeat' first | with_reducible exact ih0 _ _ _ _ _ _ _ _ _ | with_reducible exact ih1 _ _ _ _ _ _ _ _ _ _ | with_reducible exact ih2 _ _ _ _ _ _ _ _ | with_reducible exact ih3 _ _ _ _ _ _ _ _ _ _ | with_reducible exact ih4 _ _ _ _ _ _ _ _ _ _ _ | with_reducible exact ih5 _ _ _ _ _ _ _ _ _ _ _ _ _ | with_reducible exact ih6 _ _ _ _ _ _ _ _ _ _ _ _ _ _ | with_reducible exact ih7 _ _ _ _ _ _ _ _ _ _ _ _ _ _ | with_reducible exact ih8 _ _ _ _ _ _ _ | with_reducible exact bits_All.mono _ _ _ | with_reducible exact bits_Bit.mono _ _ _ _ _ | with_reducible exact bits_Put.mono _ _ _ _ _ _ _ _ | with_reducible exact bits_digit.mono _ _ | with_reducible exact LeO.refl _ | with_reducible exact LeO.none _ | with_reducible refine LeO.ite ?_ ?_ | with_reducible refine LeO.bind ?_ (fun _ => ?_)
  ·intro y0 y1 y2 y3 y4 y5 y6 y7 y8 y9 y10 y11 y12 y13
   unfold bits_grouped.j7
   repeat' first | with_reducible exact ih0 _ _ _ _ _ _ _ _ _ | with_reducible exact ih1 _ _ _ _ _ _ _ _ _ _ | with_reducible exact ih2 _ _ _ _ _ _ _ _ | with_reducible exact ih3 _ _ _ _ _ _ _ _ _ _ | with_reducible exact ih4 _ _ _ _ _ _ _ _ _ _ _ | with_reducible exact ih5 _ _ _ _ _ _ _ _ _ _ _ _ _ | with_reducible exact ih6 _ _ _ _ _ _ _ _ _ _ _ _ _ _ | with_reducible exact ih7 _ _ _ _ _ _ _ _ _ _ _ _ _ _ | with_reducible exact ih8 _ _ _ _ _ _ _ | with_reducible exact bits_All.mono _ _ _ | with_reducible exact bits_Bit.mono _ _ _ _ _ | with_reducible exact bits_Put.mono _ _ _ _ _ _ _ _ | with_reducible exact bits_digit.mono _ _ | with_reducible exact LeO.refl _ | with_reducible exact LeO.none _ | with_reducible refine LeO.ite ?_ ?_ | with_reducible refine LeO.bind ?_ (fun _ => ?_)
  ·intro y0 y1 y2 y3 y4 y5 y6
   unfold bits_grouped.j8
   repeat' first | with_reducible exact ih0 _ _ _ _ _ _ _ _ _ | with_reducible exact ih1 _ _ _ _ _ _ _ _ _ _ | with_reducible exact ih2 _ _ _ _ _ _ _ _ | with_reducible exact ih3 _ _ _ _ _ _ _ _ _ _ | with_reducible exact ih4 _ _ _ _ _ _ _ _ _ _ _ | with_reducible exact ih5 _ _ _ _ _ _ _ _ _ _ _ _ _ | with_reducible exact ih6 _ _ _ _ _ _ _ _ _ _ _ _ _ _ | with_reducible exact ih7 _ _ _ _ _ _ _ _ _ _ _ _ _ _ | with_reducible exact ih8 _ _ _ _ _ _ _ | with_reducible exact bits_All.mono _ _ _ | with_reducible exact bits_Bit.mono _ _ _ _ _ | with_reducible exact bits_Put.mono _ _ _ _ _ _ _ _ | with_reducible exact bits_digit.mono _ _ | with_reducible exact LeO.refl _ | with_reducible exact LeO.none _ | with_reducible refine LeO.ite ?_ ?_ | with_reducible refine LeO.bind ?_ (fun _ => ?_)
theorem bits_grouped.mono : ∀ a0 a1 a2 a3 k, LeO (bits_grouped.f k a0 a1 a2 a3) (bits_grouped.f (k + 1) a0 a1 a2 a3) := by
 intro a0 a1 a2 a3 k
 obtain ⟨ih0, ih1, ih2, ih3, ih4, ih5, ih6, ih7, ih8⟩ := bits_grouped.mono_l k
 unfold bits_grouped.f
 repeat' first | with_reducible exact ih0 _ _ _ _ _ _ _ _ _ | with_reducible exact ih1 _ _ _ _ _ _ _ _ _ _ | with_reducible exact ih2 _ _ _ _ _ _ _ _ | with_reducible exact ih3 _ _ _ _ _ _ _ _ _ _ | with_reducible exact ih4 _ _ _ _ _ _ _ _ _ _ _ | with_reducible exact ih5 _ _ _ _ _ _ _ _ _ _ _ _ _ | with_reducible exact ih6 _ _ _ _ _ _ _ _ _ _ _ _ _ _ | with_reducible exact ih7 _ _ _ _ _ _ _ _ _ _ _ _ _ _ | with_reducible exact ih8 _ _ _ _ _ _ _ | with_reducible exact bits_All.mono _ _ _ | with_reducible exact bits_Bit.mono _ _ _ _ _ | with_reducible exact bits_Put.mono _ _ _ _ _ _ _ _ | with_reducible exact bits_digit.mono _ _ | with_reducible exact LeO.refl _ | with_reducible exact LeO.none _ | with_reducible refine LeO.ite ?_ ?_ | with_reducible refine LeO.bind ?_ (fun _ => ?_)
def bits_grouped.T6 : Bool × List (List Nat × List Nat) := (true, [([], []), ([0], [0]), ([1], [1]), ([2], [2]), ([3, 2], [2, 3]), ([2, 4], [2, 4]), ([5, 2], [5]), ([6], [6]), ([7, 6, 6], [6, 7]), ([8, 6], [6, 8]), ([9, 8, 6], [6, 9]), ([10], [10]), ([11, 10, 10], [10, 11]), ([10], [10]), ([13, 10], [10, 13]), ([12, 14, 10], [10, 12, 14]), ([10, 15, 6], [6, 10, 15]), ([6, 16], [6, 16])])
def bits_grouped.B6 : List Nat := [0, 1, 3, 7, 15, 31, 63, 127, 255, 511, 1023, 2047, 4095, 2047, 10239, 32767, 65535, 131071]
theorem bits_grouped.tab6 : rtab .any (opsOf Try.f89 6) = bits_grouped.T6 := by kernel_rfl
theorem bits_grouped.bits6 : waitsOk bits_grouped.T6.2 bits_grouped.B6 = true := by kernel_rfl
def bits_grouped.T32 : Bool × List (List Nat × List Nat) := (true, [([], []), ([], []), ([], []), ([], []), ([2, 3], [2, 3]), ([], []), ([4, 5], [4, 5]), ([0, 1, 6, 6], [0, 1, 6]), ([7, 7, 0, 1, 2, 3, 4, 5, 6, 7], [7])])
def bits_grouped.B32 : List Nat := [0, 0, 0, 0, 12, 0, 60, 127, 255]
theorem bits_grouped.tab32 : rtab .any (opsOf Try.f89 32) = bits_grouped.T32 := by kernel_rfl
theorem bits_grouped.bits32 : waitsOk bits_grouped.T32.2 bits_grouped.B32 = true := by kernel_rfl
set_option maxHeartbeats 8000000 in
set_option maxRecDepth 100000 in
theorem bits_grouped.calls (k : Nat) (a0 : ByteArray) (a1 : Int) (a2 : Int) (a3 : Int) (r1 : Int) (r2 : Int) (r3 : Int) (r4 : Int) (w : World) (h : bits_grouped.f k a0 a1 a2 a3 = some (r1, r2, r3, r4)) :
  Calls Try.prog 89 #[.string a0, .int .i64 a1, .int .i64 a2, .int .i64 a3] w fun e w' => e = .returned (.tuple #[.agg #[.int .i64 r1, .int .u64 r2, .int .u64 r3], .int .i64 r4]) ∧ Below w.heap.size w w' := by
 have hu24 := Try.underlying24
 have HB := Aside0.mk (Below.refl w.heap.size w)
 have H := h
 clear h
 unfold bits_grouped.f at H
 have H' := Aside0.mk H
 clear H
 go_enter Try.func89, Try.ntmps89
 go_wp2_with (first | (refine boxA HB 8 #[.int .i64 0, .int .u64 0, .int .u64 0] 24 ?_; clear HB; intro gb153 w5 BK153 GE153 hg hb HB; clear hb hg) | (refine boxA HB 10 #[.int .i64 0, .int .u64 0, .int .u64 0] 24 ?_; clear HB; intro gb154 w6 BK154 GE154 hg hb HB; have NB153_154 := nbA BK153 hg; have NB154_153 := nbB BK153 hg; replace BK153 := bk1 BK153 hb; clear hb hg; have hnb7 := NB154_153.out; have hnc7 := NB153_154.out; obtain ⟨hcz8_0, hcz8_1, hcz8_2, hfz8_0, hfz8_1, hfz8_2⟩ := cf3 BK154))
 go_loopg [24] k (fun kq v24 w' => ∃ (x24_1 : Int) (x154000_1 : Int) (x154001_1 : Int) (x154002_1 : Int), v24 = .int .i64 x24_1 ∧ Aside0 (bits_grouped.l0 kq a0 a1 a2 a3 (a0.size : Int) x24_1 a1 0 0 = some (r1, r2, r3, r4)) ∧ Aside0 (kq ≤ k) ∧ Aside0 (w'.heap[gb153]? = some (.cells #[.int .i64 x154000_1, .int .u64 x154001_1, .int .u64 x154002_1] 24 (0, 0))) ∧ Aside0 (w'.heap[gb154]? = some (.cells #[.int .i64 a1, .int .u64 0, .int .u64 0] 24 (0, 0))) ∧ Aside0 (Below w.heap.size w w'))
 case atStart => exact ⟨(0), (0), (0), (0), (by rfl), H', ⟨Nat.le_refl _⟩, ⟨by refine blk_far ?_ NB153_154.out _; refine blk_far ?_ NB153_154.out _; refine blk_far ?_ NB153_154.out _; exact BK153.out⟩, ⟨by refine blk_put (cs := #[.int .i64 a1, .int .u64 0, .int .u64 0]) ?_ 2 _ rfl; refine blk_put (cs := #[.int .i64 a1, .int .u64 0, .int .u64 0]) ?_ 1 _ rfl; refine blk_put (cs := #[.int .i64 0, .int .u64 0, .int .u64 0]) ?_ 0 _ rfl; exact BK154.out⟩, ⟨by repeat (with_reducible first | exact HB.out | refine below_set ?_ GE154.out)⟩⟩
 case round =>
  clear H'
  (try clear hcz8_0 hcz8_1 hcz8_2 hfz8_0 hfz8_1 hfz8_2)
  obtain ⟨x24_1, x154000_1, x154001_1, x154002_1, rfl, HA, HK1, BK153, BK154, HB⟩ := hrel
  cases gk with
  | zero => exact absurd HA.out (by simp [bits_grouped.l0])
  | succ k1 =>
   have H := HA.out
   clear HA
   simp only [bits_grouped.l0] at H
   replace H := iD H; rcases H with ⟨c9b0, H⟩ | ⟨c9b0, H⟩
   ·replace H := iN H; obtain ⟨c10b0, H⟩ := H
    replace H := iN H; obtain ⟨c11b0, H⟩ := H
    have HC13 := Aside0.mk H
    clear H
    have p12 : 0 ≤ (x24_1 : Int) := of_decide_eq_true (by (with_reducible assumption))
    have q12 : x24_1 < (a0.size : Int) := of_decide_eq_true (by (with_reducible assumption))
    have hx12 := bt_at a0 x24_1
    replace p12 := eq_true p12
    replace q12 := eq_true q12
    go_upto_region 6 with (fail)
    go_cut [47] (fun v47 wc => ∃ (kq : Nat) (x47_12 : Bool), v47 = .bool x47_12 ∧ Aside0 (bits_grouped.j1 kq a0 a1 a2 a3 (a0.size : Int) x24_1 x47_12 a1 0 0 = some (r1, r2, r3, r4)) ∧ Aside0 (kq ≤ k1) ∧ Aside0 (wc.heap[gb153]? = some (.cells #[.int .i64 x154000_1, .int .u64 x154001_1, .int .u64 x154002_1] 24 (0, 0))) ∧ Aside0 (wc.heap[gb154]? = some (.cells #[.int .i64 a1, .int .u64 0, .int .u64 0] 24 (0, 0))) ∧ Aside0 (Below w.heap.size w wc))
    case first =>
     have H := HC13.out
     clear HC13
     replace H := iE H; rcases H with ⟨c14b0, c14b1, H⟩ | ⟨c14, c14b0, c14b1, H⟩
     ·(skip)
      have H' := Aside0.mk H
      clear H
      try go_wp2
      replace BK153 := bkd BK153
      replace BK154 := bkd BK154
      replace HB := hbd HB
      refine start_ (n := 18) (S := fun w' => True) (ds := []) (tb 18 0) (by kernel_rfl) rfl (by kernel_rfl) trivial (fun hHeld => ?_); refine with_tabW bits_grouped.tab6 bits_grouped.bits6 (fun HT_ HW_ => ?_)
      generalize wr.drew = w15 at BK153 BK154 HB hHeld ⊢
      refine pA 0 30 (tb 18 1) HT_ ?_
      refine pA 1 31 (tb 18 3) HT_ ?_
      refine pA 2 32 (tb 18 7) HT_ ?_
      refine pU 3 33 (tb 18 15) HT_ ?_
      refine pU 4 34 (tb 18 31) HT_ ?_
      refine pA 5 35 (tb 18 63) HT_ ?_
      refine pA 6 36 (tb 18 127) HT_ ?_
      refine pU 7 37 (tb 18 255) HT_ ?_
      refine pU 8 38 (tb 18 511) HT_ ?_
      refine pU 9 39 (tb 18 1023) HT_ ?_
      refine pU 10 40 (tb 18 2047) HT_ ?_
      refine pU 11 41 (tb 18 4095) HT_ ?_
      refine pU 12 42 (tb 18 8191) HT_ ?_
      refine pU 13 43 (tb 18 16383) HT_ ?_
      refine pU 14 44 (tb 18 32767) HT_ ?_
      refine pU 15 45 (tb 18 65535) HT_ ?_
      refine pU 16 46 (tb 18 131071) HT_ ?_
      refine pA 17 47 (tb 18 262143) HT_ ?_
      refine done_ (done_of HT_.out (by kernel_rfl)) ?_
      try go_wp2
      go_meet
      case rel => exact ⟨_, (false), (by rfl), H', ⟨by have := HK1.out; omega⟩, ⟨by exact BK153.out⟩, ⟨by exact BK154.out⟩, ⟨by repeat (with_reducible exact HB.out)⟩⟩
     ·(skip)
      replace H := iE H; rcases H with ⟨c16b0, c16b1, H⟩ | ⟨c16, c16b0, c16b1, H⟩
      ·have H' := Aside0.mk H
       clear H
       try go_wp2
       replace BK153 := bkd BK153
       replace BK154 := bkd BK154
       replace HB := hbd HB
       refine start_ (n := 18) (S := fun w' => True) (ds := []) (tb 18 0) (by kernel_rfl) rfl (by kernel_rfl) trivial (fun hHeld => ?_); refine with_tabW bits_grouped.tab6 bits_grouped.bits6 (fun HT_ HW_ => ?_)
       generalize wr.drew = w17 at BK153 BK154 HB hHeld ⊢
       refine pA 0 30 (tb 18 1) HT_ ?_
       refine pA 1 31 (tb 18 3) HT_ ?_
       refine pA 2 32 (tb 18 7) HT_ ?_
       refine pA 3 33 (tb 18 15) HT_ ?_
       refine pA 4 34 (tb 18 31) HT_ ?_
       refine pA 5 35 (tb 18 63) HT_ ?_
       refine pA 6 36 (tb 18 127) HT_ ?_
       refine pU 7 37 (tb 18 255) HT_ ?_
       refine pU 8 38 (tb 18 511) HT_ ?_
       refine pU 9 39 (tb 18 1023) HT_ ?_
       refine pU 10 40 (tb 18 2047) HT_ ?_
       refine pU 11 41 (tb 18 4095) HT_ ?_
       refine pU 12 42 (tb 18 8191) HT_ ?_
       refine pU 13 43 (tb 18 16383) HT_ ?_
       refine pU 14 44 (tb 18 32767) HT_ ?_
       refine pU 15 45 (tb 18 65535) HT_ ?_
       refine pU 16 46 (tb 18 131071) HT_ ?_
       refine pA 17 47 (tb 18 262143) HT_ ?_
       refine done_ (done_of HT_.out (by kernel_rfl)) ?_
       try go_wp2
       go_meet
       case rel => exact ⟨_, (false), (by rfl), H', ⟨by have := HK1.out; omega⟩, ⟨by exact BK153.out⟩, ⟨by exact BK154.out⟩, ⟨by repeat (with_reducible exact HB.out)⟩⟩
      ·replace H := bN H; obtain ⟨t155, A18, H⟩ := H
       replace H := iD H; rcases H with ⟨c19b0, H⟩ | ⟨c19b0, H⟩
       ·have H' := Aside0.mk H
        clear H
        try go_wp2
        replace BK153 := bkd BK153
        replace BK154 := bkd BK154
        replace HB := hbd HB
        refine start_ (n := 18) (S := fun w' => True) (ds := []) (tb 18 0) (by kernel_rfl) rfl (by kernel_rfl) trivial (fun hHeld => ?_); refine with_tabW bits_grouped.tab6 bits_grouped.bits6 (fun HT_ HW_ => ?_)
        generalize wr.drew = w20 at BK153 BK154 HB hHeld ⊢
        refine pA 0 30 (tb 18 1) HT_ ?_
        refine pA 1 31 (tb 18 3) HT_ ?_
        refine pA 2 32 (tb 18 7) HT_ ?_
        refine pA 3 33 (tb 18 15) HT_ ?_
        refine pA 4 34 (tb 18 31) HT_ ?_
        refine pA 5 35 (tb 18 63) HT_ ?_
        refine pA 6 36 (tb 18 127) HT_ ?_
        refine pA 7 37 (tb 18 255) HT_ ?_
        refine oA 8 (some 38) (tb 18 511) HT_ (fun K hK => ?_)
        refine gA Try.func96 #[.int .u8 (bt a0 x24_1)] ?_
        with_reducible refine (bits_digit.calls k1 (bt a0 x24_1) t155 _ A18.out).mono ?_
        rintro e w' ⟨rfl, ⟨nd, rfl⟩⟩
        refine ⟨_, rfl, ?_⟩
        refine hK.out _ _ trivial (fun hHeld => ?_)
        clear hK K
        refine nA ?_
        refine pA 9 39 (tb 18 1023) HT_ ?_
        refine pA 10 40 (tb 18 2047) HT_ ?_
        refine pU 11 41 (tb 18 4095) HT_ ?_
        refine pU 12 42 (tb 18 8191) HT_ ?_
        refine pU 13 43 (tb 18 16383) HT_ ?_
        refine pU 14 44 (tb 18 32767) HT_ ?_
        refine pU 15 45 (tb 18 65535) HT_ ?_
        refine pA 16 46 (tb 18 131071) HT_ ?_
        refine pA 17 47 (tb 18 262143) HT_ ?_
        refine done_ (done_of HT_.out (by kernel_rfl)) ?_
        try go_wp2
        go_meet
        case rel => exact ⟨_, (true), (by rfl), H', ⟨by have := HK1.out; omega⟩, ⟨by (with_reducible repeat (refine blk_drewN ?_ _)); exact BK153.out⟩, ⟨by (with_reducible repeat (refine blk_drewN ?_ _)); exact BK154.out⟩, ⟨by repeat (with_reducible first | exact HB.out | apply pw_below_drewN)⟩⟩
       ·replace H := bN H; obtain ⟨t156, A21, H⟩ := H
        by_cases c22 : 0 ≤ a2
        ·rw [if_pos c22] at H
         have c22b0 := eq_true c22
         have c22b1 : decide (0 ≤ a2) = true := decide_eq_true c22
         clear c22
         obtain ⟨ji23, hji23⟩ : ∃ j_ : Int, (shl .i64 1 a2) = j_ := ⟨_, rfl⟩
         replace H : (bits_grouped.j1 k1 a0 a1 a2 a3 (a0.size : Int) x24_1 (decide (t156 ≥ (ji23))) a1 0 0) = some (r1, r2, r3, r4) := by (rw [hji23] at H; exact H)
         have hji23_ : (IntKind.i64.wrap (1 * 2 ^ min a2.toNat 64)) = ji23 := hji23
         have hji23z : a2 ≤ 64 → (IntKind.i64.wrap (1 * 2 ^ a2.toNat)) = ji23 := shl_small hji23
         have hji23u : (IntKind.i64.wrap (2 ^ min a2.toNat 64)) = ji23 := by have h_ := hji23_; rw [Int.one_mul] at h_; exact h_
         have hji23v : a2 ≤ 64 → (IntKind.i64.wrap (2 ^ a2.toNat)) = ji23 := fun hle_ => by have h_ := hji23z hle_; rw [Int.one_mul] at h_; exact h_
         have hji23y : (wrap64 (1 * 2 ^ min a2.toNat 64)) = ji23 := (i64_w _).symm.trans hji23_
         have hji23x : a2 ≤ 64 → (wrap64 (1 * 2 ^ a2.toNat)) = ji23 := fun h_ => (i64_w _).symm.trans (hji23z h_)
         have H' := Aside0.mk H
         clear H
         try go_wp2
         replace BK153 := bkd BK153
         replace BK154 := bkd BK154
         replace HB := hbd HB
         refine start_ (n := 18) (S := fun w' => True) (ds := []) (tb 18 0) (by kernel_rfl) rfl (by kernel_rfl) trivial (fun hHeld => ?_); refine with_tabW bits_grouped.tab6 bits_grouped.bits6 (fun HT_ HW_ => ?_)
         generalize wr.drew = w24 at BK153 BK154 HB hHeld ⊢
         refine pA 0 30 (tb 18 1) HT_ ?_
         refine pA 1 31 (tb 18 3) HT_ ?_
         refine pA 2 32 (tb 18 7) HT_ ?_
         refine pA 3 33 (tb 18 15) HT_ ?_
         refine pA 4 34 (tb 18 31) HT_ ?_
         refine pA 5 35 (tb 18 63) HT_ ?_
         refine pA 6 36 (tb 18 127) HT_ ?_
         refine pA 7 37 (tb 18 255) HT_ ?_
         refine oA 8 (some 38) (tb 18 511) HT_ (fun K hK => ?_)
         refine gA Try.func96 #[.int .u8 (bt a0 x24_1)] ?_
         with_reducible refine (bits_digit.calls k1 (bt a0 x24_1) t155 _ A18.out).mono ?_
         rintro e w' ⟨rfl, ⟨nd, rfl⟩⟩
         refine ⟨_, rfl, ?_⟩
         refine hK.out _ _ trivial (fun hHeld => ?_)
         clear hK K
         refine nA ?_
         refine pA 9 39 (tb 18 1023) HT_ ?_
         refine pA 10 40 (tb 18 2047) HT_ ?_
         refine pA 11 41 (tb 18 4095) HT_ ?_
         refine pA 13 43 (tb 18 12287) HT_ ?_
         refine pA 14 44 (tb 18 28671) HT_ ?_
         refine oA 12 (some 42) (tb 18 32767) HT_ (fun K hK => ?_)
         refine gA Try.func96 #[.int .u8 (bt a0 x24_1)] ?_
         with_reducible refine (bits_digit.calls k1 (bt a0 x24_1) t156 _ A21.out).mono ?_
         rintro e w' ⟨rfl, ⟨nd, rfl⟩⟩
         refine ⟨_, rfl, ?_⟩
         refine hK.out _ _ trivial (fun hHeld => ?_)
         clear hK K
         refine nA ?_
         refine pA 15 45 (tb 18 65535) HT_ ?_
         refine pA 16 46 (tb 18 131071) HT_ ?_
         refine pA 17 47 (tb 18 262143) HT_ ?_
         refine done_ (done_of HT_.out (by kernel_rfl)) ?_
         try go_wp2
         go_meet
         case rel => exact ⟨_, (decide (t156 ≥ (ji23))), (by rfl), H', ⟨by have := HK1.out; omega⟩, ⟨by (with_reducible repeat (refine blk_drewN ?_ _)); exact BK153.out⟩, ⟨by (with_reducible repeat (refine blk_drewN ?_ _)); exact BK154.out⟩, ⟨by repeat (with_reducible first | exact HB.out | apply pw_below_drewN)⟩⟩
        ·rw [if_neg c22] at H
         exact absurd H (by simp)
    case rest =>
     clear HC13
     obtain ⟨kq, x47_12, rfl, HA, HJ12, BK153, BK154, HB⟩ := hcut
     cases kq with
     | zero => exact absurd HA.out (by simp [bits_grouped.j1])
     | succ kj12 =>
      have H := HA.out
      clear HA
      simp only [bits_grouped.j1] at H
      replace H := iB H; rcases H with ⟨rfl, H⟩ | ⟨rfl, H⟩
      ·replace H := s4 H; obtain ⟨rfl, rfl, rfl, rfl⟩ := H
       have hnb26 := NB153_154.out
       have hnc26 := NB154_153.out
       obtain ⟨hcz27_0, hcz27_1, hcz27_2, hfz27_0, hfz27_1, hfz27_2⟩ := cf3 BK153
       go_wp2
       refine bodyPost_ret (results_ct rfl _ _ gb153 24 #[.int .i64 0, .int .u64 0, .int .u64 0] (0, 0) _ rfl (by refine blk_put (cs := #[.int .i64 0, .int .u64 0, .int .u64 x154002_1]) ?_ 2 _ rfl; refine blk_put (cs := #[.int .i64 0, .int .u64 x154001_1, .int .u64 x154002_1]) ?_ 1 _ rfl; refine blk_put (cs := #[.int .i64 x154000_1, .int .u64 x154001_1, .int .u64 x154002_1]) ?_ 0 _ rfl; exact BK153.out) Try.underlying24 rfl (by kernel_rfl)) rfl ?_
       exact ⟨by rfl, by repeat (with_reducible first | exact HB.out | refine below_set ?_ GE153.out)⟩
      ·have H' := Aside0.mk H
       clear H
       go_wp2
       go_roundg kj12
       case measure => have := HK1.out; have := HJ12.out; omega
       case rel => exact ⟨(wrap64 (x24_1 + 1)), (x154000_1), (x154001_1), (x154002_1), (by rfl), H', ⟨by have := HK1.out; have := HJ12.out; omega⟩, ⟨by exact BK153.out⟩, ⟨by exact BK154.out⟩, ⟨by repeat (with_reducible exact HB.out)⟩⟩
   ·replace H := iE H; rcases H with ⟨c28b0, c28b1, H⟩ | ⟨c28, c28b0, c28b1, H⟩
    ·have H' := Aside0.mk H
     clear H
     go_wp2
     go_loopg [13, 14] k1 (fun kq v13 v14 w' => ∃ (x13_2 : Int) (x14_2 : Int) (x154000_2 : Int) (x154001_2 : Int) (x154002_2 : Int) (x155000_2 : Int) (x155001_2 : Int) (x155002_2 : Int), v13 = .int .i64 x13_2 ∧ v14 = .int .i64 x14_2 ∧ Aside0 (bits_grouped.l1 kq a0 a1 a2 x13_2 x14_2 x155000_2 x155001_2 x155002_2 = some (r1, r2, r3, r4)) ∧ Aside0 (kq ≤ k1) ∧ Aside0 (w'.heap[gb153]? = some (.cells #[.int .i64 x154000_2, .int .u64 x154001_2, .int .u64 x154002_2] 24 (0, 0))) ∧ Aside0 (w'.heap[gb154]? = some (.cells #[.int .i64 x155000_2, .int .u64 x155001_2, .int .u64 x155002_2] 24 (0, 0))) ∧ Aside0 (Below w.heap.size w w'))
     case atStart => exact ⟨(0), (wrap64 ((a0.size : Int) - 1)), (x154000_1), (x154001_1), (x154002_1), (a1), (0), (0), (by rfl), (by rfl), H', ⟨Nat.le_refl _⟩, ⟨by exact BK153.out⟩, ⟨by exact BK154.out⟩, ⟨by repeat (with_reducible exact HB.out)⟩⟩
     case round =>
      clear H'
      (try clear c9b0); (try clear c28b0); (try clear c28b1)
      obtain ⟨x13_2, x14_2, x154000_2, x154001_2, x154002_2, x155000_2, x155001_2, x155002_2, rfl, rfl, HA, HK2, BK153, BK154, HB⟩ := hrel
      cases gk with
      | zero => exact absurd HA.out (by simp [bits_grouped.l1])
      | succ k2 =>
       have H := HA.out
       clear HA
       simp only [bits_grouped.l1] at H
       replace H := iD H; rcases H with ⟨c29b0, H⟩ | ⟨c29b0, H⟩
       ·replace c29b0 : decide (0 ≤ x14_2) = true := c29b0
        replace H := iN H; obtain ⟨c30b0, H⟩ := H
        replace H := iN H; obtain ⟨c31b0, H⟩ := H
        have HC33 := Aside0.mk H
        clear H
        go_upto_region 17 with ((refine boxA HB 15 #[.int .i64 0, .int .u64 0, .int .u64 0] 24 ?_; clear HB; intro gb157 w34 BK157 GE157 hg hb HB; have NB153_157 := nbA BK153 hg; have NB157_153 := nbB BK153 hg; replace BK153 := bk1 BK153 hb; have NB154_157 := nbA BK154 hg; have NB157_154 := nbB BK154 hg; replace BK154 := bk1 BK154 hb; clear hb hg; have p32 : 0 ≤ (x14_2 : Int) := of_decide_eq_true (by (with_reducible assumption)); have q32 : x14_2 < (a0.size : Int) := of_decide_eq_true (by (with_reducible assumption)); have hx32 := bt_at a0 x14_2; replace p32 := eq_true p32; replace q32 := eq_true q32))
        go_cut [69] (fun v69 wc => ∃ (kq : Nat) (x69_32 : Bool), v69 = .bool x69_32 ∧ Aside0 (bits_grouped.j3 kq a0 a1 a2 x13_2 x14_2 (bt a0 x14_2) x69_32 x155000_2 x155001_2 x155002_2 = some (r1, r2, r3, r4)) ∧ Aside0 (kq ≤ k2) ∧ Aside0 (wc.heap[gb153]? = some (.cells #[.int .i64 x154000_2, .int .u64 x154001_2, .int .u64 x154002_2] 24 (0, 0))) ∧ Aside0 (wc.heap[gb154]? = some (.cells #[.int .i64 x155000_2, .int .u64 x155001_2, .int .u64 x155002_2] 24 (0, 0))) ∧ Aside0 (wc.heap[gb157]? = some (.cells #[.int .i64 0, .int .u64 0, .int .u64 0] 24 (0, 0))) ∧ Aside0 (Below w.heap.size w wc))
        case first =>
         have H := HC33.out
         clear HC33
         replace H := iE H; rcases H with ⟨c35b0, c35b1, H⟩ | ⟨c35, c35b0, c35b1, H⟩
         ·(skip)
          have H' := Aside0.mk H
          clear H
          go_wp2
          go_meet
          case rel => exact ⟨_, (true), (by rfl), H', ⟨by have := HK1.out; have := HK2.out; omega⟩, ⟨by exact BK153.out⟩, ⟨by exact BK154.out⟩, ⟨by exact BK157.out⟩, ⟨by repeat (with_reducible exact HB.out)⟩⟩
         ·(skip)
          have H' := Aside0.mk H
          clear H
          go_wp2
          go_meet
          case rel => exact ⟨_, ((bt a0 x14_2) == 122), (by rfl), H', ⟨by have := HK1.out; have := HK2.out; omega⟩, ⟨by exact BK153.out⟩, ⟨by exact BK154.out⟩, ⟨by exact BK157.out⟩, ⟨by repeat (with_reducible exact HB.out)⟩⟩
        case rest =>
         clear HC33
         (try clear c29b0); (try clear c30b0); (try clear c31b0); (try clear p32); (try clear q32); (try clear hx32)
         obtain ⟨kq, x69_32, rfl, HA, HJ32, BK153, BK154, BK157, HB⟩ := hcut
         cases kq with
         | zero => exact absurd HA.out (by simp [bits_grouped.j3])
         | succ kj32 =>
          have H := HA.out
          clear HA
          simp only [bits_grouped.j3] at H
          have HC36 := Aside0.mk H
          clear H
          go_upto_if 69 with (fail)
          go_cut [] (fun wc => ∃ (kq : Nat) (x158000_35 : Int) (x158001_35 : Int) (x158002_35 : Int), Aside0 (bits_grouped.j4 kq a0 a1 a2 x13_2 x14_2 x155000_2 x155001_2 x155002_2 x158000_35 x158001_35 x158002_35 = some (r1, r2, r3, r4)) ∧ Aside0 (kq ≤ kj32) ∧ Aside0 (wc.heap[gb153]? = some (.cells #[.int .i64 x154000_2, .int .u64 x154001_2, .int .u64 x154002_2] 24 (0, 0))) ∧ Aside0 (wc.heap[gb154]? = some (.cells #[.int .i64 x155000_2, .int .u64 x155001_2, .int .u64 x155002_2] 24 (0, 0))) ∧ Aside0 (wc.heap[gb157]? = some (.cells #[.int .i64 x158000_35, .int .u64 x158001_35, .int .u64 x158002_35] 24 (0, 0))) ∧ Aside0 (Below w.heap.size w wc))
          case first =>
           have H := HC36.out
           clear HC36
           replace H := iB H; rcases H with ⟨rfl, H⟩ | ⟨rfl, H⟩
           ·replace H := bN H; obtain ⟨⟨t158, t159, t160⟩, A38, H⟩ := H; dsimp only at H
            have H' := Aside0.mk H
            clear H
            go_wp2_with ((refine callA (some 72) Try.func95 #[.int .i64 a2, .int .u8 (bt a0 x14_2)] ?_; (with_reducible refine (bits_All.calls kj32 a2 (bt a0 x14_2) t158 t159 t160 _ A38.out).mono ?_); rintro e w39 ⟨rfl, hb⟩; refine ⟨_, rfl, ?_⟩; replace BK153 := bk1 BK153 hb; replace BK154 := bk1 BK154 hb; replace BK157 := bk1 BK157 hb; replace HB := hb1 HB hb; (try clear hb); have hnb40 := NB157_153.out; have hnc40 := NB153_157.out; have hnb41 := NB157_154.out; have hnc41 := NB154_157.out; obtain ⟨hcz42_0, hcz42_1, hcz42_2, hfz42_0, hfz42_1, hfz42_2⟩ := cf3 BK157))
            go_meet
            case rel => exact ⟨_, (t158), (t159), (t160), H', ⟨by have := HK1.out; have := HK2.out; have := HJ32.out; omega⟩, ⟨by refine blk_far ?_ NB153_157.out _; refine blk_far ?_ NB153_157.out _; refine blk_far ?_ NB153_157.out _; exact BK153.out⟩, ⟨by refine blk_far ?_ NB154_157.out _; refine blk_far ?_ NB154_157.out _; refine blk_far ?_ NB154_157.out _; exact BK154.out⟩, ⟨by refine blk_put (cs := #[.int .i64 t158, .int .u64 t159, .int .u64 0]) ?_ 2 _ rfl; refine blk_put (cs := #[.int .i64 t158, .int .u64 0, .int .u64 0]) ?_ 1 _ rfl; refine blk_put (cs := #[.int .i64 0, .int .u64 0, .int .u64 0]) ?_ 0 _ rfl; exact BK157.out⟩, ⟨by repeat (with_reducible first | exact HB.out | refine below_set ?_ GE157.out)⟩⟩
           ·replace H := bN H; obtain ⟨t161, A43, H⟩ := H
            replace H := bN H; obtain ⟨⟨t162, t163, t164⟩, A44, H⟩ := H; dsimp only at H
            have H' := Aside0.mk H
            clear H
            go_wp2_with (first | (refine callA (some 75) Try.func96 #[.int .u8 (bt a0 x14_2)] ?_; (with_reducible refine (bits_digit.calls kj32 (bt a0 x14_2) t161 _ A43.out).mono ?_); rintro e w' ⟨rfl, ⟨nd, rfl⟩⟩; refine ⟨_, rfl, ?_⟩; (try (rw [drewN_self wc]; generalize hq_ : World.drewN wc _ = wc; have n0_ : Aside0 (wc.heap[gb153]? = some (.cells #[.int .i64 x154000_2, .int .u64 x154001_2, .int .u64 x154002_2] 24 (0, 0))) := ⟨by rw [← hq_]; exact (by (with_reducible repeat (refine blk_drewN ?_ _)); exact BK153.out)⟩; have n1_ : Aside0 (wc.heap[gb154]? = some (.cells #[.int .i64 x155000_2, .int .u64 x155001_2, .int .u64 x155002_2] 24 (0, 0))) := ⟨by rw [← hq_]; exact (by (with_reducible repeat (refine blk_drewN ?_ _)); exact BK154.out)⟩; have n2_ : Aside0 (wc.heap[gb157]? = some (.cells #[.int .i64 0, .int .u64 0, .int .u64 0] 24 (0, 0))) := ⟨by rw [← hq_]; exact (by (with_reducible repeat (refine blk_drewN ?_ _)); exact BK157.out)⟩; have n3_ : Aside0 (Below w.heap.size w wc) := ⟨by rw [← hq_]; exact (by repeat (with_reducible first | exact HB.out | apply pw_below_drewN))⟩; clear BK153 BK154 BK157 HB hq_; have BK153 := n0_; have BK154 := n1_; have BK157 := n2_; have HB := n3_; clear n0_ n1_ n2_ n3_))) | (refine callA (some 77) Try.func75 #[.int .i64 a2, .int .u64 (IntKind.u64.wrap (t161))] ?_; (with_reducible refine (bits_Of.calls a2 (IntKind.u64.wrap (t161)) t162 t163 t164 _ A44.out).mono ?_); rintro e w45 ⟨rfl, hb⟩; refine ⟨_, rfl, ?_⟩; replace BK153 := bk1 BK153 hb; replace BK154 := bk1 BK154 hb; replace BK157 := bk1 BK157 hb; replace HB := hb1 HB hb; (try clear hb); have hnb46 := NB157_153.out; have hnc46 := NB153_157.out; have hnb47 := NB157_154.out; have hnc47 := NB154_157.out; obtain ⟨hcz48_0, hcz48_1, hcz48_2, hfz48_0, hfz48_1, hfz48_2⟩ := cf3 BK157))
            go_meet
            case rel => exact ⟨_, (t162), (t163), (t164), H', ⟨by have := HK1.out; have := HK2.out; have := HJ32.out; omega⟩, ⟨by refine blk_far ?_ NB153_157.out _; refine blk_far ?_ NB153_157.out _; refine blk_far ?_ NB153_157.out _; exact BK153.out⟩, ⟨by refine blk_far ?_ NB154_157.out _; refine blk_far ?_ NB154_157.out _; refine blk_far ?_ NB154_157.out _; exact BK154.out⟩, ⟨by refine blk_put (cs := #[.int .i64 t162, .int .u64 t163, .int .u64 0]) ?_ 2 _ rfl; refine blk_put (cs := #[.int .i64 t162, .int .u64 0, .int .u64 0]) ?_ 1 _ rfl; refine blk_put (cs := #[.int .i64 0, .int .u64 0, .int .u64 0]) ?_ 0 _ rfl; exact BK157.out⟩, ⟨by repeat (with_reducible first | exact HB.out | refine below_set ?_ GE157.out)⟩⟩
          case rest =>
           clear HC36
           obtain ⟨kq, x158000_35, x158001_35, x158002_35, HA, HJ35, BK153, BK154, BK157, HB⟩ := hcut
           cases kq with
           | zero => exact absurd HA.out (by simp [bits_grouped.j4])
           | succ kj35 =>
            have H := HA.out
            clear HA
            simp only [bits_grouped.j4] at H
            have H' := Aside0.mk H
            clear H
            go_wp2
            go_loopg [79] kj35 (fun kq v79 w' => ∃ (x79_5 : Int) (x154000_5 : Int) (x154001_5 : Int) (x154002_5 : Int), v79 = .int .i64 x79_5 ∧ Aside0 (bits_grouped.l2 kq a0 a1 a2 x13_2 x14_2 a2 x79_5 x155000_2 x155001_2 x155002_2 x158000_35 x158001_35 x158002_35 = some (r1, r2, r3, r4)) ∧ Aside0 (kq ≤ kj35) ∧ Aside0 (w'.heap[gb153]? = some (.cells #[.int .i64 x154000_5, .int .u64 x154001_5, .int .u64 x154002_5] 24 (0, 0))) ∧ Aside0 (w'.heap[gb154]? = some (.cells #[.int .i64 x155000_2, .int .u64 x155001_2, .int .u64 x155002_2] 24 (0, 0))) ∧ Aside0 (w'.heap[gb157]? = some (.cells #[.int .i64 x158000_35, .int .u64 x158001_35, .int .u64 x158002_35] 24 (0, 0))) ∧ Aside0 (Below w.heap.size w w'))
            case atStart => exact ⟨(0), (x154000_2), (x154001_2), (x154002_2), (by rfl), H', ⟨Nat.le_refl _⟩, ⟨by exact BK153.out⟩, ⟨by exact BK154.out⟩, ⟨by exact BK157.out⟩, ⟨by repeat (with_reducible exact HB.out)⟩⟩
            case round =>
             clear H'
             obtain ⟨x79_5, x154000_5, x154001_5, x154002_5, rfl, HA, HK5, BK153, BK154, BK157, HB⟩ := hrel
             cases gk with
             | zero => exact absurd HA.out (by simp [bits_grouped.l2])
             | succ k5 =>
              have H := HA.out
              clear HA
              simp only [bits_grouped.l2] at H
              replace H := iD H; rcases H with ⟨c49b0, H⟩ | ⟨c49b0, H⟩
              ·have HC50 := Aside0.mk H
               clear H
               go_upto_region 23 with (fail)
               go_cut [92] (fun v92 wc => ∃ (kq : Nat) (x92_49 : Bool), v92 = .bool x92_49 ∧ Aside0 (bits_grouped.j6 kq a0 a1 a2 x13_2 x14_2 a2 x79_5 x92_49 x155000_2 x155001_2 x155002_2 x158000_35 x158001_35 x158002_35 = some (r1, r2, r3, r4)) ∧ Aside0 (kq ≤ k5) ∧ Aside0 (wc.heap[gb153]? = some (.cells #[.int .i64 x154000_5, .int .u64 x154001_5, .int .u64 x154002_5] 24 (0, 0))) ∧ Aside0 (wc.heap[gb154]? = some (.cells #[.int .i64 x155000_2, .int .u64 x155001_2, .int .u64 x155002_2] 24 (0, 0))) ∧ Aside0 (wc.heap[gb157]? = some (.cells #[.int .i64 x158000_35, .int .u64 x158001_35, .int .u64 x158002_35] 24 (0, 0))) ∧ Aside0 (Below w.heap.size w wc))
               case first =>
                have H := HC50.out
                clear HC50
                replace H := iD H; rcases H with ⟨c51b0, H⟩ | ⟨c51b0, H⟩
                ·replace c51b0 : decide (a1 ≤ (wrap64 (x13_2 + x79_5))) = true := c51b0
                 (skip)
                 replace H := bN H; obtain ⟨t168, A52, H⟩ := H
                 have H' := Aside0.mk H
                 clear H
                 have hnb53 := NB157_153.out
                 have hnc53 := NB153_157.out
                 have hnb54 := NB157_154.out
                 have hnc54 := NB154_157.out
                 obtain ⟨hcz55_0, hcz55_1, hcz55_2, hfz55_0, hfz55_1, hfz55_2⟩ := cf3 BK157
                 go_wp2_with ((go_at_call 97; (with_reducible refine (bits_Bit.calls k5 x158000_35 x158001_35 x158002_35 x79_5 t168 _ A52.out).mono ?_); rintro e w56 ⟨rfl, hb⟩; replace BK153 := bk1 BK153 hb; replace BK154 := bk1 BK154 hb; replace BK157 := bk1 BK157 hb; replace HB := hb1 HB hb; (try clear hb)))
                 go_meet
                 case rel => exact ⟨_, (t168 != 48), (by rfl), H', ⟨by have := HK1.out; have := HK2.out; have := HJ32.out; have := HJ35.out; have := HK5.out; omega⟩, ⟨by exact BK153.out⟩, ⟨by exact BK154.out⟩, ⟨by exact BK157.out⟩, ⟨by repeat (with_reducible exact HB.out)⟩⟩
                ·replace c51b0 : decide (a1 ≤ (wrap64 (x13_2 + x79_5))) = false := c51b0
                 (skip)
                 have H' := Aside0.mk H
                 clear H
                 go_wp2
                 go_meet
                 case rel => exact ⟨_, (false), (by rfl), H', ⟨by have := HK1.out; have := HK2.out; have := HJ32.out; have := HJ35.out; have := HK5.out; omega⟩, ⟨by exact BK153.out⟩, ⟨by exact BK154.out⟩, ⟨by exact BK157.out⟩, ⟨by repeat (with_reducible exact HB.out)⟩⟩
               case rest =>
                clear HC50
                (try clear c49b0)
                obtain ⟨kq, x92_49, rfl, HA, HJ49, BK153, BK154, BK157, HB⟩ := hcut
                cases kq with
                | zero => exact absurd HA.out (by simp [bits_grouped.j6])
                | succ kj49 =>
                 have H := HA.out
                 clear HA
                 simp only [bits_grouped.j6] at H
                 replace H := iB H; rcases H with ⟨rfl, H⟩ | ⟨rfl, H⟩
                 ·replace H := iN H; obtain ⟨c58b0, H⟩ := H
                  replace H := iN H; obtain ⟨c59b0, H⟩ := H
                  have HC61 := Aside0.mk H
                  clear H
                  have p60 : 0 ≤ (x14_2 : Int) := of_decide_eq_true (by (with_reducible assumption))
                  have q60 : x14_2 < (a0.size : Int) := of_decide_eq_true (by (with_reducible assumption))
                  have hx60 := bt_at a0 x14_2
                  replace p60 := eq_true p60
                  replace q60 := eq_true q60
                  go_upto_region 25 with (fail)
                  go_cut [106] (fun v106 wc => ∃ (kq : Nat) (x106_60 : Bool), v106 = .bool x106_60 ∧ Aside0 (bits_grouped.j7 kq a0 a1 a2 x13_2 x14_2 a2 x79_5 x106_60 x155000_2 x155001_2 x155002_2 x158000_35 x158001_35 x158002_35 = some (r1, r2, r3, r4)) ∧ Aside0 (kq ≤ kj49) ∧ Aside0 (wc.heap[gb153]? = some (.cells #[.int .i64 x154000_5, .int .u64 x154001_5, .int .u64 x154002_5] 24 (0, 0))) ∧ Aside0 (wc.heap[gb154]? = some (.cells #[.int .i64 x155000_2, .int .u64 x155001_2, .int .u64 x155002_2] 24 (0, 0))) ∧ Aside0 (wc.heap[gb157]? = some (.cells #[.int .i64 x158000_35, .int .u64 x158001_35, .int .u64 x158002_35] 24 (0, 0))) ∧ Aside0 (Below w.heap.size w wc))
                  case first =>
                   have H := HC61.out
                   clear HC61
                   replace H := iE H; rcases H with ⟨c62b0, c62b1, H⟩ | ⟨c62, c62b0, c62b1, H⟩
                   ·(skip)
                    have H' := Aside0.mk H
                    clear H
                    go_wp2
                    go_meet
                    case rel => exact ⟨_, (decide (x13_2 < a1)), (by rfl), H', ⟨by have := HK1.out; have := HK2.out; have := HJ32.out; have := HJ35.out; have := HK5.out; have := HJ49.out; omega⟩, ⟨by exact BK153.out⟩, ⟨by exact BK154.out⟩, ⟨by exact BK157.out⟩, ⟨by repeat (with_reducible exact HB.out)⟩⟩
                   ·(skip)
                    replace H := iE H; rcases H with ⟨c63b0, c63b1, H⟩ | ⟨c63, c63b0, c63b1, H⟩
                    ·have H' := Aside0.mk H
                     clear H
                     go_wp2
                     go_meet
                     case rel => exact ⟨_, (decide (x13_2 < a1)), (by rfl), H', ⟨by have := HK1.out; have := HK2.out; have := HJ32.out; have := HJ35.out; have := HK5.out; have := HJ49.out; omega⟩, ⟨by exact BK153.out⟩, ⟨by exact BK154.out⟩, ⟨by exact BK157.out⟩, ⟨by repeat (with_reducible exact HB.out)⟩⟩
                    ·have H' := Aside0.mk H
                     clear H
                     go_wp2
                     go_meet
                     case rel => exact ⟨_, (false), (by rfl), H', ⟨by have := HK1.out; have := HK2.out; have := HJ32.out; have := HJ35.out; have := HK5.out; have := HJ49.out; omega⟩, ⟨by exact BK153.out⟩, ⟨by exact BK154.out⟩, ⟨by exact BK157.out⟩, ⟨by repeat (with_reducible exact HB.out)⟩⟩
                  case rest =>
                   clear HC61
                   (try clear c58b0); (try clear c59b0); (try clear p60); (try clear q60); (try clear hx60)
                   obtain ⟨kq, x106_60, rfl, HA, HJ60, BK153, BK154, BK157, HB⟩ := hcut
                   cases kq with
                   | zero => exact absurd HA.out (by simp [bits_grouped.j7])
                   | succ kj60 =>
                    have H := HA.out
                    clear HA
                    simp only [bits_grouped.j7] at H
                    replace H := iB H; rcases H with ⟨rfl, H⟩ | ⟨rfl, H⟩
                    ·have H' := Aside0.mk H
                     clear H
                     go_wp2
                     go_roundg kj60
                     case measure => have := HK1.out; have := HK2.out; have := HJ32.out; have := HJ35.out; have := HK5.out; have := HJ49.out; have := HJ60.out; omega
                     case rel => exact ⟨(wrap64 (x79_5 + 1)), (x154000_5), (x154001_5), (x154002_5), (by rfl), H', ⟨by have := HK1.out; have := HK2.out; have := HJ32.out; have := HJ35.out; have := HK5.out; have := HJ49.out; have := HJ60.out; omega⟩, ⟨by exact BK153.out⟩, ⟨by exact BK154.out⟩, ⟨by exact BK157.out⟩, ⟨by repeat (with_reducible exact HB.out)⟩⟩
                    ·replace H := s4 H; obtain ⟨rfl, rfl, rfl, rfl⟩ := H
                     have hnb65 := NB153_154.out
                     have hnc65 := NB154_153.out
                     have hnb66 := NB153_157.out
                     have hnc66 := NB157_153.out
                     obtain ⟨hcz67_0, hcz67_1, hcz67_2, hfz67_0, hfz67_1, hfz67_2⟩ := cf3 BK153
                     go_wp2
                     refine bodyPost_ret (results_ct rfl _ _ gb153 24 #[.int .i64 0, .int .u64 0, .int .u64 0] (0, 0) _ rfl (by refine blk_put (cs := #[.int .i64 0, .int .u64 0, .int .u64 x154002_5]) ?_ 2 _ rfl; refine blk_put (cs := #[.int .i64 0, .int .u64 x154001_5, .int .u64 x154002_5]) ?_ 1 _ rfl; refine blk_put (cs := #[.int .i64 x154000_5, .int .u64 x154001_5, .int .u64 x154002_5]) ?_ 0 _ rfl; exact BK153.out) Try.underlying24 rfl (by kernel_rfl)) rfl ?_
                     exact ⟨by rfl, by repeat (with_reducible first | exact HB.out | refine below_set ?_ GE153.out)⟩
                 ·have H' := Aside0.mk H
                  clear H
                  go_wp2
                  go_roundg kj49
                  case measure => have := HK1.out; have := HK2.out; have := HJ32.out; have := HJ35.out; have := HK5.out; have := HJ49.out; omega
                  case rel => exact ⟨(wrap64 (x79_5 + 1)), (x154000_5), (x154001_5), (x154002_5), (by rfl), H', ⟨by have := HK1.out; have := HK2.out; have := HJ32.out; have := HJ35.out; have := HK5.out; have := HJ49.out; omega⟩, ⟨by exact BK153.out⟩, ⟨by exact BK154.out⟩, ⟨by exact BK157.out⟩, ⟨by repeat (with_reducible exact HB.out)⟩⟩
              ·replace H := bN H; obtain ⟨⟨t165, t166, t167⟩, A68, H⟩ := H; dsimp only at H
               have H' := Aside0.mk H
               clear H
               have hnb69 := NB154_153.out
               have hnc69 := NB153_154.out
               have hnb70 := NB154_157.out
               have hnc70 := NB157_154.out
               obtain ⟨hcz71_0, hcz71_1, hcz71_2, hfz71_0, hfz71_1, hfz71_2⟩ := cf3 BK154
               have hnb72 := NB157_153.out
               have hnc72 := NB153_157.out
               obtain ⟨hcz73_0, hcz73_1, hcz73_2, hfz73_0, hfz73_1, hfz73_2⟩ := cf3 BK157
               go_wp2_with ((refine callA (some 112) Try.func98 #[.agg #[.int .i64 x155000_2, .int .u64 x155001_2, .int .u64 x155002_2], .int .i64 x13_2, .agg #[.int .i64 x158000_35, .int .u64 x158001_35, .int .u64 x158002_35]] ?_; (with_reducible refine (bits_Put.calls k5 x155000_2 x155001_2 x155002_2 x13_2 x158000_35 x158001_35 x158002_35 t165 t166 t167 _ A68.out).mono ?_); rintro e w74 ⟨rfl, hb⟩; refine ⟨_, rfl, ?_⟩; replace BK153 := bk1 BK153 hb; replace BK154 := bk1 BK154 hb; replace BK157 := bk1 BK157 hb; replace HB := hb1 HB hb; (try clear hb); obtain ⟨hcz75_0, hcz75_1, hcz75_2, hfz75_0, hfz75_1, hfz75_2⟩ := cf3 BK154))
               go_roundg k5
               case measure => have := HK1.out; have := HK2.out; have := HJ32.out; have := HJ35.out; have := HK5.out; omega
               case rel => exact ⟨(wrap64 (x13_2 + a2)), (wrap64 (x14_2 - 1)), (x154000_5), (x154001_5), (x154002_5), (t165), (t166), (t167), (by rfl), (by rfl), H', ⟨by have := HK1.out; have := HK2.out; have := HJ32.out; have := HJ35.out; have := HK5.out; omega⟩, ⟨by refine blk_far ?_ NB153_154.out _; refine blk_far ?_ NB153_154.out _; refine blk_far ?_ NB153_154.out _; exact BK153.out⟩, ⟨by refine blk_put (cs := #[.int .i64 t165, .int .u64 t166, .int .u64 x155002_2]) ?_ 2 _ rfl; refine blk_put (cs := #[.int .i64 t165, .int .u64 x155001_2, .int .u64 x155002_2]) ?_ 1 _ rfl; refine blk_put (cs := #[.int .i64 x155000_2, .int .u64 x155001_2, .int .u64 x155002_2]) ?_ 0 _ rfl; exact BK154.out⟩, ⟨by repeat (with_reducible first | exact HB.out | refine below_set ?_ GE154.out)⟩⟩
       ·replace c29b0 : decide (0 ≤ x14_2) = false := c29b0
        by_cases c76 : 0 < (a0.size : Int)
        ·rw [if_pos c76] at H
         have c76b0 : decide (0 < (a0.size : Int)) = true := decide_eq_true c76
         have c76b1 : decide (0 < a0.size) = true := decide_eq_true (by omega)
         clear c76
         have HC78 := Aside0.mk H
         clear H
         have p77 : 0 ≤ (0 : Int) := (by omega)
         have q77 : 0 < a0.size := (by have : (0 : Int) < (a0.size : Int) := of_decide_eq_true (by (with_reducible assumption)); omega)
         have hx77 : ∀ h : 0 < a0.size, ((a0[0]'h).toNat : Int) = bt a0 0 := bt_at a0 0
         clear p77
         have qi77 : (0 < (a0.size : Int)) = True := eq_true (of_decide_eq_true (by (with_reducible assumption)))
         replace q77 := eq_true q77
         go_upto_region 31 with (fail)
         go_cut [128] (fun v128 wc => ∃ (kq : Nat) (x128_77 : Bool), v128 = .bool x128_77 ∧ Aside0 (bits_grouped.j8 kq a1 x13_2 (bt a0 0) x128_77 x155000_2 x155001_2 x155002_2 = some (r1, r2, r3, r4)) ∧ Aside0 (kq ≤ k2) ∧ Aside0 (wc.heap[gb153]? = some (.cells #[.int .i64 x154000_2, .int .u64 x154001_2, .int .u64 x154002_2] 24 (0, 0))) ∧ Aside0 (wc.heap[gb154]? = some (.cells #[.int .i64 x155000_2, .int .u64 x155001_2, .int .u64 x155002_2] 24 (0, 0))) ∧ Aside0 (Below w.heap.size w wc))
         case first =>
          have H := HC78.out
          clear HC78
          replace H := iE H; rcases H with ⟨c79b0, c79b1, H⟩ | ⟨c79, c79b0, c79b1, H⟩
          ·(skip)
           have H' := Aside0.mk H
           clear H
           go_wp2
           go_meet
           case rel => exact ⟨_, (decide (x13_2 < a1)), (by rfl), H', ⟨by have := HK1.out; have := HK2.out; omega⟩, ⟨by exact BK153.out⟩, ⟨by exact BK154.out⟩, ⟨by repeat (with_reducible exact HB.out)⟩⟩
          ·(skip)
           replace H := iE H; rcases H with ⟨c80b0, c80b1, H⟩ | ⟨c80, c80b0, c80b1, H⟩
           ·have H' := Aside0.mk H
            clear H
            go_wp2
            go_meet
            case rel => exact ⟨_, (decide (x13_2 < a1)), (by rfl), H', ⟨by have := HK1.out; have := HK2.out; omega⟩, ⟨by exact BK153.out⟩, ⟨by exact BK154.out⟩, ⟨by repeat (with_reducible exact HB.out)⟩⟩
           ·have H' := Aside0.mk H
            clear H
            go_wp2
            go_meet
            case rel => exact ⟨_, (false), (by rfl), H', ⟨by have := HK1.out; have := HK2.out; omega⟩, ⟨by exact BK153.out⟩, ⟨by exact BK154.out⟩, ⟨by repeat (with_reducible exact HB.out)⟩⟩
         case rest =>
          clear HC78
          (try clear c29b0); (try clear c76b0); (try clear c76b1); (try clear q77); (try clear hx77); (try clear qi77)
          obtain ⟨kq, x128_77, rfl, HA, HJ77, BK153, BK154, HB⟩ := hcut
          cases kq with
          | zero => exact absurd HA.out (by simp [bits_grouped.j8])
          | succ kj77 =>
           have H := HA.out
           clear HA
           simp only [bits_grouped.j8] at H
           replace H := iB H; rcases H with ⟨rfl, H⟩ | ⟨rfl, H⟩
           ·replace H := bN H; obtain ⟨⟨t169, t170, t171⟩, A82, H⟩ := H; dsimp only at H
            replace H := bN H; obtain ⟨⟨t172, t173, t174⟩, A83, H⟩ := H; dsimp only at H
            replace H := s4 H; obtain ⟨rfl, rfl, rfl, rfl⟩ := H
            try go_wp2
            replace BK153 := bkd BK153
            replace BK154 := bkd BK154
            replace HB := hbd HB
            refine start_ (n := 9) (S := fun w' => w'.cell? ⟨gb154, 0, none⟩ = some (.int .i64 x155000_2) ∧ w'.cell? ⟨gb154, 1, none⟩ = some (.int .u64 x155001_2) ∧ w'.cell? ⟨gb154, 2, none⟩ = some (.int .u64 x155002_2)) (ds := [8]) (tb 9 0) (by kernel_rfl) rfl (by kernel_rfl) (d3 BK154) (fun hHeld => ?_); refine with_tabW bits_grouped.tab32 bits_grouped.bits32 (fun HT_ HW_ => ?_)
            generalize wc.drew = w84 at BK153 BK154 HB hHeld ⊢
            refine pA 1 130 (tb 9 2) HT_ ?_
            refine pA 2 131 (tb 9 6) HT_ ?_
            refine pA 3 132 (tb 9 14) HT_ ?_
            refine pA 4 133 (tb 9 30) HT_ ?_
            refine pA 5 134 (tb 9 62) HT_ ?_
            refine tA 0 129 (tb 9 63) HT_ HW_ hHeld ?_
            refine oA 6 (some 135) (tb 9 127) HT_ (fun K hK => ?_)
            refine gA Try.func95 #[.int .i64 (wrap64 (a1 - x13_2)), .int .u8 (bt a0 0)] ?_
            with_reducible refine (bits_All.calls kj77 (wrap64 (a1 - x13_2)) (bt a0 0) t169 t170 t171 _ A82.out).mono ?_
            rintro e w85 ⟨rfl, hb⟩
            refine ⟨_, rfl, ?_⟩
            replace BK153 := bk1 BK153 hb
            replace BK154 := bk1 BK154 hb
            replace HB := hb1 HB hb
            (try clear hb)
            refine hK.out _ _ (d3 BK154) (fun hHeld => ?_)
            clear hK K
            refine nA ?_
            refine oA 7 (some 136) (tb 9 255) HT_ (fun K hK => ?_)
            refine gA Try.func98 #[.agg #[.int .i64 x155000_2, .int .u64 x155001_2, .int .u64 x155002_2], .int .i64 x13_2, .agg #[.int .i64 t169, .int .u64 t170, .int .u64 t171]] ?_
            with_reducible refine (bits_Put.calls kj77 x155000_2 x155001_2 x155002_2 x13_2 t169 t170 t171 t172 t173 t174 _ A83.out).mono ?_
            rintro e w86 ⟨rfl, hb⟩
            refine ⟨_, rfl, ?_⟩
            replace BK153 := bk1 BK153 hb
            replace BK154 := bk1 BK154 hb
            replace HB := hb1 HB hb
            (try clear hb)
            refine hK.out _ _ (d3 BK154) (fun hHeld => ?_)
            clear hK K
            refine nA ?_
            refine last_ (i := 8) (N := none) #[true, true, true, true, true, true, true, true, true] rfl rfl (one_of HT_.out (by kernel_rfl)) (by decide) (fun K hK => ?_)
            have hs87 : w86.cell? ⟨gb154, 0, none⟩ = some (.int .i64 x155000_2) := (blk_cell BK154.out 0).trans rfl
            have hfs87 := blk_frozen BK154.out 0
            have hns87_0 := NB153_154.out
            have hms87_0 := NB154_153.out
            have hs88 : w86.cell? ⟨gb154, 1, none⟩ = some (.int .u64 x155001_2) := (blk_cell BK154.out 1).trans rfl
            have hfs88 := blk_frozen BK154.out 1
            have hns88_0 := NB153_154.out
            have hms88_0 := NB154_153.out
            have hs89 : w86.cell? ⟨gb154, 2, none⟩ = some (.int .u64 x155002_2) := (blk_cell BK154.out 2).trans rfl
            have hfs89 := blk_frozen BK154.out 2
            have hns89_0 := NB153_154.out
            have hms89_0 := NB154_153.out
            refine skip_ (w1 := ?_) (by rfl) rfl ?_ ?_
            rotate_left
            ·go_simp
             rfl
            refine hK.out _ _ ?_
            clear hK K
            refine done_ (done_of HT_.out (by kernel_rfl)) ?_
            have hnb90 := NB154_153.out
            have hnc90 := NB153_154.out
            obtain ⟨hcz91_0, hcz91_1, hcz91_2, hfz91_0, hfz91_1, hfz91_2⟩ := cf3 BK154
            obtain ⟨hcz92_0, hcz92_1, hcz92_2, hfz92_0, hfz92_1, hfz92_2⟩ := cf3 BK153
            try go_wp2
            refine bodyPost_ret (results_ct rfl _ _ gb153 24 #[.int .i64 t172, .int .u64 t173, .int .u64 t174] (0, 0) _ rfl (by refine blk_put (cs := #[.int .i64 t172, .int .u64 t173, .int .u64 x154002_2]) ?_ 2 _ rfl; refine blk_put (cs := #[.int .i64 t172, .int .u64 x154001_2, .int .u64 x154002_2]) ?_ 1 _ rfl; refine blk_put (cs := #[.int .i64 x154000_2, .int .u64 x154001_2, .int .u64 x154002_2]) ?_ 0 _ rfl; refine blk_far ?_ NB153_154.out _; refine blk_far ?_ NB153_154.out _; refine blk_far ?_ NB153_154.out _; exact BK153.out) Try.underlying24 rfl (by kernel_rfl)) rfl ?_
            exact ⟨by rfl, by repeat (with_reducible first | exact HB.out | refine below_set ?_ GE153.out | refine below_set ?_ GE154.out)⟩
           ·replace H := s4 H; obtain ⟨rfl, rfl, rfl, rfl⟩ := H
            have hnb93 := NB154_153.out
            have hnc93 := NB153_154.out
            obtain ⟨hcz94_0, hcz94_1, hcz94_2, hfz94_0, hfz94_1, hfz94_2⟩ := cf3 BK154
            obtain ⟨hcz95_0, hcz95_1, hcz95_2, hfz95_0, hfz95_1, hfz95_2⟩ := cf3 BK153
            go_wp2
            refine bodyPost_ret (results_ct rfl _ _ gb153 24 #[.int .i64 x155000_2, .int .u64 x155001_2, .int .u64 x155002_2] (0, 0) _ rfl (by refine blk_put (cs := #[.int .i64 x155000_2, .int .u64 x155001_2, .int .u64 x154002_2]) ?_ 2 _ rfl; refine blk_put (cs := #[.int .i64 x155000_2, .int .u64 x154001_2, .int .u64 x154002_2]) ?_ 1 _ rfl; refine blk_put (cs := #[.int .i64 x154000_2, .int .u64 x154001_2, .int .u64 x154002_2]) ?_ 0 _ rfl; exact BK153.out) Try.underlying24 rfl (by kernel_rfl)) rfl ?_
            exact ⟨by rfl, by repeat (with_reducible first | exact HB.out | refine below_set ?_ GE153.out)⟩
        ·rw [if_neg c76] at H
         exact absurd H (by simp)
    ·replace H := s4 H; obtain ⟨rfl, rfl, rfl, rfl⟩ := H
     have hnb96 := NB153_154.out
     have hnc96 := NB154_153.out
     obtain ⟨hcz97_0, hcz97_1, hcz97_2, hfz97_0, hfz97_1, hfz97_2⟩ := cf3 BK153
     go_wp2
     refine bodyPost_ret (results_ct rfl _ _ gb153 24 #[.int .i64 0, .int .u64 0, .int .u64 0] (0, 0) _ rfl (by refine blk_put (cs := #[.int .i64 0, .int .u64 0, .int .u64 x154002_1]) ?_ 2 _ rfl; refine blk_put (cs := #[.int .i64 0, .int .u64 x154001_1, .int .u64 x154002_1]) ?_ 1 _ rfl; refine blk_put (cs := #[.int .i64 x154000_1, .int .u64 x154001_1, .int .u64 x154002_1]) ?_ 0 _ rfl; exact BK153.out) Try.underlying24 rfl (by kernel_rfl)) rfl ?_
     exact ⟨by rfl, by repeat (with_reducible first | exact HB.out | refine below_set ?_ GE153.out)⟩
end Go.Proofs.Ytlamgdibnnmbmaa.PLex
end
section
namespace Go.Proofs.Ytlamgdibnnmbmaa.PLex
open Go.RowKit Go.Proofs.YtlamgdibnnmbmaaW.PrintWords Go.Proofs.YtlamgdibnnmbmaaW.PrintLast Go.Proofs.YtlamgdibnnmbmaaW.PrintMore
attribute [local go_sem] max2_int min2_int max_two min_two max_three min_three max_four min_four
set_option linter.unusedVariables false
set_option linter.unusedSimpArgs false
mutual
def bits_Read.j0 : Nat → ByteArray → Int → Int → Int → Bool → Option (Int × Int × Int × Int)
 | 0, _, _, _, _, _ => none
 | k + 1, x0, x4, x5, x6, x27 => if x27 = true then (some (0, 0, 0, 10)) else (if 0 ≤ (wrap64 (x5 + 1)) then (if (wrap64 (x5 + 1)) ≤ (x0.size : Int) then (if ((x0.extract ((wrap64 (x5 + 1)) : Int).toNat x0.size).size : Int) > 0 then (if 0 < ((x0.extract ((wrap64 (x5 + 1)) : Int).toNat x0.size).size : Int) then (bits_Read.j1 k (x0.extract ((wrap64 (x5 + 1)) : Int).toNat x0.size) x4 x6 ((bt (x0.extract ((wrap64 (x5 + 1)) : Int).toNat x0.size) 0) == 115)) else (none)) else (bits_Read.j1 k (x0.extract ((wrap64 (x5 + 1)) : Int).toNat x0.size) x4 x6 false)) else (none)) else (none))
def bits_Read.j1 : Nat → ByteArray → Int → Int → Bool → Option (Int × Int × Int × Int)
 | 0, _, _, _, _ => none
 | k + 1, x0, x4, x6, x40 => if x40 = true then (if 1 ≤ (x0.size : Int) then (bits_Read.j2 k (x0.extract 1 x0.size) x4 x6) else (none)) else (bits_Read.j2 k x0 x4 x6)
def bits_Read.j2 : Nat → ByteArray → Int → Int → Option (Int × Int × Int × Int)
 | 0, _, _, _ => none
 | k + 1, x0, x4, x6 => if (x0.size : Int) < 2 then (some (0, 0, 0, 10)) else (if 0 < (x0.size : Int) then (if (bt x0 0) = 98 then (bits_Read.j3 k x0 x4 x6 1) else (if (bt x0 0) = 111 then (bits_Read.j3 k x0 x4 x6 3) else (if (bt x0 0) = 104 then (bits_Read.j3 k x0 x4 x6 4) else (if (bt x0 0) = 100 then (if 1 ≤ (x0.size : Int) then ((bits_decimal.f k (x0.extract 1 x0.size) x4 x6).bind fun bt179 => (some (bt179.1, bt179.2.1, bt179.2.2.1, bt179.2.2.2))) else (none)) else (bits_Read.j3 k x0 x4 x6 0))))) else (none))
def bits_Read.j3 : Nat → ByteArray → Int → Int → Int → Option (Int × Int × Int × Int)
 | 0, _, _, _, _ => none
 | k + 1, x0, x4, x6, x7 => if x7 = 0 then (some (0, 0, 0, 10)) else (if 1 ≤ (x0.size : Int) then ((bits_grouped.f k (x0.extract 1 x0.size) x4 x7 x6).bind fun bt183 => (some (bt183.1, bt183.2.1, bt183.2.2.1, bt183.2.2.2))) else (none))
end
def bits_Read.f (k : Nat) (a0 : ByteArray) : Option (Int × Int × Int × Int) := (bits_size.f k a0).bind fun bt176 => (if bt176.2.2 = 10 then (bits_Read.j0 k a0 bt176.1 bt176.2.1 bt176.2.2 true) else (if bt176.2.1 ≥ (a0.size : Int) then (bits_Read.j0 k a0 bt176.1 bt176.2.1 bt176.2.2 true) else (if 0 ≤ bt176.2.1 then (if bt176.2.1 < (a0.size : Int) then (bits_Read.j0 k a0 bt176.1 bt176.2.1 bt176.2.2 ((bt a0 bt176.2.1) != 39)) else (none)) else (none))))
theorem bits_Read.mono_l : ∀ k, (∀ y0 y1 y2 y3 y4, LeO (bits_Read.j0 k y0 y1 y2 y3 y4) (bits_Read.j0 (k + 1) y0 y1 y2 y3 y4)) ∧ (∀ y0 y1 y2 y3, LeO (bits_Read.j1 k y0 y1 y2 y3) (bits_Read.j1 (k + 1) y0 y1 y2 y3)) ∧ (∀ y0 y1 y2, LeO (bits_Read.j2 k y0 y1 y2) (bits_Read.j2 (k + 1) y0 y1 y2)) ∧ (∀ y0 y1 y2 y3, LeO (bits_Read.j3 k y0 y1 y2 y3) (bits_Read.j3 (k + 1) y0 y1 y2 y3))
 | 0 => ⟨fun _ _ _ _ _ r h => by simp [bits_Read.j0] at h, fun _ _ _ _ r h => by simp [bits_Read.j1] at h, fun _ _ _ r h => by simp [bits_Read.j2] at h, fun _ _ _ _ r h => by simp [bits_Read.j3] at h⟩
 | k + 1 => by
  obtain ⟨ih0, ih1, ih2, ih3⟩ := bits_Read.mono_l k
  refine ⟨?_, ?_, ?_, ?_⟩
  ·intro y0 y1 y2 y3 y4
   unfold bits_Read.j0
   repeat' first | with_reducible exact ih0 _ _ _ _ _ | with_reducible exact ih1 _ _ _ _ | with_reducible exact ih2 _ _ _ | with_reducible exact ih3 _ _ _ _ | with_reducible exact bits_decimal.mono _ _ _ _ | with_reducible exact bits_grouped.mono _ _ _ _ _ | with_reducible exact bits_size.mono _ _ | with_reducible exact LeO.refl _ | with_reducible exact LeO.none _ | with_reducible refine LeO.ite ?_ ?_ | with_reducible refine LeO.bind ?_ (fun _ => ?_)
  ·intro y0 y1 y2 y3
   unfold bits_Read.j1
   repeat' first | with_reducible exact ih0 _ _ _ _ _ | with_reducible exact ih1 _ _ _ _ | with_reducible exact ih2 _ _ _ | with_reducible exact ih3 _ _ _ _ | with_reducible exact bits_decimal.mono _ _ _ _ | with_reducible exact bits_grouped.mono _ _ _ _ _ | with_reducible exact bits_size.mono _ _ | with_reducible exact LeO.refl _ | with_reducible exact LeO.none _ | with_reducible refine LeO.ite ?_ ?_ | with_reducible refine LeO.bind ?_ (fun _ => ?_)
  ·intro y0 y1 y2
   unfold bits_Read.j2
   repeat' first | with_reducible exact ih0 _ _ _ _ _ | with_reducible exact ih1 _ _ _ _ | with_reducible exact ih2 _ _ _ | with_reducible exact ih3 _ _ _ _ | with_reducible exact bits_decimal.mono _ _ _ _ | with_reducible exact bits_grouped.mono _ _ _ _ _ | with_reducible exact bits_size.mono _ _ | with_reducible exact LeO.refl _ | with_reducible exact LeO.none _ | with_reducible refine LeO.ite ?_ ?_ | with_reducible refine LeO.bind ?_ (fun _ => ?_)
  ·intro y0 y1 y2 y3
   unfold bits_Read.j3
   repeat' first | with_reducible exact ih0 _ _ _ _ _ | with_reducible exact ih1 _ _ _ _ | with_reducible exact ih2 _ _ _ | with_reducible exact ih3 _ _ _ _ | with_reducible exact bits_decimal.mono _ _ _ _ | with_reducible exact bits_grouped.mono _ _ _ _ _ | with_reducible exact bits_size.mono _ _ | with_reducible exact LeO.refl _ | with_reducible exact LeO.none _ | with_reducible refine LeO.ite ?_ ?_ | with_reducible refine LeO.bind ?_ (fun _ => ?_)
theorem bits_Read.mono : ∀ a0 k, LeO (bits_Read.f k a0) (bits_Read.f (k + 1) a0) := by
 intro a0 k
 obtain ⟨ih0, ih1, ih2, ih3⟩ := bits_Read.mono_l k
 unfold bits_Read.f
 repeat' first | with_reducible exact ih0 _ _ _ _ _ | with_reducible exact ih1 _ _ _ _ | with_reducible exact ih2 _ _ _ | with_reducible exact ih3 _ _ _ _ | with_reducible exact bits_decimal.mono _ _ _ _ | with_reducible exact bits_grouped.mono _ _ _ _ _ | with_reducible exact bits_size.mono _ _ | with_reducible exact LeO.refl _ | with_reducible exact LeO.none _ | with_reducible refine LeO.ite ?_ ?_ | with_reducible refine LeO.bind ?_ (fun _ => ?_)
set_option maxHeartbeats 8000000 in
set_option maxRecDepth 100000 in
theorem bits_Read.calls (k : Nat) (a0 : ByteArray) (r1 : Int) (r2 : Int) (r3 : Int) (r4 : Int) (w : World) (h : bits_Read.f k a0 = some (r1, r2, r3, r4)) :
  Calls Try.prog 73 #[.string a0] w fun e w' => e = .returned (.tuple #[.agg #[.int .i64 r1, .int .u64 r2, .int .u64 r3], .int .i64 r4]) ∧ Below w.heap.size w w' := by
 have hu24 := Try.underlying24
 have HB := Aside0.mk (Below.refl w.heap.size w)
 have H := h
 clear h
 unfold bits_Read.f at H
 replace H := bN H; obtain ⟨⟨t176, t177, t178⟩, A2, H⟩ := H; dsimp only at H
 have HC3 := Aside0.mk H
 clear H
 go_enter Try.func73, Try.ntmps73
 go_upto_region 2 with (first | ((with_reducible refine gate_dst (N := 2) rfl ?_); (try (refine gate_guard (by rfl) ?_; dsimp only)); refine boxA HB 2 #[.int .i64 0, .int .u64 0, .int .u64 0] 24 ?_; clear HB; intro gb175 w4 BK175 GE175 hg hb HB; clear hb hg) | (refine callA (some 10) Try.func87 #[.string a0] ?_; (with_reducible refine (bits_size.calls k a0 t176 t177 t178 _ A2.out).mono ?_); rintro e w5 ⟨rfl, hb⟩; refine ⟨_, rfl, ?_⟩; replace BK175 := bk1 BK175 hb; replace HB := hb1 HB hb; (try clear hb)))
 go_cut [27] (fun v27 wc => ∃ (kq : Nat) (x27_2 : Bool), v27 = .bool x27_2 ∧ Aside0 (bits_Read.j0 kq a0 t176 t177 t178 x27_2 = some (r1, r2, r3, r4)) ∧ Aside0 (kq ≤ k) ∧ Aside0 (wc.heap[gb175]? = some (.cells #[.int .i64 0, .int .u64 0, .int .u64 0] 24 (0, 0))) ∧ Aside0 (Below w.heap.size w wc))
 case first =>
  have H := HC3.out
  clear HC3
  replace H := iE H; rcases H with ⟨c6b0, c6b1, H⟩ | ⟨c6, c6b0, c6b1, H⟩
  ·(skip)
   have H' := Aside0.mk H
   clear H
   go_wp2
   go_meet
   case rel => exact ⟨_, (true), (by rfl), H', ⟨by omega⟩, ⟨by exact BK175.out⟩, ⟨by repeat (with_reducible exact HB.out)⟩⟩
  ·(skip)
   replace H := iD H; rcases H with ⟨c7b0, H⟩ | ⟨c7b0, H⟩
   ·replace c7b0 : decide ((a0.size : Int) ≤ t177) = true := c7b0
    have H' := Aside0.mk H
    clear H
    go_wp2
    go_meet
    case rel => exact ⟨_, (true), (by rfl), H', ⟨by omega⟩, ⟨by exact BK175.out⟩, ⟨by repeat (with_reducible exact HB.out)⟩⟩
   ·replace c7b0 : decide ((a0.size : Int) ≤ t177) = false := c7b0
    replace H := iN H; obtain ⟨c8b0, H⟩ := H
    replace H := iN H; obtain ⟨c9b0, H⟩ := H
    have H' := Aside0.mk H
    clear H
    have p10 : 0 ≤ (t177 : Int) := of_decide_eq_true (by (with_reducible assumption))
    have q10 : t177 < (a0.size : Int) := of_decide_eq_true (by (with_reducible assumption))
    have hx10 := bt_at a0 t177
    replace p10 := eq_true p10
    replace q10 := eq_true q10
    go_wp2
    go_meet
    case rel => exact ⟨_, ((bt a0 t177) != 39), (by rfl), H', ⟨by omega⟩, ⟨by exact BK175.out⟩, ⟨by repeat (with_reducible exact HB.out)⟩⟩
 case rest =>
  clear HC3
  obtain ⟨kq, x27_2, rfl, HA, HJ2, BK175, HB⟩ := hcut
  cases kq with
  | zero => exact absurd HA.out (by simp [bits_Read.j0])
  | succ kj2 =>
   have H := HA.out
   clear HA
   simp only [bits_Read.j0] at H
   replace H := iB H; rcases H with ⟨rfl, H⟩ | ⟨rfl, H⟩
   ·replace H := s4 H; obtain ⟨rfl, rfl, rfl, rfl⟩ := H
    obtain ⟨hcz12_0, hcz12_1, hcz12_2, hfz12_0, hfz12_1, hfz12_2⟩ := cf3 BK175
    go_wp2
    refine bodyPost_ret (results_ct rfl _ _ gb175 24 #[.int .i64 0, .int .u64 0, .int .u64 0] (0, 0) _ rfl (by refine blk_put (cs := #[.int .i64 0, .int .u64 0, .int .u64 0]) ?_ 2 _ rfl; refine blk_put (cs := #[.int .i64 0, .int .u64 0, .int .u64 0]) ?_ 1 _ rfl; refine blk_put (cs := #[.int .i64 0, .int .u64 0, .int .u64 0]) ?_ 0 _ rfl; exact BK175.out) Try.underlying24 rfl (by kernel_rfl)) rfl ?_
    exact ⟨by rfl, by repeat (with_reducible first | exact HB.out | refine below_set ?_ GE175.out)⟩
   ·obtain ⟨ji13, hji13⟩ : ∃ j_ : Int, (wrap64 (t177 + 1)) = j_ := ⟨_, rfl⟩
    replace H : (if 0 ≤ (ji13) then (if (ji13) ≤ (a0.size : Int) then (if ((a0.extract ((ji13) : Int).toNat a0.size).size : Int) > 0 then (if 0 < ((a0.extract ((ji13) : Int).toNat a0.size).size : Int) then (bits_Read.j1 kj2 (a0.extract ((ji13) : Int).toNat a0.size) t176 t178 ((bt (a0.extract ((ji13) : Int).toNat a0.size) 0) == 115)) else (none)) else (bits_Read.j1 kj2 (a0.extract ((ji13) : Int).toNat a0.size) t176 t178 false)) else (none)) else (none)) = some (r1, r2, r3, r4) := by (rw [hji13] at H; exact H)
    have hji13w : (IntKind.i64.wrap (t177 + 1)) = ji13 := (i64_w _).trans hji13
    by_cases c14 : 0 ≤ (ji13)
    ·rw [if_pos c14] at H
     have c14b0 := eq_true c14
     have c14b1 : decide (0 ≤ (ji13)) = true := decide_eq_true c14
     clear c14
     by_cases c15 : (ji13) ≤ (a0.size : Int)
     ·rw [if_pos c15] at H
      have c15b0 := eq_true c15
      have c15b1 : decide ((ji13) ≤ (a0.size : Int)) = true := decide_eq_true c15
      clear c15
      have HC16 := Aside0.mk H
      clear H
      go_upto_region 5 with (fail)
      go_cut [40] (fun v40 wc => ∃ (kq : Nat) (x40_15 : Bool), v40 = .bool x40_15 ∧ Aside0 (bits_Read.j1 kq (a0.extract ((ji13) : Int).toNat a0.size) t176 t178 x40_15 = some (r1, r2, r3, r4)) ∧ Aside0 (kq ≤ kj2) ∧ Aside0 (wc.heap[gb175]? = some (.cells #[.int .i64 0, .int .u64 0, .int .u64 0] 24 (0, 0))) ∧ Aside0 (Below w.heap.size w wc))
      case first =>
       have H := HC16.out
       clear HC16
       by_cases c17 : ((a0.extract ((ji13) : Int).toNat a0.size).size : Int) > 0
       ·rw [if_pos c17] at H
        have c17b0 : decide (0 < ((a0.extract ((ji13) : Int).toNat a0.size).size : Int)) = true := decide_eq_true c17
        try have c17b0e : decide (0 < ((a0.size - ((ji13) : Int).toNat : Nat) : Int)) = true := by have h_ := c17b0; simp only [ByteArray.size_extract, Nat.min_self] at h_; exact h_
        have c17b1 : decide (0 < (a0.extract ((ji13) : Int).toNat a0.size).size) = true := decide_eq_true (by omega)
        try have c17b1e : decide (0 < (a0.size - ((ji13) : Int).toNat)) = true := by have h_ := c17b1; simp only [ByteArray.size_extract, Nat.min_self] at h_; exact h_
        clear c17
        (skip)
        by_cases c18 : 0 < ((a0.extract ((ji13) : Int).toNat a0.size).size : Int)
        ·rw [if_pos c18] at H
         have c18b0 : decide (0 < ((a0.extract ((ji13) : Int).toNat a0.size).size : Int)) = true := decide_eq_true c18
         try have c18b0e : decide (0 < ((a0.size - ((ji13) : Int).toNat : Nat) : Int)) = true := by have h_ := c18b0; simp only [ByteArray.size_extract, Nat.min_self] at h_; exact h_
         have c18b1 : decide (0 < (a0.extract ((ji13) : Int).toNat a0.size).size) = true := decide_eq_true (by omega)
         try have c18b1e : decide (0 < (a0.size - ((ji13) : Int).toNat)) = true := by have h_ := c18b1; simp only [ByteArray.size_extract, Nat.min_self] at h_; exact h_
         clear c18
         have H' := Aside0.mk H
         clear H
         have p19 : 0 ≤ (0 : Int) := (by omega)
         have q19 : 0 < (a0.extract ((ji13) : Int).toNat a0.size).size := (by have : (0 : Int) < ((a0.extract ((ji13) : Int).toNat a0.size).size : Int) := of_decide_eq_true (by (with_reducible assumption)); omega)
         try have q19e : 0 < (a0.size - ((ji13) : Int).toNat) := by have h_ := q19; simp only [ByteArray.size_extract, Nat.min_self] at h_; exact h_
         have hx19 : ∀ h : 0 < (a0.extract ((ji13) : Int).toNat a0.size).size, (((a0.extract ((ji13) : Int).toNat a0.size)[0]'h).toNat : Int) = bt (a0.extract ((ji13) : Int).toNat a0.size) 0 := bt_at (a0.extract ((ji13) : Int).toNat a0.size) 0
         clear p19
         have qi19 : (0 < ((a0.extract ((ji13) : Int).toNat a0.size).size : Int)) = True := eq_true (of_decide_eq_true (by (with_reducible assumption)))
         try have qi19e : (0 < ((a0.size - ((ji13) : Int).toNat : Nat) : Int)) = True := by have h_ := qi19; simp only [ByteArray.size_extract, Nat.min_self] at h_; exact h_
         replace q19 := eq_true q19
         go_wp2
         go_meet
         case rel => exact ⟨_, (((bt (a0.extract ((ji13) : Int).toNat a0.size) 0) == 115)), (by (with_reducible rfl)), H', ⟨by have := HJ2.out; omega⟩, ⟨by exact BK175.out⟩, ⟨by repeat (with_reducible exact HB.out)⟩⟩
        ·rw [if_neg c18] at H
         exact absurd H (by simp)
       ·rw [if_neg c17] at H
        have c17b0 : decide (0 < ((a0.extract ((ji13) : Int).toNat a0.size).size : Int)) = false := decide_eq_false c17
        try have c17b0e : decide (0 < ((a0.size - ((ji13) : Int).toNat : Nat) : Int)) = false := by have h_ := c17b0; simp only [ByteArray.size_extract, Nat.min_self] at h_; exact h_
        have c17b1 : decide (0 < (a0.extract ((ji13) : Int).toNat a0.size).size) = false := decide_eq_false (by omega)
        try have c17b1e : decide (0 < (a0.size - ((ji13) : Int).toNat)) = false := by have h_ := c17b1; simp only [ByteArray.size_extract, Nat.min_self] at h_; exact h_
        clear c17
        (skip)
        have H' := Aside0.mk H
        clear H
        go_wp2
        go_meet
        case rel => exact ⟨_, (false), (by rfl), H', ⟨by have := HJ2.out; omega⟩, ⟨by exact BK175.out⟩, ⟨by repeat (with_reducible exact HB.out)⟩⟩
      case rest =>
       clear HC16
       (try clear c14b0); (try clear c14b1); (try clear c15b0); (try clear c15b1)
       obtain ⟨kq, x40_15, rfl, HA, HJ15, BK175, HB⟩ := hcut
       cases kq with
       | zero => exact absurd HA.out (by simp [bits_Read.j1])
       | succ kj15 =>
        have H := HA.out
        clear HA
        simp only [bits_Read.j1] at H
        have HC20 := Aside0.mk H
        clear H
        go_upto_if 40 with (fail)
        go_cut [0] (fun v0 wc => ∃ (kq : Nat) (x0_19 : ByteArray), v0 = .string x0_19 ∧ Aside0 (bits_Read.j2 kq x0_19 t176 t178 = some (r1, r2, r3, r4)) ∧ Aside0 (kq ≤ kj15) ∧ Aside0 (wc.heap[gb175]? = some (.cells #[.int .i64 0, .int .u64 0, .int .u64 0] 24 (0, 0))) ∧ Aside0 (Below w.heap.size w wc))
        case first =>
         have H := HC20.out
         clear HC20
         replace H := iB H; rcases H with ⟨rfl, H⟩ | ⟨rfl, H⟩
         ·by_cases c22 : 1 ≤ ((a0.extract ((ji13) : Int).toNat a0.size).size : Int)
          ·rw [if_pos c22] at H
           have c22b0 := eq_true c22
           have c22b1 : decide (1 ≤ ((a0.extract ((ji13) : Int).toNat a0.size).size : Int)) = true := decide_eq_true c22
           try have c22b1e : decide (1 ≤ ((a0.size - ((ji13) : Int).toNat : Nat) : Int)) = true := by have h_ := c22b1; simp only [ByteArray.size_extract, Nat.min_self] at h_; exact h_
           try have c22b1f : (1 ≤ ((a0.size - ((ji13) : Int).toNat : Nat) : Int)) = True := eq_true (of_decide_eq_true c22b1e)
           clear c22
           have H' := Aside0.mk H
           clear H
           go_wp2
           go_meet
           case rel => exact ⟨_, ((a0.extract ((ji13) : Int).toNat a0.size).extract 1 (a0.extract ((ji13) : Int).toNat a0.size).size), (by (simp only [ByteArray.size_extract, Nat.min_self]; done)), H', ⟨by have := HJ2.out; have := HJ15.out; omega⟩, ⟨by exact BK175.out⟩, ⟨by repeat (with_reducible exact HB.out)⟩⟩
          ·rw [if_neg c22] at H
           exact absurd H (by simp)
         ·have H' := Aside0.mk H
          clear H
          go_wp2
          go_meet
          case rel => exact ⟨_, ((a0.extract ((ji13) : Int).toNat a0.size)), (by (with_reducible rfl)), H', ⟨by have := HJ2.out; have := HJ15.out; omega⟩, ⟨by exact BK175.out⟩, ⟨by repeat (with_reducible exact HB.out)⟩⟩
        case rest =>
         clear HC20
         obtain ⟨kq, x0_19, rfl, HA, HJ19, BK175, HB⟩ := hcut
         cases kq with
         | zero => exact absurd HA.out (by simp [bits_Read.j2])
         | succ kj19 =>
          have H := HA.out
          clear HA
          simp only [bits_Read.j2] at H
          by_cases c23 : (x0_19.size : Int) < 2
          ·rw [if_pos c23] at H
           have c23b0 : decide ((x0_19.size : Int) < 2) = true := decide_eq_true c23
           have c23b1 : decide (x0_19.size < 2) = true := decide_eq_true (by omega)
           clear c23
           replace H := s4 H; obtain ⟨rfl, rfl, rfl, rfl⟩ := H
           obtain ⟨hcz24_0, hcz24_1, hcz24_2, hfz24_0, hfz24_1, hfz24_2⟩ := cf3 BK175
           go_wp2
           refine bodyPost_ret (results_ct rfl _ _ gb175 24 #[.int .i64 0, .int .u64 0, .int .u64 0] (0, 0) _ rfl (by refine blk_put (cs := #[.int .i64 0, .int .u64 0, .int .u64 0]) ?_ 2 _ rfl; refine blk_put (cs := #[.int .i64 0, .int .u64 0, .int .u64 0]) ?_ 1 _ rfl; refine blk_put (cs := #[.int .i64 0, .int .u64 0, .int .u64 0]) ?_ 0 _ rfl; exact BK175.out) Try.underlying24 rfl (by kernel_rfl)) rfl ?_
           exact ⟨by rfl, by repeat (with_reducible first | exact HB.out | refine below_set ?_ GE175.out)⟩
          ·rw [if_neg c23] at H
           have c23b0 : decide ((x0_19.size : Int) < 2) = false := decide_eq_false c23
           have c23b1 : decide (x0_19.size < 2) = false := decide_eq_false (by omega)
           clear c23
           by_cases c25 : 0 < (x0_19.size : Int)
           ·rw [if_pos c25] at H
            have c25b0 : decide (0 < (x0_19.size : Int)) = true := decide_eq_true c25
            have c25b1 : decide (0 < x0_19.size) = true := decide_eq_true (by omega)
            clear c25
            have HC27 := Aside0.mk H
            clear H
            have p26 : 0 ≤ (0 : Int) := (by omega)
            have q26 : 0 < x0_19.size := (by have : (0 : Int) < (x0_19.size : Int) := of_decide_eq_true (by (with_reducible assumption)); omega)
            have hx26 : ∀ h : 0 < x0_19.size, ((x0_19[0]'h).toNat : Int) = bt x0_19 0 := bt_at x0_19 0
            clear p26
            have qi26 : (0 < (x0_19.size : Int)) = True := eq_true (of_decide_eq_true (by (with_reducible assumption)))
            replace q26 := eq_true q26
            go_upto_block 0 with (fail)
            go_cut [7] (fun v7 wc => ∃ (kq : Nat) (x7_26 : Int) (x176000_26 : Int) (x176001_26 : Int) (x176002_26 : Int), v7 = .int .i64 x7_26 ∧ Aside0 (bits_Read.j3 kq x0_19 t176 t178 x7_26 = some (r1, r2, r3, r4)) ∧ Aside0 (kq ≤ kj19) ∧ Aside0 (wc.heap[gb175]? = some (.cells #[.int .i64 x176000_26, .int .u64 x176001_26, .int .u64 x176002_26] 24 (0, 0))) ∧ Aside0 (Below w.heap.size w wc))
            case first =>
             have H := HC27.out
             clear HC27
             replace H := iE H; rcases H with ⟨c28b0, c28b1, H⟩ | ⟨c28, c28b0, c28b1, H⟩
             ·(skip)
              have H' := Aside0.mk H
              clear H
              go_wp2
              go_meet
              case rel => exact ⟨_, (1), (0), (0), (0), (by rfl), H', ⟨by have := HJ2.out; have := HJ15.out; have := HJ19.out; omega⟩, ⟨by exact BK175.out⟩, ⟨by repeat (with_reducible exact HB.out)⟩⟩
             ·(skip)
              replace H := iE H; rcases H with ⟨c29b0, c29b1, H⟩ | ⟨c29, c29b0, c29b1, H⟩
              ·have H' := Aside0.mk H
               clear H
               go_wp2
               go_meet
               case rel => exact ⟨_, (3), (0), (0), (0), (by rfl), H', ⟨by have := HJ2.out; have := HJ15.out; have := HJ19.out; omega⟩, ⟨by exact BK175.out⟩, ⟨by repeat (with_reducible exact HB.out)⟩⟩
              ·replace H := iE H; rcases H with ⟨c30b0, c30b1, H⟩ | ⟨c30, c30b0, c30b1, H⟩
               ·have H' := Aside0.mk H
                clear H
                go_wp2
                go_meet
                case rel => exact ⟨_, (4), (0), (0), (0), (by rfl), H', ⟨by have := HJ2.out; have := HJ15.out; have := HJ19.out; omega⟩, ⟨by exact BK175.out⟩, ⟨by repeat (with_reducible exact HB.out)⟩⟩
               ·replace H := iE H; rcases H with ⟨c31b0, c31b1, H⟩ | ⟨c31, c31b0, c31b1, H⟩
                ·by_cases c32 : 1 ≤ (x0_19.size : Int)
                 ·rw [if_pos c32] at H
                  have c32b0 := eq_true c32
                  have c32b1 : decide (1 ≤ (x0_19.size : Int)) = true := decide_eq_true c32
                  clear c32
                  replace H := bN H; obtain ⟨⟨t179, t180, t181, t182⟩, A33, H⟩ := H; dsimp only at H
                  replace H := s4 H; obtain ⟨rfl, rfl, rfl, rfl⟩ := H
                  go_wp2_with ((refine callA (some 61) Try.func88 #[.string (x0_19.extract 1 x0_19.size), .int .i64 t176, .int .i64 t178] ?_; (with_reducible refine (bits_decimal.calls kj19 (x0_19.extract 1 x0_19.size) t176 t178 t179 t180 t181 t182 _ A33.out).mono ?_); rintro e w34 ⟨rfl, hb⟩; refine ⟨_, rfl, ?_⟩; replace BK175 := bk1 BK175 hb; replace HB := hb1 HB hb; (try clear hb); obtain ⟨hcz35_0, hcz35_1, hcz35_2, hfz35_0, hfz35_1, hfz35_2⟩ := cf3 BK175))
                  refine bodyPost_ret (results_ct rfl _ _ gb175 24 #[.int .i64 t179, .int .u64 t180, .int .u64 t181] (0, 0) _ rfl (by refine blk_put (cs := #[.int .i64 t179, .int .u64 t180, .int .u64 0]) ?_ 2 _ rfl; refine blk_put (cs := #[.int .i64 t179, .int .u64 0, .int .u64 0]) ?_ 1 _ rfl; refine blk_put (cs := #[.int .i64 0, .int .u64 0, .int .u64 0]) ?_ 0 _ rfl; exact BK175.out) Try.underlying24 rfl (by kernel_rfl)) rfl ?_
                  exact ⟨by rfl, by repeat (with_reducible first | exact HB.out | refine below_set ?_ GE175.out)⟩
                 ·rw [if_neg c32] at H
                  exact absurd H (by simp)
                ·have H' := Aside0.mk H
                 clear H
                 go_wp2
                 go_meet
                 case rel => exact ⟨_, (0), (0), (0), (0), (by rfl), H', ⟨by have := HJ2.out; have := HJ15.out; have := HJ19.out; omega⟩, ⟨by exact BK175.out⟩, ⟨by repeat (with_reducible exact HB.out)⟩⟩
            case rest =>
             clear HC27
             (try clear c23b0); (try clear c23b1); (try clear c25b0); (try clear c25b1); (try clear q26); (try clear hx26); (try clear qi26)
             obtain ⟨kq, x7_26, x176000_26, x176001_26, x176002_26, rfl, HA, HJ26, BK175, HB⟩ := hcut
             cases kq with
             | zero => exact absurd HA.out (by simp [bits_Read.j3])
             | succ kj26 =>
              have H := HA.out
              clear HA
              simp only [bits_Read.j3] at H
              replace H := iE H; rcases H with ⟨c36b0, c36b1, H⟩ | ⟨c36, c36b0, c36b1, H⟩
              ·replace H := s4 H; obtain ⟨rfl, rfl, rfl, rfl⟩ := H
               obtain ⟨hcz37_0, hcz37_1, hcz37_2, hfz37_0, hfz37_1, hfz37_2⟩ := cf3 BK175
               go_wp2
               refine bodyPost_ret (results_ct rfl _ _ gb175 24 #[.int .i64 0, .int .u64 0, .int .u64 0] (0, 0) _ rfl (by refine blk_put (cs := #[.int .i64 0, .int .u64 0, .int .u64 x176002_26]) ?_ 2 _ rfl; refine blk_put (cs := #[.int .i64 0, .int .u64 x176001_26, .int .u64 x176002_26]) ?_ 1 _ rfl; refine blk_put (cs := #[.int .i64 x176000_26, .int .u64 x176001_26, .int .u64 x176002_26]) ?_ 0 _ rfl; exact BK175.out) Try.underlying24 rfl (by kernel_rfl)) rfl ?_
               exact ⟨by rfl, by repeat (with_reducible first | exact HB.out | refine below_set ?_ GE175.out)⟩
              ·by_cases c38 : 1 ≤ (x0_19.size : Int)
               ·rw [if_pos c38] at H
                have c38b0 := eq_true c38
                have c38b1 : decide (1 ≤ (x0_19.size : Int)) = true := decide_eq_true c38
                clear c38
                replace H := bN H; obtain ⟨⟨t183, t184, t185, t186⟩, A39, H⟩ := H; dsimp only at H
                replace H := s4 H; obtain ⟨rfl, rfl, rfl, rfl⟩ := H
                go_wp2_with ((refine callA (some 72) Try.func89 #[.string (x0_19.extract 1 x0_19.size), .int .i64 t176, .int .i64 x7_26, .int .i64 t178] ?_; (with_reducible refine (bits_grouped.calls kj26 (x0_19.extract 1 x0_19.size) t176 x7_26 t178 t183 t184 t185 t186 _ A39.out).mono ?_); rintro e w40 ⟨rfl, hb⟩; refine ⟨_, rfl, ?_⟩; replace BK175 := bk1 BK175 hb; replace HB := hb1 HB hb; (try clear hb); obtain ⟨hcz41_0, hcz41_1, hcz41_2, hfz41_0, hfz41_1, hfz41_2⟩ := cf3 BK175))
                refine bodyPost_ret (results_ct rfl _ _ gb175 24 #[.int .i64 t183, .int .u64 t184, .int .u64 t185] (0, 0) _ rfl (by refine blk_put (cs := #[.int .i64 t183, .int .u64 t184, .int .u64 x176002_26]) ?_ 2 _ rfl; refine blk_put (cs := #[.int .i64 t183, .int .u64 x176001_26, .int .u64 x176002_26]) ?_ 1 _ rfl; refine blk_put (cs := #[.int .i64 x176000_26, .int .u64 x176001_26, .int .u64 x176002_26]) ?_ 0 _ rfl; exact BK175.out) Try.underlying24 rfl (by kernel_rfl)) rfl ?_
                exact ⟨by rfl, by repeat (with_reducible first | exact HB.out | refine below_set ?_ GE175.out)⟩
               ·rw [if_neg c38] at H
                exact absurd H (by simp)
           ·rw [if_neg c25] at H
            exact absurd H (by simp)
     ·rw [if_neg c15] at H
      exact absurd H (by simp)
    ·rw [if_neg c14] at H
     exact absurd H (by simp)
end Go.Proofs.Ytlamgdibnnmbmaa.PLex
end
section
namespace Go.Proofs.Ytlamgdibnnmbmaa.PLex
open Go.RowKit Go.Proofs.YtlamgdibnnmbmaaW.PrintWords Go.Proofs.YtlamgdibnnmbmaaW.PrintLast Go.Proofs.YtlamgdibnnmbmaaW.PrintMore
attribute [local go_sem] max2_int min2_int max_two min_two max_three min_three max_four min_four
set_option linter.unusedVariables false
set_option linter.unusedSimpArgs false
def lex_Signs.f  : Option (List ByteArray) := some (([(⟨#[33, 61, 61]⟩ : ByteArray), (⟨#[61, 61, 61]⟩ : ByteArray), (⟨#[62, 62, 62]⟩ : ByteArray), (⟨#[33, 61]⟩ : ByteArray), (⟨#[38, 38]⟩ : ByteArray), (⟨#[43, 58]⟩ : ByteArray), (⟨#[45, 62]⟩ : ByteArray), (⟨#[60, 60]⟩ : ByteArray), (⟨#[60, 61]⟩ : ByteArray), (⟨#[61, 61]⟩ : ByteArray), (⟨#[61, 62]⟩ : ByteArray), (⟨#[62, 61]⟩ : ByteArray), (⟨#[62, 62]⟩ : ByteArray), (⟨#[124, 124]⟩ : ByteArray), (⟨#[33]⟩ : ByteArray), (⟨#[35]⟩ : ByteArray), (⟨#[37]⟩ : ByteArray), (⟨#[38]⟩ : ByteArray), (⟨#[40]⟩ : ByteArray), (⟨#[41]⟩ : ByteArray), (⟨#[42]⟩ : ByteArray), (⟨#[43]⟩ : ByteArray), (⟨#[44]⟩ : ByteArray), (⟨#[45]⟩ : ByteArray), (⟨#[46]⟩ : ByteArray), (⟨#[47]⟩ : ByteArray), (⟨#[58]⟩ : ByteArray), (⟨#[59]⟩ : ByteArray), (⟨#[60]⟩ : ByteArray), (⟨#[61]⟩ : ByteArray), (⟨#[62]⟩ : ByteArray), (⟨#[63]⟩ : ByteArray), (⟨#[91]⟩ : ByteArray), (⟨#[93]⟩ : ByteArray), (⟨#[94]⟩ : ByteArray), (⟨#[123]⟩ : ByteArray), (⟨#[124]⟩ : ByteArray), (⟨#[125]⟩ : ByteArray), (⟨#[126]⟩ : ByteArray)] : List ByteArray))
set_option maxHeartbeats 8000000 in
set_option maxRecDepth 100000 in
theorem lex_Signs.calls  (r : List ByteArray) (w : World) (h : lex_Signs.f  = some r) :
  Calls Try.prog 52 #[] w fun e w' => ∃ v0_ : Value, e = .returned (v0_) ∧ Kd.R Kd.string 9 w' w.heap.size (fun _ => True) v0_ r ∧ Below w.heap.size w w' := by
 have HB := Aside0.mk (Below.refl w.heap.size w)
 have H := h
 clear h
 unfold lex_Signs.f at H
 obtain ⟨y191, hy191⟩ : ∃ y_ : List ByteArray, y_ = ([(⟨#[33, 61, 61]⟩ : ByteArray), (⟨#[61, 61, 61]⟩ : ByteArray), (⟨#[62, 62, 62]⟩ : ByteArray), (⟨#[33, 61]⟩ : ByteArray), (⟨#[38, 38]⟩ : ByteArray), (⟨#[43, 58]⟩ : ByteArray), (⟨#[45, 62]⟩ : ByteArray), (⟨#[60, 60]⟩ : ByteArray), (⟨#[60, 61]⟩ : ByteArray), (⟨#[61, 61]⟩ : ByteArray), (⟨#[61, 62]⟩ : ByteArray), (⟨#[62, 61]⟩ : ByteArray), (⟨#[62, 62]⟩ : ByteArray), (⟨#[124, 124]⟩ : ByteArray), (⟨#[33]⟩ : ByteArray), (⟨#[35]⟩ : ByteArray), (⟨#[37]⟩ : ByteArray), (⟨#[38]⟩ : ByteArray), (⟨#[40]⟩ : ByteArray), (⟨#[41]⟩ : ByteArray), (⟨#[42]⟩ : ByteArray), (⟨#[43]⟩ : ByteArray), (⟨#[44]⟩ : ByteArray), (⟨#[45]⟩ : ByteArray), (⟨#[46]⟩ : ByteArray), (⟨#[47]⟩ : ByteArray), (⟨#[58]⟩ : ByteArray), (⟨#[59]⟩ : ByteArray), (⟨#[60]⟩ : ByteArray), (⟨#[61]⟩ : ByteArray), (⟨#[62]⟩ : ByteArray), (⟨#[63]⟩ : ByteArray), (⟨#[91]⟩ : ByteArray), (⟨#[93]⟩ : ByteArray), (⟨#[94]⟩ : ByteArray), (⟨#[123]⟩ : ByteArray), (⟨#[124]⟩ : ByteArray), (⟨#[125]⟩ : ByteArray), (⟨#[126]⟩ : ByteArray)] : List ByteArray) := ⟨_, rfl⟩
 replace H : (some y191) = some r := by (rw [hy191]; with_reducible exact H)
 have Ny191 := Aside0.mk hy191
 clear hy191
 obtain rfl := Option.some.inj H
 go_enter Try.func52, Try.ntmps52
 go_wp2_with (((with_reducible refine gate_dst (N := 1) rfl ?_); refine Kd.R_lit Kd.string _ 9 ?hg (N := 1) ?hd (xs := ([(⟨#[33, 61, 61]⟩ : ByteArray), (⟨#[61, 61, 61]⟩ : ByteArray), (⟨#[62, 62, 62]⟩ : ByteArray), (⟨#[33, 61]⟩ : ByteArray), (⟨#[38, 38]⟩ : ByteArray), (⟨#[43, 58]⟩ : ByteArray), (⟨#[45, 62]⟩ : ByteArray), (⟨#[60, 60]⟩ : ByteArray), (⟨#[60, 61]⟩ : ByteArray), (⟨#[61, 61]⟩ : ByteArray), (⟨#[61, 62]⟩ : ByteArray), (⟨#[62, 61]⟩ : ByteArray), (⟨#[62, 62]⟩ : ByteArray), (⟨#[124, 124]⟩ : ByteArray), (⟨#[33]⟩ : ByteArray), (⟨#[35]⟩ : ByteArray), (⟨#[37]⟩ : ByteArray), (⟨#[38]⟩ : ByteArray), (⟨#[40]⟩ : ByteArray), (⟨#[41]⟩ : ByteArray), (⟨#[42]⟩ : ByteArray), (⟨#[43]⟩ : ByteArray), (⟨#[44]⟩ : ByteArray), (⟨#[45]⟩ : ByteArray), (⟨#[46]⟩ : ByteArray), (⟨#[47]⟩ : ByteArray), (⟨#[58]⟩ : ByteArray), (⟨#[59]⟩ : ByteArray), (⟨#[60]⟩ : ByteArray), (⟨#[61]⟩ : ByteArray), (⟨#[62]⟩ : ByteArray), (⟨#[63]⟩ : ByteArray), (⟨#[91]⟩ : ByteArray), (⟨#[93]⟩ : ByteArray), (⟨#[94]⟩ : ByteArray), (⟨#[123]⟩ : ByteArray), (⟨#[124]⟩ : ByteArray), (⟨#[125]⟩ : ByteArray), (⟨#[126]⟩ : ByteArray)] : List ByteArray)) (inner := [.string (⟨#[33, 61, 61]⟩ : ByteArray), .string (⟨#[61, 61, 61]⟩ : ByteArray), .string (⟨#[62, 62, 62]⟩ : ByteArray), .string (⟨#[33, 61]⟩ : ByteArray), .string (⟨#[38, 38]⟩ : ByteArray), .string (⟨#[43, 58]⟩ : ByteArray), .string (⟨#[45, 62]⟩ : ByteArray), .string (⟨#[60, 60]⟩ : ByteArray), .string (⟨#[60, 61]⟩ : ByteArray), .string (⟨#[61, 61]⟩ : ByteArray), .string (⟨#[61, 62]⟩ : ByteArray), .string (⟨#[62, 61]⟩ : ByteArray), .string (⟨#[62, 62]⟩ : ByteArray), .string (⟨#[124, 124]⟩ : ByteArray), .string (⟨#[33]⟩ : ByteArray), .string (⟨#[35]⟩ : ByteArray), .string (⟨#[37]⟩ : ByteArray), .string (⟨#[38]⟩ : ByteArray), .string (⟨#[40]⟩ : ByteArray), .string (⟨#[41]⟩ : ByteArray), .string (⟨#[42]⟩ : ByteArray), .string (⟨#[43]⟩ : ByteArray), .string (⟨#[44]⟩ : ByteArray), .string (⟨#[45]⟩ : ByteArray), .string (⟨#[46]⟩ : ByteArray), .string (⟨#[47]⟩ : ByteArray), .string (⟨#[58]⟩ : ByteArray), .string (⟨#[59]⟩ : ByteArray), .string (⟨#[60]⟩ : ByteArray), .string (⟨#[61]⟩ : ByteArray), .string (⟨#[62]⟩ : ByteArray), .string (⟨#[63]⟩ : ByteArray), .string (⟨#[91]⟩ : ByteArray), .string (⟨#[93]⟩ : ByteArray), .string (⟨#[94]⟩ : ByteArray), .string (⟨#[123]⟩ : ByteArray), .string (⟨#[124]⟩ : ByteArray), .string (⟨#[125]⟩ : ByteArray), .string (⟨#[126]⟩ : ByteArray)]) (ok := fun _ => True) (okp := fun _ => True) ?hr ?hp (fun _ hk => hk) trivial (Below.refl _ _) (Nat.le_refl _) (by simp) ?_; (case hd => rfl); (case hg => rfl); (case hr => (go_simp; done)); (case hp => exact (Reps.one (show Kd.M Kd.string _ _ _ (⟨#[33, 61, 61]⟩ : ByteArray) [.string (⟨#[33, 61, 61]⟩ : ByteArray)] from rfl) (Reps.one (show Kd.M Kd.string _ _ _ (⟨#[61, 61, 61]⟩ : ByteArray) [.string (⟨#[61, 61, 61]⟩ : ByteArray)] from rfl) (Reps.one (show Kd.M Kd.string _ _ _ (⟨#[62, 62, 62]⟩ : ByteArray) [.string (⟨#[62, 62, 62]⟩ : ByteArray)] from rfl) (Reps.one (show Kd.M Kd.string _ _ _ (⟨#[33, 61]⟩ : ByteArray) [.string (⟨#[33, 61]⟩ : ByteArray)] from rfl) (Reps.one (show Kd.M Kd.string _ _ _ (⟨#[38, 38]⟩ : ByteArray) [.string (⟨#[38, 38]⟩ : ByteArray)] from rfl) (Reps.one (show Kd.M Kd.string _ _ _ (⟨#[43, 58]⟩ : ByteArray) [.string (⟨#[43, 58]⟩ : ByteArray)] from rfl) (Reps.one (show Kd.M Kd.string _ _ _ (⟨#[45, 62]⟩ : ByteArray) [.string (⟨#[45, 62]⟩ : ByteArray)] from rfl) (Reps.one (show Kd.M Kd.string _ _ _ (⟨#[60, 60]⟩ : ByteArray) [.string (⟨#[60, 60]⟩ : ByteArray)] from rfl) (Reps.one (show Kd.M Kd.string _ _ _ (⟨#[60, 61]⟩ : ByteArray) [.string (⟨#[60, 61]⟩ : ByteArray)] from rfl) (Reps.one (show Kd.M Kd.string _ _ _ (⟨#[61, 61]⟩ : ByteArray) [.string (⟨#[61, 61]⟩ : ByteArray)] from rfl) (Reps.one (show Kd.M Kd.string _ _ _ (⟨#[61, 62]⟩ : ByteArray) [.string (⟨#[61, 62]⟩ : ByteArray)] from rfl) (Reps.one (show Kd.M Kd.string _ _ _ (⟨#[62, 61]⟩ : ByteArray) [.string (⟨#[62, 61]⟩ : ByteArray)] from rfl) (Reps.one (show Kd.M Kd.string _ _ _ (⟨#[62, 62]⟩ : ByteArray) [.string (⟨#[62, 62]⟩ : ByteArray)] from rfl) (Reps.one (show Kd.M Kd.string _ _ _ (⟨#[124, 124]⟩ : ByteArray) [.string (⟨#[124, 124]⟩ : ByteArray)] from rfl) (Reps.one (show Kd.M Kd.string _ _ _ (⟨#[33]⟩ : ByteArray) [.string (⟨#[33]⟩ : ByteArray)] from rfl) (Reps.one (show Kd.M Kd.string _ _ _ (⟨#[35]⟩ : ByteArray) [.string (⟨#[35]⟩ : ByteArray)] from rfl) (Reps.one (show Kd.M Kd.string _ _ _ (⟨#[37]⟩ : ByteArray) [.string (⟨#[37]⟩ : ByteArray)] from rfl) (Reps.one (show Kd.M Kd.string _ _ _ (⟨#[38]⟩ : ByteArray) [.string (⟨#[38]⟩ : ByteArray)] from rfl) (Reps.one (show Kd.M Kd.string _ _ _ (⟨#[40]⟩ : ByteArray) [.string (⟨#[40]⟩ : ByteArray)] from rfl) (Reps.one (show Kd.M Kd.string _ _ _ (⟨#[41]⟩ : ByteArray) [.string (⟨#[41]⟩ : ByteArray)] from rfl) (Reps.one (show Kd.M Kd.string _ _ _ (⟨#[42]⟩ : ByteArray) [.string (⟨#[42]⟩ : ByteArray)] from rfl) (Reps.one (show Kd.M Kd.string _ _ _ (⟨#[43]⟩ : ByteArray) [.string (⟨#[43]⟩ : ByteArray)] from rfl) (Reps.one (show Kd.M Kd.string _ _ _ (⟨#[44]⟩ : ByteArray) [.string (⟨#[44]⟩ : ByteArray)] from rfl) (Reps.one (show Kd.M Kd.string _ _ _ (⟨#[45]⟩ : ByteArray) [.string (⟨#[45]⟩ : ByteArray)] from rfl) (Reps.one (show Kd.M Kd.string _ _ _ (⟨#[46]⟩ : ByteArray) [.string (⟨#[46]⟩ : ByteArray)] from rfl) (Reps.one (show Kd.M Kd.string _ _ _ (⟨#[47]⟩ : ByteArray) [.string (⟨#[47]⟩ : ByteArray)] from rfl) (Reps.one (show Kd.M Kd.string _ _ _ (⟨#[58]⟩ : ByteArray) [.string (⟨#[58]⟩ : ByteArray)] from rfl) (Reps.one (show Kd.M Kd.string _ _ _ (⟨#[59]⟩ : ByteArray) [.string (⟨#[59]⟩ : ByteArray)] from rfl) (Reps.one (show Kd.M Kd.string _ _ _ (⟨#[60]⟩ : ByteArray) [.string (⟨#[60]⟩ : ByteArray)] from rfl) (Reps.one (show Kd.M Kd.string _ _ _ (⟨#[61]⟩ : ByteArray) [.string (⟨#[61]⟩ : ByteArray)] from rfl) (Reps.one (show Kd.M Kd.string _ _ _ (⟨#[62]⟩ : ByteArray) [.string (⟨#[62]⟩ : ByteArray)] from rfl) (Reps.one (show Kd.M Kd.string _ _ _ (⟨#[63]⟩ : ByteArray) [.string (⟨#[63]⟩ : ByteArray)] from rfl) (Reps.one (show Kd.M Kd.string _ _ _ (⟨#[91]⟩ : ByteArray) [.string (⟨#[91]⟩ : ByteArray)] from rfl) (Reps.one (show Kd.M Kd.string _ _ _ (⟨#[93]⟩ : ByteArray) [.string (⟨#[93]⟩ : ByteArray)] from rfl) (Reps.one (show Kd.M Kd.string _ _ _ (⟨#[94]⟩ : ByteArray) [.string (⟨#[94]⟩ : ByteArray)] from rfl) (Reps.one (show Kd.M Kd.string _ _ _ (⟨#[123]⟩ : ByteArray) [.string (⟨#[123]⟩ : ByteArray)] from rfl) (Reps.one (show Kd.M Kd.string _ _ _ (⟨#[124]⟩ : ByteArray) [.string (⟨#[124]⟩ : ByteArray)] from rfl) (Reps.one (show Kd.M Kd.string _ _ _ (⟨#[125]⟩ : ByteArray) [.string (⟨#[125]⟩ : ByteArray)] from rfl) (Reps.one (show Kd.M Kd.string _ _ _ (⟨#[126]⟩ : ByteArray) [.string (⟨#[126]⟩ : ByteArray)] from rfl) (Reps.none _ _))))))))))))))))))))))))))))))))))))))))); intro v192 w1 ho2 hb hg_ hnew_; clear hg_ hnew_; (rw [← Ny191.out] at ho2); have HO193 := Aside0.mk (Kd.R_lower ho2 (below_size HB.out)); replace HB := hb1 HB hb; clear hb ho2))
 go_ret
 exact ⟨_, by rfl, by exact HO193.out, by repeat (with_reducible exact HB.out)⟩
end Go.Proofs.Ytlamgdibnnmbmaa.PLex
end
