/- Part 30 of the proof of SyntaxTreesUptoSaid: The law SyntaxTrees, where the trees that it reads are of bulk at most 1048576: it returns true; the trees read behind the call as it read before. Out of the plain theorem of YtlamgdibnnmbmaaTr5. -/
import Derived.Test.YtlamgdibnnmbmaaQSyntaxTreesUpto13
import Derived.Test.YtlamgdibnnmbmaaQSyntaxTreesUpto28
import Derived.Test.YtlamgdibnnmbmaaQSyntaxTreesUpto16
import Derived.Test.YtlamgdibnnmbmaaQSyntaxTreesUpto19
section
namespace Go.Proofs.Ytlamgdibnnmbmaa.PSyn
open Go.RowKit Go.Proofs.YtlamgdibnnmbmaaW.PrintWords Go.Proofs.YtlamgdibnnmbmaaW.PrintLast Go.Proofs.YtlamgdibnnmbmaaW.PrintMore
attribute [local go_sem] max2_int min2_int max_two min_two max_three min_three max_four min_four
set_option linter.unusedVariables false
set_option linter.unusedSimpArgs false
def syntax_has.f (l0 : List (S89)) (a1 : Int) (a2 : Int) : Option (Bool) := if a1 ≥ 0 then (if a1 < (l0.length : Int) then (if 0 ≤ a1 then ((strings_IndexByte.f ((rd_T89 l0 a1).f0) a2).bind fun t107 => (some (decide (t107 ≥ 0)))) else (none)) else (some false)) else (some false)
set_option maxHeartbeats 8000000 in
set_option maxRecDepth 100000 in
theorem syntax_has.calls (A0 : Option Addr) (c0 : Nat) (l0 : List (S89)) (a1 : Int) (a2 : Int) (r : Bool) (w : World) (hr0 : Kd.C k89 w A0 l0.length l0) (hc0 : l0.length ≤ c0) (h : syntax_has.f l0 a1 a2 = some r) :
  Calls Try.prog 60 #[.slice A0 l0.length c0, .int .i64 a1, .int .u8 a2] w fun e w' => e = .returned (.bool r) ∧ Drawn0 w w' := by
 have HR0 := Aside0.mk hr0
 have HC0 := Aside0.mk hc0
 clear hr0 hc0
 have H := h
 clear h
 unfold syntax_has.f at H
 replace H := iD H; rcases H with ⟨c4b0, H⟩ | ⟨c4b0, H⟩
 ·replace c4b0 : decide (0 ≤ a1) = true := c4b0
  replace H := iD H; rcases H with ⟨c5b0, H⟩ | ⟨c5b0, H⟩
  ·replace H := iN H; obtain ⟨c6b0, H⟩ := H
   replace H := bN H; obtain ⟨t107, A7, H⟩ := H
   obtain rfl := Option.some.inj H
   have p106 : 0 ≤ (a1 : Int) := of_decide_eq_true (by (with_reducible assumption))
   have q106 : a1 < (l0.length : Int) := of_decide_eq_true (by (with_reducible assumption))
   obtain ⟨ad106, e106, hx106_0, hx106_1, hx106_2⟩ := at_T89 HR0.out a1 p106 q106
   cases e106
   replace p106 := eq_true p106
   replace q106 := eq_true q106
   go_enter Try.func60, Try.ntmps60
   go_wp2_with ((go_at_call 51; (with_reducible refine (strings_IndexByte.calls ((rd_T89 l0 a1).f0) a2 t107 _ A7.out).mono ?_); rintro e w' ⟨rfl, ⟨nd, rfl⟩⟩))
   go_ret
   exact ⟨by rfl, by repeat (first | exact Drawn0.refl _ | apply Drawn0.step)⟩
  ·obtain rfl := Option.some.inj H
   go_enter Try.func60, Try.ntmps60
   go_wp2
   go_ret
   exact ⟨by rfl, by repeat (exact Drawn0.refl _)⟩
 ·replace c4b0 : decide (0 ≤ a1) = false := c4b0
  obtain rfl := Option.some.inj H
  go_enter Try.func60, Try.ntmps60
  go_wp2
  go_ret
  exact ⟨by rfl, by repeat (exact Drawn0.refl _)⟩
end Go.Proofs.Ytlamgdibnnmbmaa.PSyn
end
section
namespace Go.Proofs.Ytlamgdibnnmbmaa.PSyn
open Go.RowKit Go.Proofs.YtlamgdibnnmbmaaW.PrintWords Go.Proofs.YtlamgdibnnmbmaaW.PrintLast Go.Proofs.YtlamgdibnnmbmaaW.PrintMore
attribute [local go_sem] max2_int min2_int max_two min_two max_three min_three max_four min_four
set_option linter.unusedVariables false
set_option linter.unusedSimpArgs false
mutual
def syntax_match.l0 : Nat → List (S89) → ByteArray → List (S27) → List Int → Int → Option (List Int × Bool)
 | 0, _, _, _, _, _ => none
 | k + 1, x0, x1, x2, x8, x9 => if x9 < (x1.size : Int) then (if 0 ≤ x9 then (if (wrap64 (x9 + 1)) < (x1.size : Int) then (if 0 ≤ (wrap64 (x9 + 1)) then ((strings_IndexByte.f (⟨#[42, 43, 63]⟩ : ByteArray) (bt x1 (wrap64 (x9 + 1)))).bind fun t119 => (syntax_match.j1 k x0 x1 x2 x8 x9 (bt x1 x9) 0 (decide (t119 ≥ 0)))) else (none)) else (syntax_match.j1 k x0 x1 x2 x8 x9 (bt x1 x9) 0 false)) else (none)) else (some (x8, ((x8.length : Int) == (x2.length : Int))))
def syntax_match.j1 : Nat → List (S89) → ByteArray → List (S27) → List Int → Int → Int → Int → Bool → Option (List Int × Bool)
 | 0, _, _, _, _, _, _, _, _ => none
 | k + 1, x0, x1, x2, x8, x9, x10, x11, x35 => if x35 = true then (if 0 ≤ (wrap64 (x9 + 1)) then (if (wrap64 (x9 + 1)) < (x1.size : Int) then (syntax_match.j2 k x0 x1 x2 x8 (wrap64 (x9 + 1)) x10 (bt x1 (wrap64 (x9 + 1)))) else (none)) else (none)) else (syntax_match.j2 k x0 x1 x2 x8 x9 x10 x11)
def syntax_match.j2 : Nat → List (S89) → ByteArray → List (S27) → List Int → Int → Int → Int → Option (List Int × Bool)
 | 0, _, _, _, _, _, _, _ => none
 | k + 1, x0, x1, x2, x8, x9, x10, x11 => syntax_match.l1 k x0 x1 x2 x8 x9 x10 x11 (x8.length : Int)
def syntax_match.j6 : Nat → List (S89) → ByteArray → List (S27) → List Int → Int → Int → Int → Option (List Int × Bool)
 | 0, _, _, _, _, _, _, _ => none
 | k + 1, x0, x1, x2, x8, x9, x11, x12 => if x11 = 42 then (syntax_match.l0 k x0 x1 x2 x8 (wrap64 (x9 + 1))) else (if (x8.length : Int) = x12 then (some (([] : List Int), false)) else (syntax_match.l0 k x0 x1 x2 x8 (wrap64 (x9 + 1))))
def syntax_match.l1 : Nat → List (S89) → ByteArray → List (S27) → List Int → Int → Int → Int → Int → Option (List Int × Bool)
 | 0, _, _, _, _, _, _, _, _ => none
 | k + 1, x0, x1, x2, x8, x9, x10, x11, x12 => if (x8.length : Int) < (x2.length : Int) then (if x11 = 42 then (syntax_match.j4 k x0 x1 x2 x8 x9 x10 x11 x12 true) else (if x11 = 43 then (syntax_match.j4 k x0 x1 x2 x8 x9 x10 x11 x12 true) else (syntax_match.j4 k x0 x1 x2 x8 x9 x10 x11 x12 ((x8.length : Int) == x12)))) else (syntax_match.j4 k x0 x1 x2 x8 x9 x10 x11 x12 false)
def syntax_match.j4 : Nat → List (S89) → ByteArray → List (S27) → List Int → Int → Int → Int → Int → Bool → Option (List Int × Bool)
 | 0, _, _, _, _, _, _, _, _, _ => none
 | k + 1, x0, x1, x2, x8, x9, x10, x11, x12, x61 => if x61 = true then (if 0 ≤ (x8.length : Int) then (if (x8.length : Int) < (x2.length : Int) then (if ((rd_T27 x2 (x8.length : Int)).f0) = 0 then (if x11 = 63 then (syntax_match.j5 k x0 x1 x2 x8 x9 x10 x11 x12 false) else (syntax_match.j5 k x0 x1 x2 x8 x9 x10 x11 x12 true)) else (if x11 = 42 then ((syntax_has.f x0 ((rd_T27 x2 (x8.length : Int)).f0) x10).bind fun t122 => (syntax_match.j5 k x0 x1 x2 x8 x9 x10 x11 x12 (!t122))) else (if x11 = 43 then ((syntax_has.f x0 ((rd_T27 x2 (x8.length : Int)).f0) x10).bind fun t123 => (syntax_match.j5 k x0 x1 x2 x8 x9 x10 x11 x12 (!t123))) else (syntax_match.j5 k x0 x1 x2 x8 x9 x10 x11 x12 false)))) else (none)) else (none)) else (syntax_match.j6 k x0 x1 x2 x8 x9 x11 x12)
def syntax_match.j5 : Nat → List (S89) → ByteArray → List (S27) → List Int → Int → Int → Int → Int → Bool → Option (List Int × Bool)
 | 0, _, _, _, _, _, _, _, _, _ => none
 | k + 1, x0, x1, x2, x8, x9, x10, x11, x12, x94 => if x94 = true then (syntax_match.j6 k x0 x1 x2 x8 x9 x11 x12) else (if x8.length < 140737488355328 then (syntax_match.l1 k x0 x1 x2 (x8 ++ [x10]) x9 x10 x11 x12) else (none))
end
def syntax_match.f (k : Nat) (l0 : List (S89)) (a1 : ByteArray) (l2 : List (S27)) : Option (List Int × Bool) := syntax_match.l0 k l0 a1 l2 ([] : List Int) 0
theorem syntax_match.mono_l : ∀ k, (∀ y0 y1 y2 y3 y4, LeO (syntax_match.l0 k y0 y1 y2 y3 y4) (syntax_match.l0 (k + 1) y0 y1 y2 y3 y4)) ∧ (∀ y0 y1 y2 y3 y4 y5 y6 y7, LeO (syntax_match.j1 k y0 y1 y2 y3 y4 y5 y6 y7) (syntax_match.j1 (k + 1) y0 y1 y2 y3 y4 y5 y6 y7)) ∧ (∀ y0 y1 y2 y3 y4 y5 y6, LeO (syntax_match.j2 k y0 y1 y2 y3 y4 y5 y6) (syntax_match.j2 (k + 1) y0 y1 y2 y3 y4 y5 y6)) ∧ (∀ y0 y1 y2 y3 y4 y5 y6, LeO (syntax_match.j6 k y0 y1 y2 y3 y4 y5 y6) (syntax_match.j6 (k + 1) y0 y1 y2 y3 y4 y5 y6)) ∧ (∀ y0 y1 y2 y3 y4 y5 y6 y7, LeO (syntax_match.l1 k y0 y1 y2 y3 y4 y5 y6 y7) (syntax_match.l1 (k + 1) y0 y1 y2 y3 y4 y5 y6 y7)) ∧ (∀ y0 y1 y2 y3 y4 y5 y6 y7 y8, LeO (syntax_match.j4 k y0 y1 y2 y3 y4 y5 y6 y7 y8) (syntax_match.j4 (k + 1) y0 y1 y2 y3 y4 y5 y6 y7 y8)) ∧ (∀ y0 y1 y2 y3 y4 y5 y6 y7 y8, LeO (syntax_match.j5 k y0 y1 y2 y3 y4 y5 y6 y7 y8) (syntax_match.j5 (k + 1) y0 y1 y2 y3 y4 y5 y6 y7 y8))
 | 0 => ⟨fun _ _ _ _ _ r h => by simp [syntax_match.l0] at h, fun _ _ _ _ _ _ _ _ r h => by simp [syntax_match.j1] at h, fun _ _ _ _ _ _ _ r h => by simp [syntax_match.j2] at h, fun _ _ _ _ _ _ _ r h => by simp [syntax_match.j6] at h, fun _ _ _ _ _ _ _ _ r h => by simp [syntax_match.l1] at h, fun _ _ _ _ _ _ _ _ _ r h => by simp [syntax_match.j4] at h, fun _ _ _ _ _ _ _ _ _ r h => by simp [syntax_match.j5] at h⟩
 | k + 1 => by
  obtain ⟨ih0, ih1, ih2, ih3, ih4, ih5, ih6⟩ := syntax_match.mono_l k
  refine ⟨?_, ?_, ?_, ?_, ?_, ?_, ?_⟩
  ·intro y0 y1 y2 y3 y4
   unfold syntax_match.l0
   repeat' first | with_reducible exact ih0 _ _ _ _ _ | with_reducible exact ih1 _ _ _ _ _ _ _ _ | with_reducible exact ih2 _ _ _ _ _ _ _ | with_reducible exact ih3 _ _ _ _ _ _ _ | with_reducible exact ih4 _ _ _ _ _ _ _ _ | with_reducible exact ih5 _ _ _ _ _ _ _ _ _ | with_reducible exact ih6 _ _ _ _ _ _ _ _ _ | with_reducible exact LeO.refl _ | with_reducible exact LeO.none _ | with_reducible refine LeO.ite ?_ ?_ | with_reducible refine LeO.bind ?_ (fun _ => ?_)
  ·intro y0 y1 y2 y3 y4 y5 y6 y7
   unfold syntax_match.j1
   repeat' first | with_reducible exact ih0 _ _ _ _ _ | with_reducible exact ih1 _ _ _ _ _ _ _ _ | with_reducible exact ih2 _ _ _ _ _ _ _ | with_reducible exact ih3 _ _ _ _ _ _ _ | with_reducible exact ih4 _ _ _ _ _ _ _ _ | with_reducible exact ih5 _ _ _ _ _ _ _ _ _ | with_reducible exact ih6 _ _ _ _ _ _ _ _ _ | with_reducible exact LeO.refl _ | with_reducible exact LeO.none _ | with_reducible refine LeO.ite ?_ ?_ | with_reducible refine LeO.bind ?_ (fun _ => ?_)
  ·intro y0 y1 y2 y3 y4 y5 y6
   unfold syntax_match.j2
   repeat' first | with_reducible exact ih0 _ _ _ _ _ | with_reducible exact ih1 _ _ _ _ _ _ _ _ | with_reducible exact ih2 _ _ _ _ _ _ _ | with_reducible exact ih3 _ _ _ _ _ _ _ | with_reducible exact ih4 _ _ _ _ _ _ _ _ | with_reducible exact ih5 _ _ _ _ _ _ _ _ _ | with_reducible exact ih6 _ _ _ _ _ _ _ _ _ | with_reducible exact LeO.refl _ | with_reducible exact LeO.none _ | with_reducible refine LeO.ite ?_ ?_ | with_reducible refine LeO.bind ?_ (fun _ => ?_)
  ·intro y0 y1 y2 y3 y4 y5 y6
   unfold syntax_match.j6
   repeat' first | with_reducible exact ih0 _ _ _ _ _ | with_reducible exact ih1 _ _ _ _ _ _ _ _ | with_reducible exact ih2 _ _ _ _ _ _ _ | with_reducible exact ih3 _ _ _ _ _ _ _ | with_reducible exact ih4 _ _ _ _ _ _ _ _ | with_reducible exact ih5 _ _ _ _ _ _ _ _ _ | with_reducible exact ih6 _ _ _ _ _ _ _ _ _ | with_reducible exact LeO.refl _ | with_reducible exact LeO.none _ | with_reducible refine LeO.ite ?_ ?_ | with_reducible refine LeO.bind ?_ (fun _ => ?_)
  ·intro y0 y1 y2 y3 y4 y5 y6 y7
   unfold syntax_match.l1
   repeat' first | with_reducible exact ih0 _ _ _ _ _ | with_reducible exact ih1 _ _ _ _ _ _ _ _ | with_reducible exact ih2 _ _ _ _ _ _ _ | with_reducible exact ih3 _ _ _ _ _ _ _ | with_reducible exact ih4 _ _ _ _ _ _ _ _ | with_reducible exact ih5 _ _ _ _ _ _ _ _ _ | with_reducible exact ih6 _ _ _ _ _ _ _ _ _ | with_reducible exact LeO.refl _ | with_reducible exact LeO.none _ | with_reducible refine LeO.ite ?_ ?_ | with_reducible refine LeO.bind ?_ (fun _ => ?_)
  ·intro y0 y1 y2 y3 y4 y5 y6 y7 y8
   unfold syntax_match.j4
   repeat' first | with_reducible exact ih0 _ _ _ _ _ | with_reducible exact ih1 _ _ _ _ _ _ _ _ | with_reducible exact ih2 _ _ _ _ _ _ _ | with_reducible exact ih3 _ _ _ _ _ _ _ | with_reducible exact ih4 _ _ _ _ _ _ _ _ | with_reducible exact ih5 _ _ _ _ _ _ _ _ _ | with_reducible exact ih6 _ _ _ _ _ _ _ _ _ | with_reducible exact LeO.refl _ | with_reducible exact LeO.none _ | with_reducible refine LeO.ite ?_ ?_ | with_reducible refine LeO.bind ?_ (fun _ => ?_)
  ·intro y0 y1 y2 y3 y4 y5 y6 y7 y8
   unfold syntax_match.j5
   repeat' first | with_reducible exact ih0 _ _ _ _ _ | with_reducible exact ih1 _ _ _ _ _ _ _ _ | with_reducible exact ih2 _ _ _ _ _ _ _ | with_reducible exact ih3 _ _ _ _ _ _ _ | with_reducible exact ih4 _ _ _ _ _ _ _ _ | with_reducible exact ih5 _ _ _ _ _ _ _ _ _ | with_reducible exact ih6 _ _ _ _ _ _ _ _ _ | with_reducible exact LeO.refl _ | with_reducible exact LeO.none _ | with_reducible refine LeO.ite ?_ ?_ | with_reducible refine LeO.bind ?_ (fun _ => ?_)
theorem syntax_match.mono : ∀ a0 a1 a2 k, LeO (syntax_match.f k a0 a1 a2) (syntax_match.f (k + 1) a0 a1 a2) := by
 intro a0 a1 a2 k
 obtain ⟨ih0, ih1, ih2, ih3, ih4, ih5, ih6⟩ := syntax_match.mono_l k
 unfold syntax_match.f
 repeat' first | with_reducible exact ih0 _ _ _ _ _ | with_reducible exact ih1 _ _ _ _ _ _ _ _ | with_reducible exact ih2 _ _ _ _ _ _ _ | with_reducible exact ih3 _ _ _ _ _ _ _ | with_reducible exact ih4 _ _ _ _ _ _ _ _ | with_reducible exact ih5 _ _ _ _ _ _ _ _ _ | with_reducible exact ih6 _ _ _ _ _ _ _ _ _ | with_reducible exact LeO.refl _ | with_reducible exact LeO.none _ | with_reducible refine LeO.ite ?_ ?_ | with_reducible refine LeO.bind ?_ (fun _ => ?_)
set_option maxHeartbeats 8000000 in
set_option maxRecDepth 100000 in
theorem syntax_match.calls (k : Nat) (A0 : Option Addr) (c0 : Nat) (l0 : List (S89)) (a1 : ByteArray) (A2 : Option Addr) (c2 : Nat) (l2 : List (S27)) (r1 : List Int) (r2 : Bool) (w : World) (hr0 : Kd.C k89 w A0 l0.length l0) (hc0 : l0.length ≤ c0) (hr2 : Kd.C k27 w A2 l2.length l2) (hc2 : l2.length ≤ c2) (h : syntax_match.f k l0 a1 l2 = some (r1, r2)) :
  Calls Try.prog 62 #[.slice A0 l0.length c0, .string a1, .slice A2 l2.length c2] w fun e w' => ∃ v0_ : Value, e = .returned (.tuple #[v0_, .bool r2]) ∧ Kd.R (Kd.int .u8) 5 w' w.heap.size (fun _ => True) v0_ r1 ∧ Below w.heap.size w w' := by
 have hu27 := Try.underlying27
 have HR0 := Aside0.mk hr0
 have HC0 := Aside0.mk hc0
 clear hr0 hc0
 have HR2 := Aside0.mk hr2
 have HC2 := Aside0.mk hc2
 clear hr2 hc2
 have HB := Aside0.mk (Below.refl w.heap.size w)
 have H := h
 clear h
 unfold syntax_match.f at H
 have H' := Aside0.mk H
 clear H
 go_enter Try.func62, Try.ntmps62
 go_wp2
 go_loopg [8, 9] k (fun kq v8 v9 w' => ∃ (x8_1 : List Int) (x9_1 : Int), v9 = .int .i64 x9_1 ∧ Aside0 (syntax_match.l0 kq l0 a1 l2 x8_1 x9_1 = some (r1, r2)) ∧ Aside0 (kq ≤ k) ∧ Aside0 (Kd.R (Kd.int .u8) 5 w' w.heap.size (fun _ => True) v8 x8_1) ∧ Aside0 (Below w.heap.size w w'))
 case atStart => exact ⟨([] : List Int), (0), (by rfl), H', ⟨Nat.le_refl _⟩, ⟨by exact Kd.R_nil _ _ _ _ _⟩, ⟨by repeat (with_reducible exact HB.out)⟩⟩
 case round =>
  clear H'
  obtain ⟨x8_1, x9_1, rfl, HA, HK1, HO_8, HB⟩ := hrel
  cases gk with
  | zero => exact absurd HA.out (by simp [syntax_match.l0])
  | succ k1 =>
   have H := HA.out
   clear HA
   simp only [syntax_match.l0] at H
   replace H := iD H; rcases H with ⟨c4b0, H⟩ | ⟨c4b0, H⟩
   ·replace H := iN H; obtain ⟨c5b0, H⟩ := H
    have HC7 := Aside0.mk H
    clear H
    have p6 : 0 ≤ (x9_1 : Int) := of_decide_eq_true (by (with_reducible assumption))
    have q6 : x9_1 < (a1.size : Int) := of_decide_eq_true (by (with_reducible assumption))
    have hx6 := bt_at a1 x9_1
    replace p6 := eq_true p6
    replace q6 := eq_true q6
    go_upto_region 6 with (fail)
    go_cut [35] (fun v35 wc => ∃ (kq : Nat) (x35_6 : Bool), v35 = .bool x35_6 ∧ Aside0 (syntax_match.j1 kq l0 a1 l2 x8_1 x9_1 (bt a1 x9_1) 0 x35_6 = some (r1, r2)) ∧ Aside0 (kq ≤ k1) ∧ Aside0 (Kd.R (Kd.int .u8) 5 wc w.heap.size (fun _ => True) u8 x8_1) ∧ Aside0 (Below w.heap.size w wc))
    case first =>
     have H := HC7.out
     clear HC7
     replace H := iD H; rcases H with ⟨c8b0, H⟩ | ⟨c8b0, H⟩
     ·(skip)
      obtain ⟨ji9, hji9⟩ : ∃ j_ : Int, (wrap64 (x9_1 + 1)) = j_ := ⟨_, rfl⟩
      replace H : (if 0 ≤ (ji9) then ((strings_IndexByte.f (⟨#[42, 43, 63]⟩ : ByteArray) (bt a1 (ji9))).bind fun t119 => (syntax_match.j1 k1 l0 a1 l2 x8_1 x9_1 (bt a1 x9_1) 0 (decide (t119 ≥ 0)))) else (none)) = some (r1, r2) := by (rw [hji9] at H; exact H)
      (try rw [hji9] at c8b0)
      have hji9w : (IntKind.i64.wrap (x9_1 + 1)) = ji9 := (i64_w _).trans hji9
      replace H := iN H; obtain ⟨c10b0, H⟩ := H
      replace H := bN H; obtain ⟨t119, A12, H⟩ := H
      have H' := Aside0.mk H
      clear H
      have p11 : 0 ≤ ((ji9) : Int) := of_decide_eq_true (by (with_reducible assumption))
      have q11 : (ji9) < (a1.size : Int) := of_decide_eq_true (by (with_reducible assumption))
      have hx11 := bt_at a1 (ji9)
      replace p11 := eq_true p11
      replace q11 := eq_true q11
      go_wp2_with ((go_at_call 51; (with_reducible refine (strings_IndexByte.calls (⟨#[42, 43, 63]⟩ : ByteArray) (bt a1 (ji9)) t119 _ A12.out).mono ?_); rintro e w' ⟨rfl, ⟨nd, rfl⟩⟩))
      go_meet
      case rel => exact ⟨_, (decide (t119 ≥ 0)), (by rfl), H', ⟨by have := HK1.out; omega⟩, ⟨by (with_reducible repeat (apply Kd.R_drewN)); exact HO_8.out⟩, ⟨by repeat (with_reducible first | exact HB.out | apply pw_below_drewN)⟩⟩
     ·(skip)
      have H' := Aside0.mk H
      clear H
      go_wp2
      go_meet
      case rel => exact ⟨_, (false), (by rfl), H', ⟨by have := HK1.out; omega⟩, ⟨by exact HO_8.out⟩, ⟨by repeat (with_reducible exact HB.out)⟩⟩
    case rest =>
     clear HC7
     (try clear c4b0); (try clear c5b0); (try clear p6); (try clear q6); (try clear hx6)
     obtain ⟨kq, x35_6, rfl, HA, HJ6, HO_8, HB⟩ := hcut
     cases kq with
     | zero => exact absurd HA.out (by simp [syntax_match.j1])
     | succ kj6 =>
      have H := HA.out
      clear HA
      simp only [syntax_match.j1] at H
      have HC13 := Aside0.mk H
      clear H
      go_upto_if 35 with (fail)
      go_cut [9, 11] (fun v9 v11 wc => ∃ (kq : Nat) (x9_12 : Int) (x11_12 : Int), v9 = .int .i64 x9_12 ∧ v11 = .int .u8 x11_12 ∧ Aside0 (syntax_match.j2 kq l0 a1 l2 x8_1 x9_12 (bt a1 x9_1) x11_12 = some (r1, r2)) ∧ Aside0 (kq ≤ kj6) ∧ Aside0 (Kd.R (Kd.int .u8) 5 wc w.heap.size (fun _ => True) u8 x8_1) ∧ Aside0 (Below w.heap.size w wc))
      case first =>
       have H := HC13.out
       clear HC13
       replace H := iB H; rcases H with ⟨rfl, H⟩ | ⟨rfl, H⟩
       ·obtain ⟨ji15, hji15⟩ : ∃ j_ : Int, (wrap64 (x9_1 + 1)) = j_ := ⟨_, rfl⟩
        replace H : (if 0 ≤ (ji15) then (if (ji15) < (a1.size : Int) then (syntax_match.j2 kj6 l0 a1 l2 x8_1 ji15 (bt a1 x9_1) (bt a1 (ji15))) else (none)) else (none)) = some (r1, r2) := by (rw [hji15] at H; exact H)
        have hji15w : (IntKind.i64.wrap (x9_1 + 1)) = ji15 := (i64_w _).trans hji15
        replace H := iN H; obtain ⟨c16b0, H⟩ := H
        (skip)
        replace H := iN H; obtain ⟨c17b0, H⟩ := H
        have H' := Aside0.mk H
        clear H
        have p18 : 0 ≤ ((ji15) : Int) := of_decide_eq_true (by (with_reducible assumption))
        have q18 : (ji15) < (a1.size : Int) := of_decide_eq_true (by (with_reducible assumption))
        have hx18 := bt_at a1 (ji15)
        replace p18 := eq_true p18
        replace q18 := eq_true q18
        go_wp2
        go_meet
        case rel => exact ⟨_, (ji15), (bt a1 (ji15)), (by rfl), (by rfl), H', ⟨by have := HK1.out; have := HJ6.out; omega⟩, ⟨by exact HO_8.out⟩, ⟨by repeat (with_reducible exact HB.out)⟩⟩
       ·have H' := Aside0.mk H
        clear H
        go_wp2
        go_meet
        case rel => exact ⟨_, (x9_1), (0), (by rfl), (by rfl), H', ⟨by have := HK1.out; have := HJ6.out; omega⟩, ⟨by exact HO_8.out⟩, ⟨by repeat (with_reducible exact HB.out)⟩⟩
      case rest =>
       clear HC13
       obtain ⟨kq, x9_12, x11_12, rfl, rfl, HA, HJ12, HO_8, HB⟩ := hcut
       cases kq with
       | zero => exact absurd HA.out (by simp [syntax_match.j2])
       | succ kj12 =>
        have H := HA.out
        clear HA
        simp only [syntax_match.j2] at H
        have HC19 := Aside0.mk H
        clear H
        obtain ⟨Ao20, co20, eo20⟩ := Kd.R_slice HO_8.out
        subst eo20
        go_upto_block 2 with (fail)
        go_cut [8] (fun v8 wc => ∃ (kq : Nat) (x8_18 : List Int), Aside0 (syntax_match.j6 kq l0 a1 l2 x8_18 x9_12 x11_12 (x8_1.length : Int) = some (r1, r2)) ∧ Aside0 (kq ≤ kj12) ∧ Aside0 (Kd.R (Kd.int .u8) 5 wc w.heap.size (fun _ => True) v8 x8_18) ∧ Aside0 (Below w.heap.size w wc))
        case first =>
         have H := HC19.out
         clear HC19
         have H' := Aside0.mk H
         clear H
         go_wp2
         go_loopg [8] kj12 (fun kq v8 w' => ∃ (x8_4 : List Int), Aside0 (syntax_match.l1 kq l0 a1 l2 x8_4 x9_12 (bt a1 x9_1) x11_12 (x8_1.length : Int) = some (r1, r2)) ∧ Aside0 (kq ≤ kj12) ∧ Aside0 (Kd.R (Kd.int .u8) 5 w' w.heap.size (fun _ => True) v8 x8_4) ∧ Aside0 (Below w.heap.size w w'))
         case atStart => exact ⟨(x8_1), H', ⟨Nat.le_refl _⟩, ⟨by exact HO_8.out⟩, ⟨by repeat (with_reducible exact HB.out)⟩⟩
         case round =>
          clear H'
          obtain ⟨x8_4, HA, HK4, HO_8, HB⟩ := hrel
          cases gk with
          | zero => exact absurd HA.out (by simp [syntax_match.l1])
          | succ k4 =>
           have H := HA.out
           clear HA
           simp only [syntax_match.l1] at H
           have HC21 := Aside0.mk H
           clear H
           go_upto_region 10 with (fail)
           go_cut [61] (fun v61 wc => ∃ (kq : Nat) (x61_20 : Bool), v61 = .bool x61_20 ∧ Aside0 (syntax_match.j4 kq l0 a1 l2 x8_4 x9_12 (bt a1 x9_1) x11_12 (x8_1.length : Int) x61_20 = some (r1, r2)) ∧ Aside0 (kq ≤ k4) ∧ Aside0 (Kd.R (Kd.int .u8) 5 wc w.heap.size (fun _ => True) u8 x8_4) ∧ Aside0 (Below w.heap.size w wc))
           case first =>
            have H := HC21.out
            clear HC21
            by_cases c22 : (x8_4.length : Int) < (l2.length : Int)
            ·rw [if_pos c22] at H
             have c22b0 : decide ((x8_4.length : Int) < (l2.length : Int)) = true := decide_eq_true c22
             have c22b1 : decide (x8_4.length < l2.length) = true := decide_eq_true (Int.ofNat_lt.mp c22)
             clear c22
             (skip)
             replace H := iE H; rcases H with ⟨c23b0, c23b1, H⟩ | ⟨c23, c23b0, c23b1, H⟩
             ·have H' := Aside0.mk H
              clear H
              obtain ⟨Ao24, co24, eo24⟩ := Kd.R_slice HO_8.out
              subst eo24
              go_wp2
              go_meet
              case rel => exact ⟨_, (true), (by rfl), H', ⟨by have := HK1.out; have := HJ6.out; have := HJ12.out; have := HK4.out; omega⟩, ⟨by exact HO_8.out⟩, ⟨by repeat (with_reducible exact HB.out)⟩⟩
             ·replace H := iE H; rcases H with ⟨c25b0, c25b1, H⟩ | ⟨c25, c25b0, c25b1, H⟩
              ·have H' := Aside0.mk H
               clear H
               obtain ⟨Ao26, co26, eo26⟩ := Kd.R_slice HO_8.out
               subst eo26
               go_wp2
               go_meet
               case rel => exact ⟨_, (true), (by rfl), H', ⟨by have := HK1.out; have := HJ6.out; have := HJ12.out; have := HK4.out; omega⟩, ⟨by exact HO_8.out⟩, ⟨by repeat (with_reducible exact HB.out)⟩⟩
              ·have H' := Aside0.mk H
               clear H
               obtain ⟨Ao27, co27, eo27⟩ := Kd.R_slice HO_8.out
               subst eo27
               go_wp2
               go_meet
               case rel => exact ⟨_, ((x8_4.length : Int) == (x8_1.length : Int)), (by rfl), H', ⟨by have := HK1.out; have := HJ6.out; have := HJ12.out; have := HK4.out; omega⟩, ⟨by exact HO_8.out⟩, ⟨by repeat (with_reducible exact HB.out)⟩⟩
            ·rw [if_neg c22] at H
             have c22b0 : decide ((x8_4.length : Int) < (l2.length : Int)) = false := decide_eq_false c22
             have c22b1 : decide (x8_4.length < l2.length) = false := decide_eq_false (fun h => c22 (Int.ofNat_lt.mpr h))
             clear c22
             (skip)
             have H' := Aside0.mk H
             clear H
             obtain ⟨Ao28, co28, eo28⟩ := Kd.R_slice HO_8.out
             subst eo28
             go_wp2
             go_meet
             case rel => exact ⟨_, (false), (by rfl), H', ⟨by have := HK1.out; have := HJ6.out; have := HJ12.out; have := HK4.out; omega⟩, ⟨by exact HO_8.out⟩, ⟨by repeat (with_reducible exact HB.out)⟩⟩
           case rest =>
            clear HC21
            obtain ⟨kq, x61_20, rfl, HA, HJ20, HO_8, HB⟩ := hcut
            cases kq with
            | zero => exact absurd HA.out (by simp [syntax_match.j4])
            | succ kj20 =>
             have H := HA.out
             clear HA
             simp only [syntax_match.j4] at H
             replace H := iB H; rcases H with ⟨rfl, H⟩ | ⟨rfl, H⟩
             ·by_cases c30 : 0 ≤ (x8_4.length : Int)
              ·rw [if_pos c30] at H
               have c30b0 : decide (0 ≤ (x8_4.length : Int)) = true := decide_eq_true c30
               have c30b1 : decide (0 ≤ x8_4.length) = true := decide_eq_true (by omega)
               clear c30
               by_cases c31 : (x8_4.length : Int) < (l2.length : Int)
               ·rw [if_pos c31] at H
                have c31b0 : decide ((x8_4.length : Int) < (l2.length : Int)) = true := decide_eq_true c31
                have c31b1 : decide (x8_4.length < l2.length) = true := decide_eq_true (Int.ofNat_lt.mp c31)
                clear c31
                have HC32 := Aside0.mk H
                clear H
                obtain ⟨Ao33, co33, eo33⟩ := Kd.R_slice HO_8.out
                subst eo33
                have p120 : 0 ≤ ((x8_4.length : Int) : Int) := of_decide_eq_true (by (with_reducible assumption))
                have q120 : (x8_4.length : Int) < (l2.length : Int) := of_decide_eq_true (by (with_reducible assumption))
                obtain ⟨ad120, A120_9, c120_9, e120, hx120_0, hx120_1, hx120_2, hx120_3, hx120_4, hx120_5, hx120_6, hx120_7, hx120_8, hx120_9, hl120_9, hi120_9⟩ := at_T27 HR2.out (x8_4.length : Int) p120 q120
                cases e120
                replace hx120_0 := (HB.out.cell (World.block_lt_of_cell? w _ hx120_0)).trans hx120_0
                replace hx120_1 := (HB.out.cell (World.block_lt_of_cell? w _ hx120_1)).trans hx120_1
                replace hx120_2 := (HB.out.cell (World.block_lt_of_cell? w _ hx120_2)).trans hx120_2
                replace hx120_3 := (HB.out.cell (World.block_lt_of_cell? w _ hx120_3)).trans hx120_3
                replace hx120_4 := (HB.out.cell (World.block_lt_of_cell? w _ hx120_4)).trans hx120_4
                replace hx120_5 := (HB.out.cell (World.block_lt_of_cell? w _ hx120_5)).trans hx120_5
                replace hx120_6 := (HB.out.cell (World.block_lt_of_cell? w _ hx120_6)).trans hx120_6
                replace hx120_7 := (HB.out.cell (World.block_lt_of_cell? w _ hx120_7)).trans hx120_7
                replace hx120_8 := (HB.out.cell (World.block_lt_of_cell? w _ hx120_8)).trans hx120_8
                replace hx120_9 := (HB.out.cell (World.block_lt_of_cell? w _ hx120_9)).trans hx120_9
                have HR120_9 := Aside0.mk hi120_9
                have HC120_9 := Aside0.mk hl120_9
                clear hi120_9 hl120_9
                (try simp only [Go.IntWalk.toNatUp] at hx120_0)
                (try simp only [Go.IntWalk.toNatUp] at hx120_1)
                (try simp only [Go.IntWalk.toNatUp] at hx120_2)
                (try simp only [Go.IntWalk.toNatUp] at hx120_3)
                (try simp only [Go.IntWalk.toNatUp] at hx120_4)
                (try simp only [Go.IntWalk.toNatUp] at hx120_5)
                (try simp only [Go.IntWalk.toNatUp] at hx120_6)
                (try simp only [Go.IntWalk.toNatUp] at hx120_7)
                (try simp only [Go.IntWalk.toNatUp] at hx120_8)
                (try simp only [Go.IntWalk.toNatUp] at hx120_9)
                replace p120 := eq_true p120
                replace q120 := eq_true q120
                go_upto_region 12 with (((with_reducible refine gate_dst (N := 13) rfl ?_); (try (refine gate_guard (by rfl) ?_; dsimp only)); refine box_event ?hg (N := 13) ?hd (cs := #[.int .i64 0, .int .i64 0, .int .i64 0, .string (⟨#[]⟩ : ByteArray), .string (⟨#[]⟩ : ByteArray), .int .i64 0, .int .u64 0, .int .u64 0, .bool false, .slice none 0 0]) (t := 27) ?hr ?_; (case hd => rfl); (case hg => rfl); (case hr => (go_simp; done)); intro gb121 hg w34 hbox hb; replace HO_8 := Kd.rb1 HO_8 hb; have BK121 := Aside0.mk (hbox); have GW121 := ge1 HB hg; have GE121 := ge1 HB hg; replace HB := hb1 HB hb; clear hb hbox hg; have hcz35_0 : w34.cell? ⟨gb121, 0, none⟩ = some (.int .i64 0) := (blk_cell BK121.out 0).trans rfl; have hcz35_1 : w34.cell? ⟨gb121, 1, none⟩ = some (.int .i64 0) := (blk_cell BK121.out 1).trans rfl; have hcz35_2 : w34.cell? ⟨gb121, 2, none⟩ = some (.int .i64 0) := (blk_cell BK121.out 2).trans rfl; have hcz35_3 : w34.cell? ⟨gb121, 3, none⟩ = some (.string (⟨#[]⟩ : ByteArray)) := (blk_cell BK121.out 3).trans rfl; have hcz35_4 : w34.cell? ⟨gb121, 4, none⟩ = some (.string (⟨#[]⟩ : ByteArray)) := (blk_cell BK121.out 4).trans rfl; have hcz35_5 : w34.cell? ⟨gb121, 5, none⟩ = some (.int .i64 0) := (blk_cell BK121.out 5).trans rfl; have hcz35_6 : w34.cell? ⟨gb121, 6, none⟩ = some (.int .u64 0) := (blk_cell BK121.out 6).trans rfl; have hcz35_7 : w34.cell? ⟨gb121, 7, none⟩ = some (.int .u64 0) := (blk_cell BK121.out 7).trans rfl; have hcz35_8 : w34.cell? ⟨gb121, 8, none⟩ = some (.bool false) := (blk_cell BK121.out 8).trans rfl; have hcz35_9 : w34.cell? ⟨gb121, 9, none⟩ = some (.slice none 0 0) := (blk_cell BK121.out 9).trans rfl; have hfz35_0 := blk_frozen BK121.out 0; have hfz35_1 := blk_frozen BK121.out 1; have hfz35_2 := blk_frozen BK121.out 2; have hfz35_3 := blk_frozen BK121.out 3; have hfz35_4 := blk_frozen BK121.out 4; have hfz35_5 := blk_frozen BK121.out 5; have hfz35_6 := blk_frozen BK121.out 6; have hfz35_7 := blk_frozen BK121.out 7; have hfz35_8 := blk_frozen BK121.out 8; have hfz35_9 := blk_frozen BK121.out 9))
                go_cut [94] (fun v94 wc => ∃ (kq : Nat) (x94_31 : Bool), v94 = .bool x94_31 ∧ Aside0 (syntax_match.j5 kq l0 a1 l2 x8_4 x9_12 (bt a1 x9_1) x11_12 (x8_1.length : Int) x94_31 = some (r1, r2)) ∧ Aside0 (kq ≤ kj20) ∧ Aside0 (Kd.R (Kd.int .u8) 5 wc w.heap.size (fun _ => True) (.slice Ao33 x8_4.length co33) x8_4) ∧ Aside0 (wc.heap[gb121]? = some (.cells #[.int .i64 ((rd_T27 l2 (x8_4.length : Int)).f0), .int .i64 ((rd_T27 l2 (x8_4.length : Int)).f1), .int .i64 ((rd_T27 l2 (x8_4.length : Int)).f2), .string ((rd_T27 l2 (x8_4.length : Int)).f3), .string ((rd_T27 l2 (x8_4.length : Int)).f4), .int .i64 ((rd_T27 l2 (x8_4.length : Int)).f5.f0), .int .u64 ((rd_T27 l2 (x8_4.length : Int)).f5.f1), .int .u64 ((rd_T27 l2 (x8_4.length : Int)).f5.f2), .bool ((rd_T27 l2 (x8_4.length : Int)).f6), (.slice A120_9 ((rd_T27 l2 (x8_4.length : Int)).f7).length c120_9)] 27 (0, 0))) ∧ Aside0 (Below w.heap.size w wc))
                case first =>
                 have H := HC32.out
                 clear HC32
                 replace H := iE H; rcases H with ⟨c36b0, c36b1, H⟩ | ⟨c36, c36b0, c36b1, H⟩
                 ·(skip)
                  replace H := iE H; rcases H with ⟨c37b0, c37b1, H⟩ | ⟨c37, c37b0, c37b1, H⟩
                  ·have H' := Aside0.mk H
                   clear H
                   obtain ⟨hcz38_0, hcz38_1, hcz38_2, hcz38_3, hcz38_4, hcz38_5, hcz38_6, hcz38_7, hcz38_8, hcz38_9⟩ := sq_cells10 (W := w34) (g := gb121) BK121.out; obtain ⟨hfz38_0, hfz38_1, hfz38_2, hfz38_3, hfz38_4, hfz38_5, hfz38_6, hfz38_7, hfz38_8, hfz38_9⟩ := sq_frozen10 BK121.out
                   go_wp2
                   go_meet
                   case rel => exact ⟨_, (false), (by rfl), H', ⟨by have := HK1.out; have := HJ6.out; have := HJ12.out; have := HK4.out; have := HJ20.out; omega⟩, ⟨by exact Kd.R_mono (Kd.R_far (p := ⟨gb121, 9, none⟩) (Kd.R_far (p := ⟨gb121, 8, none⟩) (Kd.R_far (p := ⟨gb121, 7, none⟩) (Kd.R_far (p := ⟨gb121, 6, none⟩) (Kd.R_far (p := ⟨gb121, 5, none⟩) (Kd.R_far (p := ⟨gb121, 4, none⟩) (Kd.R_far (p := ⟨gb121, 3, none⟩) (Kd.R_far (p := ⟨gb121, 2, none⟩) (Kd.R_far (p := ⟨gb121, 1, none⟩) (Kd.R_far (p := ⟨gb121, 0, none⟩) (Kd.R_types HO_8.out BK121.out (by decide)) (fun _ hk => hk.2) (.int .i64 ((rd_T27 l2 (x8_4.length : Int)).f0))) (fun _ hk => hk.2) (.int .i64 ((rd_T27 l2 (x8_4.length : Int)).f1))) (fun _ hk => hk.2) (.int .i64 ((rd_T27 l2 (x8_4.length : Int)).f2))) (fun _ hk => hk.2) (.string ((rd_T27 l2 (x8_4.length : Int)).f3))) (fun _ hk => hk.2) (.string ((rd_T27 l2 (x8_4.length : Int)).f4))) (fun _ hk => hk.2) (.int .i64 ((rd_T27 l2 (x8_4.length : Int)).f5.f0))) (fun _ hk => hk.2) (.int .u64 ((rd_T27 l2 (x8_4.length : Int)).f5.f1))) (fun _ hk => hk.2) (.int .u64 ((rd_T27 l2 (x8_4.length : Int)).f5.f2))) (fun _ hk => hk.2) (.bool ((rd_T27 l2 (x8_4.length : Int)).f6))) (fun _ hk => hk.2) (.slice A120_9 ((rd_T27 l2 (x8_4.length : Int)).f7).length c120_9)) (fun _ hk => trivial)⟩, ⟨by refine blk_put (cs := #[.int .i64 ((rd_T27 l2 (x8_4.length : Int)).f0), .int .i64 ((rd_T27 l2 (x8_4.length : Int)).f1), .int .i64 ((rd_T27 l2 (x8_4.length : Int)).f2), .string ((rd_T27 l2 (x8_4.length : Int)).f3), .string ((rd_T27 l2 (x8_4.length : Int)).f4), .int .i64 ((rd_T27 l2 (x8_4.length : Int)).f5.f0), .int .u64 ((rd_T27 l2 (x8_4.length : Int)).f5.f1), .int .u64 ((rd_T27 l2 (x8_4.length : Int)).f5.f2), .bool ((rd_T27 l2 (x8_4.length : Int)).f6), .slice none 0 0]) ?_ 9 _ rfl; refine blk_put (cs := #[.int .i64 ((rd_T27 l2 (x8_4.length : Int)).f0), .int .i64 ((rd_T27 l2 (x8_4.length : Int)).f1), .int .i64 ((rd_T27 l2 (x8_4.length : Int)).f2), .string ((rd_T27 l2 (x8_4.length : Int)).f3), .string ((rd_T27 l2 (x8_4.length : Int)).f4), .int .i64 ((rd_T27 l2 (x8_4.length : Int)).f5.f0), .int .u64 ((rd_T27 l2 (x8_4.length : Int)).f5.f1), .int .u64 ((rd_T27 l2 (x8_4.length : Int)).f5.f2), .bool false, .slice none 0 0]) ?_ 8 _ rfl; refine blk_put (cs := #[.int .i64 ((rd_T27 l2 (x8_4.length : Int)).f0), .int .i64 ((rd_T27 l2 (x8_4.length : Int)).f1), .int .i64 ((rd_T27 l2 (x8_4.length : Int)).f2), .string ((rd_T27 l2 (x8_4.length : Int)).f3), .string ((rd_T27 l2 (x8_4.length : Int)).f4), .int .i64 ((rd_T27 l2 (x8_4.length : Int)).f5.f0), .int .u64 ((rd_T27 l2 (x8_4.length : Int)).f5.f1), .int .u64 0, .bool false, .slice none 0 0]) ?_ 7 _ rfl; refine blk_put (cs := #[.int .i64 ((rd_T27 l2 (x8_4.length : Int)).f0), .int .i64 ((rd_T27 l2 (x8_4.length : Int)).f1), .int .i64 ((rd_T27 l2 (x8_4.length : Int)).f2), .string ((rd_T27 l2 (x8_4.length : Int)).f3), .string ((rd_T27 l2 (x8_4.length : Int)).f4), .int .i64 ((rd_T27 l2 (x8_4.length : Int)).f5.f0), .int .u64 0, .int .u64 0, .bool false, .slice none 0 0]) ?_ 6 _ rfl; refine blk_put (cs := #[.int .i64 ((rd_T27 l2 (x8_4.length : Int)).f0), .int .i64 ((rd_T27 l2 (x8_4.length : Int)).f1), .int .i64 ((rd_T27 l2 (x8_4.length : Int)).f2), .string ((rd_T27 l2 (x8_4.length : Int)).f3), .string ((rd_T27 l2 (x8_4.length : Int)).f4), .int .i64 0, .int .u64 0, .int .u64 0, .bool false, .slice none 0 0]) ?_ 5 _ rfl; refine blk_put (cs := #[.int .i64 ((rd_T27 l2 (x8_4.length : Int)).f0), .int .i64 ((rd_T27 l2 (x8_4.length : Int)).f1), .int .i64 ((rd_T27 l2 (x8_4.length : Int)).f2), .string ((rd_T27 l2 (x8_4.length : Int)).f3), .string (⟨#[]⟩ : ByteArray), .int .i64 0, .int .u64 0, .int .u64 0, .bool false, .slice none 0 0]) ?_ 4 _ rfl; refine blk_put (cs := #[.int .i64 ((rd_T27 l2 (x8_4.length : Int)).f0), .int .i64 ((rd_T27 l2 (x8_4.length : Int)).f1), .int .i64 ((rd_T27 l2 (x8_4.length : Int)).f2), .string (⟨#[]⟩ : ByteArray), .string (⟨#[]⟩ : ByteArray), .int .i64 0, .int .u64 0, .int .u64 0, .bool false, .slice none 0 0]) ?_ 3 _ rfl; refine blk_put (cs := #[.int .i64 ((rd_T27 l2 (x8_4.length : Int)).f0), .int .i64 ((rd_T27 l2 (x8_4.length : Int)).f1), .int .i64 0, .string (⟨#[]⟩ : ByteArray), .string (⟨#[]⟩ : ByteArray), .int .i64 0, .int .u64 0, .int .u64 0, .bool false, .slice none 0 0]) ?_ 2 _ rfl; refine blk_put (cs := #[.int .i64 ((rd_T27 l2 (x8_4.length : Int)).f0), .int .i64 0, .int .i64 0, .string (⟨#[]⟩ : ByteArray), .string (⟨#[]⟩ : ByteArray), .int .i64 0, .int .u64 0, .int .u64 0, .bool false, .slice none 0 0]) ?_ 1 _ rfl; refine blk_put (cs := #[.int .i64 0, .int .i64 0, .int .i64 0, .string (⟨#[]⟩ : ByteArray), .string (⟨#[]⟩ : ByteArray), .int .i64 0, .int .u64 0, .int .u64 0, .bool false, .slice none 0 0]) ?_ 0 _ rfl; exact BK121.out⟩, ⟨by repeat (with_reducible first | exact HB.out | refine below_set ?_ GE121.out)⟩⟩
                  ·have H' := Aside0.mk H
                   clear H
                   obtain ⟨hcz39_0, hcz39_1, hcz39_2, hcz39_3, hcz39_4, hcz39_5, hcz39_6, hcz39_7, hcz39_8, hcz39_9⟩ := sq_cells10 (W := w34) (g := gb121) BK121.out; obtain ⟨hfz39_0, hfz39_1, hfz39_2, hfz39_3, hfz39_4, hfz39_5, hfz39_6, hfz39_7, hfz39_8, hfz39_9⟩ := sq_frozen10 BK121.out
                   go_wp2
                   go_meet
                   case rel => exact ⟨_, (true), (by rfl), H', ⟨by have := HK1.out; have := HJ6.out; have := HJ12.out; have := HK4.out; have := HJ20.out; omega⟩, ⟨by exact Kd.R_mono (Kd.R_far (p := ⟨gb121, 9, none⟩) (Kd.R_far (p := ⟨gb121, 8, none⟩) (Kd.R_far (p := ⟨gb121, 7, none⟩) (Kd.R_far (p := ⟨gb121, 6, none⟩) (Kd.R_far (p := ⟨gb121, 5, none⟩) (Kd.R_far (p := ⟨gb121, 4, none⟩) (Kd.R_far (p := ⟨gb121, 3, none⟩) (Kd.R_far (p := ⟨gb121, 2, none⟩) (Kd.R_far (p := ⟨gb121, 1, none⟩) (Kd.R_far (p := ⟨gb121, 0, none⟩) (Kd.R_types HO_8.out BK121.out (by decide)) (fun _ hk => hk.2) (.int .i64 ((rd_T27 l2 (x8_4.length : Int)).f0))) (fun _ hk => hk.2) (.int .i64 ((rd_T27 l2 (x8_4.length : Int)).f1))) (fun _ hk => hk.2) (.int .i64 ((rd_T27 l2 (x8_4.length : Int)).f2))) (fun _ hk => hk.2) (.string ((rd_T27 l2 (x8_4.length : Int)).f3))) (fun _ hk => hk.2) (.string ((rd_T27 l2 (x8_4.length : Int)).f4))) (fun _ hk => hk.2) (.int .i64 ((rd_T27 l2 (x8_4.length : Int)).f5.f0))) (fun _ hk => hk.2) (.int .u64 ((rd_T27 l2 (x8_4.length : Int)).f5.f1))) (fun _ hk => hk.2) (.int .u64 ((rd_T27 l2 (x8_4.length : Int)).f5.f2))) (fun _ hk => hk.2) (.bool ((rd_T27 l2 (x8_4.length : Int)).f6))) (fun _ hk => hk.2) (.slice A120_9 ((rd_T27 l2 (x8_4.length : Int)).f7).length c120_9)) (fun _ hk => trivial)⟩, ⟨by refine blk_put (cs := #[.int .i64 ((rd_T27 l2 (x8_4.length : Int)).f0), .int .i64 ((rd_T27 l2 (x8_4.length : Int)).f1), .int .i64 ((rd_T27 l2 (x8_4.length : Int)).f2), .string ((rd_T27 l2 (x8_4.length : Int)).f3), .string ((rd_T27 l2 (x8_4.length : Int)).f4), .int .i64 ((rd_T27 l2 (x8_4.length : Int)).f5.f0), .int .u64 ((rd_T27 l2 (x8_4.length : Int)).f5.f1), .int .u64 ((rd_T27 l2 (x8_4.length : Int)).f5.f2), .bool ((rd_T27 l2 (x8_4.length : Int)).f6), .slice none 0 0]) ?_ 9 _ rfl; refine blk_put (cs := #[.int .i64 ((rd_T27 l2 (x8_4.length : Int)).f0), .int .i64 ((rd_T27 l2 (x8_4.length : Int)).f1), .int .i64 ((rd_T27 l2 (x8_4.length : Int)).f2), .string ((rd_T27 l2 (x8_4.length : Int)).f3), .string ((rd_T27 l2 (x8_4.length : Int)).f4), .int .i64 ((rd_T27 l2 (x8_4.length : Int)).f5.f0), .int .u64 ((rd_T27 l2 (x8_4.length : Int)).f5.f1), .int .u64 ((rd_T27 l2 (x8_4.length : Int)).f5.f2), .bool false, .slice none 0 0]) ?_ 8 _ rfl; refine blk_put (cs := #[.int .i64 ((rd_T27 l2 (x8_4.length : Int)).f0), .int .i64 ((rd_T27 l2 (x8_4.length : Int)).f1), .int .i64 ((rd_T27 l2 (x8_4.length : Int)).f2), .string ((rd_T27 l2 (x8_4.length : Int)).f3), .string ((rd_T27 l2 (x8_4.length : Int)).f4), .int .i64 ((rd_T27 l2 (x8_4.length : Int)).f5.f0), .int .u64 ((rd_T27 l2 (x8_4.length : Int)).f5.f1), .int .u64 0, .bool false, .slice none 0 0]) ?_ 7 _ rfl; refine blk_put (cs := #[.int .i64 ((rd_T27 l2 (x8_4.length : Int)).f0), .int .i64 ((rd_T27 l2 (x8_4.length : Int)).f1), .int .i64 ((rd_T27 l2 (x8_4.length : Int)).f2), .string ((rd_T27 l2 (x8_4.length : Int)).f3), .string ((rd_T27 l2 (x8_4.length : Int)).f4), .int .i64 ((rd_T27 l2 (x8_4.length : Int)).f5.f0), .int .u64 0, .int .u64 0, .bool false, .slice none 0 0]) ?_ 6 _ rfl; refine blk_put (cs := #[.int .i64 ((rd_T27 l2 (x8_4.length : Int)).f0), .int .i64 ((rd_T27 l2 (x8_4.length : Int)).f1), .int .i64 ((rd_T27 l2 (x8_4.length : Int)).f2), .string ((rd_T27 l2 (x8_4.length : Int)).f3), .string ((rd_T27 l2 (x8_4.length : Int)).f4), .int .i64 0, .int .u64 0, .int .u64 0, .bool false, .slice none 0 0]) ?_ 5 _ rfl; refine blk_put (cs := #[.int .i64 ((rd_T27 l2 (x8_4.length : Int)).f0), .int .i64 ((rd_T27 l2 (x8_4.length : Int)).f1), .int .i64 ((rd_T27 l2 (x8_4.length : Int)).f2), .string ((rd_T27 l2 (x8_4.length : Int)).f3), .string (⟨#[]⟩ : ByteArray), .int .i64 0, .int .u64 0, .int .u64 0, .bool false, .slice none 0 0]) ?_ 4 _ rfl; refine blk_put (cs := #[.int .i64 ((rd_T27 l2 (x8_4.length : Int)).f0), .int .i64 ((rd_T27 l2 (x8_4.length : Int)).f1), .int .i64 ((rd_T27 l2 (x8_4.length : Int)).f2), .string (⟨#[]⟩ : ByteArray), .string (⟨#[]⟩ : ByteArray), .int .i64 0, .int .u64 0, .int .u64 0, .bool false, .slice none 0 0]) ?_ 3 _ rfl; refine blk_put (cs := #[.int .i64 ((rd_T27 l2 (x8_4.length : Int)).f0), .int .i64 ((rd_T27 l2 (x8_4.length : Int)).f1), .int .i64 0, .string (⟨#[]⟩ : ByteArray), .string (⟨#[]⟩ : ByteArray), .int .i64 0, .int .u64 0, .int .u64 0, .bool false, .slice none 0 0]) ?_ 2 _ rfl; refine blk_put (cs := #[.int .i64 ((rd_T27 l2 (x8_4.length : Int)).f0), .int .i64 0, .int .i64 0, .string (⟨#[]⟩ : ByteArray), .string (⟨#[]⟩ : ByteArray), .int .i64 0, .int .u64 0, .int .u64 0, .bool false, .slice none 0 0]) ?_ 1 _ rfl; refine blk_put (cs := #[.int .i64 0, .int .i64 0, .int .i64 0, .string (⟨#[]⟩ : ByteArray), .string (⟨#[]⟩ : ByteArray), .int .i64 0, .int .u64 0, .int .u64 0, .bool false, .slice none 0 0]) ?_ 0 _ rfl; exact BK121.out⟩, ⟨by repeat (with_reducible first | exact HB.out | refine below_set ?_ GE121.out)⟩⟩
                 ·(skip)
                  replace H := iE H; rcases H with ⟨c40b0, c40b1, H⟩ | ⟨c40, c40b0, c40b1, H⟩
                  ·replace H := bN H; obtain ⟨t122, A41, H⟩ := H
                   have H' := Aside0.mk H
                   clear H
                   obtain ⟨hcz42_0, hcz42_1, hcz42_2, hcz42_3, hcz42_4, hcz42_5, hcz42_6, hcz42_7, hcz42_8, hcz42_9⟩ := sq_cells10 (W := w34) (g := gb121) BK121.out; obtain ⟨hfz42_0, hfz42_1, hfz42_2, hfz42_3, hfz42_4, hfz42_5, hfz42_6, hfz42_7, hfz42_8, hfz42_9⟩ := sq_frozen10 BK121.out
                   go_wp2_with ((go_at_call 60; (with_reducible refine (syntax_has.calls _ _ l0 ((rd_T27 l2 (x8_4.length : Int)).f0) (bt a1 x9_1) t122 _ ?side1 ?side2 A41.out).mono ?_); (case side1 => exact Kd.C_below HR0.out (by repeat (with_reducible first | exact HB.out | refine below_set ?_ GE121.out))); (case side2 => exact HC0.out); rintro e w' ⟨rfl, ⟨nd, rfl⟩⟩))
                   go_meet
                   case rel => exact ⟨_, (!t122), (by rfl), H', ⟨by have := HK1.out; have := HJ6.out; have := HJ12.out; have := HK4.out; have := HJ20.out; omega⟩, ⟨by (with_reducible repeat (apply Kd.R_drewN)); exact Kd.R_mono (Kd.R_far (p := ⟨gb121, 9, none⟩) (Kd.R_far (p := ⟨gb121, 8, none⟩) (Kd.R_far (p := ⟨gb121, 7, none⟩) (Kd.R_far (p := ⟨gb121, 6, none⟩) (Kd.R_far (p := ⟨gb121, 5, none⟩) (Kd.R_far (p := ⟨gb121, 4, none⟩) (Kd.R_far (p := ⟨gb121, 3, none⟩) (Kd.R_far (p := ⟨gb121, 2, none⟩) (Kd.R_far (p := ⟨gb121, 1, none⟩) (Kd.R_far (p := ⟨gb121, 0, none⟩) (Kd.R_types HO_8.out BK121.out (by decide)) (fun _ hk => hk.2) (.int .i64 ((rd_T27 l2 (x8_4.length : Int)).f0))) (fun _ hk => hk.2) (.int .i64 ((rd_T27 l2 (x8_4.length : Int)).f1))) (fun _ hk => hk.2) (.int .i64 ((rd_T27 l2 (x8_4.length : Int)).f2))) (fun _ hk => hk.2) (.string ((rd_T27 l2 (x8_4.length : Int)).f3))) (fun _ hk => hk.2) (.string ((rd_T27 l2 (x8_4.length : Int)).f4))) (fun _ hk => hk.2) (.int .i64 ((rd_T27 l2 (x8_4.length : Int)).f5.f0))) (fun _ hk => hk.2) (.int .u64 ((rd_T27 l2 (x8_4.length : Int)).f5.f1))) (fun _ hk => hk.2) (.int .u64 ((rd_T27 l2 (x8_4.length : Int)).f5.f2))) (fun _ hk => hk.2) (.bool ((rd_T27 l2 (x8_4.length : Int)).f6))) (fun _ hk => hk.2) (.slice A120_9 ((rd_T27 l2 (x8_4.length : Int)).f7).length c120_9)) (fun _ hk => trivial)⟩, ⟨by (with_reducible repeat (refine blk_drewN ?_ _)); refine blk_put (cs := #[.int .i64 ((rd_T27 l2 (x8_4.length : Int)).f0), .int .i64 ((rd_T27 l2 (x8_4.length : Int)).f1), .int .i64 ((rd_T27 l2 (x8_4.length : Int)).f2), .string ((rd_T27 l2 (x8_4.length : Int)).f3), .string ((rd_T27 l2 (x8_4.length : Int)).f4), .int .i64 ((rd_T27 l2 (x8_4.length : Int)).f5.f0), .int .u64 ((rd_T27 l2 (x8_4.length : Int)).f5.f1), .int .u64 ((rd_T27 l2 (x8_4.length : Int)).f5.f2), .bool ((rd_T27 l2 (x8_4.length : Int)).f6), .slice none 0 0]) ?_ 9 _ rfl; refine blk_put (cs := #[.int .i64 ((rd_T27 l2 (x8_4.length : Int)).f0), .int .i64 ((rd_T27 l2 (x8_4.length : Int)).f1), .int .i64 ((rd_T27 l2 (x8_4.length : Int)).f2), .string ((rd_T27 l2 (x8_4.length : Int)).f3), .string ((rd_T27 l2 (x8_4.length : Int)).f4), .int .i64 ((rd_T27 l2 (x8_4.length : Int)).f5.f0), .int .u64 ((rd_T27 l2 (x8_4.length : Int)).f5.f1), .int .u64 ((rd_T27 l2 (x8_4.length : Int)).f5.f2), .bool false, .slice none 0 0]) ?_ 8 _ rfl; refine blk_put (cs := #[.int .i64 ((rd_T27 l2 (x8_4.length : Int)).f0), .int .i64 ((rd_T27 l2 (x8_4.length : Int)).f1), .int .i64 ((rd_T27 l2 (x8_4.length : Int)).f2), .string ((rd_T27 l2 (x8_4.length : Int)).f3), .string ((rd_T27 l2 (x8_4.length : Int)).f4), .int .i64 ((rd_T27 l2 (x8_4.length : Int)).f5.f0), .int .u64 ((rd_T27 l2 (x8_4.length : Int)).f5.f1), .int .u64 0, .bool false, .slice none 0 0]) ?_ 7 _ rfl; refine blk_put (cs := #[.int .i64 ((rd_T27 l2 (x8_4.length : Int)).f0), .int .i64 ((rd_T27 l2 (x8_4.length : Int)).f1), .int .i64 ((rd_T27 l2 (x8_4.length : Int)).f2), .string ((rd_T27 l2 (x8_4.length : Int)).f3), .string ((rd_T27 l2 (x8_4.length : Int)).f4), .int .i64 ((rd_T27 l2 (x8_4.length : Int)).f5.f0), .int .u64 0, .int .u64 0, .bool false, .slice none 0 0]) ?_ 6 _ rfl; refine blk_put (cs := #[.int .i64 ((rd_T27 l2 (x8_4.length : Int)).f0), .int .i64 ((rd_T27 l2 (x8_4.length : Int)).f1), .int .i64 ((rd_T27 l2 (x8_4.length : Int)).f2), .string ((rd_T27 l2 (x8_4.length : Int)).f3), .string ((rd_T27 l2 (x8_4.length : Int)).f4), .int .i64 0, .int .u64 0, .int .u64 0, .bool false, .slice none 0 0]) ?_ 5 _ rfl; refine blk_put (cs := #[.int .i64 ((rd_T27 l2 (x8_4.length : Int)).f0), .int .i64 ((rd_T27 l2 (x8_4.length : Int)).f1), .int .i64 ((rd_T27 l2 (x8_4.length : Int)).f2), .string ((rd_T27 l2 (x8_4.length : Int)).f3), .string (⟨#[]⟩ : ByteArray), .int .i64 0, .int .u64 0, .int .u64 0, .bool false, .slice none 0 0]) ?_ 4 _ rfl; refine blk_put (cs := #[.int .i64 ((rd_T27 l2 (x8_4.length : Int)).f0), .int .i64 ((rd_T27 l2 (x8_4.length : Int)).f1), .int .i64 ((rd_T27 l2 (x8_4.length : Int)).f2), .string (⟨#[]⟩ : ByteArray), .string (⟨#[]⟩ : ByteArray), .int .i64 0, .int .u64 0, .int .u64 0, .bool false, .slice none 0 0]) ?_ 3 _ rfl; refine blk_put (cs := #[.int .i64 ((rd_T27 l2 (x8_4.length : Int)).f0), .int .i64 ((rd_T27 l2 (x8_4.length : Int)).f1), .int .i64 0, .string (⟨#[]⟩ : ByteArray), .string (⟨#[]⟩ : ByteArray), .int .i64 0, .int .u64 0, .int .u64 0, .bool false, .slice none 0 0]) ?_ 2 _ rfl; refine blk_put (cs := #[.int .i64 ((rd_T27 l2 (x8_4.length : Int)).f0), .int .i64 0, .int .i64 0, .string (⟨#[]⟩ : ByteArray), .string (⟨#[]⟩ : ByteArray), .int .i64 0, .int .u64 0, .int .u64 0, .bool false, .slice none 0 0]) ?_ 1 _ rfl; refine blk_put (cs := #[.int .i64 0, .int .i64 0, .int .i64 0, .string (⟨#[]⟩ : ByteArray), .string (⟨#[]⟩ : ByteArray), .int .i64 0, .int .u64 0, .int .u64 0, .bool false, .slice none 0 0]) ?_ 0 _ rfl; exact BK121.out⟩, ⟨by repeat (with_reducible first | exact HB.out | apply pw_below_drewN | refine below_set ?_ GE121.out)⟩⟩
                  ·replace H := iE H; rcases H with ⟨c43b0, c43b1, H⟩ | ⟨c43, c43b0, c43b1, H⟩
                   ·replace H := bN H; obtain ⟨t123, A44, H⟩ := H
                    have H' := Aside0.mk H
                    clear H
                    obtain ⟨hcz45_0, hcz45_1, hcz45_2, hcz45_3, hcz45_4, hcz45_5, hcz45_6, hcz45_7, hcz45_8, hcz45_9⟩ := sq_cells10 (W := w34) (g := gb121) BK121.out; obtain ⟨hfz45_0, hfz45_1, hfz45_2, hfz45_3, hfz45_4, hfz45_5, hfz45_6, hfz45_7, hfz45_8, hfz45_9⟩ := sq_frozen10 BK121.out
                    go_wp2_with ((go_at_call 60; (with_reducible refine (syntax_has.calls _ _ l0 ((rd_T27 l2 (x8_4.length : Int)).f0) (bt a1 x9_1) t123 _ ?side1 ?side2 A44.out).mono ?_); (case side1 => exact Kd.C_below HR0.out (by repeat (with_reducible first | exact HB.out | refine below_set ?_ GE121.out))); (case side2 => exact HC0.out); rintro e w' ⟨rfl, ⟨nd, rfl⟩⟩))
                    go_meet
                    case rel => exact ⟨_, (!t123), (by rfl), H', ⟨by have := HK1.out; have := HJ6.out; have := HJ12.out; have := HK4.out; have := HJ20.out; omega⟩, ⟨by (with_reducible repeat (apply Kd.R_drewN)); exact Kd.R_mono (Kd.R_far (p := ⟨gb121, 9, none⟩) (Kd.R_far (p := ⟨gb121, 8, none⟩) (Kd.R_far (p := ⟨gb121, 7, none⟩) (Kd.R_far (p := ⟨gb121, 6, none⟩) (Kd.R_far (p := ⟨gb121, 5, none⟩) (Kd.R_far (p := ⟨gb121, 4, none⟩) (Kd.R_far (p := ⟨gb121, 3, none⟩) (Kd.R_far (p := ⟨gb121, 2, none⟩) (Kd.R_far (p := ⟨gb121, 1, none⟩) (Kd.R_far (p := ⟨gb121, 0, none⟩) (Kd.R_types HO_8.out BK121.out (by decide)) (fun _ hk => hk.2) (.int .i64 ((rd_T27 l2 (x8_4.length : Int)).f0))) (fun _ hk => hk.2) (.int .i64 ((rd_T27 l2 (x8_4.length : Int)).f1))) (fun _ hk => hk.2) (.int .i64 ((rd_T27 l2 (x8_4.length : Int)).f2))) (fun _ hk => hk.2) (.string ((rd_T27 l2 (x8_4.length : Int)).f3))) (fun _ hk => hk.2) (.string ((rd_T27 l2 (x8_4.length : Int)).f4))) (fun _ hk => hk.2) (.int .i64 ((rd_T27 l2 (x8_4.length : Int)).f5.f0))) (fun _ hk => hk.2) (.int .u64 ((rd_T27 l2 (x8_4.length : Int)).f5.f1))) (fun _ hk => hk.2) (.int .u64 ((rd_T27 l2 (x8_4.length : Int)).f5.f2))) (fun _ hk => hk.2) (.bool ((rd_T27 l2 (x8_4.length : Int)).f6))) (fun _ hk => hk.2) (.slice A120_9 ((rd_T27 l2 (x8_4.length : Int)).f7).length c120_9)) (fun _ hk => trivial)⟩, ⟨by (with_reducible repeat (refine blk_drewN ?_ _)); refine blk_put (cs := #[.int .i64 ((rd_T27 l2 (x8_4.length : Int)).f0), .int .i64 ((rd_T27 l2 (x8_4.length : Int)).f1), .int .i64 ((rd_T27 l2 (x8_4.length : Int)).f2), .string ((rd_T27 l2 (x8_4.length : Int)).f3), .string ((rd_T27 l2 (x8_4.length : Int)).f4), .int .i64 ((rd_T27 l2 (x8_4.length : Int)).f5.f0), .int .u64 ((rd_T27 l2 (x8_4.length : Int)).f5.f1), .int .u64 ((rd_T27 l2 (x8_4.length : Int)).f5.f2), .bool ((rd_T27 l2 (x8_4.length : Int)).f6), .slice none 0 0]) ?_ 9 _ rfl; refine blk_put (cs := #[.int .i64 ((rd_T27 l2 (x8_4.length : Int)).f0), .int .i64 ((rd_T27 l2 (x8_4.length : Int)).f1), .int .i64 ((rd_T27 l2 (x8_4.length : Int)).f2), .string ((rd_T27 l2 (x8_4.length : Int)).f3), .string ((rd_T27 l2 (x8_4.length : Int)).f4), .int .i64 ((rd_T27 l2 (x8_4.length : Int)).f5.f0), .int .u64 ((rd_T27 l2 (x8_4.length : Int)).f5.f1), .int .u64 ((rd_T27 l2 (x8_4.length : Int)).f5.f2), .bool false, .slice none 0 0]) ?_ 8 _ rfl; refine blk_put (cs := #[.int .i64 ((rd_T27 l2 (x8_4.length : Int)).f0), .int .i64 ((rd_T27 l2 (x8_4.length : Int)).f1), .int .i64 ((rd_T27 l2 (x8_4.length : Int)).f2), .string ((rd_T27 l2 (x8_4.length : Int)).f3), .string ((rd_T27 l2 (x8_4.length : Int)).f4), .int .i64 ((rd_T27 l2 (x8_4.length : Int)).f5.f0), .int .u64 ((rd_T27 l2 (x8_4.length : Int)).f5.f1), .int .u64 0, .bool false, .slice none 0 0]) ?_ 7 _ rfl; refine blk_put (cs := #[.int .i64 ((rd_T27 l2 (x8_4.length : Int)).f0), .int .i64 ((rd_T27 l2 (x8_4.length : Int)).f1), .int .i64 ((rd_T27 l2 (x8_4.length : Int)).f2), .string ((rd_T27 l2 (x8_4.length : Int)).f3), .string ((rd_T27 l2 (x8_4.length : Int)).f4), .int .i64 ((rd_T27 l2 (x8_4.length : Int)).f5.f0), .int .u64 0, .int .u64 0, .bool false, .slice none 0 0]) ?_ 6 _ rfl; refine blk_put (cs := #[.int .i64 ((rd_T27 l2 (x8_4.length : Int)).f0), .int .i64 ((rd_T27 l2 (x8_4.length : Int)).f1), .int .i64 ((rd_T27 l2 (x8_4.length : Int)).f2), .string ((rd_T27 l2 (x8_4.length : Int)).f3), .string ((rd_T27 l2 (x8_4.length : Int)).f4), .int .i64 0, .int .u64 0, .int .u64 0, .bool false, .slice none 0 0]) ?_ 5 _ rfl; refine blk_put (cs := #[.int .i64 ((rd_T27 l2 (x8_4.length : Int)).f0), .int .i64 ((rd_T27 l2 (x8_4.length : Int)).f1), .int .i64 ((rd_T27 l2 (x8_4.length : Int)).f2), .string ((rd_T27 l2 (x8_4.length : Int)).f3), .string (⟨#[]⟩ : ByteArray), .int .i64 0, .int .u64 0, .int .u64 0, .bool false, .slice none 0 0]) ?_ 4 _ rfl; refine blk_put (cs := #[.int .i64 ((rd_T27 l2 (x8_4.length : Int)).f0), .int .i64 ((rd_T27 l2 (x8_4.length : Int)).f1), .int .i64 ((rd_T27 l2 (x8_4.length : Int)).f2), .string (⟨#[]⟩ : ByteArray), .string (⟨#[]⟩ : ByteArray), .int .i64 0, .int .u64 0, .int .u64 0, .bool false, .slice none 0 0]) ?_ 3 _ rfl; refine blk_put (cs := #[.int .i64 ((rd_T27 l2 (x8_4.length : Int)).f0), .int .i64 ((rd_T27 l2 (x8_4.length : Int)).f1), .int .i64 0, .string (⟨#[]⟩ : ByteArray), .string (⟨#[]⟩ : ByteArray), .int .i64 0, .int .u64 0, .int .u64 0, .bool false, .slice none 0 0]) ?_ 2 _ rfl; refine blk_put (cs := #[.int .i64 ((rd_T27 l2 (x8_4.length : Int)).f0), .int .i64 0, .int .i64 0, .string (⟨#[]⟩ : ByteArray), .string (⟨#[]⟩ : ByteArray), .int .i64 0, .int .u64 0, .int .u64 0, .bool false, .slice none 0 0]) ?_ 1 _ rfl; refine blk_put (cs := #[.int .i64 0, .int .i64 0, .int .i64 0, .string (⟨#[]⟩ : ByteArray), .string (⟨#[]⟩ : ByteArray), .int .i64 0, .int .u64 0, .int .u64 0, .bool false, .slice none 0 0]) ?_ 0 _ rfl; exact BK121.out⟩, ⟨by repeat (with_reducible first | exact HB.out | apply pw_below_drewN | refine below_set ?_ GE121.out)⟩⟩
                   ·have H' := Aside0.mk H
                    clear H
                    obtain ⟨hcz46_0, hcz46_1, hcz46_2, hcz46_3, hcz46_4, hcz46_5, hcz46_6, hcz46_7, hcz46_8, hcz46_9⟩ := sq_cells10 (W := w34) (g := gb121) BK121.out; obtain ⟨hfz46_0, hfz46_1, hfz46_2, hfz46_3, hfz46_4, hfz46_5, hfz46_6, hfz46_7, hfz46_8, hfz46_9⟩ := sq_frozen10 BK121.out
                    go_wp2
                    go_meet
                    case rel => exact ⟨_, (false), (by rfl), H', ⟨by have := HK1.out; have := HJ6.out; have := HJ12.out; have := HK4.out; have := HJ20.out; omega⟩, ⟨by exact Kd.R_mono (Kd.R_far (p := ⟨gb121, 9, none⟩) (Kd.R_far (p := ⟨gb121, 8, none⟩) (Kd.R_far (p := ⟨gb121, 7, none⟩) (Kd.R_far (p := ⟨gb121, 6, none⟩) (Kd.R_far (p := ⟨gb121, 5, none⟩) (Kd.R_far (p := ⟨gb121, 4, none⟩) (Kd.R_far (p := ⟨gb121, 3, none⟩) (Kd.R_far (p := ⟨gb121, 2, none⟩) (Kd.R_far (p := ⟨gb121, 1, none⟩) (Kd.R_far (p := ⟨gb121, 0, none⟩) (Kd.R_types HO_8.out BK121.out (by decide)) (fun _ hk => hk.2) (.int .i64 ((rd_T27 l2 (x8_4.length : Int)).f0))) (fun _ hk => hk.2) (.int .i64 ((rd_T27 l2 (x8_4.length : Int)).f1))) (fun _ hk => hk.2) (.int .i64 ((rd_T27 l2 (x8_4.length : Int)).f2))) (fun _ hk => hk.2) (.string ((rd_T27 l2 (x8_4.length : Int)).f3))) (fun _ hk => hk.2) (.string ((rd_T27 l2 (x8_4.length : Int)).f4))) (fun _ hk => hk.2) (.int .i64 ((rd_T27 l2 (x8_4.length : Int)).f5.f0))) (fun _ hk => hk.2) (.int .u64 ((rd_T27 l2 (x8_4.length : Int)).f5.f1))) (fun _ hk => hk.2) (.int .u64 ((rd_T27 l2 (x8_4.length : Int)).f5.f2))) (fun _ hk => hk.2) (.bool ((rd_T27 l2 (x8_4.length : Int)).f6))) (fun _ hk => hk.2) (.slice A120_9 ((rd_T27 l2 (x8_4.length : Int)).f7).length c120_9)) (fun _ hk => trivial)⟩, ⟨by refine blk_put (cs := #[.int .i64 ((rd_T27 l2 (x8_4.length : Int)).f0), .int .i64 ((rd_T27 l2 (x8_4.length : Int)).f1), .int .i64 ((rd_T27 l2 (x8_4.length : Int)).f2), .string ((rd_T27 l2 (x8_4.length : Int)).f3), .string ((rd_T27 l2 (x8_4.length : Int)).f4), .int .i64 ((rd_T27 l2 (x8_4.length : Int)).f5.f0), .int .u64 ((rd_T27 l2 (x8_4.length : Int)).f5.f1), .int .u64 ((rd_T27 l2 (x8_4.length : Int)).f5.f2), .bool ((rd_T27 l2 (x8_4.length : Int)).f6), .slice none 0 0]) ?_ 9 _ rfl; refine blk_put (cs := #[.int .i64 ((rd_T27 l2 (x8_4.length : Int)).f0), .int .i64 ((rd_T27 l2 (x8_4.length : Int)).f1), .int .i64 ((rd_T27 l2 (x8_4.length : Int)).f2), .string ((rd_T27 l2 (x8_4.length : Int)).f3), .string ((rd_T27 l2 (x8_4.length : Int)).f4), .int .i64 ((rd_T27 l2 (x8_4.length : Int)).f5.f0), .int .u64 ((rd_T27 l2 (x8_4.length : Int)).f5.f1), .int .u64 ((rd_T27 l2 (x8_4.length : Int)).f5.f2), .bool false, .slice none 0 0]) ?_ 8 _ rfl; refine blk_put (cs := #[.int .i64 ((rd_T27 l2 (x8_4.length : Int)).f0), .int .i64 ((rd_T27 l2 (x8_4.length : Int)).f1), .int .i64 ((rd_T27 l2 (x8_4.length : Int)).f2), .string ((rd_T27 l2 (x8_4.length : Int)).f3), .string ((rd_T27 l2 (x8_4.length : Int)).f4), .int .i64 ((rd_T27 l2 (x8_4.length : Int)).f5.f0), .int .u64 ((rd_T27 l2 (x8_4.length : Int)).f5.f1), .int .u64 0, .bool false, .slice none 0 0]) ?_ 7 _ rfl; refine blk_put (cs := #[.int .i64 ((rd_T27 l2 (x8_4.length : Int)).f0), .int .i64 ((rd_T27 l2 (x8_4.length : Int)).f1), .int .i64 ((rd_T27 l2 (x8_4.length : Int)).f2), .string ((rd_T27 l2 (x8_4.length : Int)).f3), .string ((rd_T27 l2 (x8_4.length : Int)).f4), .int .i64 ((rd_T27 l2 (x8_4.length : Int)).f5.f0), .int .u64 0, .int .u64 0, .bool false, .slice none 0 0]) ?_ 6 _ rfl; refine blk_put (cs := #[.int .i64 ((rd_T27 l2 (x8_4.length : Int)).f0), .int .i64 ((rd_T27 l2 (x8_4.length : Int)).f1), .int .i64 ((rd_T27 l2 (x8_4.length : Int)).f2), .string ((rd_T27 l2 (x8_4.length : Int)).f3), .string ((rd_T27 l2 (x8_4.length : Int)).f4), .int .i64 0, .int .u64 0, .int .u64 0, .bool false, .slice none 0 0]) ?_ 5 _ rfl; refine blk_put (cs := #[.int .i64 ((rd_T27 l2 (x8_4.length : Int)).f0), .int .i64 ((rd_T27 l2 (x8_4.length : Int)).f1), .int .i64 ((rd_T27 l2 (x8_4.length : Int)).f2), .string ((rd_T27 l2 (x8_4.length : Int)).f3), .string (⟨#[]⟩ : ByteArray), .int .i64 0, .int .u64 0, .int .u64 0, .bool false, .slice none 0 0]) ?_ 4 _ rfl; refine blk_put (cs := #[.int .i64 ((rd_T27 l2 (x8_4.length : Int)).f0), .int .i64 ((rd_T27 l2 (x8_4.length : Int)).f1), .int .i64 ((rd_T27 l2 (x8_4.length : Int)).f2), .string (⟨#[]⟩ : ByteArray), .string (⟨#[]⟩ : ByteArray), .int .i64 0, .int .u64 0, .int .u64 0, .bool false, .slice none 0 0]) ?_ 3 _ rfl; refine blk_put (cs := #[.int .i64 ((rd_T27 l2 (x8_4.length : Int)).f0), .int .i64 ((rd_T27 l2 (x8_4.length : Int)).f1), .int .i64 0, .string (⟨#[]⟩ : ByteArray), .string (⟨#[]⟩ : ByteArray), .int .i64 0, .int .u64 0, .int .u64 0, .bool false, .slice none 0 0]) ?_ 2 _ rfl; refine blk_put (cs := #[.int .i64 ((rd_T27 l2 (x8_4.length : Int)).f0), .int .i64 0, .int .i64 0, .string (⟨#[]⟩ : ByteArray), .string (⟨#[]⟩ : ByteArray), .int .i64 0, .int .u64 0, .int .u64 0, .bool false, .slice none 0 0]) ?_ 1 _ rfl; refine blk_put (cs := #[.int .i64 0, .int .i64 0, .int .i64 0, .string (⟨#[]⟩ : ByteArray), .string (⟨#[]⟩ : ByteArray), .int .i64 0, .int .u64 0, .int .u64 0, .bool false, .slice none 0 0]) ?_ 0 _ rfl; exact BK121.out⟩, ⟨by repeat (with_reducible first | exact HB.out | refine below_set ?_ GE121.out)⟩⟩
                case rest =>
                 clear HC32
                 (try clear c30b0); (try clear c30b1); (try clear c31b0); (try clear c31b1); (try clear hcz35_0 hcz35_1 hcz35_2 hcz35_3 hcz35_4 hcz35_5 hcz35_6 hcz35_7 hcz35_8 hcz35_9); (try clear hfz35_0 hfz35_1 hfz35_2 hfz35_3 hfz35_4 hfz35_5 hfz35_6 hfz35_7 hfz35_8 hfz35_9); (try clear hx120_0); (try clear hx120_1); (try clear hx120_2); (try clear hx120_3); (try clear hx120_4); (try clear hx120_5); (try clear hx120_6); (try clear hx120_7); (try clear hx120_8); (try clear hx120_9); (try clear p120); (try clear q120)
                 obtain ⟨kq, x94_31, rfl, HA, HJ31, HO_8, BK121, HB⟩ := hcut
                 cases kq with
                 | zero => exact absurd HA.out (by simp [syntax_match.j5])
                 | succ kj31 =>
                  have H := HA.out
                  clear HA
                  simp only [syntax_match.j5] at H
                  replace H := iB H; rcases H with ⟨rfl, H⟩ | ⟨rfl, H⟩
                  ·have H' := Aside0.mk H
                   clear H
                   go_wp2
                   go_meet
                   case rel => exact ⟨_, (x8_4), H', ⟨by have := HK1.out; have := HJ6.out; have := HJ12.out; have := HK4.out; have := HJ20.out; have := HJ31.out; omega⟩, ⟨by exact HO_8.out⟩, ⟨by repeat (with_reducible exact HB.out)⟩⟩
                  ·by_cases c48 : x8_4.length < 140737488355328
                   ·rw [if_pos c48] at H
                    have LMc48 := Aside0.mk c48
                    clear c48
                    obtain ⟨y124, hy124⟩ : ∃ y_ : List Int, y_ = (x8_4 ++ [(bt a1 x9_1)]) := ⟨_, rfl⟩
                    replace H : (syntax_match.l1 kj31 l0 a1 l2 y124 x9_12 (bt a1 x9_1) x11_12 (x8_1.length : Int)) = some (r1, r2) := by (rw [hy124]; with_reducible exact H)
                    have Ny124 := Aside0.mk hy124
                    clear hy124
                    have H' := Aside0.mk H
                    clear H
                    go_wp2_with (((with_reducible refine gate_builtin (b := .append) (xs := #[.tmp 95, .tmp 97]) rfl ?_); (try (refine gate_guard (by rfl) ?_; dsimp only)); at_builtin; refine Kd.R_append (Kd.int .u8) (w0 := w) w.heap.size rfl (.tmp 95) (.tmp 97) 90 5 (.int .u8 0) 1 rfl Try.underlying90 info5 rfl (by decide) (by omega) (.slice Ao33 x8_4.length co33) x8_4 (bt a1 x9_1) [.int .u8 (bt a1 x9_1)] (fun _ => True) (fun _ => False) rfl rfl ?aP (fun _ hk => hk.elim) ?aF ?aO ?aB ?aS ?aL ?_; (case aP => exact rfl); (case aB => exact HB.out); (case aF => exact (fun _ _ => trivial)); (case aO => exact HO_8.out); (case aS => exact (below_size HB.out)); (case aL => have := LMc48.out; omega); intro v125 w49 ho hb hg hat; rw [← Ny124.out] at ho; replace BK121 := Aside0.mk (blk_grown BK121.out hg (Kd.R_ne HO_8.out BK121.out (by decide))); replace HB := Aside0.mk (hb); have HO126 := Aside0.mk (ho); clear HO_8; clear ho hb hg hat))
                    go_roundg kj31
                    case measure => have := HK1.out; have := HJ6.out; have := HJ12.out; have := HK4.out; have := HJ20.out; have := HJ31.out; omega
                    case rel => exact ⟨(y124), H', ⟨by have := HK1.out; have := HJ6.out; have := HJ12.out; have := HK4.out; have := HJ20.out; have := HJ31.out; omega⟩, ⟨by exact HO126.out⟩, ⟨by repeat (with_reducible exact HB.out)⟩⟩
                   ·rw [if_neg c48] at H
                    exact absurd H (by simp)
               ·rw [if_neg c31] at H
                exact absurd H (by simp)
              ·rw [if_neg c30] at H
               exact absurd H (by simp)
             ·have H' := Aside0.mk H
              clear H
              go_wp2
              go_meet
              case rel => exact ⟨_, (x8_4), H', ⟨by have := HK1.out; have := HJ6.out; have := HJ12.out; have := HK4.out; have := HJ20.out; omega⟩, ⟨by exact HO_8.out⟩, ⟨by repeat (with_reducible exact HB.out)⟩⟩
        case rest =>
         clear HC19
         obtain ⟨kq, x8_18, HA, HJ18, HO_8, HB⟩ := hcut
         cases kq with
         | zero => exact absurd HA.out (by simp [syntax_match.j6])
         | succ kj18 =>
          have H := HA.out
          clear HA
          simp only [syntax_match.j6] at H
          replace H := iE H; rcases H with ⟨c50b0, c50b1, H⟩ | ⟨c50, c50b0, c50b1, H⟩
          ·have H' := Aside0.mk H
           clear H
           go_wp2
           go_roundg kj18
           case measure => have := HK1.out; have := HJ6.out; have := HJ12.out; have := HJ18.out; omega
           case rel => exact ⟨(x8_18), (wrap64 (x9_12 + 1)), (by rfl), H', ⟨by have := HK1.out; have := HJ6.out; have := HJ12.out; have := HJ18.out; omega⟩, ⟨by exact HO_8.out⟩, ⟨by repeat (with_reducible exact HB.out)⟩⟩
          ·by_cases c51 : (x8_18.length : Int) = (x8_1.length : Int)
           ·rw [if_pos c51] at H
            have c51b0 : ((x8_18.length : Int) == (x8_1.length : Int)) = true := beq_iff_eq.mpr c51
            have c51b1 : ((x8_18.length : Int) != (x8_1.length : Int)) = false := bne_eq_false_iff_eq.mpr c51
            have c51b2 : (x8_18.length == x8_1.length) = true := by (simp at c51 ⊢; omega)
            clear c51
            replace H := s2 H; obtain ⟨rfl, rfl⟩ := H
            obtain ⟨Ao52, co52, eo52⟩ := Kd.R_slice HO_8.out
            subst eo52
            go_wp2
            go_ret2
            exact ⟨_, by rfl, by exact Kd.R_nil _ _ _ _ _, by repeat (with_reducible exact HB.out)⟩
           ·rw [if_neg c51] at H
            have c51b0 : ((x8_18.length : Int) == (x8_1.length : Int)) = false := beq_eq_false_iff_ne.mpr c51
            have c51b1 : ((x8_18.length : Int) != (x8_1.length : Int)) = true := bne_iff_ne.mpr c51
            have c51b2 : (x8_18.length == x8_1.length) = false := by (simp at c51 ⊢; omega)
            have H' := Aside0.mk H
            clear H
            obtain ⟨Ao53, co53, eo53⟩ := Kd.R_slice HO_8.out
            subst eo53
            go_wp2
            go_roundg kj18
            case measure => have := HK1.out; have := HJ6.out; have := HJ12.out; have := HJ18.out; omega
            case rel => exact ⟨(x8_18), (wrap64 (x9_12 + 1)), (by rfl), H', ⟨by have := HK1.out; have := HJ6.out; have := HJ12.out; have := HJ18.out; omega⟩, ⟨by exact HO_8.out⟩, ⟨by repeat (with_reducible exact HB.out)⟩⟩
   ·replace H := s2 H; obtain ⟨rfl, rfl⟩ := H
    obtain ⟨Ao54, co54, eo54⟩ := Kd.R_slice HO_8.out
    subst eo54
    go_wp2
    go_ret2
    exact ⟨_, by rfl, by exact HO_8.out, by repeat (with_reducible exact HB.out)⟩
end Go.Proofs.Ytlamgdibnnmbmaa.PSyn
end
section
namespace Go.Proofs.Ytlamgdibnnmbmaa.PSyn
open Go.RowKit Go.Proofs.YtlamgdibnnmbmaaW.PrintWords Go.Proofs.YtlamgdibnnmbmaaW.PrintLast Go.Proofs.YtlamgdibnnmbmaaW.PrintMore
attribute [local go_sem] max2_int min2_int max_two min_two max_three min_three max_four min_four
set_option linter.unusedVariables false
set_option linter.unusedSimpArgs false
def maskref1_contains.l0 : Nat → ByteArray → ByteArray → Int → Option (Bool)
 | 0, _, _, _ => none
 | k + 1, x0, x1, x5 => if (wrap64 (x5 + (x1.size : Int))) ≤ (x0.size : Int) then (if 0 ≤ x5 then (if x5 ≤ (wrap64 (x5 + (x1.size : Int))) then (if (x0.extract (x5 : Int).toNat ((wrap64 (x5 + (x1.size : Int))) : Int).toNat).toList = x1.toList then (some true) else (maskref1_contains.l0 k x0 x1 (wrap64 (x5 + 1)))) else (none)) else (none)) else (some false)
def maskref1_contains.f (k : Nat) (a0 : ByteArray) (a1 : ByteArray) : Option (Bool) := maskref1_contains.l0 k a0 a1 0
end Go.Proofs.Ytlamgdibnnmbmaa.PSyn
end
section
namespace Go.Proofs.Ytlamgdibnnmbmaa.PSyn
open Go.RowKit Go.Proofs.YtlamgdibnnmbmaaW.PrintWords Go.Proofs.YtlamgdibnnmbmaaW.PrintLast Go.Proofs.YtlamgdibnnmbmaaW.PrintMore
attribute [local go_sem] max2_int min2_int max_two min_two max_three min_three max_four min_four
set_option linter.unusedVariables false
set_option linter.unusedSimpArgs false
mutual
def maskref1_taken.l0 : Nat → List (S73) → ByteArray → List (S27) → List ByteArray → Option (List ByteArray × Bool)
 | 0, _, _, _, _ => none
 | k + 1, x0, x1, x2, x8 => if x1.toList = ([] : List UInt8) then (some (x8, ((x8.length : Int) == (x2.length : Int)))) else (if 0 ≤ 1 then (if 1 ≤ (x1.size : Int) then (if (x1.extract 1 x1.size).toList = ([] : List UInt8) then (maskref1_taken.j1 k x0 (x1.extract 1 x1.size) x2 x8 (x1.extract 0 1) (⟨#[]⟩ : ByteArray) false) else (if 0 < ((x1.extract 1 x1.size).size : Int) then (if (bt (x1.extract 1 x1.size) 0) = 42 then (maskref1_taken.j1 k x0 (x1.extract 1 x1.size) x2 x8 (x1.extract 0 1) (⟨#[]⟩ : ByteArray) true) else (if (bt (x1.extract 1 x1.size) 0) = 43 then (maskref1_taken.j1 k x0 (x1.extract 1 x1.size) x2 x8 (x1.extract 0 1) (⟨#[]⟩ : ByteArray) true) else (maskref1_taken.j1 k x0 (x1.extract 1 x1.size) x2 x8 (x1.extract 0 1) (⟨#[]⟩ : ByteArray) ((bt (x1.extract 1 x1.size) 0) == 63)))) else (none))) else (none)) else (none))
def maskref1_taken.j1 : Nat → List (S73) → ByteArray → List (S27) → List ByteArray → ByteArray → ByteArray → Bool → Option (List ByteArray × Bool)
 | 0, _, _, _, _, _, _, _ => none
 | k + 1, x0, x1, x2, x8, x9, x10, x37 => if x37 = true then (if 0 ≤ 1 then (if 1 ≤ (x1.size : Int) then (maskref1_taken.j2 k x0 (x1.extract 1 x1.size) x2 x8 x9 (x1.extract 0 1)) else (none)) else (none)) else (maskref1_taken.j2 k x0 x1 x2 x8 x9 x10)
def maskref1_taken.j2 : Nat → List (S73) → ByteArray → List (S27) → List ByteArray → ByteArray → ByteArray → Option (List ByteArray × Bool)
 | 0, _, _, _, _, _, _ => none
 | k + 1, x0, x1, x2, x8, x9, x10 => maskref1_taken.l1 k x0 x1 x2 x8 x9 x10 0
def maskref1_taken.j6 : Nat → List (S73) → ByteArray → List (S27) → List ByteArray → ByteArray → Int → Option (List ByteArray × Bool)
 | 0, _, _, _, _, _, _ => none
 | k + 1, x0, x1, x2, x8, x10, x11 => if x11 = 0 then (if x10.toList = ([42] : List UInt8) then (maskref1_taken.l0 k x0 x1 x2 x8) else (some (([] : List ByteArray), false))) else (maskref1_taken.l0 k x0 x1 x2 x8)
def maskref1_taken.l1 : Nat → List (S73) → ByteArray → List (S27) → List ByteArray → ByteArray → ByteArray → Int → Option (List ByteArray × Bool)
 | 0, _, _, _, _, _, _, _ => none
 | k + 1, x0, x1, x2, x8, x9, x10, x11 => if (x8.length : Int) < (x2.length : Int) then (if 0 ≤ (x8.length : Int) then (if x10.toList = ([42] : List UInt8) then (maskref1_taken.j4 k x0 x1 x2 x8 x9 x10 x11 true ((rd_T27 x2 (x8.length : Int)).f0) ((rd_T27 x2 (x8.length : Int)).f1) ((rd_T27 x2 (x8.length : Int)).f2) ((rd_T27 x2 (x8.length : Int)).f3) ((rd_T27 x2 (x8.length : Int)).f4) ((rd_T27 x2 (x8.length : Int)).f5.f0) ((rd_T27 x2 (x8.length : Int)).f5.f1) ((rd_T27 x2 (x8.length : Int)).f5.f2) ((rd_T27 x2 (x8.length : Int)).f6) ((rd_T27 x2 (x8.length : Int)).f7)) else (maskref1_taken.j4 k x0 x1 x2 x8 x9 x10 x11 (x10.toList == ([43] : List UInt8)) ((rd_T27 x2 (x8.length : Int)).f0) ((rd_T27 x2 (x8.length : Int)).f1) ((rd_T27 x2 (x8.length : Int)).f2) ((rd_T27 x2 (x8.length : Int)).f3) ((rd_T27 x2 (x8.length : Int)).f4) ((rd_T27 x2 (x8.length : Int)).f5.f0) ((rd_T27 x2 (x8.length : Int)).f5.f1) ((rd_T27 x2 (x8.length : Int)).f5.f2) ((rd_T27 x2 (x8.length : Int)).f6) ((rd_T27 x2 (x8.length : Int)).f7))) else (none)) else (maskref1_taken.j6 k x0 x1 x2 x8 x10 x11)
def maskref1_taken.j4 : Nat → List (S73) → ByteArray → List (S27) → List ByteArray → ByteArray → ByteArray → Int → Bool → Int → Int → Int → ByteArray → ByteArray → Int → Int → Int → Bool → List (S27) → Option (List ByteArray × Bool)
 | 0, _, _, _, _, _, _, _, _, _, _, _, _, _, _, _, _, _, _ => none
 | k + 1, x0, x1, x2, x8, x9, x10, x11, x13, x195000, x195001, x195002, x195003, x195004, x195005, x195006, x195007, x195008, x195009 => if x13 = true then (if x195000 = 0 then (maskref1_taken.j5 k x0 x1 x2 x8 x9 x10 x11 false) else (if x195000 > 0 then (if x195000 < (x0.length : Int) then (if 0 ≤ x195000 then ((maskref1_contains.f k ((rd_T73 x0 x195000).f0) x9).bind fun t196 => (maskref1_taken.j5 k x0 x1 x2 x8 x9 x10 x11 t196)) else (none)) else (maskref1_taken.j5 k x0 x1 x2 x8 x9 x10 x11 false)) else (maskref1_taken.j5 k x0 x1 x2 x8 x9 x10 x11 false))) else (if x11 = 0 then (if x195000 = 0 then (maskref1_taken.j5 k x0 x1 x2 x8 x9 x10 x11 (x10.toList == ([63] : List UInt8))) else (maskref1_taken.j5 k x0 x1 x2 x8 x9 x10 x11 true)) else (maskref1_taken.j5 k x0 x1 x2 x8 x9 x10 x11 false))
def maskref1_taken.j5 : Nat → List (S73) → ByteArray → List (S27) → List ByteArray → ByteArray → ByteArray → Int → Bool → Option (List ByteArray × Bool)
 | 0, _, _, _, _, _, _, _, _ => none
 | k + 1, x0, x1, x2, x8, x9, x10, x11, x14 => if x14 = true then (if x8.length < 8796093022208 then (maskref1_taken.l1 k x0 x1 x2 (x8 ++ [x9]) x9 x10 (wrap64 (x11 + 1))) else (none)) else (maskref1_taken.j6 k x0 x1 x2 x8 x10 x11)
end
end Go.Proofs.Ytlamgdibnnmbmaa.PSyn
end
section
namespace Go.Proofs.Ytlamgdibnnmbmaa.PSyn
open Go.RowKit Go.Proofs.YtlamgdibnnmbmaaW.PrintWords Go.Proofs.YtlamgdibnnmbmaaW.PrintLast Go.Proofs.YtlamgdibnnmbmaaW.PrintMore
attribute [local go_sem] max2_int min2_int max_two min_two max_three min_three max_four min_four
set_option linter.unusedVariables false
set_option linter.unusedSimpArgs false
def bits_mask.f (a0 : Int) : Option (Int) := if a0 ≥ 64 then (some 18446744073709551615) else (if 0 ≤ a0 then (some (IntKind.u64.wrap ((shl .u64 1 a0) - 1))) else (none))
set_option maxHeartbeats 8000000 in
set_option maxRecDepth 100000 in
theorem bits_mask.calls (a0 : Int) (r : Int) (w : World) (h : bits_mask.f a0 = some r) :
  Calls Try.prog 90 #[.int .i64 a0] w fun e w' => e = .returned (.int .u64 r) ∧ Drawn0 w w' := by
 have H := h
 clear h
 unfold bits_mask.f at H
 replace H := iD H; rcases H with ⟨c2b0, H⟩ | ⟨c2b0, H⟩
 ·replace c2b0 : decide (64 ≤ a0) = true := c2b0
  obtain rfl := Option.some.inj H
  go_enter Try.func90, Try.ntmps90
  go_wp2
  go_ret
  exact ⟨by rfl, by repeat (exact Drawn0.refl _)⟩
 ·replace c2b0 : decide (64 ≤ a0) = false := c2b0
  by_cases c3 : 0 ≤ a0
  ·rw [if_pos c3] at H
   have c3b0 := eq_true c3
   have c3b1 : decide (0 ≤ a0) = true := decide_eq_true c3
   clear c3
   obtain ⟨ji4, hji4⟩ : ∃ j_ : Int, (shl .u64 1 a0) = j_ := ⟨_, rfl⟩
   replace H : (some (IntKind.u64.wrap ((ji4) - 1))) = some r := by (rw [hji4] at H; exact H)
   have hji4_ : (IntKind.u64.wrap (1 * 2 ^ min a0.toNat 64)) = ji4 := hji4
   have hji4z : a0 ≤ 64 → (IntKind.u64.wrap (1 * 2 ^ a0.toNat)) = ji4 := shl_small hji4
   have hji4u : (IntKind.u64.wrap (2 ^ min a0.toNat 64)) = ji4 := by have h_ := hji4_; rw [Int.one_mul] at h_; exact h_
   have hji4v : a0 ≤ 64 → (IntKind.u64.wrap (2 ^ a0.toNat)) = ji4 := fun hle_ => by have h_ := hji4z hle_; rw [Int.one_mul] at h_; exact h_
   obtain rfl := Option.some.inj H
   go_enter Try.func90, Try.ntmps90
   go_wp2
   go_ret
   exact ⟨by rfl, by repeat (exact Drawn0.refl _)⟩
  ·rw [if_neg c3] at H
   exact absurd H (by simp)
end Go.Proofs.Ytlamgdibnnmbmaa.PSyn
end
section
namespace Go.Proofs.Ytlamgdibnnmbmaa.PSyn
open Go.RowKit Go.Proofs.YtlamgdibnnmbmaaW.PrintWords Go.Proofs.YtlamgdibnnmbmaaW.PrintLast Go.Proofs.YtlamgdibnnmbmaaW.PrintMore
attribute [local go_sem] max2_int min2_int max_two min_two max_three min_three max_four min_four
set_option linter.unusedVariables false
set_option linter.unusedSimpArgs false
def bits_Check.j0 : Nat → Bool → Int → Int → Int → Option (Int)
 | 0, _, _, _, _ => none
 | k + 1, x10, x111000, x111001, x111002 => if x10 = true then (some 2) else ((bits_mask.f x111000).bind fun t111 => (if (Go.bits .andNot .u64 (Go.bits .or .u64 x111001 x111002) t111) = 0 then (some 0) else (some 4)))
def bits_Check.f (k : Nat) (a0_0 : Int) (a0_1 : Int) (a0_2 : Int) : Option (Int) := if a0_0 < 1 then (bits_Check.j0 k true a0_0 a0_1 a0_2) else (bits_Check.j0 k (decide (a0_0 > 64)) a0_0 a0_1 a0_2)
theorem bits_Check.mono_l : ∀ k, (∀ y0 y1 y2 y3, LeO (bits_Check.j0 k y0 y1 y2 y3) (bits_Check.j0 (k + 1) y0 y1 y2 y3))
 | 0 => fun _ _ _ _ r h => by simp [bits_Check.j0] at h
 | k + 1 => by
  have ih0 := bits_Check.mono_l k
  ·intro y0 y1 y2 y3
   unfold bits_Check.j0
   repeat' first | with_reducible exact ih0 _ _ _ _ | with_reducible exact LeO.refl _ | with_reducible exact LeO.none _ | with_reducible refine LeO.ite ?_ ?_ | with_reducible refine LeO.bind ?_ (fun _ => ?_)
theorem bits_Check.mono : ∀ a0 a1 a2 k, LeO (bits_Check.f k a0 a1 a2) (bits_Check.f (k + 1) a0 a1 a2) := by
 intro a0 a1 a2 k
 have ih0 := bits_Check.mono_l k
 unfold bits_Check.f
 repeat' first | with_reducible exact ih0 _ _ _ _ | with_reducible exact LeO.refl _ | with_reducible exact LeO.none _ | with_reducible refine LeO.ite ?_ ?_ | with_reducible refine LeO.bind ?_ (fun _ => ?_)
set_option maxHeartbeats 8000000 in
set_option maxRecDepth 100000 in
theorem bits_Check.calls (k : Nat) (a0_0 : Int) (a0_1 : Int) (a0_2 : Int) (r : Int) (w : World) (h : bits_Check.f k a0_0 a0_1 a0_2 = some r) :
  Calls Try.prog 81 #[.agg #[.int .i64 a0_0, .int .u64 a0_1, .int .u64 a0_2]] w fun e w' => e = .returned (.int .i64 r) ∧ Below w.heap.size w w' := by
 have hu24 := Try.underlying24
 have HB := Aside0.mk (Below.refl w.heap.size w)
 have H := h
 clear h
 unfold bits_Check.f at H
 have HC2 := Aside0.mk H
 clear H
 go_enter Try.func81, Try.ntmps81
 go_upto_region 1 with ((refine boxA HB 1 #[.int .i64 a0_0, .int .u64 a0_1, .int .u64 a0_2] 24 ?_; clear HB; intro gb110 w3 BK110 GE110 hg hb HB; clear hb hg))
 go_cut [10] (fun v10 wc => ∃ (kq : Nat) (x10_1 : Bool), v10 = .bool x10_1 ∧ Aside0 (bits_Check.j0 kq x10_1 a0_0 a0_1 a0_2 = some r) ∧ Aside0 (kq ≤ k) ∧ Aside0 (wc.heap[gb110]? = some (.cells #[.int .i64 a0_0, .int .u64 a0_1, .int .u64 a0_2] 24 (0, 0))) ∧ Aside0 (Below w.heap.size w wc))
 case first =>
  have H := HC2.out
  clear HC2
  replace H := iD H; rcases H with ⟨c4b0, H⟩ | ⟨c4b0, H⟩
  ·(skip)
   have H' := Aside0.mk H
   clear H
   obtain ⟨hcz5_0, hcz5_1, hcz5_2, hfz5_0, hfz5_1, hfz5_2⟩ := cf3 BK110
   go_wp2
   go_meet
   case rel => exact ⟨_, (true), (by rfl), H', ⟨by omega⟩, ⟨by exact BK110.out⟩, ⟨by repeat (with_reducible exact HB.out)⟩⟩
  ·(skip)
   have H' := Aside0.mk H
   clear H
   obtain ⟨hcz6_0, hcz6_1, hcz6_2, hfz6_0, hfz6_1, hfz6_2⟩ := cf3 BK110
   go_wp2
   go_meet
   case rel => exact ⟨_, (decide (a0_0 > 64)), (by rfl), H', ⟨by omega⟩, ⟨by exact BK110.out⟩, ⟨by repeat (with_reducible exact HB.out)⟩⟩
 case rest =>
  clear HC2
  obtain ⟨kq, x10_1, rfl, HA, HJ1, BK110, HB⟩ := hcut
  cases kq with
  | zero => exact absurd HA.out (by simp [bits_Check.j0])
  | succ kj1 =>
   have H := HA.out
   clear HA
   simp only [bits_Check.j0] at H
   replace H := iB H; rcases H with ⟨rfl, H⟩ | ⟨rfl, H⟩
   ·obtain rfl := Option.some.inj H
    go_wp2
    go_ret
    exact ⟨by rfl, by repeat (with_reducible exact HB.out)⟩
   ·replace H := bN H; obtain ⟨t111, A8, H⟩ := H
    replace H := iE H; rcases H with ⟨c9b0, c9b1, H⟩ | ⟨c9, c9b0, c9b1, H⟩
    ·obtain rfl := Option.some.inj H
     obtain ⟨hcz10_0, hcz10_1, hcz10_2, hfz10_0, hfz10_1, hfz10_2⟩ := cf3 BK110
     go_wp2
     repeat (go_quiet ((go_at_call 90; (with_reducible refine (bits_mask.calls a0_0 t111 _ A8.out).mono ?_); rintro e w' ⟨rfl, ⟨nd, rfl⟩⟩; (try exact ⟨rfl, _, World.drewN_drewN _ _ _⟩))); try go_wp2)
     go_ret
     exact ⟨by rfl, by repeat (with_reducible first | exact HB.out | apply pw_below_drewN)⟩
    ·obtain rfl := Option.some.inj H
     obtain ⟨hcz11_0, hcz11_1, hcz11_2, hfz11_0, hfz11_1, hfz11_2⟩ := cf3 BK110
     go_wp2
     repeat (go_quiet ((go_at_call 90; (with_reducible refine (bits_mask.calls a0_0 t111 _ A8.out).mono ?_); rintro e w' ⟨rfl, ⟨nd, rfl⟩⟩; (try exact ⟨rfl, _, World.drewN_drewN _ _ _⟩))); try go_wp2)
     go_ret
     exact ⟨by rfl, by repeat (with_reducible first | exact HB.out | apply pw_below_drewN)⟩
end Go.Proofs.Ytlamgdibnnmbmaa.PSyn
end
section
namespace Go.Proofs.Ytlamgdibnnmbmaa.PSyn
open Go.RowKit Go.Proofs.YtlamgdibnnmbmaaW.PrintWords Go.Proofs.YtlamgdibnnmbmaaW.PrintLast Go.Proofs.YtlamgdibnnmbmaaW.PrintMore
attribute [local go_sem] max2_int min2_int max_two min_two max_three min_three max_four min_four
set_option linter.unusedVariables false
set_option linter.unusedSimpArgs false
def lex_quotable.f (a0 : Int) : Option (Bool) := if a0 > 32 then (if a0 ≤ 126 then ((strings_IndexByte.f (⟨#[46, 91, 93, 96, 34, 92]⟩ : ByteArray) a0).bind fun t108 => (some (decide (t108 < 0)))) else (some false)) else (some false)
set_option maxHeartbeats 8000000 in
set_option maxRecDepth 100000 in
theorem lex_quotable.calls (a0 : Int) (r : Bool) (w : World) (h : lex_quotable.f a0 = some r) :
  Calls Try.prog 50 #[.int .u8 a0] w fun e w' => e = .returned (.bool r) ∧ Drawn0 w w' := by
 have H := h
 clear h
 unfold lex_quotable.f at H
 replace H := iD H; rcases H with ⟨c2b0, H⟩ | ⟨c2b0, H⟩
 ·replace c2b0 : decide (32 < a0) = true := c2b0
  replace H := iD H; rcases H with ⟨c3b0, H⟩ | ⟨c3b0, H⟩
  ·replace H := bN H; obtain ⟨t108, A4, H⟩ := H
   obtain rfl := Option.some.inj H
   go_enter Try.func50, Try.ntmps50
   go_wp2_with ((go_at_call 51; (with_reducible refine (strings_IndexByte.calls (⟨#[46, 91, 93, 96, 34, 92]⟩ : ByteArray) a0 t108 _ A4.out).mono ?_); rintro e w' ⟨rfl, ⟨nd, rfl⟩⟩))
   go_ret
   exact ⟨by rfl, by repeat (first | exact Drawn0.refl _ | apply Drawn0.step)⟩
  ·obtain rfl := Option.some.inj H
   go_enter Try.func50, Try.ntmps50
   go_wp2
   go_ret
   exact ⟨by rfl, by repeat (exact Drawn0.refl _)⟩
 ·replace c2b0 : decide (32 < a0) = false := c2b0
  obtain rfl := Option.some.inj H
  go_enter Try.func50, Try.ntmps50
  go_wp2
  go_ret
  exact ⟨by rfl, by repeat (exact Drawn0.refl _)⟩
end Go.Proofs.Ytlamgdibnnmbmaa.PSyn
end
section
namespace Go.Proofs.Ytlamgdibnnmbmaa.PSyn
open Go.RowKit Go.Proofs.YtlamgdibnnmbmaaW.PrintWords Go.Proofs.YtlamgdibnnmbmaaW.PrintLast Go.Proofs.YtlamgdibnnmbmaaW.PrintMore
attribute [local go_sem] max2_int min2_int max_two min_two max_three min_three max_four min_four
set_option linter.unusedVariables false
set_option linter.unusedSimpArgs false
mutual
def lex_Quoted.j0 : Nat → ByteArray → Bool → Option (Bool)
 | 0, _, _ => none
 | k + 1, x0, x11 => if x11 = true then (some false) else (lex_Quoted.l0 k x0 (x0.size : Int) 0)
def lex_Quoted.l0 : Nat → ByteArray → Int → Int → Option (Bool)
 | 0, _, _, _ => none
 | k + 1, x0, x13, x14 => if x14 < x13 then (if 0 ≤ x14 then (if x14 < (x0.size : Int) then ((lex_quotable.f (bt x0 x14)).bind fun t109 => (if t109 = true then (lex_Quoted.l0 k x0 x13 (wrap64 (x14 + 1))) else (some false))) else (none)) else (none)) else (some true)
end
def lex_Quoted.f (k : Nat) (a0 : ByteArray) : Option (Bool) := if (a0.size : Int) < 1 then (lex_Quoted.j0 k a0 true) else (lex_Quoted.j0 k a0 (decide ((a0.size : Int) > 40)))
theorem lex_Quoted.mono_l : ∀ k, (∀ y0 y1, LeO (lex_Quoted.j0 k y0 y1) (lex_Quoted.j0 (k + 1) y0 y1)) ∧ (∀ y0 y1 y2, LeO (lex_Quoted.l0 k y0 y1 y2) (lex_Quoted.l0 (k + 1) y0 y1 y2))
 | 0 => ⟨fun _ _ r h => by simp [lex_Quoted.j0] at h, fun _ _ _ r h => by simp [lex_Quoted.l0] at h⟩
 | k + 1 => by
  obtain ⟨ih0, ih1⟩ := lex_Quoted.mono_l k
  refine ⟨?_, ?_⟩
  ·intro y0 y1
   unfold lex_Quoted.j0
   repeat' first | with_reducible exact ih0 _ _ | with_reducible exact ih1 _ _ _ | with_reducible exact LeO.refl _ | with_reducible exact LeO.none _ | with_reducible refine LeO.ite ?_ ?_ | with_reducible refine LeO.bind ?_ (fun _ => ?_)
  ·intro y0 y1 y2
   unfold lex_Quoted.l0
   repeat' first | with_reducible exact ih0 _ _ | with_reducible exact ih1 _ _ _ | with_reducible exact LeO.refl _ | with_reducible exact LeO.none _ | with_reducible refine LeO.ite ?_ ?_ | with_reducible refine LeO.bind ?_ (fun _ => ?_)
theorem lex_Quoted.mono : ∀ a0 k, LeO (lex_Quoted.f k a0) (lex_Quoted.f (k + 1) a0) := by
 intro a0 k
 obtain ⟨ih0, ih1⟩ := lex_Quoted.mono_l k
 unfold lex_Quoted.f
 repeat' first | with_reducible exact ih0 _ _ | with_reducible exact ih1 _ _ _ | with_reducible exact LeO.refl _ | with_reducible exact LeO.none _ | with_reducible refine LeO.ite ?_ ?_ | with_reducible refine LeO.bind ?_ (fun _ => ?_)
set_option maxHeartbeats 8000000 in
set_option maxRecDepth 100000 in
theorem lex_Quoted.calls (k : Nat) (a0 : ByteArray) (r : Bool) (w : World) (h : lex_Quoted.f k a0 = some r) :
  Calls Try.prog 80 #[.string a0] w fun e w' => e = .returned (.bool r) ∧ Drawn0 w w' := by
 have H := h
 clear h
 unfold lex_Quoted.f at H
 have HC2 := Aside0.mk H
 clear H
 go_enter Try.func80, Try.ntmps80
 go_upto_region 1 with (fail)
 go_cut [11] (fun v11 wc => ∃ (kq : Nat) (x11_1 : Bool), v11 = .bool x11_1 ∧ Aside0 (lex_Quoted.j0 kq a0 x11_1 = some r) ∧ Aside0 (kq ≤ k) ∧ Drawn0 w wc)
 case first =>
  have H := HC2.out
  clear HC2
  by_cases c3 : (a0.size : Int) < 1
  ·rw [if_pos c3] at H
   have c3b0 : decide ((a0.size : Int) < 1) = true := decide_eq_true c3
   have c3b1 : decide (a0.size < 1) = true := decide_eq_true (by omega)
   clear c3
   (skip)
   have H' := Aside0.mk H
   clear H
   go_wp2
   go_meet
   case rel => exact ⟨_, (true), (by rfl), H', ⟨by omega⟩, by repeat (exact Drawn0.refl _)⟩
  ·rw [if_neg c3] at H
   have c3b0 : decide ((a0.size : Int) < 1) = false := decide_eq_false c3
   have c3b1 : decide (a0.size < 1) = false := decide_eq_false (by omega)
   clear c3
   (skip)
   have H' := Aside0.mk H
   clear H
   go_wp2
   go_meet
   case rel => exact ⟨_, (decide ((a0.size : Int) > 40)), (by rfl), H', ⟨by omega⟩, by repeat (exact Drawn0.refl _)⟩
 case rest =>
  clear HC2
  obtain ⟨kq, x11_1, rfl, HA, HJ1, ⟨mc1, rfl⟩⟩ := hcut
  cases kq with
  | zero => exact absurd HA.out (by simp [lex_Quoted.j0])
  | succ kj1 =>
   have H := HA.out
   clear HA
   simp only [lex_Quoted.j0] at H
   replace H := iB H; rcases H with ⟨rfl, H⟩ | ⟨rfl, H⟩
   ·obtain rfl := Option.some.inj H
    go_wp2
    go_ret
    exact ⟨by rfl, by repeat (first | exact Drawn0.refl _ | apply Drawn0.step)⟩
   ·have H' := Aside0.mk H
    clear H
    go_wp2
    go_loopg [14] kj1 (fun kq v14 w' => ∃ (x14_2 : Int), v14 = .int .i64 x14_2 ∧ Aside0 (lex_Quoted.l0 kq a0 (a0.size : Int) x14_2 = some r) ∧ Aside0 (kq ≤ kj1) ∧ Drawn0 w w')
    case atStart => exact ⟨(0), (by rfl), H', ⟨Nat.le_refl _⟩, by repeat (first | exact Drawn0.refl _ | apply Drawn0.step)⟩
    case round =>
     clear H'
     obtain ⟨x14_2, rfl, HA, HK2, ⟨m2, rfl⟩⟩ := hrel
     cases gk with
     | zero => exact absurd HA.out (by simp [lex_Quoted.l0])
     | succ k2 =>
      have H := HA.out
      clear HA
      simp only [lex_Quoted.l0] at H
      replace H := iD H; rcases H with ⟨c5b0, H⟩ | ⟨c5b0, H⟩
      ·replace H := iN H; obtain ⟨c6b0, H⟩ := H
       replace H := iN H; obtain ⟨c7b0, H⟩ := H
       replace H := bN H; obtain ⟨t109, A9, H⟩ := H
       replace H := iB H; rcases H with ⟨rfl, H⟩ | ⟨rfl, H⟩
       ·have H' := Aside0.mk H
        clear H
        have p8 : 0 ≤ (x14_2 : Int) := of_decide_eq_true (by (with_reducible assumption))
        have q8 : x14_2 < (a0.size : Int) := of_decide_eq_true (by (with_reducible assumption))
        have hx8 := bt_at a0 x14_2
        replace p8 := eq_true p8
        replace q8 := eq_true q8
        go_wp2_with ((refine callA (some 20) Try.func50 #[.int .u8 (bt a0 x14_2)] ?_; (with_reducible refine (lex_quotable.calls (bt a0 x14_2) true _ A9.out).mono ?_); rintro e w' ⟨rfl, ⟨nd, rfl⟩⟩; refine ⟨_, rfl, ?_⟩))
        go_roundg k2
        case measure => have := HJ1.out; have := HK2.out; omega
        case rel => exact ⟨(wrap64 (x14_2 + 1)), (by rfl), H', ⟨by have := HJ1.out; have := HK2.out; omega⟩, by repeat (first | exact Drawn0.refl _ | apply Drawn0.step)⟩
       ·obtain rfl := Option.some.inj H
        have p8 : 0 ≤ (x14_2 : Int) := of_decide_eq_true (by (with_reducible assumption))
        have q8 : x14_2 < (a0.size : Int) := of_decide_eq_true (by (with_reducible assumption))
        have hx8 := bt_at a0 x14_2
        replace p8 := eq_true p8
        replace q8 := eq_true q8
        go_wp2_with ((refine callA (some 20) Try.func50 #[.int .u8 (bt a0 x14_2)] ?_; (with_reducible refine (lex_quotable.calls (bt a0 x14_2) false _ A9.out).mono ?_); rintro e w' ⟨rfl, ⟨nd, rfl⟩⟩; refine ⟨_, rfl, ?_⟩))
        go_ret
        exact ⟨by rfl, by repeat (first | exact Drawn0.refl _ | apply Drawn0.step)⟩
      ·obtain rfl := Option.some.inj H
       go_wp2
       go_ret
       exact ⟨by rfl, by repeat (first | exact Drawn0.refl _ | apply Drawn0.step)⟩
end Go.Proofs.Ytlamgdibnnmbmaa.PSyn
end
section
namespace Go.Proofs.Ytlamgdibnnmbmaa.PSyn
open Go.RowKit Go.Proofs.YtlamgdibnnmbmaaW.PrintWords Go.Proofs.YtlamgdibnnmbmaaW.PrintLast Go.Proofs.YtlamgdibnnmbmaaW.PrintMore
attribute [local go_sem] max2_int min2_int max_two min_two max_three min_three max_four min_four
set_option linter.unusedVariables false
set_option linter.unusedSimpArgs false
attribute [local go_sem high] eqA24
mutual
def syntax_fields.j0 : Nat → ByteArray → Bool → Bool → Int → Int → Int → ByteArray → ByteArray → Int → Int → Int → Bool → List (S27) → Option (Int)
 | 0, _, _, _, _, _, _, _, _, _, _, _, _, _ => none
 | k + 1, x0, x6, x18, x113000, x113001, x113002, x113003, x113004, x113005, x113006, x113007, x113008, x113009 => if x18 = true then (some 9) else (if x6 = true then ((bits_Check.f k x113005 x113006 x113007).bind fun t116 => (syntax_fields.j1 k x0 x6 (t116 != 0) x113000 x113001 x113002 x113003 x113004 x113005 x113006 x113007 x113008 x113009)) else (syntax_fields.j1 k x0 x6 false x113000 x113001 x113002 x113003 x113004 x113005 x113006 x113007 x113008 x113009))
def syntax_fields.j1 : Nat → ByteArray → Bool → Bool → Int → Int → Int → ByteArray → ByteArray → Int → Int → Int → Bool → List (S27) → Option (Int)
 | 0, _, _, _, _, _, _, _, _, _, _, _, _, _ => none
 | k + 1, x0, x6, x26, x113000, x113001, x113002, x113003, x113004, x113005, x113006, x113007, x113008, x113009 => if x26 = true then (syntax_fields.j4 k x26 x113000 x113001 x113002 x113003 x113004 x113005 x113006 x113007 x113008 x113009) else (if x6 = true then (syntax_fields.j2 k x0 x6 false x113000 x113001 x113002 x113003 x113004 x113005 x113006 x113007 x113008 x113009) else (syntax_fields.j2 k x0 x6 (!(x113005 == 0) || (!(x113006 == 0) || (!(x113007 == 0)))) x113000 x113001 x113002 x113003 x113004 x113005 x113006 x113007 x113008 x113009))
def syntax_fields.j4 : Nat → Bool → Int → Int → Int → ByteArray → ByteArray → Int → Int → Int → Bool → List (S27) → Option (Int)
 | 0, _, _, _, _, _, _, _, _, _, _, _ => none
 | k + 1, x26, x113000, x113001, x113002, x113003, x113004, x113005, x113006, x113007, x113008, x113009 => if x26 = true then (some 4) else (if (x113004.size : Int) > 200 then (some 3) else (syntax_fields.l0 k (x113004.size : Int) 0 x113000 x113001 x113002 x113003 x113004 x113005 x113006 x113007 x113008 x113009))
def syntax_fields.l0 : Nat → Int → Int → Int → Int → Int → ByteArray → ByteArray → Int → Int → Int → Bool → List (S27) → Option (Int)
 | 0, _, _, _, _, _, _, _, _, _, _, _, _ => none
 | k + 1, x68, x69, x113000, x113001, x113002, x113003, x113004, x113005, x113006, x113007, x113008, x113009 => if x69 < x68 then (if 0 ≤ x69 then (if x69 < (x113004.size : Int) then (if (bt x113004 x69) < 32 then (some 4) else (if (bt x113004 x69) > 126 then (some 4) else (syntax_fields.l0 k x68 (wrap64 (x69 + 1)) x113000 x113001 x113002 x113003 x113004 x113005 x113006 x113007 x113008 x113009))) else (none)) else (none)) else (some 0)
def syntax_fields.j2 : Nat → ByteArray → Bool → Bool → Int → Int → Int → ByteArray → ByteArray → Int → Int → Int → Bool → List (S27) → Option (Int)
 | 0, _, _, _, _, _, _, _, _, _, _, _, _, _ => none
 | k + 1, x0, x6, x26, x113000, x113001, x113002, x113003, x113004, x113005, x113006, x113007, x113008, x113009 => if x26 = true then (syntax_fields.j4 k x26 x113000 x113001 x113002 x113003 x113004 x113005 x113006 x113007 x113008 x113009) else (if x113008 = true then (if x6 = true then (syntax_fields.j3 k x0 false x113000 x113001 x113002 x113003 x113004 x113005 x113006 x113007 x113008 x113009) else ((strings_Contains.f x0 (⟨#[83]⟩ : ByteArray)).bind fun t117 => (syntax_fields.j3 k x0 (!t117) x113000 x113001 x113002 x113003 x113004 x113005 x113006 x113007 x113008 x113009))) else (syntax_fields.j3 k x0 false x113000 x113001 x113002 x113003 x113004 x113005 x113006 x113007 x113008 x113009))
def syntax_fields.j3 : Nat → ByteArray → Bool → Int → Int → Int → ByteArray → ByteArray → Int → Int → Int → Bool → List (S27) → Option (Int)
 | 0, _, _, _, _, _, _, _, _, _, _, _, _ => none
 | k + 1, x0, x26, x113000, x113001, x113002, x113003, x113004, x113005, x113006, x113007, x113008, x113009 => if x26 = true then (syntax_fields.j4 k x26 x113000 x113001 x113002 x113003 x113004 x113005 x113006 x113007 x113008 x113009) else (if x113004.toList = ([] : List UInt8) then (syntax_fields.j4 k false x113000 x113001 x113002 x113003 x113004 x113005 x113006 x113007 x113008 x113009) else ((strings_Contains.f x0 (⟨#[88]⟩ : ByteArray)).bind fun t118 => (syntax_fields.j4 k (!t118) x113000 x113001 x113002 x113003 x113004 x113005 x113006 x113007 x113008 x113009)))
end
def syntax_fields.f (k : Nat) (a0 : ByteArray) (a1_0 : Int) (a1_1 : Int) (a1_2 : Int) (a1_3 : ByteArray) (a1_4 : ByteArray) (a1_5 : Int) (a1_6 : Int) (a1_7 : Int) (a1_8 : Bool) (l1_9 : List (S27)) : Option (Int) := (strings_Contains.f a0 (⟨#[78]⟩ : ByteArray)).bind fun t113 => ((strings_Contains.f a0 (⟨#[86]⟩ : ByteArray)).bind fun t114 => (if (t113 != (a1_3.toList != ([] : List UInt8))) = true then (some 4) else (if t113 = true then ((lex_Quoted.f k a1_3).bind fun t115 => (syntax_fields.j0 k a0 t114 (!t115) a1_0 a1_1 a1_2 a1_3 a1_4 a1_5 a1_6 a1_7 a1_8 l1_9)) else (syntax_fields.j0 k a0 t114 false a1_0 a1_1 a1_2 a1_3 a1_4 a1_5 a1_6 a1_7 a1_8 l1_9))))
theorem syntax_fields.mono_l : ∀ k, (∀ y0 y1 y2 y3 y4 y5 y6 y7 y8 y9 y10 y11 y12, LeO (syntax_fields.j0 k y0 y1 y2 y3 y4 y5 y6 y7 y8 y9 y10 y11 y12) (syntax_fields.j0 (k + 1) y0 y1 y2 y3 y4 y5 y6 y7 y8 y9 y10 y11 y12)) ∧ (∀ y0 y1 y2 y3 y4 y5 y6 y7 y8 y9 y10 y11 y12, LeO (syntax_fields.j1 k y0 y1 y2 y3 y4 y5 y6 y7 y8 y9 y10 y11 y12) (syntax_fields.j1 (k + 1) y0 y1 y2 y3 y4 y5 y6 y7 y8 y9 y10 y11 y12)) ∧ (∀ y0 y1 y2 y3 y4 y5 y6 y7 y8 y9 y10, LeO (syntax_fields.j4 k y0 y1 y2 y3 y4 y5 y6 y7 y8 y9 y10) (syntax_fields.j4 (k + 1) y0 y1 y2 y3 y4 y5 y6 y7 y8 y9 y10)) ∧ (∀ y0 y1 y2 y3 y4 y5 y6 y7 y8 y9 y10 y11, LeO (syntax_fields.l0 k y0 y1 y2 y3 y4 y5 y6 y7 y8 y9 y10 y11) (syntax_fields.l0 (k + 1) y0 y1 y2 y3 y4 y5 y6 y7 y8 y9 y10 y11)) ∧ (∀ y0 y1 y2 y3 y4 y5 y6 y7 y8 y9 y10 y11 y12, LeO (syntax_fields.j2 k y0 y1 y2 y3 y4 y5 y6 y7 y8 y9 y10 y11 y12) (syntax_fields.j2 (k + 1) y0 y1 y2 y3 y4 y5 y6 y7 y8 y9 y10 y11 y12)) ∧ (∀ y0 y1 y2 y3 y4 y5 y6 y7 y8 y9 y10 y11, LeO (syntax_fields.j3 k y0 y1 y2 y3 y4 y5 y6 y7 y8 y9 y10 y11) (syntax_fields.j3 (k + 1) y0 y1 y2 y3 y4 y5 y6 y7 y8 y9 y10 y11))
 | 0 => ⟨fun _ _ _ _ _ _ _ _ _ _ _ _ _ r h => by simp [syntax_fields.j0] at h, fun _ _ _ _ _ _ _ _ _ _ _ _ _ r h => by simp [syntax_fields.j1] at h, fun _ _ _ _ _ _ _ _ _ _ _ r h => by simp [syntax_fields.j4] at h, fun _ _ _ _ _ _ _ _ _ _ _ _ r h => by simp [syntax_fields.l0] at h, fun _ _ _ _ _ _ _ _ _ _ _ _ _ r h => by simp [syntax_fields.j2] at h, fun _ _ _ _ _ _ _ _ _ _ _ _ r h => by simp [syntax_fields.j3] at h⟩
 | k + 1 => by
  obtain ⟨ih0, ih1, ih2, ih3, ih4, ih5⟩ := syntax_fields.mono_l k
  refine ⟨?_, ?_, ?_, ?_, ?_, ?_⟩
  ·intro y0 y1 y2 y3 y4 y5 y6 y7 y8 y9 y10 y11 y12
   unfold syntax_fields.j0
   repeat' first | with_reducible exact ih0 _ _ _ _ _ _ _ _ _ _ _ _ _ | with_reducible exact ih1 _ _ _ _ _ _ _ _ _ _ _ _ _ | with_reducible exact ih2 _ _ _ _ _ _ _ _ _ _ _ | with_reducible exact ih3 _ _ _ _ _ _ _ _ _ _ _ _ | with_reducible exact ih4 _ _ _ _ _ _ _ _ _ _ _ _ _ | with_reducible exact ih5 _ _ _ _ _ _ _ _ _ _ _ _ | with_reducible exact bits_Check.mono _ _ _ _ | with_reducible exact lex_Quoted.mono _ _ | with_reducible exact LeO.refl _ | with_reducible exact LeO.none _ | with_reducible refine LeO.ite ?_ ?_ | with_reducible refine LeO.bind ?_ (fun _ => ?_)
  ·intro y0 y1 y2 y3 y4 y5 y6 y7 y8 y9 y10 y11 y12
   unfold syntax_fields.j1
   repeat' first | with_reducible exact ih0 _ _ _ _ _ _ _ _ _ _ _ _ _ | with_reducible exact ih1 _ _ _ _ _ _ _ _ _ _ _ _ _ | with_reducible exact ih2 _ _ _ _ _ _ _ _ _ _ _ | with_reducible exact ih3 _ _ _ _ _ _ _ _ _ _ _ _ | with_reducible exact ih4 _ _ _ _ _ _ _ _ _ _ _ _ _ | with_reducible exact ih5 _ _ _ _ _ _ _ _ _ _ _ _ | with_reducible exact bits_Check.mono _ _ _ _ | with_reducible exact lex_Quoted.mono _ _ | with_reducible exact LeO.refl _ | with_reducible exact LeO.none _ | with_reducible refine LeO.ite ?_ ?_ | with_reducible refine LeO.bind ?_ (fun _ => ?_)
  ·intro y0 y1 y2 y3 y4 y5 y6 y7 y8 y9 y10
   unfold syntax_fields.j4
   repeat' first | with_reducible exact ih0 _ _ _ _ _ _ _ _ _ _ _ _ _ | with_reducible exact ih1 _ _ _ _ _ _ _ _ _ _ _ _ _ | with_reducible exact ih2 _ _ _ _ _ _ _ _ _ _ _ | with_reducible exact ih3 _ _ _ _ _ _ _ _ _ _ _ _ | with_reducible exact ih4 _ _ _ _ _ _ _ _ _ _ _ _ _ | with_reducible exact ih5 _ _ _ _ _ _ _ _ _ _ _ _ | with_reducible exact bits_Check.mono _ _ _ _ | with_reducible exact lex_Quoted.mono _ _ | with_reducible exact LeO.refl _ | with_reducible exact LeO.none _ | with_reducible refine LeO.ite ?_ ?_ | with_reducible refine LeO.bind ?_ (fun _ => ?_)
  ·intro y0 y1 y2 y3 y4 y5 y6 y7 y8 y9 y10 y11
   unfold syntax_fields.l0
   repeat' first | with_reducible exact ih0 _ _ _ _ _ _ _ _ _ _ _ _ _ | with_reducible exact ih1 _ _ _ _ _ _ _ _ _ _ _ _ _ | with_reducible exact ih2 _ _ _ _ _ _ _ _ _ _ _ | with_reducible exact ih3 _ _ _ _ _ _ _ _ _ _ _ _ | with_reducible exact ih4 _ _ _ _ _ _ _ _ _ _ _ _ _ | with_reducible exact ih5 _ _ _ _ _ _ _ _ _ _ _ _ | with_reducible exact bits_Check.mono _ _ _ _ | with_reducible exact lex_Quoted.mono _ _ | with_reducible exact LeO.refl _ | with_reducible exact LeO.none _ | with_reducible refine LeO.ite ?_ ?_ | with_reducible refine LeO.bind ?_ (fun _ => ?_)
  ·intro y0 y1 y2 y3 y4 y5 y6 y7 y8 y9 y10 y11 y12
   unfold syntax_fields.j2
   repeat' first | with_reducible exact ih0 _ _ _ _ _ _ _ _ _ _ _ _ _ | with_reducible exact ih1 _ _ _ _ _ _ _ _ _ _ _ _ _ | with_reducible exact ih2 _ _ _ _ _ _ _ _ _ _ _ | with_reducible exact ih3 _ _ _ _ _ _ _ _ _ _ _ _ | with_reducible exact ih4 _ _ _ _ _ _ _ _ _ _ _ _ _ | with_reducible exact ih5 _ _ _ _ _ _ _ _ _ _ _ _ | with_reducible exact bits_Check.mono _ _ _ _ | with_reducible exact lex_Quoted.mono _ _ | with_reducible exact LeO.refl _ | with_reducible exact LeO.none _ | with_reducible refine LeO.ite ?_ ?_ | with_reducible refine LeO.bind ?_ (fun _ => ?_)
  ·intro y0 y1 y2 y3 y4 y5 y6 y7 y8 y9 y10 y11
   unfold syntax_fields.j3
   repeat' first | with_reducible exact ih0 _ _ _ _ _ _ _ _ _ _ _ _ _ | with_reducible exact ih1 _ _ _ _ _ _ _ _ _ _ _ _ _ | with_reducible exact ih2 _ _ _ _ _ _ _ _ _ _ _ | with_reducible exact ih3 _ _ _ _ _ _ _ _ _ _ _ _ | with_reducible exact ih4 _ _ _ _ _ _ _ _ _ _ _ _ _ | with_reducible exact ih5 _ _ _ _ _ _ _ _ _ _ _ _ | with_reducible exact bits_Check.mono _ _ _ _ | with_reducible exact lex_Quoted.mono _ _ | with_reducible exact LeO.refl _ | with_reducible exact LeO.none _ | with_reducible refine LeO.ite ?_ ?_ | with_reducible refine LeO.bind ?_ (fun _ => ?_)
theorem syntax_fields.mono : ∀ a0 a1 a2 a3 a4 a5 a6 a7 a8 a9 a10 k, LeO (syntax_fields.f k a0 a1 a2 a3 a4 a5 a6 a7 a8 a9 a10) (syntax_fields.f (k + 1) a0 a1 a2 a3 a4 a5 a6 a7 a8 a9 a10) := by
 intro a0 a1 a2 a3 a4 a5 a6 a7 a8 a9 a10 k
 obtain ⟨ih0, ih1, ih2, ih3, ih4, ih5⟩ := syntax_fields.mono_l k
 unfold syntax_fields.f
 repeat' first | with_reducible exact ih0 _ _ _ _ _ _ _ _ _ _ _ _ _ | with_reducible exact ih1 _ _ _ _ _ _ _ _ _ _ _ _ _ | with_reducible exact ih2 _ _ _ _ _ _ _ _ _ _ _ | with_reducible exact ih3 _ _ _ _ _ _ _ _ _ _ _ _ | with_reducible exact ih4 _ _ _ _ _ _ _ _ _ _ _ _ _ | with_reducible exact ih5 _ _ _ _ _ _ _ _ _ _ _ _ | with_reducible exact bits_Check.mono _ _ _ _ | with_reducible exact lex_Quoted.mono _ _ | with_reducible exact LeO.refl _ | with_reducible exact LeO.none _ | with_reducible refine LeO.ite ?_ ?_ | with_reducible refine LeO.bind ?_ (fun _ => ?_)
set_option maxHeartbeats 8000000 in
set_option maxRecDepth 100000 in
theorem syntax_fields.calls (k : Nat) (a0 : ByteArray) (a1_0 : Int) (a1_1 : Int) (a1_2 : Int) (a1_3 : ByteArray) (a1_4 : ByteArray) (a1_5 : Int) (a1_6 : Int) (a1_7 : Int) (a1_8 : Bool) (A1_9 : Option Addr) (c1_9 : Nat) (l1_9 : List (S27)) (r : Int) (w : World) (hr1_9 : Kd.C k27 w A1_9 l1_9.length l1_9) (hc1_9 : l1_9.length ≤ c1_9) (h : syntax_fields.f k a0 a1_0 a1_1 a1_2 a1_3 a1_4 a1_5 a1_6 a1_7 a1_8 l1_9 = some r) :
  Calls Try.prog 61 #[.string a0, .agg #[.int .i64 a1_0, .int .i64 a1_1, .int .i64 a1_2, .string a1_3, .string a1_4, .int .i64 a1_5, .int .u64 a1_6, .int .u64 a1_7, .bool a1_8, .slice A1_9 l1_9.length c1_9]] w fun e w' => e = .returned (.int .i64 r) ∧ Below w.heap.size w w' := by
 have hu27 := Try.underlying27
 have hu24 := Try.underlying24
 have HR1_9 := Aside0.mk hr1_9
 have HC1_9 := Aside0.mk hc1_9
 clear hr1_9 hc1_9
 have HB := Aside0.mk (Below.refl w.heap.size w)
 have H := h
 clear h
 unfold syntax_fields.f at H
 replace H := bN H; obtain ⟨t113, A3, H⟩ := H
 replace H := bN H; obtain ⟨t114, A4, H⟩ := H
 by_cases c5 : (t113 != (a1_3.toList != ([] : List UInt8))) = true
 ·rw [if_pos c5] at H
  have c5b0 : (t113 != (a1_3.toList != ([] : List UInt8))) = true := c5
  (try (have c5b1 : decide (t113 = (a1_3.toList != ([] : List UInt8))) = false := by simpa using c5))
  (try (have c5b2 : (t113 == (a1_3.toList != ([] : List UInt8))) = false := by simpa using c5))
  (try (have c5b3 : ¬ (t113 = (a1_3.toList != ([] : List UInt8))) := by simpa using c5))
  (try (have c5b4 : (!t113 == !a1_3.toList.isEmpty) = true := sq_bne c5))
  clear c5
  obtain rfl := Option.some.inj H
  go_enter Try.func61, Try.ntmps61
  go_wp2_with (first | (refine boxA HB 3 #[.int .i64 a1_0, .int .i64 a1_1, .int .i64 a1_2, .string a1_3, .string a1_4, .int .i64 a1_5, .int .u64 a1_6, .int .u64 a1_7, .bool a1_8, .slice A1_9 l1_9.length c1_9] 27 ?_; clear HB; intro gb112 w6 BK112 GE112 hg hb HB; clear hb hg) | (refine callA (some 9) Try.func74 #[.string a0, .string (⟨#[78]⟩ : ByteArray)] ?_; (with_reducible refine (strings_Contains.calls a0 (⟨#[78]⟩ : ByteArray) t113 _ A3.out).mono ?_); rintro e w' ⟨rfl, ⟨nd, rfl⟩⟩; refine ⟨_, rfl, ?_⟩) | (refine callA (some 11) Try.func74 #[.string a0, .string (⟨#[86]⟩ : ByteArray)] ?_; (with_reducible refine (strings_Contains.calls a0 (⟨#[86]⟩ : ByteArray) t114 _ A4.out).mono ?_); rintro e w' ⟨rfl, ⟨nd, rfl⟩⟩; refine ⟨_, rfl, ?_⟩; have hcz7_0 : w6.cell? ⟨gb112, 0, none⟩ = some (.int .i64 a1_0) := (blk_cell BK112.out 0).trans rfl; have hcz7_1 : w6.cell? ⟨gb112, 1, none⟩ = some (.int .i64 a1_1) := (blk_cell BK112.out 1).trans rfl; have hcz7_2 : w6.cell? ⟨gb112, 2, none⟩ = some (.int .i64 a1_2) := (blk_cell BK112.out 2).trans rfl; have hcz7_3 : w6.cell? ⟨gb112, 3, none⟩ = some (.string a1_3) := (blk_cell BK112.out 3).trans rfl; have hcz7_4 : w6.cell? ⟨gb112, 4, none⟩ = some (.string a1_4) := (blk_cell BK112.out 4).trans rfl; have hcz7_5 : w6.cell? ⟨gb112, 5, none⟩ = some (.int .i64 a1_5) := (blk_cell BK112.out 5).trans rfl; have hcz7_6 : w6.cell? ⟨gb112, 6, none⟩ = some (.int .u64 a1_6) := (blk_cell BK112.out 6).trans rfl; have hcz7_7 : w6.cell? ⟨gb112, 7, none⟩ = some (.int .u64 a1_7) := (blk_cell BK112.out 7).trans rfl; have hcz7_8 : w6.cell? ⟨gb112, 8, none⟩ = some (.bool a1_8) := (blk_cell BK112.out 8).trans rfl; have hcz7_9 : w6.cell? ⟨gb112, 9, none⟩ = some (.slice A1_9 l1_9.length c1_9) := (blk_cell BK112.out 9).trans rfl; have hfz7_0 := blk_frozen BK112.out 0; have hfz7_1 := blk_frozen BK112.out 1; have hfz7_2 := blk_frozen BK112.out 2; have hfz7_3 := blk_frozen BK112.out 3; have hfz7_4 := blk_frozen BK112.out 4; have hfz7_5 := blk_frozen BK112.out 5; have hfz7_6 := blk_frozen BK112.out 6; have hfz7_7 := blk_frozen BK112.out 7; have hfz7_8 := blk_frozen BK112.out 8; have hfz7_9 := blk_frozen BK112.out 9))
  go_ret
  exact ⟨by rfl, by repeat (with_reducible first | exact HB.out | apply pw_below_drewN)⟩
 ·rw [if_neg c5] at H
  have c5b0 : (t113 != (a1_3.toList != ([] : List UInt8))) = false := by simpa using c5
  (try (have c5b1 : decide (t113 = (a1_3.toList != ([] : List UInt8))) = true := by simpa using c5))
  (try (have c5b2 : (t113 == (a1_3.toList != ([] : List UInt8))) = true := by simpa using c5))
  (try (have c5b3 : (!t113 == !a1_3.toList.isEmpty) = false := sq_bne (Bool.eq_false_iff.mpr c5)))
  clear c5
  have HC8 := Aside0.mk H
  clear H
  go_enter Try.func61, Try.ntmps61
  go_upto_region 4 with (first | (refine boxA HB 3 #[.int .i64 a1_0, .int .i64 a1_1, .int .i64 a1_2, .string a1_3, .string a1_4, .int .i64 a1_5, .int .u64 a1_6, .int .u64 a1_7, .bool a1_8, .slice A1_9 l1_9.length c1_9] 27 ?_; clear HB; intro gb112 w9 BK112 GE112 hg hb HB; clear hb hg) | (refine callA (some 9) Try.func74 #[.string a0, .string (⟨#[78]⟩ : ByteArray)] ?_; (with_reducible refine (strings_Contains.calls a0 (⟨#[78]⟩ : ByteArray) t113 _ A3.out).mono ?_); rintro e w' ⟨rfl, ⟨nd, rfl⟩⟩; refine ⟨_, rfl, ?_⟩) | (refine callA (some 11) Try.func74 #[.string a0, .string (⟨#[86]⟩ : ByteArray)] ?_; (with_reducible refine (strings_Contains.calls a0 (⟨#[86]⟩ : ByteArray) t114 _ A4.out).mono ?_); rintro e w' ⟨rfl, ⟨nd, rfl⟩⟩; refine ⟨_, rfl, ?_⟩; have hcz10_0 : w9.cell? ⟨gb112, 0, none⟩ = some (.int .i64 a1_0) := (blk_cell BK112.out 0).trans rfl; have hcz10_1 : w9.cell? ⟨gb112, 1, none⟩ = some (.int .i64 a1_1) := (blk_cell BK112.out 1).trans rfl; have hcz10_2 : w9.cell? ⟨gb112, 2, none⟩ = some (.int .i64 a1_2) := (blk_cell BK112.out 2).trans rfl; have hcz10_3 : w9.cell? ⟨gb112, 3, none⟩ = some (.string a1_3) := (blk_cell BK112.out 3).trans rfl; have hcz10_4 : w9.cell? ⟨gb112, 4, none⟩ = some (.string a1_4) := (blk_cell BK112.out 4).trans rfl; have hcz10_5 : w9.cell? ⟨gb112, 5, none⟩ = some (.int .i64 a1_5) := (blk_cell BK112.out 5).trans rfl; have hcz10_6 : w9.cell? ⟨gb112, 6, none⟩ = some (.int .u64 a1_6) := (blk_cell BK112.out 6).trans rfl; have hcz10_7 : w9.cell? ⟨gb112, 7, none⟩ = some (.int .u64 a1_7) := (blk_cell BK112.out 7).trans rfl; have hcz10_8 : w9.cell? ⟨gb112, 8, none⟩ = some (.bool a1_8) := (blk_cell BK112.out 8).trans rfl; have hcz10_9 : w9.cell? ⟨gb112, 9, none⟩ = some (.slice A1_9 l1_9.length c1_9) := (blk_cell BK112.out 9).trans rfl; have hfz10_0 := blk_frozen BK112.out 0; have hfz10_1 := blk_frozen BK112.out 1; have hfz10_2 := blk_frozen BK112.out 2; have hfz10_3 := blk_frozen BK112.out 3; have hfz10_4 := blk_frozen BK112.out 4; have hfz10_5 := blk_frozen BK112.out 5; have hfz10_6 := blk_frozen BK112.out 6; have hfz10_7 := blk_frozen BK112.out 7; have hfz10_8 := blk_frozen BK112.out 8; have hfz10_9 := blk_frozen BK112.out 9))
  go_cut [18] (fun v18 wc => ∃ (kq : Nat) (x18_7 : Bool), v18 = .bool x18_7 ∧ Aside0 (syntax_fields.j0 kq a0 t114 x18_7 a1_0 a1_1 a1_2 a1_3 a1_4 a1_5 a1_6 a1_7 a1_8 l1_9 = some r) ∧ Aside0 (kq ≤ k) ∧ Aside0 (wc.heap[gb112]? = some (.cells #[.int .i64 a1_0, .int .i64 a1_1, .int .i64 a1_2, .string a1_3, .string a1_4, .int .i64 a1_5, .int .u64 a1_6, .int .u64 a1_7, .bool a1_8, (.slice A1_9 l1_9.length c1_9)] 27 (0, 0))) ∧ Aside0 (Below w.heap.size w wc))
  case first =>
   have H := HC8.out
   clear HC8
   replace H := iB H; rcases H with ⟨rfl, H⟩ | ⟨rfl, H⟩
   ·replace H := bN H; obtain ⟨t115, A12, H⟩ := H
    have H' := Aside0.mk H
    clear H
    obtain ⟨hcz13_0, hcz13_1, hcz13_2, hcz13_3, hcz13_4, hcz13_5, hcz13_6, hcz13_7, hcz13_8, hcz13_9⟩ := sq_cells10 (W := w9) (g := gb112) BK112.out; obtain ⟨hfz13_0, hfz13_1, hfz13_2, hfz13_3, hfz13_4, hfz13_5, hfz13_6, hfz13_7, hfz13_8, hfz13_9⟩ := sq_frozen10 BK112.out
    go_wp2_with ((go_at_call 80; (with_reducible refine (lex_Quoted.calls k a1_3 t115 _ A12.out).mono ?_); rintro e w' ⟨rfl, ⟨nd, rfl⟩⟩))
    go_meet
    case rel => exact ⟨_, (!t115), (by rfl), H', ⟨by omega⟩, ⟨by (with_reducible repeat (refine blk_drewN ?_ _)); exact BK112.out⟩, ⟨by repeat (with_reducible first | exact HB.out | apply pw_below_drewN)⟩⟩
   ·have H' := Aside0.mk H
    clear H
    go_wp2
    go_meet
    case rel => exact ⟨_, (false), (by rfl), H', ⟨by omega⟩, ⟨by (with_reducible repeat (refine blk_drewN ?_ _)); exact BK112.out⟩, ⟨by repeat (with_reducible first | exact HB.out | apply pw_below_drewN)⟩⟩
  case rest =>
   clear HC8
   (try clear c5b0); (try clear c5b1); (try clear c5b2); (try clear hcz10_0 hcz10_1 hcz10_2 hcz10_3 hcz10_4 hcz10_5 hcz10_6 hcz10_7 hcz10_8 hcz10_9); (try clear hfz10_0 hfz10_1 hfz10_2 hfz10_3 hfz10_4 hfz10_5 hfz10_6 hfz10_7 hfz10_8 hfz10_9)
   obtain ⟨kq, x18_7, rfl, HA, HJ7, BK112, HB⟩ := hcut
   cases kq with
   | zero => exact absurd HA.out (by simp [syntax_fields.j0])
   | succ kj7 =>
    have H := HA.out
    clear HA
    simp only [syntax_fields.j0] at H
    replace H := iB H; rcases H with ⟨rfl, H⟩ | ⟨rfl, H⟩
    ·obtain rfl := Option.some.inj H
     go_wp2
     go_ret
     exact ⟨by rfl, by repeat (with_reducible exact HB.out)⟩
    ·have HC15 := Aside0.mk H
     clear H
     go_upto_region 6 with (fail)
     go_cut [26] (fun v26 wc => ∃ (kq : Nat) (x26_14 : Bool), v26 = .bool x26_14 ∧ Aside0 (syntax_fields.j1 kq a0 t114 x26_14 a1_0 a1_1 a1_2 a1_3 a1_4 a1_5 a1_6 a1_7 a1_8 l1_9 = some r) ∧ Aside0 (kq ≤ kj7) ∧ Aside0 (wc.heap[gb112]? = some (.cells #[.int .i64 a1_0, .int .i64 a1_1, .int .i64 a1_2, .string a1_3, .string a1_4, .int .i64 a1_5, .int .u64 a1_6, .int .u64 a1_7, .bool a1_8, (.slice A1_9 l1_9.length c1_9)] 27 (0, 0))) ∧ Aside0 (Below w.heap.size w wc))
     case first =>
      have H := HC15.out
      clear HC15
      replace H := iB H; rcases H with ⟨rfl, H⟩ | ⟨rfl, H⟩
      ·replace H := bN H; obtain ⟨t116, A17, H⟩ := H
       have H' := Aside0.mk H
       clear H
       obtain ⟨hcz18_0, hcz18_1, hcz18_2, hcz18_3, hcz18_4, hcz18_5, hcz18_6, hcz18_7, hcz18_8, hcz18_9⟩ := sq_cells10 (W := wc) (g := gb112) BK112.out; obtain ⟨hfz18_0, hfz18_1, hfz18_2, hfz18_3, hfz18_4, hfz18_5, hfz18_6, hfz18_7, hfz18_8, hfz18_9⟩ := sq_frozen10 BK112.out
       go_wp2_with ((go_at_call 81; (with_reducible refine (bits_Check.calls kj7 a1_5 a1_6 a1_7 t116 _ A17.out).mono ?_); rintro e w19 ⟨rfl, hb⟩; replace BK112 := bk1 BK112 hb; replace HB := hb1 HB hb; (try clear hb)))
       go_meet
       case rel => exact ⟨_, (t116 != 0), (by rfl), H', ⟨by have := HJ7.out; omega⟩, ⟨by exact BK112.out⟩, ⟨by repeat (with_reducible exact HB.out)⟩⟩
      ·have H' := Aside0.mk H
       clear H
       go_wp2
       go_meet
       case rel => exact ⟨_, (false), (by rfl), H', ⟨by have := HJ7.out; omega⟩, ⟨by exact BK112.out⟩, ⟨by repeat (with_reducible exact HB.out)⟩⟩
     case rest =>
      clear HC15
      obtain ⟨kq, x26_14, rfl, HA, HJ14, BK112, HB⟩ := hcut
      cases kq with
      | zero => exact absurd HA.out (by simp [syntax_fields.j1])
      | succ kj14 =>
       have H := HA.out
       clear HA
       simp only [syntax_fields.j1] at H
       have HC20 := Aside0.mk H
       clear H
       go_upto_if 26 with (fail)
       go_cut [26] (fun v26 wc => ∃ (kq : Nat) (x26_19 : Bool), v26 = .bool x26_19 ∧ Aside0 (syntax_fields.j4 kq x26_19 a1_0 a1_1 a1_2 a1_3 a1_4 a1_5 a1_6 a1_7 a1_8 l1_9 = some r) ∧ Aside0 (kq ≤ kj14) ∧ Aside0 (wc.heap[gb112]? = some (.cells #[.int .i64 a1_0, .int .i64 a1_1, .int .i64 a1_2, .string a1_3, .string a1_4, .int .i64 a1_5, .int .u64 a1_6, .int .u64 a1_7, .bool a1_8, (.slice A1_9 l1_9.length c1_9)] 27 (0, 0))) ∧ Aside0 (Below w.heap.size w wc))
       case first =>
        have H := HC20.out
        clear HC20
        replace H := iB H; rcases H with ⟨rfl, H⟩ | ⟨rfl, H⟩
        ·have H' := Aside0.mk H
         clear H
         go_wp2
         go_meet
         case rel => exact ⟨_, (true), (by rfl), H', ⟨by have := HJ7.out; have := HJ14.out; omega⟩, ⟨by exact BK112.out⟩, ⟨by repeat (with_reducible exact HB.out)⟩⟩
        ·have HC22 := Aside0.mk H
         clear H
         go_upto_region 7 with (fail)
         go_cut [26] (fun v26 wc => ∃ (kq : Nat) (x26_21 : Bool), v26 = .bool x26_21 ∧ Aside0 (syntax_fields.j2 kq a0 t114 x26_21 a1_0 a1_1 a1_2 a1_3 a1_4 a1_5 a1_6 a1_7 a1_8 l1_9 = some r) ∧ Aside0 (kq ≤ kj14) ∧ Aside0 (wc.heap[gb112]? = some (.cells #[.int .i64 a1_0, .int .i64 a1_1, .int .i64 a1_2, .string a1_3, .string a1_4, .int .i64 a1_5, .int .u64 a1_6, .int .u64 a1_7, .bool a1_8, (.slice A1_9 l1_9.length c1_9)] 27 (0, 0))) ∧ Aside0 (Below w.heap.size w wc))
         case first =>
          have H := HC22.out
          clear HC22
          replace H := iB H; rcases H with ⟨rfl, H⟩ | ⟨rfl, H⟩
          ·have H' := Aside0.mk H
           clear H
           go_wp2
           go_meet
           case rel => exact ⟨_, (false), (by rfl), H', ⟨by have := HJ7.out; have := HJ14.out; omega⟩, ⟨by exact BK112.out⟩, ⟨by repeat (with_reducible exact HB.out)⟩⟩
          ·have H' := Aside0.mk H
           clear H
           obtain ⟨hcz24_0, hcz24_1, hcz24_2, hcz24_3, hcz24_4, hcz24_5, hcz24_6, hcz24_7, hcz24_8, hcz24_9⟩ := sq_cells10 (W := wc) (g := gb112) BK112.out; obtain ⟨hfz24_0, hfz24_1, hfz24_2, hfz24_3, hfz24_4, hfz24_5, hfz24_6, hfz24_7, hfz24_8, hfz24_9⟩ := sq_frozen10 BK112.out
           go_wp2
           go_meet
           case rel => exact ⟨_, ((!(a1_5 == 0) || (!(a1_6 == 0) || (!(a1_7 == 0))))), (by rfl), H', ⟨by have := HJ7.out; have := HJ14.out; omega⟩, ⟨by exact BK112.out⟩, ⟨by repeat (with_reducible exact HB.out)⟩⟩
         case rest =>
          clear HC22
          obtain ⟨kq, x26_21, rfl, HA, HJ21, BK112, HB⟩ := hcut
          cases kq with
          | zero => exact absurd HA.out (by simp [syntax_fields.j2])
          | succ kj21 =>
           have H := HA.out
           clear HA
           simp only [syntax_fields.j2] at H
           replace H := iB H; rcases H with ⟨rfl, H⟩ | ⟨rfl, H⟩
           ·have H' := Aside0.mk H
            clear H
            go_wp2
            go_meet
            case rel => exact ⟨_, (true), (by rfl), H', ⟨by have := HJ7.out; have := HJ14.out; have := HJ21.out; omega⟩, ⟨by exact BK112.out⟩, ⟨by repeat (with_reducible exact HB.out)⟩⟩
           ·have HC26 := Aside0.mk H
            clear H
            go_upto_region 8 with (fail)
            go_cut [26] (fun v26 wc => ∃ (kq : Nat) (x26_25 : Bool), v26 = .bool x26_25 ∧ Aside0 (syntax_fields.j3 kq a0 x26_25 a1_0 a1_1 a1_2 a1_3 a1_4 a1_5 a1_6 a1_7 a1_8 l1_9 = some r) ∧ Aside0 (kq ≤ kj21) ∧ Aside0 (wc.heap[gb112]? = some (.cells #[.int .i64 a1_0, .int .i64 a1_1, .int .i64 a1_2, .string a1_3, .string a1_4, .int .i64 a1_5, .int .u64 a1_6, .int .u64 a1_7, .bool a1_8, (.slice A1_9 l1_9.length c1_9)] 27 (0, 0))) ∧ Aside0 (Below w.heap.size w wc))
            case first =>
             have H := HC26.out
             clear HC26
             replace H := iB H; rcases H with ⟨rfl, H⟩ | ⟨rfl, H⟩
             ·replace H := iB H; rcases H with ⟨rfl, H⟩ | ⟨rfl, H⟩
              ·have H' := Aside0.mk H
               clear H
               obtain ⟨hcz29_0, hcz29_1, hcz29_2, hcz29_3, hcz29_4, hcz29_5, hcz29_6, hcz29_7, hcz29_8, hcz29_9⟩ := sq_cells10 (W := wc) (g := gb112) BK112.out; obtain ⟨hfz29_0, hfz29_1, hfz29_2, hfz29_3, hfz29_4, hfz29_5, hfz29_6, hfz29_7, hfz29_8, hfz29_9⟩ := sq_frozen10 BK112.out
               go_wp2
               go_meet
               case rel => exact ⟨_, (false), (by rfl), H', ⟨by have := HJ7.out; have := HJ14.out; have := HJ21.out; omega⟩, ⟨by exact BK112.out⟩, ⟨by repeat (with_reducible exact HB.out)⟩⟩
              ·replace H := bN H; obtain ⟨t117, A30, H⟩ := H
               have H' := Aside0.mk H
               clear H
               obtain ⟨hcz31_0, hcz31_1, hcz31_2, hcz31_3, hcz31_4, hcz31_5, hcz31_6, hcz31_7, hcz31_8, hcz31_9⟩ := sq_cells10 (W := wc) (g := gb112) BK112.out; obtain ⟨hfz31_0, hfz31_1, hfz31_2, hfz31_3, hfz31_4, hfz31_5, hfz31_6, hfz31_7, hfz31_8, hfz31_9⟩ := sq_frozen10 BK112.out
               go_wp2_with ((go_at_call 74; (with_reducible refine (strings_Contains.calls a0 (⟨#[83]⟩ : ByteArray) t117 _ A30.out).mono ?_); rintro e w' ⟨rfl, ⟨nd, rfl⟩⟩))
               go_meet
               case rel => exact ⟨_, (!t117), (by rfl), H', ⟨by have := HJ7.out; have := HJ14.out; have := HJ21.out; omega⟩, ⟨by (with_reducible repeat (refine blk_drewN ?_ _)); exact BK112.out⟩, ⟨by repeat (with_reducible first | exact HB.out | apply pw_below_drewN)⟩⟩
             ·have H' := Aside0.mk H
              clear H
              obtain ⟨hcz32_0, hcz32_1, hcz32_2, hcz32_3, hcz32_4, hcz32_5, hcz32_6, hcz32_7, hcz32_8, hcz32_9⟩ := sq_cells10 (W := wc) (g := gb112) BK112.out; obtain ⟨hfz32_0, hfz32_1, hfz32_2, hfz32_3, hfz32_4, hfz32_5, hfz32_6, hfz32_7, hfz32_8, hfz32_9⟩ := sq_frozen10 BK112.out
              go_wp2
              go_meet
              case rel => exact ⟨_, (false), (by rfl), H', ⟨by have := HJ7.out; have := HJ14.out; have := HJ21.out; omega⟩, ⟨by exact BK112.out⟩, ⟨by repeat (with_reducible exact HB.out)⟩⟩
            case rest =>
             clear HC26
             obtain ⟨kq, x26_25, rfl, HA, HJ25, BK112, HB⟩ := hcut
             cases kq with
             | zero => exact absurd HA.out (by simp [syntax_fields.j3])
             | succ kj25 =>
              have H := HA.out
              clear HA
              simp only [syntax_fields.j3] at H
              replace H := iB H; rcases H with ⟨rfl, H⟩ | ⟨rfl, H⟩
              ·have H' := Aside0.mk H
               clear H
               go_wp2
               go_meet
               case rel => exact ⟨_, (true), (by rfl), H', ⟨by have := HJ7.out; have := HJ14.out; have := HJ21.out; have := HJ25.out; omega⟩, ⟨by exact BK112.out⟩, ⟨by repeat (with_reducible exact HB.out)⟩⟩
              ·replace H := iE H; rcases H with ⟨c34b0, c34b1, H⟩ | ⟨c34, c34b0, c34b1, H⟩
               ·have H' := Aside0.mk H
                clear H
                obtain ⟨hcz35_0, hcz35_1, hcz35_2, hcz35_3, hcz35_4, hcz35_5, hcz35_6, hcz35_7, hcz35_8, hcz35_9⟩ := sq_cells10 (W := wc) (g := gb112) BK112.out; obtain ⟨hfz35_0, hfz35_1, hfz35_2, hfz35_3, hfz35_4, hfz35_5, hfz35_6, hfz35_7, hfz35_8, hfz35_9⟩ := sq_frozen10 BK112.out
                go_wp2
                go_meet
                case rel => exact ⟨_, (false), (by rfl), H', ⟨by have := HJ7.out; have := HJ14.out; have := HJ21.out; have := HJ25.out; omega⟩, ⟨by exact BK112.out⟩, ⟨by repeat (with_reducible exact HB.out)⟩⟩
               ·replace H := bN H; obtain ⟨t118, A36, H⟩ := H
                have H' := Aside0.mk H
                clear H
                obtain ⟨hcz37_0, hcz37_1, hcz37_2, hcz37_3, hcz37_4, hcz37_5, hcz37_6, hcz37_7, hcz37_8, hcz37_9⟩ := sq_cells10 (W := wc) (g := gb112) BK112.out; obtain ⟨hfz37_0, hfz37_1, hfz37_2, hfz37_3, hfz37_4, hfz37_5, hfz37_6, hfz37_7, hfz37_8, hfz37_9⟩ := sq_frozen10 BK112.out
                go_wp2_with ((go_at_call 74; (with_reducible refine (strings_Contains.calls a0 (⟨#[88]⟩ : ByteArray) t118 _ A36.out).mono ?_); rintro e w' ⟨rfl, ⟨nd, rfl⟩⟩))
                go_meet
                case rel => exact ⟨_, (!t118), (by rfl), H', ⟨by have := HJ7.out; have := HJ14.out; have := HJ21.out; have := HJ25.out; omega⟩, ⟨by (with_reducible repeat (refine blk_drewN ?_ _)); exact BK112.out⟩, ⟨by repeat (with_reducible first | exact HB.out | apply pw_below_drewN)⟩⟩
       case rest =>
        clear HC20
        obtain ⟨kq, x26_19, rfl, HA, HJ19, BK112, HB⟩ := hcut
        cases kq with
        | zero => exact absurd HA.out (by simp [syntax_fields.j4])
        | succ kj19 =>
         have H := HA.out
         clear HA
         simp only [syntax_fields.j4] at H
         replace H := iB H; rcases H with ⟨rfl, H⟩ | ⟨rfl, H⟩
         ·obtain rfl := Option.some.inj H
          go_wp2
          go_ret
          exact ⟨by rfl, by repeat (with_reducible exact HB.out)⟩
         ·by_cases c39 : (a1_4.size : Int) > 200
          ·rw [if_pos c39] at H
           have c39b0 : decide (200 < (a1_4.size : Int)) = true := decide_eq_true c39
           have c39b1 : decide (200 < a1_4.size) = true := decide_eq_true (by omega)
           clear c39
           obtain rfl := Option.some.inj H
           obtain ⟨hcz40_0, hcz40_1, hcz40_2, hcz40_3, hcz40_4, hcz40_5, hcz40_6, hcz40_7, hcz40_8, hcz40_9⟩ := sq_cells10 (W := wc) (g := gb112) BK112.out; obtain ⟨hfz40_0, hfz40_1, hfz40_2, hfz40_3, hfz40_4, hfz40_5, hfz40_6, hfz40_7, hfz40_8, hfz40_9⟩ := sq_frozen10 BK112.out
           go_wp2
           go_ret
           exact ⟨by rfl, by repeat (with_reducible exact HB.out)⟩
          ·rw [if_neg c39] at H
           have c39b0 : decide (200 < (a1_4.size : Int)) = false := decide_eq_false c39
           have c39b1 : decide (200 < a1_4.size) = false := decide_eq_false (by omega)
           clear c39
           have H' := Aside0.mk H
           clear H
           obtain ⟨hcz41_0, hcz41_1, hcz41_2, hcz41_3, hcz41_4, hcz41_5, hcz41_6, hcz41_7, hcz41_8, hcz41_9⟩ := sq_cells10 (W := wc) (g := gb112) BK112.out; obtain ⟨hfz41_0, hfz41_1, hfz41_2, hfz41_3, hfz41_4, hfz41_5, hfz41_6, hfz41_7, hfz41_8, hfz41_9⟩ := sq_frozen10 BK112.out
           go_wp2
           go_loopg [69] kj19 (fun kq v69 w' => ∃ (x69_4 : Int), v69 = .int .i64 x69_4 ∧ Aside0 (syntax_fields.l0 kq (a1_4.size : Int) x69_4 a1_0 a1_1 a1_2 a1_3 a1_4 a1_5 a1_6 a1_7 a1_8 l1_9 = some r) ∧ Aside0 (kq ≤ kj19) ∧ Aside0 (w'.heap[gb112]? = some (.cells #[.int .i64 a1_0, .int .i64 a1_1, .int .i64 a1_2, .string a1_3, .string a1_4, .int .i64 a1_5, .int .u64 a1_6, .int .u64 a1_7, .bool a1_8, (.slice A1_9 l1_9.length c1_9)] 27 (0, 0))) ∧ Aside0 (Below w.heap.size w w'))
           case atStart => exact ⟨(0), (by rfl), H', ⟨Nat.le_refl _⟩, ⟨by exact BK112.out⟩, ⟨by repeat (with_reducible exact HB.out)⟩⟩
           case round =>
            clear H'
            (try clear c39b0); (try clear c39b1); (try clear hcz41_0 hcz41_1 hcz41_2 hcz41_3 hcz41_4 hcz41_5 hcz41_6 hcz41_7 hcz41_8 hcz41_9); (try clear hfz41_0 hfz41_1 hfz41_2 hfz41_3 hfz41_4 hfz41_5 hfz41_6 hfz41_7 hfz41_8 hfz41_9)
            obtain ⟨x69_4, rfl, HA, HK4, BK112, HB⟩ := hrel
            cases gk with
            | zero => exact absurd HA.out (by simp [syntax_fields.l0])
            | succ k4 =>
             have H := HA.out
             clear HA
             simp only [syntax_fields.l0] at H
             replace H := iD H; rcases H with ⟨c42b0, H⟩ | ⟨c42b0, H⟩
             ·replace H := iN H; obtain ⟨c43b0, H⟩ := H
              replace H := iN H; obtain ⟨c44b0, H⟩ := H
              replace H := iD H; rcases H with ⟨c46b0, H⟩ | ⟨c46b0, H⟩
              ·obtain rfl := Option.some.inj H
               obtain ⟨hcz47_0, hcz47_1, hcz47_2, hcz47_3, hcz47_4, hcz47_5, hcz47_6, hcz47_7, hcz47_8, hcz47_9⟩ := sq_cells10 (W := wr) (g := gb112) BK112.out; obtain ⟨hfz47_0, hfz47_1, hfz47_2, hfz47_3, hfz47_4, hfz47_5, hfz47_6, hfz47_7, hfz47_8, hfz47_9⟩ := sq_frozen10 BK112.out
               have p45 : 0 ≤ (x69_4 : Int) := of_decide_eq_true (by (with_reducible assumption))
               have q45 : x69_4 < (a1_4.size : Int) := of_decide_eq_true (by (with_reducible assumption))
               have hx45 := bt_at a1_4 x69_4
               replace p45 := eq_true p45
               replace q45 := eq_true q45
               go_wp2
               go_ret
               exact ⟨by rfl, by repeat (with_reducible exact HB.out)⟩
              ·replace H := iD H; rcases H with ⟨c49b0, H⟩ | ⟨c49b0, H⟩
               ·replace c49b0 : decide (126 < (bt a1_4 x69_4)) = true := c49b0
                obtain rfl := Option.some.inj H
                obtain ⟨hcz50_0, hcz50_1, hcz50_2, hcz50_3, hcz50_4, hcz50_5, hcz50_6, hcz50_7, hcz50_8, hcz50_9⟩ := sq_cells10 (W := wr) (g := gb112) BK112.out; obtain ⟨hfz50_0, hfz50_1, hfz50_2, hfz50_3, hfz50_4, hfz50_5, hfz50_6, hfz50_7, hfz50_8, hfz50_9⟩ := sq_frozen10 BK112.out
                have p45 : 0 ≤ (x69_4 : Int) := of_decide_eq_true (by (with_reducible assumption))
                have q45 : x69_4 < (a1_4.size : Int) := of_decide_eq_true (by (with_reducible assumption))
                have hx45 := bt_at a1_4 x69_4
                replace p45 := eq_true p45
                replace q45 := eq_true q45
                have p48 : 0 ≤ (x69_4 : Int) := of_decide_eq_true (by (with_reducible assumption))
                have q48 : x69_4 < (a1_4.size : Int) := of_decide_eq_true (by (with_reducible assumption))
                have hx48 := bt_at a1_4 x69_4
                replace p48 := eq_true p48
                replace q48 := eq_true q48
                go_wp2
                go_ret
                exact ⟨by rfl, by repeat (with_reducible exact HB.out)⟩
               ·replace c49b0 : decide (126 < (bt a1_4 x69_4)) = false := c49b0
                have H' := Aside0.mk H
                clear H
                obtain ⟨hcz51_0, hcz51_1, hcz51_2, hcz51_3, hcz51_4, hcz51_5, hcz51_6, hcz51_7, hcz51_8, hcz51_9⟩ := sq_cells10 (W := wr) (g := gb112) BK112.out; obtain ⟨hfz51_0, hfz51_1, hfz51_2, hfz51_3, hfz51_4, hfz51_5, hfz51_6, hfz51_7, hfz51_8, hfz51_9⟩ := sq_frozen10 BK112.out
                have p45 : 0 ≤ (x69_4 : Int) := of_decide_eq_true (by (with_reducible assumption))
                have q45 : x69_4 < (a1_4.size : Int) := of_decide_eq_true (by (with_reducible assumption))
                have hx45 := bt_at a1_4 x69_4
                replace p45 := eq_true p45
                replace q45 := eq_true q45
                have p48 : 0 ≤ (x69_4 : Int) := of_decide_eq_true (by (with_reducible assumption))
                have q48 : x69_4 < (a1_4.size : Int) := of_decide_eq_true (by (with_reducible assumption))
                have hx48 := bt_at a1_4 x69_4
                replace p48 := eq_true p48
                replace q48 := eq_true q48
                go_wp2
                go_roundg k4
                case measure => have := HJ7.out; have := HJ14.out; have := HJ19.out; have := HK4.out; omega
                case rel => exact ⟨(wrap64 (x69_4 + 1)), (by rfl), H', ⟨by have := HJ7.out; have := HJ14.out; have := HJ19.out; have := HK4.out; omega⟩, ⟨by exact BK112.out⟩, ⟨by repeat (with_reducible exact HB.out)⟩⟩
             ·obtain rfl := Option.some.inj H
              go_wp2
              go_ret
              exact ⟨by rfl, by repeat (with_reducible exact HB.out)⟩
end Go.Proofs.Ytlamgdibnnmbmaa.PSyn
end
section
namespace Go.Proofs.Ytlamgdibnnmbmaa.PSyn
open Go.RowKit Go.Proofs.YtlamgdibnnmbmaaW.PrintWords Go.Proofs.YtlamgdibnnmbmaaW.PrintLast Go.Proofs.YtlamgdibnnmbmaaW.PrintMore
attribute [local go_sem] max2_int min2_int max_two min_two max_three min_three max_four min_four
set_option linter.unusedVariables false
set_option linter.unusedSimpArgs false
attribute [local go_sem high] eqA24
def syntax_bare.f (a0_0 : Int) (a0_1 : Int) (a0_2 : Int) (a0_3 : ByteArray) (a0_4 : ByteArray) (a0_5 : Int) (a0_6 : Int) (a0_7 : Int) (a0_8 : Bool) (l0_9 : List (S27)) : Option (Bool) := if a0_3.toList = ([] : List UInt8) then (if a0_4.toList = ([] : List UInt8) then (if (a0_5 == 0 && (a0_6 == 0 && (a0_7 == 0))) = true then (if a0_8 = true then (some false) else (some ((l0_9.length : Int) == 0))) else (some false)) else (some false)) else (some false)
set_option maxHeartbeats 8000000 in
set_option maxRecDepth 100000 in
theorem syntax_bare.calls (a0_0 : Int) (a0_1 : Int) (a0_2 : Int) (a0_3 : ByteArray) (a0_4 : ByteArray) (a0_5 : Int) (a0_6 : Int) (a0_7 : Int) (a0_8 : Bool) (A0_9 : Option Addr) (c0_9 : Nat) (l0_9 : List (S27)) (r : Bool) (w : World) (hr0_9 : Kd.C k27 w A0_9 l0_9.length l0_9) (hc0_9 : l0_9.length ≤ c0_9) (h : syntax_bare.f a0_0 a0_1 a0_2 a0_3 a0_4 a0_5 a0_6 a0_7 a0_8 l0_9 = some r) :
  Calls Try.prog 64 #[.agg #[.int .i64 a0_0, .int .i64 a0_1, .int .i64 a0_2, .string a0_3, .string a0_4, .int .i64 a0_5, .int .u64 a0_6, .int .u64 a0_7, .bool a0_8, .slice A0_9 l0_9.length c0_9]] w fun e w' => e = .returned (.bool r) ∧ Below w.heap.size w w' := by
 have hu27 := Try.underlying27
 have hu24 := Try.underlying24
 have HR0_9 := Aside0.mk hr0_9
 have HC0_9 := Aside0.mk hc0_9
 clear hr0_9 hc0_9
 have HB := Aside0.mk (Below.refl w.heap.size w)
 have H := h
 clear h
 unfold syntax_bare.f at H
 replace H := iE H; rcases H with ⟨c2b0, c2b1, H⟩ | ⟨c2, c2b0, c2b1, H⟩
 ·replace H := iE H; rcases H with ⟨c3b0, c3b1, H⟩ | ⟨c3, c3b0, c3b1, H⟩
  ·by_cases c4 : (a0_5 == 0 && (a0_6 == 0 && (a0_7 == 0))) = true
   ·rw [if_pos c4] at H
    have c4b0 : (a0_5 == 0 && (a0_6 == 0 && (a0_7 == 0))) = true := c4
    (try (have c4b1 : decide (a0_5 = 0 && (a0_6 == 0 && (a0_7 == 0))) = true := by simpa using c4))
    (try (have c4b2 : (a0_5 == 0 && (a0_6 == 0 && (a0_7 == 0))) = true := by simpa using c4))
    clear c4
    replace H := iB H; rcases H with ⟨rfl, H⟩ | ⟨rfl, H⟩
    ·obtain rfl := Option.some.inj H
     go_enter Try.func64, Try.ntmps64
     go_wp2_with (((with_reducible refine gate_dst (N := 1) rfl ?_); (try (refine gate_guard (by rfl) ?_; dsimp only)); refine boxA HB 1 #[.int .i64 a0_0, .int .i64 a0_1, .int .i64 a0_2, .string a0_3, .string a0_4, .int .i64 a0_5, .int .u64 a0_6, .int .u64 a0_7, .bool true, .slice A0_9 l0_9.length c0_9] 27 ?_; clear HB; intro gb135 w6 BK135 GE135 hg hb HB; clear hb hg; have hcz7_0 : w6.cell? ⟨gb135, 0, none⟩ = some (.int .i64 a0_0) := (blk_cell BK135.out 0).trans rfl; have hcz7_1 : w6.cell? ⟨gb135, 1, none⟩ = some (.int .i64 a0_1) := (blk_cell BK135.out 1).trans rfl; have hcz7_2 : w6.cell? ⟨gb135, 2, none⟩ = some (.int .i64 a0_2) := (blk_cell BK135.out 2).trans rfl; have hcz7_3 : w6.cell? ⟨gb135, 3, none⟩ = some (.string a0_3) := (blk_cell BK135.out 3).trans rfl; have hcz7_4 : w6.cell? ⟨gb135, 4, none⟩ = some (.string a0_4) := (blk_cell BK135.out 4).trans rfl; have hcz7_5 : w6.cell? ⟨gb135, 5, none⟩ = some (.int .i64 a0_5) := (blk_cell BK135.out 5).trans rfl; have hcz7_6 : w6.cell? ⟨gb135, 6, none⟩ = some (.int .u64 a0_6) := (blk_cell BK135.out 6).trans rfl; have hcz7_7 : w6.cell? ⟨gb135, 7, none⟩ = some (.int .u64 a0_7) := (blk_cell BK135.out 7).trans rfl; have hcz7_8 : w6.cell? ⟨gb135, 8, none⟩ = some (.bool true) := (blk_cell BK135.out 8).trans rfl; have hcz7_9 : w6.cell? ⟨gb135, 9, none⟩ = some (.slice A0_9 l0_9.length c0_9) := (blk_cell BK135.out 9).trans rfl; have hfz7_0 := blk_frozen BK135.out 0; have hfz7_1 := blk_frozen BK135.out 1; have hfz7_2 := blk_frozen BK135.out 2; have hfz7_3 := blk_frozen BK135.out 3; have hfz7_4 := blk_frozen BK135.out 4; have hfz7_5 := blk_frozen BK135.out 5; have hfz7_6 := blk_frozen BK135.out 6; have hfz7_7 := blk_frozen BK135.out 7; have hfz7_8 := blk_frozen BK135.out 8; have hfz7_9 := blk_frozen BK135.out 9))
     go_ret
     exact ⟨by rfl, by repeat (with_reducible exact HB.out)⟩
    ·obtain rfl := Option.some.inj H
     go_enter Try.func64, Try.ntmps64
     go_wp2_with (((with_reducible refine gate_dst (N := 1) rfl ?_); (try (refine gate_guard (by rfl) ?_; dsimp only)); refine boxA HB 1 #[.int .i64 a0_0, .int .i64 a0_1, .int .i64 a0_2, .string a0_3, .string a0_4, .int .i64 a0_5, .int .u64 a0_6, .int .u64 a0_7, .bool false, .slice A0_9 l0_9.length c0_9] 27 ?_; clear HB; intro gb135 w8 BK135 GE135 hg hb HB; clear hb hg; have hcz9_0 : w8.cell? ⟨gb135, 0, none⟩ = some (.int .i64 a0_0) := (blk_cell BK135.out 0).trans rfl; have hcz9_1 : w8.cell? ⟨gb135, 1, none⟩ = some (.int .i64 a0_1) := (blk_cell BK135.out 1).trans rfl; have hcz9_2 : w8.cell? ⟨gb135, 2, none⟩ = some (.int .i64 a0_2) := (blk_cell BK135.out 2).trans rfl; have hcz9_3 : w8.cell? ⟨gb135, 3, none⟩ = some (.string a0_3) := (blk_cell BK135.out 3).trans rfl; have hcz9_4 : w8.cell? ⟨gb135, 4, none⟩ = some (.string a0_4) := (blk_cell BK135.out 4).trans rfl; have hcz9_5 : w8.cell? ⟨gb135, 5, none⟩ = some (.int .i64 a0_5) := (blk_cell BK135.out 5).trans rfl; have hcz9_6 : w8.cell? ⟨gb135, 6, none⟩ = some (.int .u64 a0_6) := (blk_cell BK135.out 6).trans rfl; have hcz9_7 : w8.cell? ⟨gb135, 7, none⟩ = some (.int .u64 a0_7) := (blk_cell BK135.out 7).trans rfl; have hcz9_8 : w8.cell? ⟨gb135, 8, none⟩ = some (.bool false) := (blk_cell BK135.out 8).trans rfl; have hcz9_9 : w8.cell? ⟨gb135, 9, none⟩ = some (.slice A0_9 l0_9.length c0_9) := (blk_cell BK135.out 9).trans rfl; have hfz9_0 := blk_frozen BK135.out 0; have hfz9_1 := blk_frozen BK135.out 1; have hfz9_2 := blk_frozen BK135.out 2; have hfz9_3 := blk_frozen BK135.out 3; have hfz9_4 := blk_frozen BK135.out 4; have hfz9_5 := blk_frozen BK135.out 5; have hfz9_6 := blk_frozen BK135.out 6; have hfz9_7 := blk_frozen BK135.out 7; have hfz9_8 := blk_frozen BK135.out 8; have hfz9_9 := blk_frozen BK135.out 9))
     go_ret
     exact ⟨by rfl, by repeat (with_reducible exact HB.out)⟩
   ·rw [if_neg c4] at H
    have c4b0 : (a0_5 == 0 && (a0_6 == 0 && (a0_7 == 0))) = false := by simpa using c4
    (try (have c4b1 : decide (a0_5 = 0 && (a0_6 == 0 && (a0_7 == 0))) = false := by simpa using c4))
    (try (have c4b2 : (a0_5 == 0 && (a0_6 == 0 && (a0_7 == 0))) = false := by simpa using c4))
    (try (have c4b3 : ¬ (a0_5 = 0 && (a0_6 == 0 && (a0_7 == 0))) := by simpa using c4))
    clear c4
    obtain rfl := Option.some.inj H
    go_enter Try.func64, Try.ntmps64
    go_wp2_with (((with_reducible refine gate_dst (N := 1) rfl ?_); (try (refine gate_guard (by rfl) ?_; dsimp only)); refine boxA HB 1 #[.int .i64 a0_0, .int .i64 a0_1, .int .i64 a0_2, .string a0_3, .string a0_4, .int .i64 a0_5, .int .u64 a0_6, .int .u64 a0_7, .bool a0_8, .slice A0_9 l0_9.length c0_9] 27 ?_; clear HB; intro gb135 w10 BK135 GE135 hg hb HB; clear hb hg; have hcz11_0 : w10.cell? ⟨gb135, 0, none⟩ = some (.int .i64 a0_0) := (blk_cell BK135.out 0).trans rfl; have hcz11_1 : w10.cell? ⟨gb135, 1, none⟩ = some (.int .i64 a0_1) := (blk_cell BK135.out 1).trans rfl; have hcz11_2 : w10.cell? ⟨gb135, 2, none⟩ = some (.int .i64 a0_2) := (blk_cell BK135.out 2).trans rfl; have hcz11_3 : w10.cell? ⟨gb135, 3, none⟩ = some (.string a0_3) := (blk_cell BK135.out 3).trans rfl; have hcz11_4 : w10.cell? ⟨gb135, 4, none⟩ = some (.string a0_4) := (blk_cell BK135.out 4).trans rfl; have hcz11_5 : w10.cell? ⟨gb135, 5, none⟩ = some (.int .i64 a0_5) := (blk_cell BK135.out 5).trans rfl; have hcz11_6 : w10.cell? ⟨gb135, 6, none⟩ = some (.int .u64 a0_6) := (blk_cell BK135.out 6).trans rfl; have hcz11_7 : w10.cell? ⟨gb135, 7, none⟩ = some (.int .u64 a0_7) := (blk_cell BK135.out 7).trans rfl; have hcz11_8 : w10.cell? ⟨gb135, 8, none⟩ = some (.bool a0_8) := (blk_cell BK135.out 8).trans rfl; have hcz11_9 : w10.cell? ⟨gb135, 9, none⟩ = some (.slice A0_9 l0_9.length c0_9) := (blk_cell BK135.out 9).trans rfl; have hfz11_0 := blk_frozen BK135.out 0; have hfz11_1 := blk_frozen BK135.out 1; have hfz11_2 := blk_frozen BK135.out 2; have hfz11_3 := blk_frozen BK135.out 3; have hfz11_4 := blk_frozen BK135.out 4; have hfz11_5 := blk_frozen BK135.out 5; have hfz11_6 := blk_frozen BK135.out 6; have hfz11_7 := blk_frozen BK135.out 7; have hfz11_8 := blk_frozen BK135.out 8; have hfz11_9 := blk_frozen BK135.out 9))
    go_ret
    exact ⟨by rfl, by repeat (with_reducible exact HB.out)⟩
  ·obtain rfl := Option.some.inj H
   go_enter Try.func64, Try.ntmps64
   go_wp2_with (((with_reducible refine gate_dst (N := 1) rfl ?_); (try (refine gate_guard (by rfl) ?_; dsimp only)); refine boxA HB 1 #[.int .i64 a0_0, .int .i64 a0_1, .int .i64 a0_2, .string a0_3, .string a0_4, .int .i64 a0_5, .int .u64 a0_6, .int .u64 a0_7, .bool a0_8, .slice A0_9 l0_9.length c0_9] 27 ?_; clear HB; intro gb135 w12 BK135 GE135 hg hb HB; clear hb hg; have hcz13_0 : w12.cell? ⟨gb135, 0, none⟩ = some (.int .i64 a0_0) := (blk_cell BK135.out 0).trans rfl; have hcz13_1 : w12.cell? ⟨gb135, 1, none⟩ = some (.int .i64 a0_1) := (blk_cell BK135.out 1).trans rfl; have hcz13_2 : w12.cell? ⟨gb135, 2, none⟩ = some (.int .i64 a0_2) := (blk_cell BK135.out 2).trans rfl; have hcz13_3 : w12.cell? ⟨gb135, 3, none⟩ = some (.string a0_3) := (blk_cell BK135.out 3).trans rfl; have hcz13_4 : w12.cell? ⟨gb135, 4, none⟩ = some (.string a0_4) := (blk_cell BK135.out 4).trans rfl; have hcz13_5 : w12.cell? ⟨gb135, 5, none⟩ = some (.int .i64 a0_5) := (blk_cell BK135.out 5).trans rfl; have hcz13_6 : w12.cell? ⟨gb135, 6, none⟩ = some (.int .u64 a0_6) := (blk_cell BK135.out 6).trans rfl; have hcz13_7 : w12.cell? ⟨gb135, 7, none⟩ = some (.int .u64 a0_7) := (blk_cell BK135.out 7).trans rfl; have hcz13_8 : w12.cell? ⟨gb135, 8, none⟩ = some (.bool a0_8) := (blk_cell BK135.out 8).trans rfl; have hcz13_9 : w12.cell? ⟨gb135, 9, none⟩ = some (.slice A0_9 l0_9.length c0_9) := (blk_cell BK135.out 9).trans rfl; have hfz13_0 := blk_frozen BK135.out 0; have hfz13_1 := blk_frozen BK135.out 1; have hfz13_2 := blk_frozen BK135.out 2; have hfz13_3 := blk_frozen BK135.out 3; have hfz13_4 := blk_frozen BK135.out 4; have hfz13_5 := blk_frozen BK135.out 5; have hfz13_6 := blk_frozen BK135.out 6; have hfz13_7 := blk_frozen BK135.out 7; have hfz13_8 := blk_frozen BK135.out 8; have hfz13_9 := blk_frozen BK135.out 9))
   go_ret
   exact ⟨by rfl, by repeat (with_reducible exact HB.out)⟩
 ·obtain rfl := Option.some.inj H
  go_enter Try.func64, Try.ntmps64
  go_wp2_with (((with_reducible refine gate_dst (N := 1) rfl ?_); (try (refine gate_guard (by rfl) ?_; dsimp only)); refine boxA HB 1 #[.int .i64 a0_0, .int .i64 a0_1, .int .i64 a0_2, .string a0_3, .string a0_4, .int .i64 a0_5, .int .u64 a0_6, .int .u64 a0_7, .bool a0_8, .slice A0_9 l0_9.length c0_9] 27 ?_; clear HB; intro gb135 w14 BK135 GE135 hg hb HB; clear hb hg; have hcz15_0 : w14.cell? ⟨gb135, 0, none⟩ = some (.int .i64 a0_0) := (blk_cell BK135.out 0).trans rfl; have hcz15_1 : w14.cell? ⟨gb135, 1, none⟩ = some (.int .i64 a0_1) := (blk_cell BK135.out 1).trans rfl; have hcz15_2 : w14.cell? ⟨gb135, 2, none⟩ = some (.int .i64 a0_2) := (blk_cell BK135.out 2).trans rfl; have hcz15_3 : w14.cell? ⟨gb135, 3, none⟩ = some (.string a0_3) := (blk_cell BK135.out 3).trans rfl; have hcz15_4 : w14.cell? ⟨gb135, 4, none⟩ = some (.string a0_4) := (blk_cell BK135.out 4).trans rfl; have hcz15_5 : w14.cell? ⟨gb135, 5, none⟩ = some (.int .i64 a0_5) := (blk_cell BK135.out 5).trans rfl; have hcz15_6 : w14.cell? ⟨gb135, 6, none⟩ = some (.int .u64 a0_6) := (blk_cell BK135.out 6).trans rfl; have hcz15_7 : w14.cell? ⟨gb135, 7, none⟩ = some (.int .u64 a0_7) := (blk_cell BK135.out 7).trans rfl; have hcz15_8 : w14.cell? ⟨gb135, 8, none⟩ = some (.bool a0_8) := (blk_cell BK135.out 8).trans rfl; have hcz15_9 : w14.cell? ⟨gb135, 9, none⟩ = some (.slice A0_9 l0_9.length c0_9) := (blk_cell BK135.out 9).trans rfl; have hfz15_0 := blk_frozen BK135.out 0; have hfz15_1 := blk_frozen BK135.out 1; have hfz15_2 := blk_frozen BK135.out 2; have hfz15_3 := blk_frozen BK135.out 3; have hfz15_4 := blk_frozen BK135.out 4; have hfz15_5 := blk_frozen BK135.out 5; have hfz15_6 := blk_frozen BK135.out 6; have hfz15_7 := blk_frozen BK135.out 7; have hfz15_8 := blk_frozen BK135.out 8; have hfz15_9 := blk_frozen BK135.out 9))
  go_ret
  exact ⟨by rfl, by repeat (with_reducible exact HB.out)⟩
end Go.Proofs.Ytlamgdibnnmbmaa.PSyn
end
section
namespace Go.Proofs.Ytlamgdibnnmbmaa.PSyn
open Go.RowKit Go.Proofs.YtlamgdibnnmbmaaW.PrintWords Go.Proofs.YtlamgdibnnmbmaaW.PrintLast Go.Proofs.YtlamgdibnnmbmaaW.PrintMore
attribute [local go_sem] max2_int min2_int max_two min_two max_three min_three max_four min_four
set_option linter.unusedVariables false
set_option linter.unusedSimpArgs false
mutual
def maskref1_within.l0 : Nat → ByteArray → Int → Int → ByteArray → Int → Int → Option (Bool)
 | 0, _, _, _, _, _, _ => none
 | k + 1, x0, x1, x2, x3, x12, x13 => if x13 < x12 then (if 0 ≤ x13 then (if x13 < (x0.size : Int) then (if (bt x0 x13) < x1 then (maskref1_within.j1 k x0 x1 x2 x3 x13 x12 x13 true) else (maskref1_within.j1 k x0 x1 x2 x3 x13 x12 x13 (decide ((bt x0 x13) > x2)))) else (none)) else (none)) else (some true)
def maskref1_within.j1 : Nat → ByteArray → Int → Int → ByteArray → Int → Int → Int → Bool → Option (Bool)
 | 0, _, _, _, _, _, _, _, _ => none
 | k + 1, x0, x1, x2, x3, x9, x12, x13, x27 => if x27 = true then (some false) else (maskref1_within.l1 k x0 x1 x2 x3 x9 x12 x13 (x3.size : Int) 0)
def maskref1_within.l1 : Nat → ByteArray → Int → Int → ByteArray → Int → Int → Int → Int → Int → Option (Bool)
 | 0, _, _, _, _, _, _, _, _, _ => none
 | k + 1, x0, x1, x2, x3, x9, x12, x13, x29, x30 => if x30 < x29 then (if 0 ≤ x9 then (if x9 < (x0.size : Int) then (if 0 ≤ x30 then (if x30 < (x3.size : Int) then (if (bt x0 x9) = (bt x3 x30) then (some false) else (maskref1_within.l1 k x0 x1 x2 x3 x9 x12 x13 x29 (wrap64 (x30 + 1)))) else (none)) else (none)) else (none)) else (none)) else (maskref1_within.l0 k x0 x1 x2 x3 x12 (wrap64 (x13 + 1)))
end
end Go.Proofs.Ytlamgdibnnmbmaa.PSyn
end
section
namespace Go.Proofs.Ytlamgdibnnmbmaa.PSyn
open Go.RowKit Go.Proofs.YtlamgdibnnmbmaaW.PrintWords Go.Proofs.YtlamgdibnnmbmaaW.PrintLast Go.Proofs.YtlamgdibnnmbmaaW.PrintMore
attribute [local go_sem] max2_int min2_int max_two min_two max_three min_three max_four min_four
set_option linter.unusedVariables false
set_option linter.unusedSimpArgs false
mutual
def syntax_dangles.j0 : Nat → Bool → Int → Int → Int → ByteArray → ByteArray → Int → Int → Int → Bool → List (S27) → Option (Bool)
 | 0, _, _, _, _, _, _, _, _, _, _, _ => none
 | k + 1, x3, x128000, x128001, x128002, x128003, x128004, x128005, x128006, x128007, x128008, x128009 => if x3 = true then (if 2 < (x128009.length : Int) then (if ((rd_T27 x128009 2).f0) = 0 then (some true) else ((syntax_dangles.f k ((rd_T27 x128009 2).f0) ((rd_T27 x128009 2).f1) ((rd_T27 x128009 2).f2) ((rd_T27 x128009 2).f3) ((rd_T27 x128009 2).f4) ((rd_T27 x128009 2).f5.f0) ((rd_T27 x128009 2).f5.f1) ((rd_T27 x128009 2).f5.f2) ((rd_T27 x128009 2).f6) ((rd_T27 x128009 2).f7)).bind fun t130 => (some t130))) else (none)) else (if x128000 = 62 then (syntax_dangles.j1 k ((x128009.length : Int) == 2) x128000 x128001 x128002 x128003 x128004 x128005 x128006 x128007 x128008 x128009) else (if x128000 = 63 then (syntax_dangles.j1 k ((x128009.length : Int) == 2) x128000 x128001 x128002 x128003 x128004 x128005 x128006 x128007 x128008 x128009) else (syntax_dangles.j1 k false x128000 x128001 x128002 x128003 x128004 x128005 x128006 x128007 x128008 x128009)))
def syntax_dangles.j1 : Nat → Bool → Int → Int → Int → ByteArray → ByteArray → Int → Int → Int → Bool → List (S27) → Option (Bool)
 | 0, _, _, _, _, _, _, _, _, _, _, _ => none
 | k + 1, x26, x128000, x128001, x128002, x128003, x128004, x128005, x128006, x128007, x128008, x128009 => if x26 = true then (if 1 < (x128009.length : Int) then ((syntax_dangles.f k ((rd_T27 x128009 1).f0) ((rd_T27 x128009 1).f1) ((rd_T27 x128009 1).f2) ((rd_T27 x128009 1).f3) ((rd_T27 x128009 1).f4) ((rd_T27 x128009 1).f5.f0) ((rd_T27 x128009 1).f5.f1) ((rd_T27 x128009 1).f5.f2) ((rd_T27 x128009 1).f6) ((rd_T27 x128009 1).f7)).bind fun t132 => (some t132)) else (none)) else (if x128000 = 64 then (syntax_dangles.j2 k ((x128009.length : Int) == 3) x128000 x128001 x128002 x128003 x128004 x128005 x128006 x128007 x128008 x128009) else (if x128000 = 65 then (syntax_dangles.j2 k ((x128009.length : Int) == 3) x128000 x128001 x128002 x128003 x128004 x128005 x128006 x128007 x128008 x128009) else (syntax_dangles.j2 k false x128000 x128001 x128002 x128003 x128004 x128005 x128006 x128007 x128008 x128009)))
def syntax_dangles.j2 : Nat → Bool → Int → Int → Int → ByteArray → ByteArray → Int → Int → Int → Bool → List (S27) → Option (Bool)
 | 0, _, _, _, _, _, _, _, _, _, _, _ => none
 | k + 1, x46, x128000, x128001, x128002, x128003, x128004, x128005, x128006, x128007, x128008, x128009 => if x46 = true then (if 2 < (x128009.length : Int) then ((syntax_dangles.f k ((rd_T27 x128009 2).f0) ((rd_T27 x128009 2).f1) ((rd_T27 x128009 2).f2) ((rd_T27 x128009 2).f3) ((rd_T27 x128009 2).f4) ((rd_T27 x128009 2).f5.f0) ((rd_T27 x128009 2).f5.f1) ((rd_T27 x128009 2).f5.f2) ((rd_T27 x128009 2).f6) ((rd_T27 x128009 2).f7)).bind fun t134 => (some t134)) else (none)) else (some false)
def syntax_dangles.f : Nat → Int → Int → Int → ByteArray → ByteArray → Int → Int → Int → Bool → List (S27) → Option (Bool)
 | 0, _, _, _, _, _, _, _, _, _, _ => none
 | k + 1, a0_0, a0_1, a0_2, a0_3, a0_4, a0_5, a0_6, a0_7, a0_8, l0_9 => if a0_0 = 57 then (syntax_dangles.j0 k ((l0_9.length : Int) == 3) a0_0 a0_1 a0_2 a0_3 a0_4 a0_5 a0_6 a0_7 a0_8 l0_9) else (syntax_dangles.j0 k false a0_0 a0_1 a0_2 a0_3 a0_4 a0_5 a0_6 a0_7 a0_8 l0_9)
end
theorem syntax_dangles.mono_l : ∀ k, (∀ y0 y1 y2 y3 y4 y5 y6 y7 y8 y9, LeO (syntax_dangles.f k y0 y1 y2 y3 y4 y5 y6 y7 y8 y9) (syntax_dangles.f (k + 1) y0 y1 y2 y3 y4 y5 y6 y7 y8 y9)) ∧ (∀ y0 y1 y2 y3 y4 y5 y6 y7 y8 y9 y10, LeO (syntax_dangles.j0 k y0 y1 y2 y3 y4 y5 y6 y7 y8 y9 y10) (syntax_dangles.j0 (k + 1) y0 y1 y2 y3 y4 y5 y6 y7 y8 y9 y10)) ∧ (∀ y0 y1 y2 y3 y4 y5 y6 y7 y8 y9 y10, LeO (syntax_dangles.j1 k y0 y1 y2 y3 y4 y5 y6 y7 y8 y9 y10) (syntax_dangles.j1 (k + 1) y0 y1 y2 y3 y4 y5 y6 y7 y8 y9 y10)) ∧ (∀ y0 y1 y2 y3 y4 y5 y6 y7 y8 y9 y10, LeO (syntax_dangles.j2 k y0 y1 y2 y3 y4 y5 y6 y7 y8 y9 y10) (syntax_dangles.j2 (k + 1) y0 y1 y2 y3 y4 y5 y6 y7 y8 y9 y10))
 | 0 => ⟨fun _ _ _ _ _ _ _ _ _ _ r h => by simp [syntax_dangles.f] at h, fun _ _ _ _ _ _ _ _ _ _ _ r h => by simp [syntax_dangles.j0] at h, fun _ _ _ _ _ _ _ _ _ _ _ r h => by simp [syntax_dangles.j1] at h, fun _ _ _ _ _ _ _ _ _ _ _ r h => by simp [syntax_dangles.j2] at h⟩
 | k + 1 => by
  obtain ⟨ih0, ih1, ih2, ih3⟩ := syntax_dangles.mono_l k
  refine ⟨?_, ?_, ?_, ?_⟩
  ·intro y0 y1 y2 y3 y4 y5 y6 y7 y8 y9
   unfold syntax_dangles.f
   repeat' first | with_reducible exact ih0 _ _ _ _ _ _ _ _ _ _ | with_reducible exact ih1 _ _ _ _ _ _ _ _ _ _ _ | with_reducible exact ih2 _ _ _ _ _ _ _ _ _ _ _ | with_reducible exact ih3 _ _ _ _ _ _ _ _ _ _ _ | with_reducible exact LeO.refl _ | with_reducible exact LeO.none _ | with_reducible refine LeO.ite ?_ ?_ | with_reducible refine LeO.bind ?_ (fun _ => ?_)
  ·intro y0 y1 y2 y3 y4 y5 y6 y7 y8 y9 y10
   unfold syntax_dangles.j0
   repeat' first | with_reducible exact ih0 _ _ _ _ _ _ _ _ _ _ | with_reducible exact ih1 _ _ _ _ _ _ _ _ _ _ _ | with_reducible exact ih2 _ _ _ _ _ _ _ _ _ _ _ | with_reducible exact ih3 _ _ _ _ _ _ _ _ _ _ _ | with_reducible exact LeO.refl _ | with_reducible exact LeO.none _ | with_reducible refine LeO.ite ?_ ?_ | with_reducible refine LeO.bind ?_ (fun _ => ?_)
  ·intro y0 y1 y2 y3 y4 y5 y6 y7 y8 y9 y10
   unfold syntax_dangles.j1
   repeat' first | with_reducible exact ih0 _ _ _ _ _ _ _ _ _ _ | with_reducible exact ih1 _ _ _ _ _ _ _ _ _ _ _ | with_reducible exact ih2 _ _ _ _ _ _ _ _ _ _ _ | with_reducible exact ih3 _ _ _ _ _ _ _ _ _ _ _ | with_reducible exact LeO.refl _ | with_reducible exact LeO.none _ | with_reducible refine LeO.ite ?_ ?_ | with_reducible refine LeO.bind ?_ (fun _ => ?_)
  ·intro y0 y1 y2 y3 y4 y5 y6 y7 y8 y9 y10
   unfold syntax_dangles.j2
   repeat' first | with_reducible exact ih0 _ _ _ _ _ _ _ _ _ _ | with_reducible exact ih1 _ _ _ _ _ _ _ _ _ _ _ | with_reducible exact ih2 _ _ _ _ _ _ _ _ _ _ _ | with_reducible exact ih3 _ _ _ _ _ _ _ _ _ _ _ | with_reducible exact LeO.refl _ | with_reducible exact LeO.none _ | with_reducible refine LeO.ite ?_ ?_ | with_reducible refine LeO.bind ?_ (fun _ => ?_)
theorem syntax_dangles.mono : ∀ a0 a1 a2 a3 a4 a5 a6 a7 a8 a9 k, LeO (syntax_dangles.f k a0 a1 a2 a3 a4 a5 a6 a7 a8 a9) (syntax_dangles.f (k + 1) a0 a1 a2 a3 a4 a5 a6 a7 a8 a9) := by
 intro a0 a1 a2 a3 a4 a5 a6 a7 a8 a9 k
 obtain ⟨ih0, ih1, ih2, ih3⟩ := syntax_dangles.mono_l k
 exact ih0 a0 a1 a2 a3 a4 a5 a6 a7 a8 a9
set_option maxHeartbeats 8000000 in
set_option maxRecDepth 100000 in
theorem syntax_dangles.calls (k : Nat) : ∀ (a0_0 : Int) (a0_1 : Int) (a0_2 : Int) (a0_3 : ByteArray) (a0_4 : ByteArray) (a0_5 : Int) (a0_6 : Int) (a0_7 : Int) (a0_8 : Bool) (A0_9 : Option Addr) (c0_9 : Nat) (l0_9 : List (S27)) (r : Bool) (w : World) (hr0_9 : Kd.C k27 w A0_9 l0_9.length l0_9) (hc0_9 : l0_9.length ≤ c0_9) (h : syntax_dangles.f k a0_0 a0_1 a0_2 a0_3 a0_4 a0_5 a0_6 a0_7 a0_8 l0_9 = some r),
  Calls Try.prog 63 #[.agg #[.int .i64 a0_0, .int .i64 a0_1, .int .i64 a0_2, .string a0_3, .string a0_4, .int .i64 a0_5, .int .u64 a0_6, .int .u64 a0_7, .bool a0_8, .slice A0_9 l0_9.length c0_9]] w fun e w' => e = .returned (.bool r) ∧ Below w.heap.size w w' := by
 induction k using Nat.strongRecOn with
 | _ k ih =>
 intro a0_0 a0_1 a0_2 a0_3 a0_4 a0_5 a0_6 a0_7 a0_8 A0_9 c0_9 l0_9 r w hr0_9 hc0_9 h
 cases k with
 | zero => exact absurd h (by simp [syntax_dangles.f])
 | succ k =>
 simp only [syntax_dangles.f] at h
 have hu27 := Try.underlying27
 have HR0_9 := Aside0.mk hr0_9
 have HC0_9 := Aside0.mk hc0_9
 clear hr0_9 hc0_9
 have HB := Aside0.mk (Below.refl w.heap.size w)
 have H := h
 clear h
 unfold syntax_dangles.f at H
 have HC2 := Aside0.mk H
 clear H
 go_enter Try.func63, Try.ntmps63
 go_upto_region 1 with (((with_reducible refine gate_dst (N := 1) rfl ?_); (try (refine gate_guard (by rfl) ?_; dsimp only)); refine boxA HB 1 #[.int .i64 a0_0, .int .i64 a0_1, .int .i64 a0_2, .string a0_3, .string a0_4, .int .i64 a0_5, .int .u64 a0_6, .int .u64 a0_7, .bool a0_8, .slice A0_9 l0_9.length c0_9] 27 ?_; clear HB; intro gb127 w3 BK127 GE127 hg hb HB; clear hb hg))
 go_cut [3] (fun v3 wc => ∃ (kq : Nat) (x3_1 : Bool), v3 = .bool x3_1 ∧ Aside0 (syntax_dangles.j0 kq x3_1 a0_0 a0_1 a0_2 a0_3 a0_4 a0_5 a0_6 a0_7 a0_8 l0_9 = some r) ∧ Aside0 (kq ≤ k) ∧ Aside0 (wc.heap[gb127]? = some (.cells #[.int .i64 a0_0, .int .i64 a0_1, .int .i64 a0_2, .string a0_3, .string a0_4, .int .i64 a0_5, .int .u64 a0_6, .int .u64 a0_7, .bool a0_8, (.slice A0_9 l0_9.length c0_9)] 27 (0, 0))) ∧ Aside0 (Below w.heap.size w wc))
 case first =>
  have H := HC2.out
  clear HC2
  replace H := iE H; rcases H with ⟨c4b0, c4b1, H⟩ | ⟨c4, c4b0, c4b1, H⟩
  ·(skip)
   have H' := Aside0.mk H
   clear H
   obtain ⟨hcz5_0, hcz5_1, hcz5_2, hcz5_3, hcz5_4, hcz5_5, hcz5_6, hcz5_7, hcz5_8, hcz5_9⟩ := sq_cells10 (W := w3) (g := gb127) BK127.out; obtain ⟨hfz5_0, hfz5_1, hfz5_2, hfz5_3, hfz5_4, hfz5_5, hfz5_6, hfz5_7, hfz5_8, hfz5_9⟩ := sq_frozen10 BK127.out
   go_wp2
   go_meet
   case rel => exact ⟨_, ((l0_9.length : Int) == 3), (by rfl), H', ⟨by omega⟩, ⟨by exact BK127.out⟩, ⟨by repeat (with_reducible exact HB.out)⟩⟩
  ·(skip)
   have H' := Aside0.mk H
   clear H
   obtain ⟨hcz6_0, hcz6_1, hcz6_2, hcz6_3, hcz6_4, hcz6_5, hcz6_6, hcz6_7, hcz6_8, hcz6_9⟩ := sq_cells10 (W := w3) (g := gb127) BK127.out; obtain ⟨hfz6_0, hfz6_1, hfz6_2, hfz6_3, hfz6_4, hfz6_5, hfz6_6, hfz6_7, hfz6_8, hfz6_9⟩ := sq_frozen10 BK127.out
   go_wp2
   go_meet
   case rel => exact ⟨_, (false), (by rfl), H', ⟨by omega⟩, ⟨by exact BK127.out⟩, ⟨by repeat (with_reducible exact HB.out)⟩⟩
 case rest =>
  clear HC2
  obtain ⟨kq, x3_1, rfl, HA, HJ1, BK127, HB⟩ := hcut
  cases kq with
  | zero => exact absurd HA.out (by simp [syntax_dangles.j0])
  | succ kj1 =>
   have H := HA.out
   clear HA
   simp only [syntax_dangles.j0] at H
   replace H := iB H; rcases H with ⟨rfl, H⟩ | ⟨rfl, H⟩
   ·by_cases c8 : 2 < (l0_9.length : Int)
    ·rw [if_pos c8] at H
     have c8b0 : decide (2 < (l0_9.length : Int)) = true := decide_eq_true c8
     have c8b1 : decide (2 < l0_9.length) = true := decide_eq_true (by omega)
     clear c8
     replace H := iE H; rcases H with ⟨c9b0, c9b1, H⟩ | ⟨c9, c9b0, c9b1, H⟩
     ·obtain rfl := Option.some.inj H
      obtain ⟨hcz10_0, hcz10_1, hcz10_2, hcz10_3, hcz10_4, hcz10_5, hcz10_6, hcz10_7, hcz10_8, hcz10_9⟩ := sq_cells10 (W := wc) (g := gb127) BK127.out; obtain ⟨hfz10_0, hfz10_1, hfz10_2, hfz10_3, hfz10_4, hfz10_5, hfz10_6, hfz10_7, hfz10_8, hfz10_9⟩ := sq_frozen10 BK127.out
      have p128 : 0 ≤ (2 : Int) := (by omega)
      have q128 : 2 < (l0_9.length : Int) := of_decide_eq_true (by (with_reducible assumption))
      obtain ⟨ad128, A128_9, c128_9, e128, hx128_0, hx128_1, hx128_2, hx128_3, hx128_4, hx128_5, hx128_6, hx128_7, hx128_8, hx128_9, hl128_9, hi128_9⟩ := at_T27 HR0_9.out 2 p128 q128
      cases e128
      (try simp only [show (2 : Int).toNat = 2 from rfl, Nat.reduceMul, Nat.reduceEqDiff, Go.Addr.add, ↓reduceIte] at hx128_0)
      (try simp only [show (2 : Int).toNat = 2 from rfl, Nat.reduceMul, Nat.reduceEqDiff, Go.Addr.add, ↓reduceIte] at hx128_1)
      (try simp only [show (2 : Int).toNat = 2 from rfl, Nat.reduceMul, Nat.reduceEqDiff, Go.Addr.add, ↓reduceIte] at hx128_2)
      (try simp only [show (2 : Int).toNat = 2 from rfl, Nat.reduceMul, Nat.reduceEqDiff, Go.Addr.add, ↓reduceIte] at hx128_3)
      (try simp only [show (2 : Int).toNat = 2 from rfl, Nat.reduceMul, Nat.reduceEqDiff, Go.Addr.add, ↓reduceIte] at hx128_4)
      (try simp only [show (2 : Int).toNat = 2 from rfl, Nat.reduceMul, Nat.reduceEqDiff, Go.Addr.add, ↓reduceIte] at hx128_5)
      (try simp only [show (2 : Int).toNat = 2 from rfl, Nat.reduceMul, Nat.reduceEqDiff, Go.Addr.add, ↓reduceIte] at hx128_6)
      (try simp only [show (2 : Int).toNat = 2 from rfl, Nat.reduceMul, Nat.reduceEqDiff, Go.Addr.add, ↓reduceIte] at hx128_7)
      (try simp only [show (2 : Int).toNat = 2 from rfl, Nat.reduceMul, Nat.reduceEqDiff, Go.Addr.add, ↓reduceIte] at hx128_8)
      (try simp only [show (2 : Int).toNat = 2 from rfl, Nat.reduceMul, Nat.reduceEqDiff, Go.Addr.add, ↓reduceIte] at hx128_9)
      have qi128 : (2 < l0_9.length) = True := eq_true (by omega)
      replace hx128_0 := (HB.out.cell (World.block_lt_of_cell? w _ hx128_0)).trans hx128_0
      replace hx128_1 := (HB.out.cell (World.block_lt_of_cell? w _ hx128_1)).trans hx128_1
      replace hx128_2 := (HB.out.cell (World.block_lt_of_cell? w _ hx128_2)).trans hx128_2
      replace hx128_3 := (HB.out.cell (World.block_lt_of_cell? w _ hx128_3)).trans hx128_3
      replace hx128_4 := (HB.out.cell (World.block_lt_of_cell? w _ hx128_4)).trans hx128_4
      replace hx128_5 := (HB.out.cell (World.block_lt_of_cell? w _ hx128_5)).trans hx128_5
      replace hx128_6 := (HB.out.cell (World.block_lt_of_cell? w _ hx128_6)).trans hx128_6
      replace hx128_7 := (HB.out.cell (World.block_lt_of_cell? w _ hx128_7)).trans hx128_7
      replace hx128_8 := (HB.out.cell (World.block_lt_of_cell? w _ hx128_8)).trans hx128_8
      replace hx128_9 := (HB.out.cell (World.block_lt_of_cell? w _ hx128_9)).trans hx128_9
      have HR128_9 := Aside0.mk hi128_9
      have HC128_9 := Aside0.mk hl128_9
      clear hi128_9 hl128_9
      replace p128 := eq_true p128
      replace q128 := eq_true q128
      go_wp2
      go_ret
      exact ⟨by rfl, by repeat (with_reducible exact HB.out)⟩
     ·replace H := bN H; obtain ⟨t130, A11, H⟩ := H
      obtain rfl := Option.some.inj H
      obtain ⟨hcz12_0, hcz12_1, hcz12_2, hcz12_3, hcz12_4, hcz12_5, hcz12_6, hcz12_7, hcz12_8, hcz12_9⟩ := sq_cells10 (W := wc) (g := gb127) BK127.out; obtain ⟨hfz12_0, hfz12_1, hfz12_2, hfz12_3, hfz12_4, hfz12_5, hfz12_6, hfz12_7, hfz12_8, hfz12_9⟩ := sq_frozen10 BK127.out
      have p128 : 0 ≤ (2 : Int) := (by omega)
      have q128 : 2 < (l0_9.length : Int) := of_decide_eq_true (by (with_reducible assumption))
      obtain ⟨ad128, A128_9, c128_9, e128, hx128_0, hx128_1, hx128_2, hx128_3, hx128_4, hx128_5, hx128_6, hx128_7, hx128_8, hx128_9, hl128_9, hi128_9⟩ := at_T27 HR0_9.out 2 p128 q128
      cases e128
      (try simp only [show (2 : Int).toNat = 2 from rfl, Nat.reduceMul, Nat.reduceEqDiff, Go.Addr.add, ↓reduceIte] at hx128_0)
      (try simp only [show (2 : Int).toNat = 2 from rfl, Nat.reduceMul, Nat.reduceEqDiff, Go.Addr.add, ↓reduceIte] at hx128_1)
      (try simp only [show (2 : Int).toNat = 2 from rfl, Nat.reduceMul, Nat.reduceEqDiff, Go.Addr.add, ↓reduceIte] at hx128_2)
      (try simp only [show (2 : Int).toNat = 2 from rfl, Nat.reduceMul, Nat.reduceEqDiff, Go.Addr.add, ↓reduceIte] at hx128_3)
      (try simp only [show (2 : Int).toNat = 2 from rfl, Nat.reduceMul, Nat.reduceEqDiff, Go.Addr.add, ↓reduceIte] at hx128_4)
      (try simp only [show (2 : Int).toNat = 2 from rfl, Nat.reduceMul, Nat.reduceEqDiff, Go.Addr.add, ↓reduceIte] at hx128_5)
      (try simp only [show (2 : Int).toNat = 2 from rfl, Nat.reduceMul, Nat.reduceEqDiff, Go.Addr.add, ↓reduceIte] at hx128_6)
      (try simp only [show (2 : Int).toNat = 2 from rfl, Nat.reduceMul, Nat.reduceEqDiff, Go.Addr.add, ↓reduceIte] at hx128_7)
      (try simp only [show (2 : Int).toNat = 2 from rfl, Nat.reduceMul, Nat.reduceEqDiff, Go.Addr.add, ↓reduceIte] at hx128_8)
      (try simp only [show (2 : Int).toNat = 2 from rfl, Nat.reduceMul, Nat.reduceEqDiff, Go.Addr.add, ↓reduceIte] at hx128_9)
      have qi128 : (2 < l0_9.length) = True := eq_true (by omega)
      replace hx128_0 := (HB.out.cell (World.block_lt_of_cell? w _ hx128_0)).trans hx128_0
      replace hx128_1 := (HB.out.cell (World.block_lt_of_cell? w _ hx128_1)).trans hx128_1
      replace hx128_2 := (HB.out.cell (World.block_lt_of_cell? w _ hx128_2)).trans hx128_2
      replace hx128_3 := (HB.out.cell (World.block_lt_of_cell? w _ hx128_3)).trans hx128_3
      replace hx128_4 := (HB.out.cell (World.block_lt_of_cell? w _ hx128_4)).trans hx128_4
      replace hx128_5 := (HB.out.cell (World.block_lt_of_cell? w _ hx128_5)).trans hx128_5
      replace hx128_6 := (HB.out.cell (World.block_lt_of_cell? w _ hx128_6)).trans hx128_6
      replace hx128_7 := (HB.out.cell (World.block_lt_of_cell? w _ hx128_7)).trans hx128_7
      replace hx128_8 := (HB.out.cell (World.block_lt_of_cell? w _ hx128_8)).trans hx128_8
      replace hx128_9 := (HB.out.cell (World.block_lt_of_cell? w _ hx128_9)).trans hx128_9
      have HR128_9 := Aside0.mk hi128_9
      have HC128_9 := Aside0.mk hl128_9
      clear hi128_9 hl128_9
      replace p128 := eq_true p128
      replace q128 := eq_true q128
      have p129 : 0 ≤ (2 : Int) := (by omega)
      have q129 : 2 < (l0_9.length : Int) := of_decide_eq_true (by (with_reducible assumption))
      obtain ⟨ad129, A129_9, c129_9, e129, hx129_0, hx129_1, hx129_2, hx129_3, hx129_4, hx129_5, hx129_6, hx129_7, hx129_8, hx129_9, hl129_9, hi129_9⟩ := at_T27 HR0_9.out 2 p129 q129
      obtain rfl : ad128 = ad129 := (by injection e129)
      (try simp only [show (2 : Int).toNat = 2 from rfl, Nat.reduceMul, Nat.reduceEqDiff, Go.Addr.add, ↓reduceIte] at hx129_0)
      (try simp only [show (2 : Int).toNat = 2 from rfl, Nat.reduceMul, Nat.reduceEqDiff, Go.Addr.add, ↓reduceIte] at hx129_1)
      (try simp only [show (2 : Int).toNat = 2 from rfl, Nat.reduceMul, Nat.reduceEqDiff, Go.Addr.add, ↓reduceIte] at hx129_2)
      (try simp only [show (2 : Int).toNat = 2 from rfl, Nat.reduceMul, Nat.reduceEqDiff, Go.Addr.add, ↓reduceIte] at hx129_3)
      (try simp only [show (2 : Int).toNat = 2 from rfl, Nat.reduceMul, Nat.reduceEqDiff, Go.Addr.add, ↓reduceIte] at hx129_4)
      (try simp only [show (2 : Int).toNat = 2 from rfl, Nat.reduceMul, Nat.reduceEqDiff, Go.Addr.add, ↓reduceIte] at hx129_5)
      (try simp only [show (2 : Int).toNat = 2 from rfl, Nat.reduceMul, Nat.reduceEqDiff, Go.Addr.add, ↓reduceIte] at hx129_6)
      (try simp only [show (2 : Int).toNat = 2 from rfl, Nat.reduceMul, Nat.reduceEqDiff, Go.Addr.add, ↓reduceIte] at hx129_7)
      (try simp only [show (2 : Int).toNat = 2 from rfl, Nat.reduceMul, Nat.reduceEqDiff, Go.Addr.add, ↓reduceIte] at hx129_8)
      (try simp only [show (2 : Int).toNat = 2 from rfl, Nat.reduceMul, Nat.reduceEqDiff, Go.Addr.add, ↓reduceIte] at hx129_9)
      have qi129 : (2 < l0_9.length) = True := eq_true (by omega)
      replace hx129_0 := (HB.out.cell (World.block_lt_of_cell? w _ hx129_0)).trans hx129_0
      replace hx129_1 := (HB.out.cell (World.block_lt_of_cell? w _ hx129_1)).trans hx129_1
      replace hx129_2 := (HB.out.cell (World.block_lt_of_cell? w _ hx129_2)).trans hx129_2
      replace hx129_3 := (HB.out.cell (World.block_lt_of_cell? w _ hx129_3)).trans hx129_3
      replace hx129_4 := (HB.out.cell (World.block_lt_of_cell? w _ hx129_4)).trans hx129_4
      replace hx129_5 := (HB.out.cell (World.block_lt_of_cell? w _ hx129_5)).trans hx129_5
      replace hx129_6 := (HB.out.cell (World.block_lt_of_cell? w _ hx129_6)).trans hx129_6
      replace hx129_7 := (HB.out.cell (World.block_lt_of_cell? w _ hx129_7)).trans hx129_7
      replace hx129_8 := (HB.out.cell (World.block_lt_of_cell? w _ hx129_8)).trans hx129_8
      replace hx129_9 := (HB.out.cell (World.block_lt_of_cell? w _ hx129_9)).trans hx129_9
      have HR129_9 := Aside0.mk hi129_9
      have HC129_9 := Aside0.mk hl129_9
      clear hi129_9 hl129_9
      replace p129 := eq_true p129
      replace q129 := eq_true q129
      have ea_ := Option.some.inj (hx128_9.symm.trans hx129_9)
      injection ea_ with ea_ en_ ec_
      subst ea_
      subst ec_
      clear en_
      go_wp2_with ((go_at_call 63; (with_reducible refine (ih kj1 (by have := HJ1.out; omega) ((rd_T27 l0_9 2).f0) ((rd_T27 l0_9 2).f1) ((rd_T27 l0_9 2).f2) ((rd_T27 l0_9 2).f3) ((rd_T27 l0_9 2).f4) ((rd_T27 l0_9 2).f5.f0) ((rd_T27 l0_9 2).f5.f1) ((rd_T27 l0_9 2).f5.f2) ((rd_T27 l0_9 2).f6) _ _ ((rd_T27 l0_9 2).f7) t130 _ ?side1 ?side2 A11.out).mono ?_); (case side1 => exact (Kd.C_below HR129_9.out HB.out)); (case side2 => exact HC129_9.out); rintro e w13 ⟨rfl, hb⟩; replace BK127 := bk1 BK127 hb; replace HB := hb1 HB hb; (try clear hb)))
      go_ret
      exact ⟨by rfl, by repeat (with_reducible exact HB.out)⟩
    ·rw [if_neg c8] at H
     exact absurd H (by simp)
   ·have HC14 := Aside0.mk H
    clear H
    go_upto_region 3 with (fail)
    go_cut [26] (fun v26 wc => ∃ (kq : Nat) (x26_13 : Bool), v26 = .bool x26_13 ∧ Aside0 (syntax_dangles.j1 kq x26_13 a0_0 a0_1 a0_2 a0_3 a0_4 a0_5 a0_6 a0_7 a0_8 l0_9 = some r) ∧ Aside0 (kq ≤ kj1) ∧ Aside0 (wc.heap[gb127]? = some (.cells #[.int .i64 a0_0, .int .i64 a0_1, .int .i64 a0_2, .string a0_3, .string a0_4, .int .i64 a0_5, .int .u64 a0_6, .int .u64 a0_7, .bool a0_8, (.slice A0_9 l0_9.length c0_9)] 27 (0, 0))) ∧ Aside0 (Below w.heap.size w wc))
    case first =>
     have H := HC14.out
     clear HC14
     replace H := iE H; rcases H with ⟨c15b0, c15b1, H⟩ | ⟨c15, c15b0, c15b1, H⟩
     ·(skip)
      have H' := Aside0.mk H
      clear H
      obtain ⟨hcz16_0, hcz16_1, hcz16_2, hcz16_3, hcz16_4, hcz16_5, hcz16_6, hcz16_7, hcz16_8, hcz16_9⟩ := sq_cells10 (W := wc) (g := gb127) BK127.out; obtain ⟨hfz16_0, hfz16_1, hfz16_2, hfz16_3, hfz16_4, hfz16_5, hfz16_6, hfz16_7, hfz16_8, hfz16_9⟩ := sq_frozen10 BK127.out
      go_wp2
      go_meet
      case rel => exact ⟨_, ((l0_9.length : Int) == 2), (by rfl), H', ⟨by have := HJ1.out; omega⟩, ⟨by exact BK127.out⟩, ⟨by repeat (with_reducible exact HB.out)⟩⟩
     ·(skip)
      replace H := iE H; rcases H with ⟨c17b0, c17b1, H⟩ | ⟨c17, c17b0, c17b1, H⟩
      ·have H' := Aside0.mk H
       clear H
       obtain ⟨hcz18_0, hcz18_1, hcz18_2, hcz18_3, hcz18_4, hcz18_5, hcz18_6, hcz18_7, hcz18_8, hcz18_9⟩ := sq_cells10 (W := wc) (g := gb127) BK127.out; obtain ⟨hfz18_0, hfz18_1, hfz18_2, hfz18_3, hfz18_4, hfz18_5, hfz18_6, hfz18_7, hfz18_8, hfz18_9⟩ := sq_frozen10 BK127.out
       go_wp2
       go_meet
       case rel => exact ⟨_, ((l0_9.length : Int) == 2), (by rfl), H', ⟨by have := HJ1.out; omega⟩, ⟨by exact BK127.out⟩, ⟨by repeat (with_reducible exact HB.out)⟩⟩
      ·have H' := Aside0.mk H
       clear H
       obtain ⟨hcz19_0, hcz19_1, hcz19_2, hcz19_3, hcz19_4, hcz19_5, hcz19_6, hcz19_7, hcz19_8, hcz19_9⟩ := sq_cells10 (W := wc) (g := gb127) BK127.out; obtain ⟨hfz19_0, hfz19_1, hfz19_2, hfz19_3, hfz19_4, hfz19_5, hfz19_6, hfz19_7, hfz19_8, hfz19_9⟩ := sq_frozen10 BK127.out
       go_wp2
       go_meet
       case rel => exact ⟨_, (false), (by rfl), H', ⟨by have := HJ1.out; omega⟩, ⟨by exact BK127.out⟩, ⟨by repeat (with_reducible exact HB.out)⟩⟩
    case rest =>
     clear HC14
     obtain ⟨kq, x26_13, rfl, HA, HJ13, BK127, HB⟩ := hcut
     cases kq with
     | zero => exact absurd HA.out (by simp [syntax_dangles.j1])
     | succ kj13 =>
      have H := HA.out
      clear HA
      simp only [syntax_dangles.j1] at H
      replace H := iB H; rcases H with ⟨rfl, H⟩ | ⟨rfl, H⟩
      ·by_cases c21 : 1 < (l0_9.length : Int)
       ·rw [if_pos c21] at H
        have c21b0 : decide (1 < (l0_9.length : Int)) = true := decide_eq_true c21
        have c21b1 : decide (1 < l0_9.length) = true := decide_eq_true (by omega)
        clear c21
        replace H := bN H; obtain ⟨t132, A22, H⟩ := H
        obtain rfl := Option.some.inj H
        obtain ⟨hcz23_0, hcz23_1, hcz23_2, hcz23_3, hcz23_4, hcz23_5, hcz23_6, hcz23_7, hcz23_8, hcz23_9⟩ := sq_cells10 (W := wc) (g := gb127) BK127.out; obtain ⟨hfz23_0, hfz23_1, hfz23_2, hfz23_3, hfz23_4, hfz23_5, hfz23_6, hfz23_7, hfz23_8, hfz23_9⟩ := sq_frozen10 BK127.out
        have p131 : 0 ≤ (1 : Int) := (by omega)
        have q131 : 1 < (l0_9.length : Int) := of_decide_eq_true (by (with_reducible assumption))
        obtain ⟨ad131, A131_9, c131_9, e131, hx131_0, hx131_1, hx131_2, hx131_3, hx131_4, hx131_5, hx131_6, hx131_7, hx131_8, hx131_9, hl131_9, hi131_9⟩ := at_T27 HR0_9.out 1 p131 q131
        cases e131
        (try simp only [show (1 : Int).toNat = 1 from rfl, Nat.reduceMul, Nat.reduceEqDiff, Go.Addr.add, ↓reduceIte] at hx131_0)
        (try simp only [show (1 : Int).toNat = 1 from rfl, Nat.reduceMul, Nat.reduceEqDiff, Go.Addr.add, ↓reduceIte] at hx131_1)
        (try simp only [show (1 : Int).toNat = 1 from rfl, Nat.reduceMul, Nat.reduceEqDiff, Go.Addr.add, ↓reduceIte] at hx131_2)
        (try simp only [show (1 : Int).toNat = 1 from rfl, Nat.reduceMul, Nat.reduceEqDiff, Go.Addr.add, ↓reduceIte] at hx131_3)
        (try simp only [show (1 : Int).toNat = 1 from rfl, Nat.reduceMul, Nat.reduceEqDiff, Go.Addr.add, ↓reduceIte] at hx131_4)
        (try simp only [show (1 : Int).toNat = 1 from rfl, Nat.reduceMul, Nat.reduceEqDiff, Go.Addr.add, ↓reduceIte] at hx131_5)
        (try simp only [show (1 : Int).toNat = 1 from rfl, Nat.reduceMul, Nat.reduceEqDiff, Go.Addr.add, ↓reduceIte] at hx131_6)
        (try simp only [show (1 : Int).toNat = 1 from rfl, Nat.reduceMul, Nat.reduceEqDiff, Go.Addr.add, ↓reduceIte] at hx131_7)
        (try simp only [show (1 : Int).toNat = 1 from rfl, Nat.reduceMul, Nat.reduceEqDiff, Go.Addr.add, ↓reduceIte] at hx131_8)
        (try simp only [show (1 : Int).toNat = 1 from rfl, Nat.reduceMul, Nat.reduceEqDiff, Go.Addr.add, ↓reduceIte] at hx131_9)
        have qi131 : (1 < l0_9.length) = True := eq_true (by omega)
        replace hx131_0 := (HB.out.cell (World.block_lt_of_cell? w _ hx131_0)).trans hx131_0
        replace hx131_1 := (HB.out.cell (World.block_lt_of_cell? w _ hx131_1)).trans hx131_1
        replace hx131_2 := (HB.out.cell (World.block_lt_of_cell? w _ hx131_2)).trans hx131_2
        replace hx131_3 := (HB.out.cell (World.block_lt_of_cell? w _ hx131_3)).trans hx131_3
        replace hx131_4 := (HB.out.cell (World.block_lt_of_cell? w _ hx131_4)).trans hx131_4
        replace hx131_5 := (HB.out.cell (World.block_lt_of_cell? w _ hx131_5)).trans hx131_5
        replace hx131_6 := (HB.out.cell (World.block_lt_of_cell? w _ hx131_6)).trans hx131_6
        replace hx131_7 := (HB.out.cell (World.block_lt_of_cell? w _ hx131_7)).trans hx131_7
        replace hx131_8 := (HB.out.cell (World.block_lt_of_cell? w _ hx131_8)).trans hx131_8
        replace hx131_9 := (HB.out.cell (World.block_lt_of_cell? w _ hx131_9)).trans hx131_9
        have HR131_9 := Aside0.mk hi131_9
        have HC131_9 := Aside0.mk hl131_9
        clear hi131_9 hl131_9
        replace p131 := eq_true p131
        replace q131 := eq_true q131
        go_wp2_with ((refine callA (some 45) Try.func63 #[.agg #[.int .i64 ((rd_T27 l0_9 1).f0), .int .i64 ((rd_T27 l0_9 1).f1), .int .i64 ((rd_T27 l0_9 1).f2), .string ((rd_T27 l0_9 1).f3), .string ((rd_T27 l0_9 1).f4), .int .i64 ((rd_T27 l0_9 1).f5.f0), .int .u64 ((rd_T27 l0_9 1).f5.f1), .int .u64 ((rd_T27 l0_9 1).f5.f2), .bool ((rd_T27 l0_9 1).f6), .slice A131_9 ((rd_T27 l0_9 1).f7).length c131_9]] ?_; (with_reducible refine (ih kj13 (by have := HJ1.out; have := HJ13.out; omega) ((rd_T27 l0_9 1).f0) ((rd_T27 l0_9 1).f1) ((rd_T27 l0_9 1).f2) ((rd_T27 l0_9 1).f3) ((rd_T27 l0_9 1).f4) ((rd_T27 l0_9 1).f5.f0) ((rd_T27 l0_9 1).f5.f1) ((rd_T27 l0_9 1).f5.f2) ((rd_T27 l0_9 1).f6) _ _ ((rd_T27 l0_9 1).f7) t132 _ ?side1 ?side2 A22.out).mono ?_); (case side1 => exact (Kd.C_below HR131_9.out HB.out)); (case side2 => exact HC131_9.out); rintro e w24 ⟨rfl, hb⟩; refine ⟨_, rfl, ?_⟩; replace BK127 := bk1 BK127 hb; replace HB := hb1 HB hb; (try clear hb)))
        go_ret
        exact ⟨by rfl, by repeat (with_reducible exact HB.out)⟩
       ·rw [if_neg c21] at H
        exact absurd H (by simp)
      ·have HC25 := Aside0.mk H
       clear H
       go_upto_region 5 with (fail)
       go_cut [46] (fun v46 wc => ∃ (kq : Nat) (x46_24 : Bool), v46 = .bool x46_24 ∧ Aside0 (syntax_dangles.j2 kq x46_24 a0_0 a0_1 a0_2 a0_3 a0_4 a0_5 a0_6 a0_7 a0_8 l0_9 = some r) ∧ Aside0 (kq ≤ kj13) ∧ Aside0 (wc.heap[gb127]? = some (.cells #[.int .i64 a0_0, .int .i64 a0_1, .int .i64 a0_2, .string a0_3, .string a0_4, .int .i64 a0_5, .int .u64 a0_6, .int .u64 a0_7, .bool a0_8, (.slice A0_9 l0_9.length c0_9)] 27 (0, 0))) ∧ Aside0 (Below w.heap.size w wc))
       case first =>
        have H := HC25.out
        clear HC25
        replace H := iE H; rcases H with ⟨c26b0, c26b1, H⟩ | ⟨c26, c26b0, c26b1, H⟩
        ·(skip)
         have H' := Aside0.mk H
         clear H
         obtain ⟨hcz27_0, hcz27_1, hcz27_2, hcz27_3, hcz27_4, hcz27_5, hcz27_6, hcz27_7, hcz27_8, hcz27_9⟩ := sq_cells10 (W := wc) (g := gb127) BK127.out; obtain ⟨hfz27_0, hfz27_1, hfz27_2, hfz27_3, hfz27_4, hfz27_5, hfz27_6, hfz27_7, hfz27_8, hfz27_9⟩ := sq_frozen10 BK127.out
         go_wp2
         go_meet
         case rel => exact ⟨_, ((l0_9.length : Int) == 3), (by rfl), H', ⟨by have := HJ1.out; have := HJ13.out; omega⟩, ⟨by exact BK127.out⟩, ⟨by repeat (with_reducible exact HB.out)⟩⟩
        ·(skip)
         replace H := iE H; rcases H with ⟨c28b0, c28b1, H⟩ | ⟨c28, c28b0, c28b1, H⟩
         ·have H' := Aside0.mk H
          clear H
          obtain ⟨hcz29_0, hcz29_1, hcz29_2, hcz29_3, hcz29_4, hcz29_5, hcz29_6, hcz29_7, hcz29_8, hcz29_9⟩ := sq_cells10 (W := wc) (g := gb127) BK127.out; obtain ⟨hfz29_0, hfz29_1, hfz29_2, hfz29_3, hfz29_4, hfz29_5, hfz29_6, hfz29_7, hfz29_8, hfz29_9⟩ := sq_frozen10 BK127.out
          go_wp2
          go_meet
          case rel => exact ⟨_, ((l0_9.length : Int) == 3), (by rfl), H', ⟨by have := HJ1.out; have := HJ13.out; omega⟩, ⟨by exact BK127.out⟩, ⟨by repeat (with_reducible exact HB.out)⟩⟩
         ·have H' := Aside0.mk H
          clear H
          obtain ⟨hcz30_0, hcz30_1, hcz30_2, hcz30_3, hcz30_4, hcz30_5, hcz30_6, hcz30_7, hcz30_8, hcz30_9⟩ := sq_cells10 (W := wc) (g := gb127) BK127.out; obtain ⟨hfz30_0, hfz30_1, hfz30_2, hfz30_3, hfz30_4, hfz30_5, hfz30_6, hfz30_7, hfz30_8, hfz30_9⟩ := sq_frozen10 BK127.out
          go_wp2
          go_meet
          case rel => exact ⟨_, (false), (by rfl), H', ⟨by have := HJ1.out; have := HJ13.out; omega⟩, ⟨by exact BK127.out⟩, ⟨by repeat (with_reducible exact HB.out)⟩⟩
       case rest =>
        clear HC25
        obtain ⟨kq, x46_24, rfl, HA, HJ24, BK127, HB⟩ := hcut
        cases kq with
        | zero => exact absurd HA.out (by simp [syntax_dangles.j2])
        | succ kj24 =>
         have H := HA.out
         clear HA
         simp only [syntax_dangles.j2] at H
         replace H := iB H; rcases H with ⟨rfl, H⟩ | ⟨rfl, H⟩
         ·by_cases c32 : 2 < (l0_9.length : Int)
          ·rw [if_pos c32] at H
           have c32b0 : decide (2 < (l0_9.length : Int)) = true := decide_eq_true c32
           have c32b1 : decide (2 < l0_9.length) = true := decide_eq_true (by omega)
           clear c32
           replace H := bN H; obtain ⟨t134, A33, H⟩ := H
           obtain rfl := Option.some.inj H
           obtain ⟨hcz34_0, hcz34_1, hcz34_2, hcz34_3, hcz34_4, hcz34_5, hcz34_6, hcz34_7, hcz34_8, hcz34_9⟩ := sq_cells10 (W := wc) (g := gb127) BK127.out; obtain ⟨hfz34_0, hfz34_1, hfz34_2, hfz34_3, hfz34_4, hfz34_5, hfz34_6, hfz34_7, hfz34_8, hfz34_9⟩ := sq_frozen10 BK127.out
           have p133 : 0 ≤ (2 : Int) := (by omega)
           have q133 : 2 < (l0_9.length : Int) := of_decide_eq_true (by (with_reducible assumption))
           obtain ⟨ad133, A133_9, c133_9, e133, hx133_0, hx133_1, hx133_2, hx133_3, hx133_4, hx133_5, hx133_6, hx133_7, hx133_8, hx133_9, hl133_9, hi133_9⟩ := at_T27 HR0_9.out 2 p133 q133
           cases e133
           (try simp only [show (2 : Int).toNat = 2 from rfl, Nat.reduceMul, Nat.reduceEqDiff, Go.Addr.add, ↓reduceIte] at hx133_0)
           (try simp only [show (2 : Int).toNat = 2 from rfl, Nat.reduceMul, Nat.reduceEqDiff, Go.Addr.add, ↓reduceIte] at hx133_1)
           (try simp only [show (2 : Int).toNat = 2 from rfl, Nat.reduceMul, Nat.reduceEqDiff, Go.Addr.add, ↓reduceIte] at hx133_2)
           (try simp only [show (2 : Int).toNat = 2 from rfl, Nat.reduceMul, Nat.reduceEqDiff, Go.Addr.add, ↓reduceIte] at hx133_3)
           (try simp only [show (2 : Int).toNat = 2 from rfl, Nat.reduceMul, Nat.reduceEqDiff, Go.Addr.add, ↓reduceIte] at hx133_4)
           (try simp only [show (2 : Int).toNat = 2 from rfl, Nat.reduceMul, Nat.reduceEqDiff, Go.Addr.add, ↓reduceIte] at hx133_5)
           (try simp only [show (2 : Int).toNat = 2 from rfl, Nat.reduceMul, Nat.reduceEqDiff, Go.Addr.add, ↓reduceIte] at hx133_6)
           (try simp only [show (2 : Int).toNat = 2 from rfl, Nat.reduceMul, Nat.reduceEqDiff, Go.Addr.add, ↓reduceIte] at hx133_7)
           (try simp only [show (2 : Int).toNat = 2 from rfl, Nat.reduceMul, Nat.reduceEqDiff, Go.Addr.add, ↓reduceIte] at hx133_8)
           (try simp only [show (2 : Int).toNat = 2 from rfl, Nat.reduceMul, Nat.reduceEqDiff, Go.Addr.add, ↓reduceIte] at hx133_9)
           have qi133 : (2 < l0_9.length) = True := eq_true (by omega)
           replace hx133_0 := (HB.out.cell (World.block_lt_of_cell? w _ hx133_0)).trans hx133_0
           replace hx133_1 := (HB.out.cell (World.block_lt_of_cell? w _ hx133_1)).trans hx133_1
           replace hx133_2 := (HB.out.cell (World.block_lt_of_cell? w _ hx133_2)).trans hx133_2
           replace hx133_3 := (HB.out.cell (World.block_lt_of_cell? w _ hx133_3)).trans hx133_3
           replace hx133_4 := (HB.out.cell (World.block_lt_of_cell? w _ hx133_4)).trans hx133_4
           replace hx133_5 := (HB.out.cell (World.block_lt_of_cell? w _ hx133_5)).trans hx133_5
           replace hx133_6 := (HB.out.cell (World.block_lt_of_cell? w _ hx133_6)).trans hx133_6
           replace hx133_7 := (HB.out.cell (World.block_lt_of_cell? w _ hx133_7)).trans hx133_7
           replace hx133_8 := (HB.out.cell (World.block_lt_of_cell? w _ hx133_8)).trans hx133_8
           replace hx133_9 := (HB.out.cell (World.block_lt_of_cell? w _ hx133_9)).trans hx133_9
           have HR133_9 := Aside0.mk hi133_9
           have HC133_9 := Aside0.mk hl133_9
           clear hi133_9 hl133_9
           replace p133 := eq_true p133
           replace q133 := eq_true q133
           go_wp2_with ((refine callA (some 65) Try.func63 #[.agg #[.int .i64 ((rd_T27 l0_9 2).f0), .int .i64 ((rd_T27 l0_9 2).f1), .int .i64 ((rd_T27 l0_9 2).f2), .string ((rd_T27 l0_9 2).f3), .string ((rd_T27 l0_9 2).f4), .int .i64 ((rd_T27 l0_9 2).f5.f0), .int .u64 ((rd_T27 l0_9 2).f5.f1), .int .u64 ((rd_T27 l0_9 2).f5.f2), .bool ((rd_T27 l0_9 2).f6), .slice A133_9 ((rd_T27 l0_9 2).f7).length c133_9]] ?_; (with_reducible refine (ih kj24 (by have := HJ1.out; have := HJ13.out; have := HJ24.out; omega) ((rd_T27 l0_9 2).f0) ((rd_T27 l0_9 2).f1) ((rd_T27 l0_9 2).f2) ((rd_T27 l0_9 2).f3) ((rd_T27 l0_9 2).f4) ((rd_T27 l0_9 2).f5.f0) ((rd_T27 l0_9 2).f5.f1) ((rd_T27 l0_9 2).f5.f2) ((rd_T27 l0_9 2).f6) _ _ ((rd_T27 l0_9 2).f7) t134 _ ?side1 ?side2 A33.out).mono ?_); (case side1 => exact (Kd.C_below HR133_9.out HB.out)); (case side2 => exact HC133_9.out); rintro e w35 ⟨rfl, hb⟩; refine ⟨_, rfl, ?_⟩; replace BK127 := bk1 BK127 hb; replace HB := hb1 HB hb; (try clear hb)))
           go_ret
           exact ⟨by rfl, by repeat (with_reducible exact HB.out)⟩
          ·rw [if_neg c32] at H
           exact absurd H (by simp)
         ·obtain rfl := Option.some.inj H
          go_wp2
          go_ret
          exact ⟨by rfl, by repeat (with_reducible exact HB.out)⟩
end Go.Proofs.Ytlamgdibnnmbmaa.PSyn
end
