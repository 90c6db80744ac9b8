/- Part 24 of the proof of SyntaxExprsUptoSaid: The law SyntaxExprs, where the tree that it reads is of bulk at most 1048576: it returns true; the tree reads behind the call as it read before. Out of the plain theorem of YtlamgdibnnmbmaaPureSyntaxExprs and the printed contract. -/
import Derived.Test.YtlamgdibnnmbmaaQSyntaxExprsUpto13
import Derived.Test.YtlamgdibnnmbmaaQSyntaxExprsUpto22
import Derived.Test.YtlamgdibnnmbmaaQSyntaxExprsUpto16
section
namespace Go.Proofs.Ytlamgdibnnmbmaa.PSyn
open Go.RowKit Go.Proofs.YtlamgdibnnmbmaaW.PrintWords Go.Proofs.YtlamgdibnnmbmaaW.PrintLast Go.Proofs.YtlamgdibnnmbmaaW.PrintMore
attribute [local go_sem] max2_int min2_int max_two min_two max_three min_three max_four min_four
set_option linter.unusedVariables false
set_option linter.unusedSimpArgs false
def syntax_has.f (l0 : List (S89)) (a1 : Int) (a2 : Int) : Option (Bool) := if a1 ≥ 0 then (if a1 < (l0.length : Int) then (if 0 ≤ a1 then ((strings_IndexByte.f ((rd_T89 l0 a1).f0) a2).bind fun t107 => (some (decide (t107 ≥ 0)))) else (none)) else (some false)) else (some false)
set_option maxHeartbeats 8000000 in
set_option maxRecDepth 100000 in
theorem syntax_has.calls (A0 : Option Addr) (c0 : Nat) (l0 : List (S89)) (a1 : Int) (a2 : Int) (r : Bool) (w : World) (hr0 : Kd.C k89 w A0 l0.length l0) (hc0 : l0.length ≤ c0) (h : syntax_has.f l0 a1 a2 = some r) :
  Calls Try.prog 60 #[.slice A0 l0.length c0, .int .i64 a1, .int .u8 a2] w fun e w' => e = .returned (.bool r) ∧ Drawn0 w w' := by
 have HR0 := Aside0.mk hr0
 have HC0 := Aside0.mk hc0
 clear hr0 hc0
 have H := h
 clear h
 unfold syntax_has.f at H
 replace H := iD H; rcases H with ⟨c4b0, H⟩ | ⟨c4b0, H⟩
 ·replace c4b0 : decide (0 ≤ a1) = true := c4b0
  replace H := iD H; rcases H with ⟨c5b0, H⟩ | ⟨c5b0, H⟩
  ·replace H := iN H; obtain ⟨c6b0, H⟩ := H
   replace H := bN H; obtain ⟨t107, A7, H⟩ := H
   obtain rfl := Option.some.inj H
   have p106 : 0 ≤ (a1 : Int) := of_decide_eq_true (by (with_reducible assumption))
   have q106 : a1 < (l0.length : Int) := of_decide_eq_true (by (with_reducible assumption))
   obtain ⟨ad106, e106, hx106_0, hx106_1, hx106_2⟩ := at_T89 HR0.out a1 p106 q106
   cases e106
   replace p106 := eq_true p106
   replace q106 := eq_true q106
   go_enter Try.func60, Try.ntmps60
   go_wp2_with ((go_at_call 51; (with_reducible refine (strings_IndexByte.calls ((rd_T89 l0 a1).f0) a2 t107 _ A7.out).mono ?_); rintro e w' ⟨rfl, ⟨nd, rfl⟩⟩))
   go_ret
   exact ⟨by rfl, by repeat (first | exact Drawn0.refl _ | apply Drawn0.step)⟩
  ·obtain rfl := Option.some.inj H
   go_enter Try.func60, Try.ntmps60
   go_wp2
   go_ret
   exact ⟨by rfl, by repeat (exact Drawn0.refl _)⟩
 ·replace c4b0 : decide (0 ≤ a1) = false := c4b0
  obtain rfl := Option.some.inj H
  go_enter Try.func60, Try.ntmps60
  go_wp2
  go_ret
  exact ⟨by rfl, by repeat (exact Drawn0.refl _)⟩
end Go.Proofs.Ytlamgdibnnmbmaa.PSyn
end
section
namespace Go.Proofs.Ytlamgdibnnmbmaa.PSyn
open Go.RowKit Go.Proofs.YtlamgdibnnmbmaaW.PrintWords Go.Proofs.YtlamgdibnnmbmaaW.PrintLast Go.Proofs.YtlamgdibnnmbmaaW.PrintMore
attribute [local go_sem] max2_int min2_int max_two min_two max_three min_three max_four min_four
set_option linter.unusedVariables false
set_option linter.unusedSimpArgs false
mutual
def syntax_match.l0 : Nat → List (S89) → ByteArray → List (S27) → List Int → Int → Option (List Int × Bool)
 | 0, _, _, _, _, _ => none
 | k + 1, x0, x1, x2, x8, x9 => if x9 < (x1.size : Int) then (if 0 ≤ x9 then (if (wrap64 (x9 + 1)) < (x1.size : Int) then (if 0 ≤ (wrap64 (x9 + 1)) then ((strings_IndexByte.f (⟨#[42, 43, 63]⟩ : ByteArray) (bt x1 (wrap64 (x9 + 1)))).bind fun t119 => (syntax_match.j1 k x0 x1 x2 x8 x9 (bt x1 x9) 0 (decide (t119 ≥ 0)))) else (none)) else (syntax_match.j1 k x0 x1 x2 x8 x9 (bt x1 x9) 0 false)) else (none)) else (some (x8, ((x8.length : Int) == (x2.length : Int))))
def syntax_match.j1 : Nat → List (S89) → ByteArray → List (S27) → List Int → Int → Int → Int → Bool → Option (List Int × Bool)
 | 0, _, _, _, _, _, _, _, _ => none
 | k + 1, x0, x1, x2, x8, x9, x10, x11, x35 => if x35 = true then (if 0 ≤ (wrap64 (x9 + 1)) then (if (wrap64 (x9 + 1)) < (x1.size : Int) then (syntax_match.j2 k x0 x1 x2 x8 (wrap64 (x9 + 1)) x10 (bt x1 (wrap64 (x9 + 1)))) else (none)) else (none)) else (syntax_match.j2 k x0 x1 x2 x8 x9 x10 x11)
def syntax_match.j2 : Nat → List (S89) → ByteArray → List (S27) → List Int → Int → Int → Int → Option (List Int × Bool)
 | 0, _, _, _, _, _, _, _ => none
 | k + 1, x0, x1, x2, x8, x9, x10, x11 => syntax_match.l1 k x0 x1 x2 x8 x9 x10 x11 (x8.length : Int)
def syntax_match.j6 : Nat → List (S89) → ByteArray → List (S27) → List Int → Int → Int → Int → Option (List Int × Bool)
 | 0, _, _, _, _, _, _, _ => none
 | k + 1, x0, x1, x2, x8, x9, x11, x12 => if x11 = 42 then (syntax_match.l0 k x0 x1 x2 x8 (wrap64 (x9 + 1))) else (if (x8.length : Int) = x12 then (some (([] : List Int), false)) else (syntax_match.l0 k x0 x1 x2 x8 (wrap64 (x9 + 1))))
def syntax_match.l1 : Nat → List (S89) → ByteArray → List (S27) → List Int → Int → Int → Int → Int → Option (List Int × Bool)
 | 0, _, _, _, _, _, _, _, _ => none
 | k + 1, x0, x1, x2, x8, x9, x10, x11, x12 => if (x8.length : Int) < (x2.length : Int) then (if x11 = 42 then (syntax_match.j4 k x0 x1 x2 x8 x9 x10 x11 x12 true) else (if x11 = 43 then (syntax_match.j4 k x0 x1 x2 x8 x9 x10 x11 x12 true) else (syntax_match.j4 k x0 x1 x2 x8 x9 x10 x11 x12 ((x8.length : Int) == x12)))) else (syntax_match.j4 k x0 x1 x2 x8 x9 x10 x11 x12 false)
def syntax_match.j4 : Nat → List (S89) → ByteArray → List (S27) → List Int → Int → Int → Int → Int → Bool → Option (List Int × Bool)
 | 0, _, _, _, _, _, _, _, _, _ => none
 | k + 1, x0, x1, x2, x8, x9, x10, x11, x12, x61 => if x61 = true then (if 0 ≤ (x8.length : Int) then (if (x8.length : Int) < (x2.length : Int) then (if ((rd_T27 x2 (x8.length : Int)).f0) = 0 then (if x11 = 63 then (syntax_match.j5 k x0 x1 x2 x8 x9 x10 x11 x12 false) else (syntax_match.j5 k x0 x1 x2 x8 x9 x10 x11 x12 true)) else (if x11 = 42 then ((syntax_has.f x0 ((rd_T27 x2 (x8.length : Int)).f0) x10).bind fun t122 => (syntax_match.j5 k x0 x1 x2 x8 x9 x10 x11 x12 (!t122))) else (if x11 = 43 then ((syntax_has.f x0 ((rd_T27 x2 (x8.length : Int)).f0) x10).bind fun t123 => (syntax_match.j5 k x0 x1 x2 x8 x9 x10 x11 x12 (!t123))) else (syntax_match.j5 k x0 x1 x2 x8 x9 x10 x11 x12 false)))) else (none)) else (none)) else (syntax_match.j6 k x0 x1 x2 x8 x9 x11 x12)
def syntax_match.j5 : Nat → List (S89) → ByteArray → List (S27) → List Int → Int → Int → Int → Int → Bool → Option (List Int × Bool)
 | 0, _, _, _, _, _, _, _, _, _ => none
 | k + 1, x0, x1, x2, x8, x9, x10, x11, x12, x94 => if x94 = true then (syntax_match.j6 k x0 x1 x2 x8 x9 x11 x12) else (if x8.length < 140737488355328 then (syntax_match.l1 k x0 x1 x2 (x8 ++ [x10]) x9 x10 x11 x12) else (none))
end
def syntax_match.f (k : Nat) (l0 : List (S89)) (a1 : ByteArray) (l2 : List (S27)) : Option (List Int × Bool) := syntax_match.l0 k l0 a1 l2 ([] : List Int) 0
theorem syntax_match.mono_l : ∀ k, (∀ y0 y1 y2 y3 y4, LeO (syntax_match.l0 k y0 y1 y2 y3 y4) (syntax_match.l0 (k + 1) y0 y1 y2 y3 y4)) ∧ (∀ y0 y1 y2 y3 y4 y5 y6 y7, LeO (syntax_match.j1 k y0 y1 y2 y3 y4 y5 y6 y7) (syntax_match.j1 (k + 1) y0 y1 y2 y3 y4 y5 y6 y7)) ∧ (∀ y0 y1 y2 y3 y4 y5 y6, LeO (syntax_match.j2 k y0 y1 y2 y3 y4 y5 y6) (syntax_match.j2 (k + 1) y0 y1 y2 y3 y4 y5 y6)) ∧ (∀ y0 y1 y2 y3 y4 y5 y6, LeO (syntax_match.j6 k y0 y1 y2 y3 y4 y5 y6) (syntax_match.j6 (k + 1) y0 y1 y2 y3 y4 y5 y6)) ∧ (∀ y0 y1 y2 y3 y4 y5 y6 y7, LeO (syntax_match.l1 k y0 y1 y2 y3 y4 y5 y6 y7) (syntax_match.l1 (k + 1) y0 y1 y2 y3 y4 y5 y6 y7)) ∧ (∀ y0 y1 y2 y3 y4 y5 y6 y7 y8, LeO (syntax_match.j4 k y0 y1 y2 y3 y4 y5 y6 y7 y8) (syntax_match.j4 (k + 1) y0 y1 y2 y3 y4 y5 y6 y7 y8)) ∧ (∀ y0 y1 y2 y3 y4 y5 y6 y7 y8, LeO (syntax_match.j5 k y0 y1 y2 y3 y4 y5 y6 y7 y8) (syntax_match.j5 (k + 1) y0 y1 y2 y3 y4 y5 y6 y7 y8))
 | 0 => ⟨fun _ _ _ _ _ r h => by simp [syntax_match.l0] at h, fun _ _ _ _ _ _ _ _ r h => by simp [syntax_match.j1] at h, fun _ _ _ _ _ _ _ r h => by simp [syntax_match.j2] at h, fun _ _ _ _ _ _ _ r h => by simp [syntax_match.j6] at h, fun _ _ _ _ _ _ _ _ r h => by simp [syntax_match.l1] at h, fun _ _ _ _ _ _ _ _ _ r h => by simp [syntax_match.j4] at h, fun _ _ _ _ _ _ _ _ _ r h => by simp [syntax_match.j5] at h⟩
 | k + 1 => by
  obtain ⟨ih0, ih1, ih2, ih3, ih4, ih5, ih6⟩ := syntax_match.mono_l k
  refine ⟨?_, ?_, ?_, ?_, ?_, ?_, ?_⟩
  ·intro y0 y1 y2 y3 y4
   unfold syntax_match.l0
   repeat' first | with_reducible exact ih0 _ _ _ _ _ | with_reducible exact ih1 _ _ _ _ _ _ _ _ | with_reducible exact ih2 _ _ _ _ _ _ _ | with_reducible exact ih3 _ _ _ _ _ _ _ | with_reducible exact ih4 _ _ _ _ _ _ _ _ | with_reducible exact ih5 _ _ _ _ _ _ _ _ _ | with_reducible exact ih6 _ _ _ _ _ _ _ _ _ | with_reducible exact LeO.refl _ | with_reducible exact LeO.none _ | with_reducible refine LeO.ite ?_ ?_ | with_reducible refine LeO.bind ?_ (fun _ => ?_)
  ·intro y0 y1 y2 y3 y4 y5 y6 y7
   unfold syntax_match.j1
   repeat' first | with_reducible exact ih0 _ _ _ _ _ | with_reducible exact ih1 _ _ _ _ _ _ _ _ | with_reducible exact ih2 _ _ _ _ _ _ _ | with_reducible exact ih3 _ _ _ _ _ _ _ | with_reducible exact ih4 _ _ _ _ _ _ _ _ | with_reducible exact ih5 _ _ _ _ _ _ _ _ _ | with_reducible exact ih6 _ _ _ _ _ _ _ _ _ | with_reducible exact LeO.refl _ | with_reducible exact LeO.none _ | with_reducible refine LeO.ite ?_ ?_ | with_reducible refine LeO.bind ?_ (fun _ => ?_)
  ·intro y0 y1 y2 y3 y4 y5 y6
   unfold syntax_match.j2
   repeat' first | with_reducible exact ih0 _ _ _ _ _ | with_reducible exact ih1 _ _ _ _ _ _ _ _ | with_reducible exact ih2 _ _ _ _ _ _ _ | with_reducible exact ih3 _ _ _ _ _ _ _ | with_reducible exact ih4 _ _ _ _ _ _ _ _ | with_reducible exact ih5 _ _ _ _ _ _ _ _ _ | with_reducible exact ih6 _ _ _ _ _ _ _ _ _ | with_reducible exact LeO.refl _ | with_reducible exact LeO.none _ | with_reducible refine LeO.ite ?_ ?_ | with_reducible refine LeO.bind ?_ (fun _ => ?_)
  ·intro y0 y1 y2 y3 y4 y5 y6
   unfold syntax_match.j6
   repeat' first | with_reducible exact ih0 _ _ _ _ _ | with_reducible exact ih1 _ _ _ _ _ _ _ _ | with_reducible exact ih2 _ _ _ _ _ _ _ | with_reducible exact ih3 _ _ _ _ _ _ _ | with_reducible exact ih4 _ _ _ _ _ _ _ _ | with_reducible exact ih5 _ _ _ _ _ _ _ _ _ | with_reducible exact ih6 _ _ _ _ _ _ _ _ _ | with_reducible exact LeO.refl _ | with_reducible exact LeO.none _ | with_reducible refine LeO.ite ?_ ?_ | with_reducible refine LeO.bind ?_ (fun _ => ?_)
  ·intro y0 y1 y2 y3 y4 y5 y6 y7
   unfold syntax_match.l1
   repeat' first | with_reducible exact ih0 _ _ _ _ _ | with_reducible exact ih1 _ _ _ _ _ _ _ _ | with_reducible exact ih2 _ _ _ _ _ _ _ | with_reducible exact ih3 _ _ _ _ _ _ _ | with_reducible exact ih4 _ _ _ _ _ _ _ _ | with_reducible exact ih5 _ _ _ _ _ _ _ _ _ | with_reducible exact ih6 _ _ _ _ _ _ _ _ _ | with_reducible exact LeO.refl _ | with_reducible exact LeO.none _ | with_reducible refine LeO.ite ?_ ?_ | with_reducible refine LeO.bind ?_ (fun _ => ?_)
  ·intro y0 y1 y2 y3 y4 y5 y6 y7 y8
   unfold syntax_match.j4
   repeat' first | with_reducible exact ih0 _ _ _ _ _ | with_reducible exact ih1 _ _ _ _ _ _ _ _ | with_reducible exact ih2 _ _ _ _ _ _ _ | with_reducible exact ih3 _ _ _ _ _ _ _ | with_reducible exact ih4 _ _ _ _ _ _ _ _ | with_reducible exact ih5 _ _ _ _ _ _ _ _ _ | with_reducible exact ih6 _ _ _ _ _ _ _ _ _ | with_reducible exact LeO.refl _ | with_reducible exact LeO.none _ | with_reducible refine LeO.ite ?_ ?_ | with_reducible refine LeO.bind ?_ (fun _ => ?_)
  ·intro y0 y1 y2 y3 y4 y5 y6 y7 y8
   unfold syntax_match.j5
   repeat' first | with_reducible exact ih0 _ _ _ _ _ | with_reducible exact ih1 _ _ _ _ _ _ _ _ | with_reducible exact ih2 _ _ _ _ _ _ _ | with_reducible exact ih3 _ _ _ _ _ _ _ | with_reducible exact ih4 _ _ _ _ _ _ _ _ | with_reducible exact ih5 _ _ _ _ _ _ _ _ _ | with_reducible exact ih6 _ _ _ _ _ _ _ _ _ | with_reducible exact LeO.refl _ | with_reducible exact LeO.none _ | with_reducible refine LeO.ite ?_ ?_ | with_reducible refine LeO.bind ?_ (fun _ => ?_)
theorem syntax_match.mono : ∀ a0 a1 a2 k, LeO (syntax_match.f k a0 a1 a2) (syntax_match.f (k + 1) a0 a1 a2) := by
 intro a0 a1 a2 k
 obtain ⟨ih0, ih1, ih2, ih3, ih4, ih5, ih6⟩ := syntax_match.mono_l k
 unfold syntax_match.f
 repeat' first | with_reducible exact ih0 _ _ _ _ _ | with_reducible exact ih1 _ _ _ _ _ _ _ _ | with_reducible exact ih2 _ _ _ _ _ _ _ | with_reducible exact ih3 _ _ _ _ _ _ _ | with_reducible exact ih4 _ _ _ _ _ _ _ _ | with_reducible exact ih5 _ _ _ _ _ _ _ _ _ | with_reducible exact ih6 _ _ _ _ _ _ _ _ _ | with_reducible exact LeO.refl _ | with_reducible exact LeO.none _ | with_reducible refine LeO.ite ?_ ?_ | with_reducible refine LeO.bind ?_ (fun _ => ?_)
set_option maxHeartbeats 8000000 in
set_option maxRecDepth 100000 in
theorem syntax_match.calls (k : Nat) (A0 : Option Addr) (c0 : Nat) (l0 : List (S89)) (a1 : ByteArray) (A2 : Option Addr) (c2 : Nat) (l2 : List (S27)) (r1 : List Int) (r2 : Bool) (w : World) (hr0 : Kd.C k89 w A0 l0.length l0) (hc0 : l0.length ≤ c0) (hr2 : Kd.C k27 w A2 l2.length l2) (hc2 : l2.length ≤ c2) (h : syntax_match.f k l0 a1 l2 = some (r1, r2)) :
  Calls Try.prog 62 #[.slice A0 l0.length c0, .string a1, .slice A2 l2.length c2] w fun e w' => ∃ v0_ : Value, e = .returned (.tuple #[v0_, .bool r2]) ∧ Kd.R (Kd.int .u8) 5 w' w.heap.size (fun _ => True) v0_ r1 ∧ Below w.heap.size w w' := by
 have hu27 := Try.underlying27
 have HR0 := Aside0.mk hr0
 have HC0 := Aside0.mk hc0
 clear hr0 hc0
 have HR2 := Aside0.mk hr2
 have HC2 := Aside0.mk hc2
 clear hr2 hc2
 have HB := Aside0.mk (Below.refl w.heap.size w)
 have H := h
 clear h
 unfold syntax_match.f at H
 have H' := Aside0.mk H
 clear H
 go_enter Try.func62, Try.ntmps62
 go_wp2
 go_loopg [8, 9] k (fun kq v8 v9 w' => ∃ (x8_1 : List Int) (x9_1 : Int), v9 = .int .i64 x9_1 ∧ Aside0 (syntax_match.l0 kq l0 a1 l2 x8_1 x9_1 = some (r1, r2)) ∧ Aside0 (kq ≤ k) ∧ Aside0 (Kd.R (Kd.int .u8) 5 w' w.heap.size (fun _ => True) v8 x8_1) ∧ Aside0 (Below w.heap.size w w'))
 case atStart => exact ⟨([] : List Int), (0), (by rfl), H', ⟨Nat.le_refl _⟩, ⟨by exact Kd.R_nil _ _ _ _ _⟩, ⟨by repeat (with_reducible exact HB.out)⟩⟩
 case round =>
  clear H'
  obtain ⟨x8_1, x9_1, rfl, HA, HK1, HO_8, HB⟩ := hrel
  cases gk with
  | zero => exact absurd HA.out (by simp [syntax_match.l0])
  | succ k1 =>
   have H := HA.out
   clear HA
   simp only [syntax_match.l0] at H
   replace H := iD H; rcases H with ⟨c4b0, H⟩ | ⟨c4b0, H⟩
   ·replace H := iN H; obtain ⟨c5b0, H⟩ := H
    have HC7 := Aside0.mk H
    clear H
    have p6 : 0 ≤ (x9_1 : Int) := of_decide_eq_true (by (with_reducible assumption))
    have q6 : x9_1 < (a1.size : Int) := of_decide_eq_true (by (with_reducible assumption))
    have hx6 := bt_at a1 x9_1
    replace p6 := eq_true p6
    replace q6 := eq_true q6
    go_upto_region 6 with (fail)
    go_cut [35] (fun v35 wc => ∃ (kq : Nat) (x35_6 : Bool), v35 = .bool x35_6 ∧ Aside0 (syntax_match.j1 kq l0 a1 l2 x8_1 x9_1 (bt a1 x9_1) 0 x35_6 = some (r1, r2)) ∧ Aside0 (kq ≤ k1) ∧ Aside0 (Kd.R (Kd.int .u8) 5 wc w.heap.size (fun _ => True) u8 x8_1) ∧ Aside0 (Below w.heap.size w wc))
    case first =>
     have H := HC7.out
     clear HC7
     replace H := iD H; rcases H with ⟨c8b0, H⟩ | ⟨c8b0, H⟩
     ·(skip)
      obtain ⟨ji9, hji9⟩ : ∃ j_ : Int, (wrap64 (x9_1 + 1)) = j_ := ⟨_, rfl⟩
      replace H : (if 0 ≤ (ji9) then ((strings_IndexByte.f (⟨#[42, 43, 63]⟩ : ByteArray) (bt a1 (ji9))).bind fun t119 => (syntax_match.j1 k1 l0 a1 l2 x8_1 x9_1 (bt a1 x9_1) 0 (decide (t119 ≥ 0)))) else (none)) = some (r1, r2) := by (rw [hji9] at H; exact H)
      (try rw [hji9] at c8b0)
      have hji9w : (IntKind.i64.wrap (x9_1 + 1)) = ji9 := (i64_w _).trans hji9
      replace H := iN H; obtain ⟨c10b0, H⟩ := H
      replace H := bN H; obtain ⟨t119, A12, H⟩ := H
      have H' := Aside0.mk H
      clear H
      have p11 : 0 ≤ ((ji9) : Int) := of_decide_eq_true (by (with_reducible assumption))
      have q11 : (ji9) < (a1.size : Int) := of_decide_eq_true (by (with_reducible assumption))
      have hx11 := bt_at a1 (ji9)
      replace p11 := eq_true p11
      replace q11 := eq_true q11
      go_wp2_with ((go_at_call 51; (with_reducible refine (strings_IndexByte.calls (⟨#[42, 43, 63]⟩ : ByteArray) (bt a1 (ji9)) t119 _ A12.out).mono ?_); rintro e w' ⟨rfl, ⟨nd, rfl⟩⟩))
      go_meet
      case rel => exact ⟨_, (decide (t119 ≥ 0)), (by rfl), H', ⟨by have := HK1.out; omega⟩, ⟨by (with_reducible repeat (apply Kd.R_drewN)); exact HO_8.out⟩, ⟨by repeat (with_reducible first | exact HB.out | apply pw_below_drewN)⟩⟩
     ·(skip)
      have H' := Aside0.mk H
      clear H
      go_wp2
      go_meet
      case rel => exact ⟨_, (false), (by rfl), H', ⟨by have := HK1.out; omega⟩, ⟨by exact HO_8.out⟩, ⟨by repeat (with_reducible exact HB.out)⟩⟩
    case rest =>
     clear HC7
     (try clear c4b0); (try clear c5b0); (try clear p6); (try clear q6); (try clear hx6)
     obtain ⟨kq, x35_6, rfl, HA, HJ6, HO_8, HB⟩ := hcut
     cases kq with
     | zero => exact absurd HA.out (by simp [syntax_match.j1])
     | succ kj6 =>
      have H := HA.out
      clear HA
      simp only [syntax_match.j1] at H
      have HC13 := Aside0.mk H
      clear H
      go_upto_if 35 with (fail)
      go_cut [9, 11] (fun v9 v11 wc => ∃ (kq : Nat) (x9_12 : Int) (x11_12 : Int), v9 = .int .i64 x9_12 ∧ v11 = .int .u8 x11_12 ∧ Aside0 (syntax_match.j2 kq l0 a1 l2 x8_1 x9_12 (bt a1 x9_1) x11_12 = some (r1, r2)) ∧ Aside0 (kq ≤ kj6) ∧ Aside0 (Kd.R (Kd.int .u8) 5 wc w.heap.size (fun _ => True) u8 x8_1) ∧ Aside0 (Below w.heap.size w wc))
      case first =>
       have H := HC13.out
       clear HC13
       replace H := iB H; rcases H with ⟨rfl, H⟩ | ⟨rfl, H⟩
       ·obtain ⟨ji15, hji15⟩ : ∃ j_ : Int, (wrap64 (x9_1 + 1)) = j_ := ⟨_, rfl⟩
        replace H : (if 0 ≤ (ji15) then (if (ji15) < (a1.size : Int) then (syntax_match.j2 kj6 l0 a1 l2 x8_1 ji15 (bt a1 x9_1) (bt a1 (ji15))) else (none)) else (none)) = some (r1, r2) := by (rw [hji15] at H; exact H)
        have hji15w : (IntKind.i64.wrap (x9_1 + 1)) = ji15 := (i64_w _).trans hji15
        replace H := iN H; obtain ⟨c16b0, H⟩ := H
        (skip)
        replace H := iN H; obtain ⟨c17b0, H⟩ := H
        have H' := Aside0.mk H
        clear H
        have p18 : 0 ≤ ((ji15) : Int) := of_decide_eq_true (by (with_reducible assumption))
        have q18 : (ji15) < (a1.size : Int) := of_decide_eq_true (by (with_reducible assumption))
        have hx18 := bt_at a1 (ji15)
        replace p18 := eq_true p18
        replace q18 := eq_true q18
        go_wp2
        go_meet
        case rel => exact ⟨_, (ji15), (bt a1 (ji15)), (by rfl), (by rfl), H', ⟨by have := HK1.out; have := HJ6.out; omega⟩, ⟨by exact HO_8.out⟩, ⟨by repeat (with_reducible exact HB.out)⟩⟩
       ·have H' := Aside0.mk H
        clear H
        go_wp2
        go_meet
        case rel => exact ⟨_, (x9_1), (0), (by rfl), (by rfl), H', ⟨by have := HK1.out; have := HJ6.out; omega⟩, ⟨by exact HO_8.out⟩, ⟨by repeat (with_reducible exact HB.out)⟩⟩
      case rest =>
       clear HC13
       obtain ⟨kq, x9_12, x11_12, rfl, rfl, HA, HJ12, HO_8, HB⟩ := hcut
       cases kq with
       | zero => exact absurd HA.out (by simp [syntax_match.j2])
       | succ kj12 =>
        have H := HA.out
        clear HA
        simp only [syntax_match.j2] at H
        have HC19 := Aside0.mk H
        clear H
        obtain ⟨Ao20, co20, eo20⟩ := Kd.R_slice HO_8.out
        subst eo20
        go_upto_block 2 with (fail)
        go_cut [8] (fun v8 wc => ∃ (kq : Nat) (x8_18 : List Int), Aside0 (syntax_match.j6 kq l0 a1 l2 x8_18 x9_12 x11_12 (x8_1.length : Int) = some (r1, r2)) ∧ Aside0 (kq ≤ kj12) ∧ Aside0 (Kd.R (Kd.int .u8) 5 wc w.heap.size (fun _ => True) v8 x8_18) ∧ Aside0 (Below w.heap.size w wc))
        case first =>
         have H := HC19.out
         clear HC19
         have H' := Aside0.mk H
         clear H
         go_wp2
         go_loopg [8] kj12 (fun kq v8 w' => ∃ (x8_4 : List Int), Aside0 (syntax_match.l1 kq l0 a1 l2 x8_4 x9_12 (bt a1 x9_1) x11_12 (x8_1.length : Int) = some (r1, r2)) ∧ Aside0 (kq ≤ kj12) ∧ Aside0 (Kd.R (Kd.int .u8) 5 w' w.heap.size (fun _ => True) v8 x8_4) ∧ Aside0 (Below w.heap.size w w'))
         case atStart => exact ⟨(x8_1), H', ⟨Nat.le_refl _⟩, ⟨by exact HO_8.out⟩, ⟨by repeat (with_reducible exact HB.out)⟩⟩
         case round =>
          clear H'
          obtain ⟨x8_4, HA, HK4, HO_8, HB⟩ := hrel
          cases gk with
          | zero => exact absurd HA.out (by simp [syntax_match.l1])
          | succ k4 =>
           have H := HA.out
           clear HA
           simp only [syntax_match.l1] at H
           have HC21 := Aside0.mk H
           clear H
           go_upto_region 10 with (fail)
           go_cut [61] (fun v61 wc => ∃ (kq : Nat) (x61_20 : Bool), v61 = .bool x61_20 ∧ Aside0 (syntax_match.j4 kq l0 a1 l2 x8_4 x9_12 (bt a1 x9_1) x11_12 (x8_1.length : Int) x61_20 = some (r1, r2)) ∧ Aside0 (kq ≤ k4) ∧ Aside0 (Kd.R (Kd.int .u8) 5 wc w.heap.size (fun _ => True) u8 x8_4) ∧ Aside0 (Below w.heap.size w wc))
           case first =>
            have H := HC21.out
            clear HC21
            by_cases c22 : (x8_4.length : Int) < (l2.length : Int)
            ·rw [if_pos c22] at H
             have c22b0 : decide ((x8_4.length : Int) < (l2.length : Int)) = true := decide_eq_true c22
             have c22b1 : decide (x8_4.length < l2.length) = true := decide_eq_true (Int.ofNat_lt.mp c22)
             clear c22
             (skip)
             replace H := iE H; rcases H with ⟨c23b0, c23b1, H⟩ | ⟨c23, c23b0, c23b1, H⟩
             ·have H' := Aside0.mk H
              clear H
              obtain ⟨Ao24, co24, eo24⟩ := Kd.R_slice HO_8.out
              subst eo24
              go_wp2
              go_meet
              case rel => exact ⟨_, (true), (by rfl), H', ⟨by have := HK1.out; have := HJ6.out; have := HJ12.out; have := HK4.out; omega⟩, ⟨by exact HO_8.out⟩, ⟨by repeat (with_reducible exact HB.out)⟩⟩
             ·replace H := iE H; rcases H with ⟨c25b0, c25b1, H⟩ | ⟨c25, c25b0, c25b1, H⟩
              ·have H' := Aside0.mk H
               clear H
               obtain ⟨Ao26, co26, eo26⟩ := Kd.R_slice HO_8.out
               subst eo26
               go_wp2
               go_meet
               case rel => exact ⟨_, (true), (by rfl), H', ⟨by have := HK1.out; have := HJ6.out; have := HJ12.out; have := HK4.out; omega⟩, ⟨by exact HO_8.out⟩, ⟨by repeat (with_reducible exact HB.out)⟩⟩
              ·have H' := Aside0.mk H
               clear H
               obtain ⟨Ao27, co27, eo27⟩ := Kd.R_slice HO_8.out
               subst eo27
               go_wp2
               go_meet
               case rel => exact ⟨_, ((x8_4.length : Int) == (x8_1.length : Int)), (by rfl), H', ⟨by have := HK1.out; have := HJ6.out; have := HJ12.out; have := HK4.out; omega⟩, ⟨by exact HO_8.out⟩, ⟨by repeat (with_reducible exact HB.out)⟩⟩
            ·rw [if_neg c22] at H
             have c22b0 : decide ((x8_4.length : Int) < (l2.length : Int)) = false := decide_eq_false c22
             have c22b1 : decide (x8_4.length < l2.length) = false := decide_eq_false (fun h => c22 (Int.ofNat_lt.mpr h))
             clear c22
             (skip)
             have H' := Aside0.mk H
             clear H
             obtain ⟨Ao28, co28, eo28⟩ := Kd.R_slice HO_8.out
             subst eo28
             go_wp2
             go_meet
             case rel => exact ⟨_, (false), (by rfl), H', ⟨by have := HK1.out; have := HJ6.out; have := HJ12.out; have := HK4.out; omega⟩, ⟨by exact HO_8.out⟩, ⟨by repeat (with_reducible exact HB.out)⟩⟩
           case rest =>
            clear HC21
            obtain ⟨kq, x61_20, rfl, HA, HJ20, HO_8, HB⟩ := hcut
            cases kq with
            | zero => exact absurd HA.out (by simp [syntax_match.j4])
            | succ kj20 =>
             have H := HA.out
             clear HA
             simp only [syntax_match.j4] at H
             replace H := iB H; rcases H with ⟨rfl, H⟩ | ⟨rfl, H⟩
             ·by_cases c30 : 0 ≤ (x8_4.length : Int)
              ·rw [if_pos c30] at H
               have c30b0 : decide (0 ≤ (x8_4.length : Int)) = true := decide_eq_true c30
               have c30b1 : decide (0 ≤ x8_4.length) = true := decide_eq_true (by omega)
               clear c30
               by_cases c31 : (x8_4.length : Int) < (l2.length : Int)
               ·rw [if_pos c31] at H
                have c31b0 : decide ((x8_4.length : Int) < (l2.length : Int)) = true := decide_eq_true c31
                have c31b1 : decide (x8_4.length < l2.length) = true := decide_eq_true (Int.ofNat_lt.mp c31)
                clear c31
                have HC32 := Aside0.mk H
                clear H
                obtain ⟨Ao33, co33, eo33⟩ := Kd.R_slice HO_8.out
                subst eo33
                have p120 : 0 ≤ ((x8_4.length : Int) : Int) := of_decide_eq_true (by (with_reducible assumption))
                have q120 : (x8_4.length : Int) < (l2.length : Int) := of_decide_eq_true (by (with_reducible assumption))
                obtain ⟨ad120, A120_9, c120_9, e120, hx120_0, hx120_1, hx120_2, hx120_3, hx120_4, hx120_5, hx120_6, hx120_7, hx120_8, hx120_9, hl120_9, hi120_9⟩ := at_T27 HR2.out (x8_4.length : Int) p120 q120
                cases e120
                replace hx120_0 := (HB.out.cell (World.block_lt_of_cell? w _ hx120_0)).trans hx120_0
                replace hx120_1 := (HB.out.cell (World.block_lt_of_cell? w _ hx120_1)).trans hx120_1
                replace hx120_2 := (HB.out.cell (World.block_lt_of_cell? w _ hx120_2)).trans hx120_2
                replace hx120_3 := (HB.out.cell (World.block_lt_of_cell? w _ hx120_3)).trans hx120_3
                replace hx120_4 := (HB.out.cell (World.block_lt_of_cell? w _ hx120_4)).trans hx120_4
                replace hx120_5 := (HB.out.cell (World.block_lt_of_cell? w _ hx120_5)).trans hx120_5
                replace hx120_6 := (HB.out.cell (World.block_lt_of_cell? w _ hx120_6)).trans hx120_6
                replace hx120_7 := (HB.out.cell (World.block_lt_of_cell? w _ hx120_7)).trans hx120_7
                replace hx120_8 := (HB.out.cell (World.block_lt_of_cell? w _ hx120_8)).trans hx120_8
                replace hx120_9 := (HB.out.cell (World.block_lt_of_cell? w _ hx120_9)).trans hx120_9
                have HR120_9 := Aside0.mk hi120_9
                have HC120_9 := Aside0.mk hl120_9
                clear hi120_9 hl120_9
                (try simp only [Go.IntWalk.toNatUp] at hx120_0)
                (try simp only [Go.IntWalk.toNatUp] at hx120_1)
                (try simp only [Go.IntWalk.toNatUp] at hx120_2)
                (try simp only [Go.IntWalk.toNatUp] at hx120_3)
                (try simp only [Go.IntWalk.toNatUp] at hx120_4)
                (try simp only [Go.IntWalk.toNatUp] at hx120_5)
                (try simp only [Go.IntWalk.toNatUp] at hx120_6)
                (try simp only [Go.IntWalk.toNatUp] at hx120_7)
                (try simp only [Go.IntWalk.toNatUp] at hx120_8)
                (try simp only [Go.IntWalk.toNatUp] at hx120_9)
                replace p120 := eq_true p120
                replace q120 := eq_true q120
                go_upto_region 12 with (((with_reducible refine gate_dst (N := 13) rfl ?_); (try (refine gate_guard (by rfl) ?_; dsimp only)); refine box_event ?hg (N := 13) ?hd (cs := #[.int .i64 0, .int .i64 0, .int .i64 0, .string (⟨#[]⟩ : ByteArray), .string (⟨#[]⟩ : ByteArray), .int .i64 0, .int .u64 0, .int .u64 0, .bool false, .slice none 0 0]) (t := 27) ?hr ?_; (case hd => rfl); (case hg => rfl); (case hr => (go_simp; done)); intro gb121 hg w34 hbox hb; replace HO_8 := Kd.rb1 HO_8 hb; have BK121 := Aside0.mk (hbox); have GW121 := ge1 HB hg; have GE121 := ge1 HB hg; replace HB := hb1 HB hb; clear hb hbox hg; have hcz35_0 : w34.cell? ⟨gb121, 0, none⟩ = some (.int .i64 0) := (blk_cell BK121.out 0).trans rfl; have hcz35_1 : w34.cell? ⟨gb121, 1, none⟩ = some (.int .i64 0) := (blk_cell BK121.out 1).trans rfl; have hcz35_2 : w34.cell? ⟨gb121, 2, none⟩ = some (.int .i64 0) := (blk_cell BK121.out 2).trans rfl; have hcz35_3 : w34.cell? ⟨gb121, 3, none⟩ = some (.string (⟨#[]⟩ : ByteArray)) := (blk_cell BK121.out 3).trans rfl; have hcz35_4 : w34.cell? ⟨gb121, 4, none⟩ = some (.string (⟨#[]⟩ : ByteArray)) := (blk_cell BK121.out 4).trans rfl; have hcz35_5 : w34.cell? ⟨gb121, 5, none⟩ = some (.int .i64 0) := (blk_cell BK121.out 5).trans rfl; have hcz35_6 : w34.cell? ⟨gb121, 6, none⟩ = some (.int .u64 0) := (blk_cell BK121.out 6).trans rfl; have hcz35_7 : w34.cell? ⟨gb121, 7, none⟩ = some (.int .u64 0) := (blk_cell BK121.out 7).trans rfl; have hcz35_8 : w34.cell? ⟨gb121, 8, none⟩ = some (.bool false) := (blk_cell BK121.out 8).trans rfl; have hcz35_9 : w34.cell? ⟨gb121, 9, none⟩ = some (.slice none 0 0) := (blk_cell BK121.out 9).trans rfl; have hfz35_0 := blk_frozen BK121.out 0; have hfz35_1 := blk_frozen BK121.out 1; have hfz35_2 := blk_frozen BK121.out 2; have hfz35_3 := blk_frozen BK121.out 3; have hfz35_4 := blk_frozen BK121.out 4; have hfz35_5 := blk_frozen BK121.out 5; have hfz35_6 := blk_frozen BK121.out 6; have hfz35_7 := blk_frozen BK121.out 7; have hfz35_8 := blk_frozen BK121.out 8; have hfz35_9 := blk_frozen BK121.out 9))
                go_cut [94] (fun v94 wc => ∃ (kq : Nat) (x94_31 : Bool), v94 = .bool x94_31 ∧ Aside0 (syntax_match.j5 kq l0 a1 l2 x8_4 x9_12 (bt a1 x9_1) x11_12 (x8_1.length : Int) x94_31 = some (r1, r2)) ∧ Aside0 (kq ≤ kj20) ∧ Aside0 (Kd.R (Kd.int .u8) 5 wc w.heap.size (fun _ => True) (.slice Ao33 x8_4.length co33) x8_4) ∧ Aside0 (wc.heap[gb121]? = some (.cells #[.int .i64 ((rd_T27 l2 (x8_4.length : Int)).f0), .int .i64 ((rd_T27 l2 (x8_4.length : Int)).f1), .int .i64 ((rd_T27 l2 (x8_4.length : Int)).f2), .string ((rd_T27 l2 (x8_4.length : Int)).f3), .string ((rd_T27 l2 (x8_4.length : Int)).f4), .int .i64 ((rd_T27 l2 (x8_4.length : Int)).f5.f0), .int .u64 ((rd_T27 l2 (x8_4.length : Int)).f5.f1), .int .u64 ((rd_T27 l2 (x8_4.length : Int)).f5.f2), .bool ((rd_T27 l2 (x8_4.length : Int)).f6), (.slice A120_9 ((rd_T27 l2 (x8_4.length : Int)).f7).length c120_9)] 27 (0, 0))) ∧ Aside0 (Below w.heap.size w wc))
                case first =>
                 have H := HC32.out
                 clear HC32
                 replace H := iE H; rcases H with ⟨c36b0, c36b1, H⟩ | ⟨c36, c36b0, c36b1, H⟩
                 ·(skip)
                  replace H := iE H; rcases H with ⟨c37b0, c37b1, H⟩ | ⟨c37, c37b0, c37b1, H⟩
                  ·have H' := Aside0.mk H
                   clear H
                   obtain ⟨hcz38_0, hcz38_1, hcz38_2, hcz38_3, hcz38_4, hcz38_5, hcz38_6, hcz38_7, hcz38_8, hcz38_9⟩ := sq_cells10 (W := w34) (g := gb121) BK121.out; obtain ⟨hfz38_0, hfz38_1, hfz38_2, hfz38_3, hfz38_4, hfz38_5, hfz38_6, hfz38_7, hfz38_8, hfz38_9⟩ := sq_frozen10 BK121.out
                   go_wp2
                   go_meet
                   case rel => exact ⟨_, (false), (by rfl), H', ⟨by have := HK1.out; have := HJ6.out; have := HJ12.out; have := HK4.out; have := HJ20.out; omega⟩, ⟨by exact Kd.R_mono (Kd.R_far (p := ⟨gb121, 9, none⟩) (Kd.R_far (p := ⟨gb121, 8, none⟩) (Kd.R_far (p := ⟨gb121, 7, none⟩) (Kd.R_far (p := ⟨gb121, 6, none⟩) (Kd.R_far (p := ⟨gb121, 5, none⟩) (Kd.R_far (p := ⟨gb121, 4, none⟩) (Kd.R_far (p := ⟨gb121, 3, none⟩) (Kd.R_far (p := ⟨gb121, 2, none⟩) (Kd.R_far (p := ⟨gb121, 1, none⟩) (Kd.R_far (p := ⟨gb121, 0, none⟩) (Kd.R_types HO_8.out BK121.out (by decide)) (fun _ hk => hk.2) (.int .i64 ((rd_T27 l2 (x8_4.length : Int)).f0))) (fun _ hk => hk.2) (.int .i64 ((rd_T27 l2 (x8_4.length : Int)).f1))) (fun _ hk => hk.2) (.int .i64 ((rd_T27 l2 (x8_4.length : Int)).f2))) (fun _ hk => hk.2) (.string ((rd_T27 l2 (x8_4.length : Int)).f3))) (fun _ hk => hk.2) (.string ((rd_T27 l2 (x8_4.length : Int)).f4))) (fun _ hk => hk.2) (.int .i64 ((rd_T27 l2 (x8_4.length : Int)).f5.f0))) (fun _ hk => hk.2) (.int .u64 ((rd_T27 l2 (x8_4.length : Int)).f5.f1))) (fun _ hk => hk.2) (.int .u64 ((rd_T27 l2 (x8_4.length : Int)).f5.f2))) (fun _ hk => hk.2) (.bool ((rd_T27 l2 (x8_4.length : Int)).f6))) (fun _ hk => hk.2) (.slice A120_9 ((rd_T27 l2 (x8_4.length : Int)).f7).length c120_9)) (fun _ hk => trivial)⟩, ⟨by refine blk_put (cs := #[.int .i64 ((rd_T27 l2 (x8_4.length : Int)).f0), .int .i64 ((rd_T27 l2 (x8_4.length : Int)).f1), .int .i64 ((rd_T27 l2 (x8_4.length : Int)).f2), .string ((rd_T27 l2 (x8_4.length : Int)).f3), .string ((rd_T27 l2 (x8_4.length : Int)).f4), .int .i64 ((rd_T27 l2 (x8_4.length : Int)).f5.f0), .int .u64 ((rd_T27 l2 (x8_4.length : Int)).f5.f1), .int .u64 ((rd_T27 l2 (x8_4.length : Int)).f5.f2), .bool ((rd_T27 l2 (x8_4.length : Int)).f6), .slice none 0 0]) ?_ 9 _ rfl; refine blk_put (cs := #[.int .i64 ((rd_T27 l2 (x8_4.length : Int)).f0), .int .i64 ((rd_T27 l2 (x8_4.length : Int)).f1), .int .i64 ((rd_T27 l2 (x8_4.length : Int)).f2), .string ((rd_T27 l2 (x8_4.length : Int)).f3), .string ((rd_T27 l2 (x8_4.length : Int)).f4), .int .i64 ((rd_T27 l2 (x8_4.length : Int)).f5.f0), .int .u64 ((rd_T27 l2 (x8_4.length : Int)).f5.f1), .int .u64 ((rd_T27 l2 (x8_4.length : Int)).f5.f2), .bool false, .slice none 0 0]) ?_ 8 _ rfl; refine blk_put (cs := #[.int .i64 ((rd_T27 l2 (x8_4.length : Int)).f0), .int .i64 ((rd_T27 l2 (x8_4.length : Int)).f1), .int .i64 ((rd_T27 l2 (x8_4.length : Int)).f2), .string ((rd_T27 l2 (x8_4.length : Int)).f3), .string ((rd_T27 l2 (x8_4.length : Int)).f4), .int .i64 ((rd_T27 l2 (x8_4.length : Int)).f5.f0), .int .u64 ((rd_T27 l2 (x8_4.length : Int)).f5.f1), .int .u64 0, .bool false, .slice none 0 0]) ?_ 7 _ rfl; refine blk_put (cs := #[.int .i64 ((rd_T27 l2 (x8_4.length : Int)).f0), .int .i64 ((rd_T27 l2 (x8_4.length : Int)).f1), .int .i64 ((rd_T27 l2 (x8_4.length : Int)).f2), .string ((rd_T27 l2 (x8_4.length : Int)).f3), .string ((rd_T27 l2 (x8_4.length : Int)).f4), .int .i64 ((rd_T27 l2 (x8_4.length : Int)).f5.f0), .int .u64 0, .int .u64 0, .bool false, .slice none 0 0]) ?_ 6 _ rfl; refine blk_put (cs := #[.int .i64 ((rd_T27 l2 (x8_4.length : Int)).f0), .int .i64 ((rd_T27 l2 (x8_4.length : Int)).f1), .int .i64 ((rd_T27 l2 (x8_4.length : Int)).f2), .string ((rd_T27 l2 (x8_4.length : Int)).f3), .string ((rd_T27 l2 (x8_4.length : Int)).f4), .int .i64 0, .int .u64 0, .int .u64 0, .bool false, .slice none 0 0]) ?_ 5 _ rfl; refine blk_put (cs := #[.int .i64 ((rd_T27 l2 (x8_4.length : Int)).f0), .int .i64 ((rd_T27 l2 (x8_4.length : Int)).f1), .int .i64 ((rd_T27 l2 (x8_4.length : Int)).f2), .string ((rd_T27 l2 (x8_4.length : Int)).f3), .string (⟨#[]⟩ : ByteArray), .int .i64 0, .int .u64 0, .int .u64 0, .bool false, .slice none 0 0]) ?_ 4 _ rfl; refine blk_put (cs := #[.int .i64 ((rd_T27 l2 (x8_4.length : Int)).f0), .int .i64 ((rd_T27 l2 (x8_4.length : Int)).f1), .int .i64 ((rd_T27 l2 (x8_4.length : Int)).f2), .string (⟨#[]⟩ : ByteArray), .string (⟨#[]⟩ : ByteArray), .int .i64 0, .int .u64 0, .int .u64 0, .bool false, .slice none 0 0]) ?_ 3 _ rfl; refine blk_put (cs := #[.int .i64 ((rd_T27 l2 (x8_4.length : Int)).f0), .int .i64 ((rd_T27 l2 (x8_4.length : Int)).f1), .int .i64 0, .string (⟨#[]⟩ : ByteArray), .string (⟨#[]⟩ : ByteArray), .int .i64 0, .int .u64 0, .int .u64 0, .bool false, .slice none 0 0]) ?_ 2 _ rfl; refine blk_put (cs := #[.int .i64 ((rd_T27 l2 (x8_4.length : Int)).f0), .int .i64 0, .int .i64 0, .string (⟨#[]⟩ : ByteArray), .string (⟨#[]⟩ : ByteArray), .int .i64 0, .int .u64 0, .int .u64 0, .bool false, .slice none 0 0]) ?_ 1 _ rfl; refine blk_put (cs := #[.int .i64 0, .int .i64 0, .int .i64 0, .string (⟨#[]⟩ : ByteArray), .string (⟨#[]⟩ : ByteArray), .int .i64 0, .int .u64 0, .int .u64 0, .bool false, .slice none 0 0]) ?_ 0 _ rfl; exact BK121.out⟩, ⟨by repeat (with_reducible first | exact HB.out | refine below_set ?_ GE121.out)⟩⟩
                  ·have H' := Aside0.mk H
                   clear H
                   obtain ⟨hcz39_0, hcz39_1, hcz39_2, hcz39_3, hcz39_4, hcz39_5, hcz39_6, hcz39_7, hcz39_8, hcz39_9⟩ := sq_cells10 (W := w34) (g := gb121) BK121.out; obtain ⟨hfz39_0, hfz39_1, hfz39_2, hfz39_3, hfz39_4, hfz39_5, hfz39_6, hfz39_7, hfz39_8, hfz39_9⟩ := sq_frozen10 BK121.out
                   go_wp2
                   go_meet
                   case rel => exact ⟨_, (true), (by rfl), H', ⟨by have := HK1.out; have := HJ6.out; have := HJ12.out; have := HK4.out; have := HJ20.out; omega⟩, ⟨by exact Kd.R_mono (Kd.R_far (p := ⟨gb121, 9, none⟩) (Kd.R_far (p := ⟨gb121, 8, none⟩) (Kd.R_far (p := ⟨gb121, 7, none⟩) (Kd.R_far (p := ⟨gb121, 6, none⟩) (Kd.R_far (p := ⟨gb121, 5, none⟩) (Kd.R_far (p := ⟨gb121, 4, none⟩) (Kd.R_far (p := ⟨gb121, 3, none⟩) (Kd.R_far (p := ⟨gb121, 2, none⟩) (Kd.R_far (p := ⟨gb121, 1, none⟩) (Kd.R_far (p := ⟨gb121, 0, none⟩) (Kd.R_types HO_8.out BK121.out (by decide)) (fun _ hk => hk.2) (.int .i64 ((rd_T27 l2 (x8_4.length : Int)).f0))) (fun _ hk => hk.2) (.int .i64 ((rd_T27 l2 (x8_4.length : Int)).f1))) (fun _ hk => hk.2) (.int .i64 ((rd_T27 l2 (x8_4.length : Int)).f2))) (fun _ hk => hk.2) (.string ((rd_T27 l2 (x8_4.length : Int)).f3))) (fun _ hk => hk.2) (.string ((rd_T27 l2 (x8_4.length : Int)).f4))) (fun _ hk => hk.2) (.int .i64 ((rd_T27 l2 (x8_4.length : Int)).f5.f0))) (fun _ hk => hk.2) (.int .u64 ((rd_T27 l2 (x8_4.length : Int)).f5.f1))) (fun _ hk => hk.2) (.int .u64 ((rd_T27 l2 (x8_4.length : Int)).f5.f2))) (fun _ hk => hk.2) (.bool ((rd_T27 l2 (x8_4.length : Int)).f6))) (fun _ hk => hk.2) (.slice A120_9 ((rd_T27 l2 (x8_4.length : Int)).f7).length c120_9)) (fun _ hk => trivial)⟩, ⟨by refine blk_put (cs := #[.int .i64 ((rd_T27 l2 (x8_4.length : Int)).f0), .int .i64 ((rd_T27 l2 (x8_4.length : Int)).f1), .int .i64 ((rd_T27 l2 (x8_4.length : Int)).f2), .string ((rd_T27 l2 (x8_4.length : Int)).f3), .string ((rd_T27 l2 (x8_4.length : Int)).f4), .int .i64 ((rd_T27 l2 (x8_4.length : Int)).f5.f0), .int .u64 ((rd_T27 l2 (x8_4.length : Int)).f5.f1), .int .u64 ((rd_T27 l2 (x8_4.length : Int)).f5.f2), .bool ((rd_T27 l2 (x8_4.length : Int)).f6), .slice none 0 0]) ?_ 9 _ rfl; refine blk_put (cs := #[.int .i64 ((rd_T27 l2 (x8_4.length : Int)).f0), .int .i64 ((rd_T27 l2 (x8_4.length : Int)).f1), .int .i64 ((rd_T27 l2 (x8_4.length : Int)).f2), .string ((rd_T27 l2 (x8_4.length : Int)).f3), .string ((rd_T27 l2 (x8_4.length : Int)).f4), .int .i64 ((rd_T27 l2 (x8_4.length : Int)).f5.f0), .int .u64 ((rd_T27 l2 (x8_4.length : Int)).f5.f1), .int .u64 ((rd_T27 l2 (x8_4.length : Int)).f5.f2), .bool false, .slice none 0 0]) ?_ 8 _ rfl; refine blk_put (cs := #[.int .i64 ((rd_T27 l2 (x8_4.length : Int)).f0), .int .i64 ((rd_T27 l2 (x8_4.length : Int)).f1), .int .i64 ((rd_T27 l2 (x8_4.length : Int)).f2), .string ((rd_T27 l2 (x8_4.length : Int)).f3), .string ((rd_T27 l2 (x8_4.length : Int)).f4), .int .i64 ((rd_T27 l2 (x8_4.length : Int)).f5.f0), .int .u64 ((rd_T27 l2 (x8_4.length : Int)).f5.f1), .int .u64 0, .bool false, .slice none 0 0]) ?_ 7 _ rfl; refine blk_put (cs := #[.int .i64 ((rd_T27 l2 (x8_4.length : Int)).f0), .int .i64 ((rd_T27 l2 (x8_4.length : Int)).f1), .int .i64 ((rd_T27 l2 (x8_4.length : Int)).f2), .string ((rd_T27 l2 (x8_4.length : Int)).f3), .string ((rd_T27 l2 (x8_4.length : Int)).f4), .int .i64 ((rd_T27 l2 (x8_4.length : Int)).f5.f0), .int .u64 0, .int .u64 0, .bool false, .slice none 0 0]) ?_ 6 _ rfl; refine blk_put (cs := #[.int .i64 ((rd_T27 l2 (x8_4.length : Int)).f0), .int .i64 ((rd_T27 l2 (x8_4.length : Int)).f1), .int .i64 ((rd_T27 l2 (x8_4.length : Int)).f2), .string ((rd_T27 l2 (x8_4.length : Int)).f3), .string ((rd_T27 l2 (x8_4.length : Int)).f4), .int .i64 0, .int .u64 0, .int .u64 0, .bool false, .slice none 0 0]) ?_ 5 _ rfl; refine blk_put (cs := #[.int .i64 ((rd_T27 l2 (x8_4.length : Int)).f0), .int .i64 ((rd_T27 l2 (x8_4.length : Int)).f1), .int .i64 ((rd_T27 l2 (x8_4.length : Int)).f2), .string ((rd_T27 l2 (x8_4.length : Int)).f3), .string (⟨#[]⟩ : ByteArray), .int .i64 0, .int .u64 0, .int .u64 0, .bool false, .slice none 0 0]) ?_ 4 _ rfl; refine blk_put (cs := #[.int .i64 ((rd_T27 l2 (x8_4.length : Int)).f0), .int .i64 ((rd_T27 l2 (x8_4.length : Int)).f1), .int .i64 ((rd_T27 l2 (x8_4.length : Int)).f2), .string (⟨#[]⟩ : ByteArray), .string (⟨#[]⟩ : ByteArray), .int .i64 0, .int .u64 0, .int .u64 0, .bool false, .slice none 0 0]) ?_ 3 _ rfl; refine blk_put (cs := #[.int .i64 ((rd_T27 l2 (x8_4.length : Int)).f0), .int .i64 ((rd_T27 l2 (x8_4.length : Int)).f1), .int .i64 0, .string (⟨#[]⟩ : ByteArray), .string (⟨#[]⟩ : ByteArray), .int .i64 0, .int .u64 0, .int .u64 0, .bool false, .slice none 0 0]) ?_ 2 _ rfl; refine blk_put (cs := #[.int .i64 ((rd_T27 l2 (x8_4.length : Int)).f0), .int .i64 0, .int .i64 0, .string (⟨#[]⟩ : ByteArray), .string (⟨#[]⟩ : ByteArray), .int .i64 0, .int .u64 0, .int .u64 0, .bool false, .slice none 0 0]) ?_ 1 _ rfl; refine blk_put (cs := #[.int .i64 0, .int .i64 0, .int .i64 0, .string (⟨#[]⟩ : ByteArray), .string (⟨#[]⟩ : ByteArray), .int .i64 0, .int .u64 0, .int .u64 0, .bool false, .slice none 0 0]) ?_ 0 _ rfl; exact BK121.out⟩, ⟨by repeat (with_reducible first | exact HB.out | refine below_set ?_ GE121.out)⟩⟩
                 ·(skip)
                  replace H := iE H; rcases H with ⟨c40b0, c40b1, H⟩ | ⟨c40, c40b0, c40b1, H⟩
                  ·replace H := bN H; obtain ⟨t122, A41, H⟩ := H
                   have H' := Aside0.mk H
                   clear H
                   obtain ⟨hcz42_0, hcz42_1, hcz42_2, hcz42_3, hcz42_4, hcz42_5, hcz42_6, hcz42_7, hcz42_8, hcz42_9⟩ := sq_cells10 (W := w34) (g := gb121) BK121.out; obtain ⟨hfz42_0, hfz42_1, hfz42_2, hfz42_3, hfz42_4, hfz42_5, hfz42_6, hfz42_7, hfz42_8, hfz42_9⟩ := sq_frozen10 BK121.out
                   go_wp2_with ((go_at_call 60; (with_reducible refine (syntax_has.calls _ _ l0 ((rd_T27 l2 (x8_4.length : Int)).f0) (bt a1 x9_1) t122 _ ?side1 ?side2 A41.out).mono ?_); (case side1 => exact Kd.C_below HR0.out (by repeat (with_reducible first | exact HB.out | refine below_set ?_ GE121.out))); (case side2 => exact HC0.out); rintro e w' ⟨rfl, ⟨nd, rfl⟩⟩))
                   go_meet
                   case rel => exact ⟨_, (!t122), (by rfl), H', ⟨by have := HK1.out; have := HJ6.out; have := HJ12.out; have := HK4.out; have := HJ20.out; omega⟩, ⟨by (with_reducible repeat (apply Kd.R_drewN)); exact Kd.R_mono (Kd.R_far (p := ⟨gb121, 9, none⟩) (Kd.R_far (p := ⟨gb121, 8, none⟩) (Kd.R_far (p := ⟨gb121, 7, none⟩) (Kd.R_far (p := ⟨gb121, 6, none⟩) (Kd.R_far (p := ⟨gb121, 5, none⟩) (Kd.R_far (p := ⟨gb121, 4, none⟩) (Kd.R_far (p := ⟨gb121, 3, none⟩) (Kd.R_far (p := ⟨gb121, 2, none⟩) (Kd.R_far (p := ⟨gb121, 1, none⟩) (Kd.R_far (p := ⟨gb121, 0, none⟩) (Kd.R_types HO_8.out BK121.out (by decide)) (fun _ hk => hk.2) (.int .i64 ((rd_T27 l2 (x8_4.length : Int)).f0))) (fun _ hk => hk.2) (.int .i64 ((rd_T27 l2 (x8_4.length : Int)).f1))) (fun _ hk => hk.2) (.int .i64 ((rd_T27 l2 (x8_4.length : Int)).f2))) (fun _ hk => hk.2) (.string ((rd_T27 l2 (x8_4.length : Int)).f3))) (fun _ hk => hk.2) (.string ((rd_T27 l2 (x8_4.length : Int)).f4))) (fun _ hk => hk.2) (.int .i64 ((rd_T27 l2 (x8_4.length : Int)).f5.f0))) (fun _ hk => hk.2) (.int .u64 ((rd_T27 l2 (x8_4.length : Int)).f5.f1))) (fun _ hk => hk.2) (.int .u64 ((rd_T27 l2 (x8_4.length : Int)).f5.f2))) (fun _ hk => hk.2) (.bool ((rd_T27 l2 (x8_4.length : Int)).f6))) (fun _ hk => hk.2) (.slice A120_9 ((rd_T27 l2 (x8_4.length : Int)).f7).length c120_9)) (fun _ hk => trivial)⟩, ⟨by (with_reducible repeat (refine blk_drewN ?_ _)); refine blk_put (cs := #[.int .i64 ((rd_T27 l2 (x8_4.length : Int)).f0), .int .i64 ((rd_T27 l2 (x8_4.length : Int)).f1), .int .i64 ((rd_T27 l2 (x8_4.length : Int)).f2), .string ((rd_T27 l2 (x8_4.length : Int)).f3), .string ((rd_T27 l2 (x8_4.length : Int)).f4), .int .i64 ((rd_T27 l2 (x8_4.length : Int)).f5.f0), .int .u64 ((rd_T27 l2 (x8_4.length : Int)).f5.f1), .int .u64 ((rd_T27 l2 (x8_4.length : Int)).f5.f2), .bool ((rd_T27 l2 (x8_4.length : Int)).f6), .slice none 0 0]) ?_ 9 _ rfl; refine blk_put (cs := #[.int .i64 ((rd_T27 l2 (x8_4.length : Int)).f0), .int .i64 ((rd_T27 l2 (x8_4.length : Int)).f1), .int .i64 ((rd_T27 l2 (x8_4.length : Int)).f2), .string ((rd_T27 l2 (x8_4.length : Int)).f3), .string ((rd_T27 l2 (x8_4.length : Int)).f4), .int .i64 ((rd_T27 l2 (x8_4.length : Int)).f5.f0), .int .u64 ((rd_T27 l2 (x8_4.length : Int)).f5.f1), .int .u64 ((rd_T27 l2 (x8_4.length : Int)).f5.f2), .bool false, .slice none 0 0]) ?_ 8 _ rfl; refine blk_put (cs := #[.int .i64 ((rd_T27 l2 (x8_4.length : Int)).f0), .int .i64 ((rd_T27 l2 (x8_4.length : Int)).f1), .int .i64 ((rd_T27 l2 (x8_4.length : Int)).f2), .string ((rd_T27 l2 (x8_4.length : Int)).f3), .string ((rd_T27 l2 (x8_4.length : Int)).f4), .int .i64 ((rd_T27 l2 (x8_4.length : Int)).f5.f0), .int .u64 ((rd_T27 l2 (x8_4.length : Int)).f5.f1), .int .u64 0, .bool false, .slice none 0 0]) ?_ 7 _ rfl; refine blk_put (cs := #[.int .i64 ((rd_T27 l2 (x8_4.length : Int)).f0), .int .i64 ((rd_T27 l2 (x8_4.length : Int)).f1), .int .i64 ((rd_T27 l2 (x8_4.length : Int)).f2), .string ((rd_T27 l2 (x8_4.length : Int)).f3), .string ((rd_T27 l2 (x8_4.length : Int)).f4), .int .i64 ((rd_T27 l2 (x8_4.length : Int)).f5.f0), .int .u64 0, .int .u64 0, .bool false, .slice none 0 0]) ?_ 6 _ rfl; refine blk_put (cs := #[.int .i64 ((rd_T27 l2 (x8_4.length : Int)).f0), .int .i64 ((rd_T27 l2 (x8_4.length : Int)).f1), .int .i64 ((rd_T27 l2 (x8_4.length : Int)).f2), .string ((rd_T27 l2 (x8_4.length : Int)).f3), .string ((rd_T27 l2 (x8_4.length : Int)).f4), .int .i64 0, .int .u64 0, .int .u64 0, .bool false, .slice none 0 0]) ?_ 5 _ rfl; refine blk_put (cs := #[.int .i64 ((rd_T27 l2 (x8_4.length : Int)).f0), .int .i64 ((rd_T27 l2 (x8_4.length : Int)).f1), .int .i64 ((rd_T27 l2 (x8_4.length : Int)).f2), .string ((rd_T27 l2 (x8_4.length : Int)).f3), .string (⟨#[]⟩ : ByteArray), .int .i64 0, .int .u64 0, .int .u64 0, .bool false, .slice none 0 0]) ?_ 4 _ rfl; refine blk_put (cs := #[.int .i64 ((rd_T27 l2 (x8_4.length : Int)).f0), .int .i64 ((rd_T27 l2 (x8_4.length : Int)).f1), .int .i64 ((rd_T27 l2 (x8_4.length : Int)).f2), .string (⟨#[]⟩ : ByteArray), .string (⟨#[]⟩ : ByteArray), .int .i64 0, .int .u64 0, .int .u64 0, .bool false, .slice none 0 0]) ?_ 3 _ rfl; refine blk_put (cs := #[.int .i64 ((rd_T27 l2 (x8_4.length : Int)).f0), .int .i64 ((rd_T27 l2 (x8_4.length : Int)).f1), .int .i64 0, .string (⟨#[]⟩ : ByteArray), .string (⟨#[]⟩ : ByteArray), .int .i64 0, .int .u64 0, .int .u64 0, .bool false, .slice none 0 0]) ?_ 2 _ rfl; refine blk_put (cs := #[.int .i64 ((rd_T27 l2 (x8_4.length : Int)).f0), .int .i64 0, .int .i64 0, .string (⟨#[]⟩ : ByteArray), .string (⟨#[]⟩ : ByteArray), .int .i64 0, .int .u64 0, .int .u64 0, .bool false, .slice none 0 0]) ?_ 1 _ rfl; refine blk_put (cs := #[.int .i64 0, .int .i64 0, .int .i64 0, .string (⟨#[]⟩ : ByteArray), .string (⟨#[]⟩ : ByteArray), .int .i64 0, .int .u64 0, .int .u64 0, .bool false, .slice none 0 0]) ?_ 0 _ rfl; exact BK121.out⟩, ⟨by repeat (with_reducible first | exact HB.out | apply pw_below_drewN | refine below_set ?_ GE121.out)⟩⟩
                  ·replace H := iE H; rcases H with ⟨c43b0, c43b1, H⟩ | ⟨c43, c43b0, c43b1, H⟩
                   ·replace H := bN H; obtain ⟨t123, A44, H⟩ := H
                    have H' := Aside0.mk H
                    clear H
                    obtain ⟨hcz45_0, hcz45_1, hcz45_2, hcz45_3, hcz45_4, hcz45_5, hcz45_6, hcz45_7, hcz45_8, hcz45_9⟩ := sq_cells10 (W := w34) (g := gb121) BK121.out; obtain ⟨hfz45_0, hfz45_1, hfz45_2, hfz45_3, hfz45_4, hfz45_5, hfz45_6, hfz45_7, hfz45_8, hfz45_9⟩ := sq_frozen10 BK121.out
                    go_wp2_with ((go_at_call 60; (with_reducible refine (syntax_has.calls _ _ l0 ((rd_T27 l2 (x8_4.length : Int)).f0) (bt a1 x9_1) t123 _ ?side1 ?side2 A44.out).mono ?_); (case side1 => exact Kd.C_below HR0.out (by repeat (with_reducible first | exact HB.out | refine below_set ?_ GE121.out))); (case side2 => exact HC0.out); rintro e w' ⟨rfl, ⟨nd, rfl⟩⟩))
                    go_meet
                    case rel => exact ⟨_, (!t123), (by rfl), H', ⟨by have := HK1.out; have := HJ6.out; have := HJ12.out; have := HK4.out; have := HJ20.out; omega⟩, ⟨by (with_reducible repeat (apply Kd.R_drewN)); exact Kd.R_mono (Kd.R_far (p := ⟨gb121, 9, none⟩) (Kd.R_far (p := ⟨gb121, 8, none⟩) (Kd.R_far (p := ⟨gb121, 7, none⟩) (Kd.R_far (p := ⟨gb121, 6, none⟩) (Kd.R_far (p := ⟨gb121, 5, none⟩) (Kd.R_far (p := ⟨gb121, 4, none⟩) (Kd.R_far (p := ⟨gb121, 3, none⟩) (Kd.R_far (p := ⟨gb121, 2, none⟩) (Kd.R_far (p := ⟨gb121, 1, none⟩) (Kd.R_far (p := ⟨gb121, 0, none⟩) (Kd.R_types HO_8.out BK121.out (by decide)) (fun _ hk => hk.2) (.int .i64 ((rd_T27 l2 (x8_4.length : Int)).f0))) (fun _ hk => hk.2) (.int .i64 ((rd_T27 l2 (x8_4.length : Int)).f1))) (fun _ hk => hk.2) (.int .i64 ((rd_T27 l2 (x8_4.length : Int)).f2))) (fun _ hk => hk.2) (.string ((rd_T27 l2 (x8_4.length : Int)).f3))) (fun _ hk => hk.2) (.string ((rd_T27 l2 (x8_4.length : Int)).f4))) (fun _ hk => hk.2) (.int .i64 ((rd_T27 l2 (x8_4.length : Int)).f5.f0))) (fun _ hk => hk.2) (.int .u64 ((rd_T27 l2 (x8_4.length : Int)).f5.f1))) (fun _ hk => hk.2) (.int .u64 ((rd_T27 l2 (x8_4.length : Int)).f5.f2))) (fun _ hk => hk.2) (.bool ((rd_T27 l2 (x8_4.length : Int)).f6))) (fun _ hk => hk.2) (.slice A120_9 ((rd_T27 l2 (x8_4.length : Int)).f7).length c120_9)) (fun _ hk => trivial)⟩, ⟨by (with_reducible repeat (refine blk_drewN ?_ _)); refine blk_put (cs := #[.int .i64 ((rd_T27 l2 (x8_4.length : Int)).f0), .int .i64 ((rd_T27 l2 (x8_4.length : Int)).f1), .int .i64 ((rd_T27 l2 (x8_4.length : Int)).f2), .string ((rd_T27 l2 (x8_4.length : Int)).f3), .string ((rd_T27 l2 (x8_4.length : Int)).f4), .int .i64 ((rd_T27 l2 (x8_4.length : Int)).f5.f0), .int .u64 ((rd_T27 l2 (x8_4.length : Int)).f5.f1), .int .u64 ((rd_T27 l2 (x8_4.length : Int)).f5.f2), .bool ((rd_T27 l2 (x8_4.length : Int)).f6), .slice none 0 0]) ?_ 9 _ rfl; refine blk_put (cs := #[.int .i64 ((rd_T27 l2 (x8_4.length : Int)).f0), .int .i64 ((rd_T27 l2 (x8_4.length : Int)).f1), .int .i64 ((rd_T27 l2 (x8_4.length : Int)).f2), .string ((rd_T27 l2 (x8_4.length : Int)).f3), .string ((rd_T27 l2 (x8_4.length : Int)).f4), .int .i64 ((rd_T27 l2 (x8_4.length : Int)).f5.f0), .int .u64 ((rd_T27 l2 (x8_4.length : Int)).f5.f1), .int .u64 ((rd_T27 l2 (x8_4.length : Int)).f5.f2), .bool false, .slice none 0 0]) ?_ 8 _ rfl; refine blk_put (cs := #[.int .i64 ((rd_T27 l2 (x8_4.length : Int)).f0), .int .i64 ((rd_T27 l2 (x8_4.length : Int)).f1), .int .i64 ((rd_T27 l2 (x8_4.length : Int)).f2), .string ((rd_T27 l2 (x8_4.length : Int)).f3), .string ((rd_T27 l2 (x8_4.length : Int)).f4), .int .i64 ((rd_T27 l2 (x8_4.length : Int)).f5.f0), .int .u64 ((rd_T27 l2 (x8_4.length : Int)).f5.f1), .int .u64 0, .bool false, .slice none 0 0]) ?_ 7 _ rfl; refine blk_put (cs := #[.int .i64 ((rd_T27 l2 (x8_4.length : Int)).f0), .int .i64 ((rd_T27 l2 (x8_4.length : Int)).f1), .int .i64 ((rd_T27 l2 (x8_4.length : Int)).f2), .string ((rd_T27 l2 (x8_4.length : Int)).f3), .string ((rd_T27 l2 (x8_4.length : Int)).f4), .int .i64 ((rd_T27 l2 (x8_4.length : Int)).f5.f0), .int .u64 0, .int .u64 0, .bool false, .slice none 0 0]) ?_ 6 _ rfl; refine blk_put (cs := #[.int .i64 ((rd_T27 l2 (x8_4.length : Int)).f0), .int .i64 ((rd_T27 l2 (x8_4.length : Int)).f1), .int .i64 ((rd_T27 l2 (x8_4.length : Int)).f2), .string ((rd_T27 l2 (x8_4.length : Int)).f3), .string ((rd_T27 l2 (x8_4.length : Int)).f4), .int .i64 0, .int .u64 0, .int .u64 0, .bool false, .slice none 0 0]) ?_ 5 _ rfl; refine blk_put (cs := #[.int .i64 ((rd_T27 l2 (x8_4.length : Int)).f0), .int .i64 ((rd_T27 l2 (x8_4.length : Int)).f1), .int .i64 ((rd_T27 l2 (x8_4.length : Int)).f2), .string ((rd_T27 l2 (x8_4.length : Int)).f3), .string (⟨#[]⟩ : ByteArray), .int .i64 0, .int .u64 0, .int .u64 0, .bool false, .slice none 0 0]) ?_ 4 _ rfl; refine blk_put (cs := #[.int .i64 ((rd_T27 l2 (x8_4.length : Int)).f0), .int .i64 ((rd_T27 l2 (x8_4.length : Int)).f1), .int .i64 ((rd_T27 l2 (x8_4.length : Int)).f2), .string (⟨#[]⟩ : ByteArray), .string (⟨#[]⟩ : ByteArray), .int .i64 0, .int .u64 0, .int .u64 0, .bool false, .slice none 0 0]) ?_ 3 _ rfl; refine blk_put (cs := #[.int .i64 ((rd_T27 l2 (x8_4.length : Int)).f0), .int .i64 ((rd_T27 l2 (x8_4.length : Int)).f1), .int .i64 0, .string (⟨#[]⟩ : ByteArray), .string (⟨#[]⟩ : ByteArray), .int .i64 0, .int .u64 0, .int .u64 0, .bool false, .slice none 0 0]) ?_ 2 _ rfl; refine blk_put (cs := #[.int .i64 ((rd_T27 l2 (x8_4.length : Int)).f0), .int .i64 0, .int .i64 0, .string (⟨#[]⟩ : ByteArray), .string (⟨#[]⟩ : ByteArray), .int .i64 0, .int .u64 0, .int .u64 0, .bool false, .slice none 0 0]) ?_ 1 _ rfl; refine blk_put (cs := #[.int .i64 0, .int .i64 0, .int .i64 0, .string (⟨#[]⟩ : ByteArray), .string (⟨#[]⟩ : ByteArray), .int .i64 0, .int .u64 0, .int .u64 0, .bool false, .slice none 0 0]) ?_ 0 _ rfl; exact BK121.out⟩, ⟨by repeat (with_reducible first | exact HB.out | apply pw_below_drewN | refine below_set ?_ GE121.out)⟩⟩
                   ·have H' := Aside0.mk H
                    clear H
                    obtain ⟨hcz46_0, hcz46_1, hcz46_2, hcz46_3, hcz46_4, hcz46_5, hcz46_6, hcz46_7, hcz46_8, hcz46_9⟩ := sq_cells10 (W := w34) (g := gb121) BK121.out; obtain ⟨hfz46_0, hfz46_1, hfz46_2, hfz46_3, hfz46_4, hfz46_5, hfz46_6, hfz46_7, hfz46_8, hfz46_9⟩ := sq_frozen10 BK121.out
                    go_wp2
                    go_meet
                    case rel => exact ⟨_, (false), (by rfl), H', ⟨by have := HK1.out; have := HJ6.out; have := HJ12.out; have := HK4.out; have := HJ20.out; omega⟩, ⟨by exact Kd.R_mono (Kd.R_far (p := ⟨gb121, 9, none⟩) (Kd.R_far (p := ⟨gb121, 8, none⟩) (Kd.R_far (p := ⟨gb121, 7, none⟩) (Kd.R_far (p := ⟨gb121, 6, none⟩) (Kd.R_far (p := ⟨gb121, 5, none⟩) (Kd.R_far (p := ⟨gb121, 4, none⟩) (Kd.R_far (p := ⟨gb121, 3, none⟩) (Kd.R_far (p := ⟨gb121, 2, none⟩) (Kd.R_far (p := ⟨gb121, 1, none⟩) (Kd.R_far (p := ⟨gb121, 0, none⟩) (Kd.R_types HO_8.out BK121.out (by decide)) (fun _ hk => hk.2) (.int .i64 ((rd_T27 l2 (x8_4.length : Int)).f0))) (fun _ hk => hk.2) (.int .i64 ((rd_T27 l2 (x8_4.length : Int)).f1))) (fun _ hk => hk.2) (.int .i64 ((rd_T27 l2 (x8_4.length : Int)).f2))) (fun _ hk => hk.2) (.string ((rd_T27 l2 (x8_4.length : Int)).f3))) (fun _ hk => hk.2) (.string ((rd_T27 l2 (x8_4.length : Int)).f4))) (fun _ hk => hk.2) (.int .i64 ((rd_T27 l2 (x8_4.length : Int)).f5.f0))) (fun _ hk => hk.2) (.int .u64 ((rd_T27 l2 (x8_4.length : Int)).f5.f1))) (fun _ hk => hk.2) (.int .u64 ((rd_T27 l2 (x8_4.length : Int)).f5.f2))) (fun _ hk => hk.2) (.bool ((rd_T27 l2 (x8_4.length : Int)).f6))) (fun _ hk => hk.2) (.slice A120_9 ((rd_T27 l2 (x8_4.length : Int)).f7).length c120_9)) (fun _ hk => trivial)⟩, ⟨by refine blk_put (cs := #[.int .i64 ((rd_T27 l2 (x8_4.length : Int)).f0), .int .i64 ((rd_T27 l2 (x8_4.length : Int)).f1), .int .i64 ((rd_T27 l2 (x8_4.length : Int)).f2), .string ((rd_T27 l2 (x8_4.length : Int)).f3), .string ((rd_T27 l2 (x8_4.length : Int)).f4), .int .i64 ((rd_T27 l2 (x8_4.length : Int)).f5.f0), .int .u64 ((rd_T27 l2 (x8_4.length : Int)).f5.f1), .int .u64 ((rd_T27 l2 (x8_4.length : Int)).f5.f2), .bool ((rd_T27 l2 (x8_4.length : Int)).f6), .slice none 0 0]) ?_ 9 _ rfl; refine blk_put (cs := #[.int .i64 ((rd_T27 l2 (x8_4.length : Int)).f0), .int .i64 ((rd_T27 l2 (x8_4.length : Int)).f1), .int .i64 ((rd_T27 l2 (x8_4.length : Int)).f2), .string ((rd_T27 l2 (x8_4.length : Int)).f3), .string ((rd_T27 l2 (x8_4.length : Int)).f4), .int .i64 ((rd_T27 l2 (x8_4.length : Int)).f5.f0), .int .u64 ((rd_T27 l2 (x8_4.length : Int)).f5.f1), .int .u64 ((rd_T27 l2 (x8_4.length : Int)).f5.f2), .bool false, .slice none 0 0]) ?_ 8 _ rfl; refine blk_put (cs := #[.int .i64 ((rd_T27 l2 (x8_4.length : Int)).f0), .int .i64 ((rd_T27 l2 (x8_4.length : Int)).f1), .int .i64 ((rd_T27 l2 (x8_4.length : Int)).f2), .string ((rd_T27 l2 (x8_4.length : Int)).f3), .string ((rd_T27 l2 (x8_4.length : Int)).f4), .int .i64 ((rd_T27 l2 (x8_4.length : Int)).f5.f0), .int .u64 ((rd_T27 l2 (x8_4.length : Int)).f5.f1), .int .u64 0, .bool false, .slice none 0 0]) ?_ 7 _ rfl; refine blk_put (cs := #[.int .i64 ((rd_T27 l2 (x8_4.length : Int)).f0), .int .i64 ((rd_T27 l2 (x8_4.length : Int)).f1), .int .i64 ((rd_T27 l2 (x8_4.length : Int)).f2), .string ((rd_T27 l2 (x8_4.length : Int)).f3), .string ((rd_T27 l2 (x8_4.length : Int)).f4), .int .i64 ((rd_T27 l2 (x8_4.length : Int)).f5.f0), .int .u64 0, .int .u64 0, .bool false, .slice none 0 0]) ?_ 6 _ rfl; refine blk_put (cs := #[.int .i64 ((rd_T27 l2 (x8_4.length : Int)).f0), .int .i64 ((rd_T27 l2 (x8_4.length : Int)).f1), .int .i64 ((rd_T27 l2 (x8_4.length : Int)).f2), .string ((rd_T27 l2 (x8_4.length : Int)).f3), .string ((rd_T27 l2 (x8_4.length : Int)).f4), .int .i64 0, .int .u64 0, .int .u64 0, .bool false, .slice none 0 0]) ?_ 5 _ rfl; refine blk_put (cs := #[.int .i64 ((rd_T27 l2 (x8_4.length : Int)).f0), .int .i64 ((rd_T27 l2 (x8_4.length : Int)).f1), .int .i64 ((rd_T27 l2 (x8_4.length : Int)).f2), .string ((rd_T27 l2 (x8_4.length : Int)).f3), .string (⟨#[]⟩ : ByteArray), .int .i64 0, .int .u64 0, .int .u64 0, .bool false, .slice none 0 0]) ?_ 4 _ rfl; refine blk_put (cs := #[.int .i64 ((rd_T27 l2 (x8_4.length : Int)).f0), .int .i64 ((rd_T27 l2 (x8_4.length : Int)).f1), .int .i64 ((rd_T27 l2 (x8_4.length : Int)).f2), .string (⟨#[]⟩ : ByteArray), .string (⟨#[]⟩ : ByteArray), .int .i64 0, .int .u64 0, .int .u64 0, .bool false, .slice none 0 0]) ?_ 3 _ rfl; refine blk_put (cs := #[.int .i64 ((rd_T27 l2 (x8_4.length : Int)).f0), .int .i64 ((rd_T27 l2 (x8_4.length : Int)).f1), .int .i64 0, .string (⟨#[]⟩ : ByteArray), .string (⟨#[]⟩ : ByteArray), .int .i64 0, .int .u64 0, .int .u64 0, .bool false, .slice none 0 0]) ?_ 2 _ rfl; refine blk_put (cs := #[.int .i64 ((rd_T27 l2 (x8_4.length : Int)).f0), .int .i64 0, .int .i64 0, .string (⟨#[]⟩ : ByteArray), .string (⟨#[]⟩ : ByteArray), .int .i64 0, .int .u64 0, .int .u64 0, .bool false, .slice none 0 0]) ?_ 1 _ rfl; refine blk_put (cs := #[.int .i64 0, .int .i64 0, .int .i64 0, .string (⟨#[]⟩ : ByteArray), .string (⟨#[]⟩ : ByteArray), .int .i64 0, .int .u64 0, .int .u64 0, .bool false, .slice none 0 0]) ?_ 0 _ rfl; exact BK121.out⟩, ⟨by repeat (with_reducible first | exact HB.out | refine below_set ?_ GE121.out)⟩⟩
                case rest =>
                 clear HC32
                 (try clear c30b0); (try clear c30b1); (try clear c31b0); (try clear c31b1); (try clear hcz35_0 hcz35_1 hcz35_2 hcz35_3 hcz35_4 hcz35_5 hcz35_6 hcz35_7 hcz35_8 hcz35_9); (try clear hfz35_0 hfz35_1 hfz35_2 hfz35_3 hfz35_4 hfz35_5 hfz35_6 hfz35_7 hfz35_8 hfz35_9); (try clear hx120_0); (try clear hx120_1); (try clear hx120_2); (try clear hx120_3); (try clear hx120_4); (try clear hx120_5); (try clear hx120_6); (try clear hx120_7); (try clear hx120_8); (try clear hx120_9); (try clear p120); (try clear q120)
                 obtain ⟨kq, x94_31, rfl, HA, HJ31, HO_8, BK121, HB⟩ := hcut
                 cases kq with
                 | zero => exact absurd HA.out (by simp [syntax_match.j5])
                 | succ kj31 =>
                  have H := HA.out
                  clear HA
                  simp only [syntax_match.j5] at H
                  replace H := iB H; rcases H with ⟨rfl, H⟩ | ⟨rfl, H⟩
                  ·have H' := Aside0.mk H
                   clear H
                   go_wp2
                   go_meet
                   case rel => exact ⟨_, (x8_4), H', ⟨by have := HK1.out; have := HJ6.out; have := HJ12.out; have := HK4.out; have := HJ20.out; have := HJ31.out; omega⟩, ⟨by exact HO_8.out⟩, ⟨by repeat (with_reducible exact HB.out)⟩⟩
                  ·by_cases c48 : x8_4.length < 140737488355328
                   ·rw [if_pos c48] at H
                    have LMc48 := Aside0.mk c48
                    clear c48
                    obtain ⟨y124, hy124⟩ : ∃ y_ : List Int, y_ = (x8_4 ++ [(bt a1 x9_1)]) := ⟨_, rfl⟩
                    replace H : (syntax_match.l1 kj31 l0 a1 l2 y124 x9_12 (bt a1 x9_1) x11_12 (x8_1.length : Int)) = some (r1, r2) := by (rw [hy124]; with_reducible exact H)
                    have Ny124 := Aside0.mk hy124
                    clear hy124
                    have H' := Aside0.mk H
                    clear H
                    go_wp2_with (((with_reducible refine gate_builtin (b := .append) (xs := #[.tmp 95, .tmp 97]) rfl ?_); (try (refine gate_guard (by rfl) ?_; dsimp only)); at_builtin; refine Kd.R_append (Kd.int .u8) (w0 := w) w.heap.size rfl (.tmp 95) (.tmp 97) 90 5 (.int .u8 0) 1 rfl Try.underlying90 info5 rfl (by decide) (by omega) (.slice Ao33 x8_4.length co33) x8_4 (bt a1 x9_1) [.int .u8 (bt a1 x9_1)] (fun _ => True) (fun _ => False) rfl rfl ?aP (fun _ hk => hk.elim) ?aF ?aO ?aB ?aS ?aL ?_; (case aP => exact rfl); (case aB => exact HB.out); (case aF => exact (fun _ _ => trivial)); (case aO => exact HO_8.out); (case aS => exact (below_size HB.out)); (case aL => have := LMc48.out; omega); intro v125 w49 ho hb hg hat; rw [← Ny124.out] at ho; replace BK121 := Aside0.mk (blk_grown BK121.out hg (Kd.R_ne HO_8.out BK121.out (by decide))); replace HB := Aside0.mk (hb); have HO126 := Aside0.mk (ho); clear HO_8; clear ho hb hg hat))
                    go_roundg kj31
                    case measure => have := HK1.out; have := HJ6.out; have := HJ12.out; have := HK4.out; have := HJ20.out; have := HJ31.out; omega
                    case rel => exact ⟨(y124), H', ⟨by have := HK1.out; have := HJ6.out; have := HJ12.out; have := HK4.out; have := HJ20.out; have := HJ31.out; omega⟩, ⟨by exact HO126.out⟩, ⟨by repeat (with_reducible exact HB.out)⟩⟩
                   ·rw [if_neg c48] at H
                    exact absurd H (by simp)
               ·rw [if_neg c31] at H
                exact absurd H (by simp)
              ·rw [if_neg c30] at H
               exact absurd H (by simp)
             ·have H' := Aside0.mk H
              clear H
              go_wp2
              go_meet
              case rel => exact ⟨_, (x8_4), H', ⟨by have := HK1.out; have := HJ6.out; have := HJ12.out; have := HK4.out; have := HJ20.out; omega⟩, ⟨by exact HO_8.out⟩, ⟨by repeat (with_reducible exact HB.out)⟩⟩
        case rest =>
         clear HC19
         obtain ⟨kq, x8_18, HA, HJ18, HO_8, HB⟩ := hcut
         cases kq with
         | zero => exact absurd HA.out (by simp [syntax_match.j6])
         | succ kj18 =>
          have H := HA.out
          clear HA
          simp only [syntax_match.j6] at H
          replace H := iE H; rcases H with ⟨c50b0, c50b1, H⟩ | ⟨c50, c50b0, c50b1, H⟩
          ·have H' := Aside0.mk H
           clear H
           go_wp2
           go_roundg kj18
           case measure => have := HK1.out; have := HJ6.out; have := HJ12.out; have := HJ18.out; omega
           case rel => exact ⟨(x8_18), (wrap64 (x9_12 + 1)), (by rfl), H', ⟨by have := HK1.out; have := HJ6.out; have := HJ12.out; have := HJ18.out; omega⟩, ⟨by exact HO_8.out⟩, ⟨by repeat (with_reducible exact HB.out)⟩⟩
          ·by_cases c51 : (x8_18.length : Int) = (x8_1.length : Int)
           ·rw [if_pos c51] at H
            have c51b0 : ((x8_18.length : Int) == (x8_1.length : Int)) = true := beq_iff_eq.mpr c51
            have c51b1 : ((x8_18.length : Int) != (x8_1.length : Int)) = false := bne_eq_false_iff_eq.mpr c51
            have c51b2 : (x8_18.length == x8_1.length) = true := by (simp at c51 ⊢; omega)
            clear c51
            replace H := s2 H; obtain ⟨rfl, rfl⟩ := H
            obtain ⟨Ao52, co52, eo52⟩ := Kd.R_slice HO_8.out
            subst eo52
            go_wp2
            go_ret2
            exact ⟨_, by rfl, by exact Kd.R_nil _ _ _ _ _, by repeat (with_reducible exact HB.out)⟩
           ·rw [if_neg c51] at H
            have c51b0 : ((x8_18.length : Int) == (x8_1.length : Int)) = false := beq_eq_false_iff_ne.mpr c51
            have c51b1 : ((x8_18.length : Int) != (x8_1.length : Int)) = true := bne_iff_ne.mpr c51
            have c51b2 : (x8_18.length == x8_1.length) = false := by (simp at c51 ⊢; omega)
            have H' := Aside0.mk H
            clear H
            obtain ⟨Ao53, co53, eo53⟩ := Kd.R_slice HO_8.out
            subst eo53
            go_wp2
            go_roundg kj18
            case measure => have := HK1.out; have := HJ6.out; have := HJ12.out; have := HJ18.out; omega
            case rel => exact ⟨(x8_18), (wrap64 (x9_12 + 1)), (by rfl), H', ⟨by have := HK1.out; have := HJ6.out; have := HJ12.out; have := HJ18.out; omega⟩, ⟨by exact HO_8.out⟩, ⟨by repeat (with_reducible exact HB.out)⟩⟩
   ·replace H := s2 H; obtain ⟨rfl, rfl⟩ := H
    obtain ⟨Ao54, co54, eo54⟩ := Kd.R_slice HO_8.out
    subst eo54
    go_wp2
    go_ret2
    exact ⟨_, by rfl, by exact HO_8.out, by repeat (with_reducible exact HB.out)⟩
end Go.Proofs.Ytlamgdibnnmbmaa.PSyn
end
section
namespace Go.Proofs.Ytlamgdibnnmbmaa.PSyn
open Go.RowKit Go.Proofs.YtlamgdibnnmbmaaW.PrintWords Go.Proofs.YtlamgdibnnmbmaaW.PrintLast Go.Proofs.YtlamgdibnnmbmaaW.PrintMore
attribute [local go_sem] max2_int min2_int max_two min_two max_three min_three max_four min_four
set_option linter.unusedVariables false
set_option linter.unusedSimpArgs false
def maskref1_contains.l0 : Nat → ByteArray → ByteArray → Int → Option (Bool)
 | 0, _, _, _ => none
 | k + 1, x0, x1, x5 => if (wrap64 (x5 + (x1.size : Int))) ≤ (x0.size : Int) then (if 0 ≤ x5 then (if x5 ≤ (wrap64 (x5 + (x1.size : Int))) then (if (x0.extract (x5 : Int).toNat ((wrap64 (x5 + (x1.size : Int))) : Int).toNat).toList = x1.toList then (some true) else (maskref1_contains.l0 k x0 x1 (wrap64 (x5 + 1)))) else (none)) else (none)) else (some false)
def maskref1_contains.f (k : Nat) (a0 : ByteArray) (a1 : ByteArray) : Option (Bool) := maskref1_contains.l0 k a0 a1 0
set_option maxHeartbeats 8000000 in
set_option maxRecDepth 100000 in
theorem maskref1_contains.calls (k : Nat) (a0 : ByteArray) (a1 : ByteArray) (r : Bool) (w : World) (h : maskref1_contains.f k a0 a1 = some r) :
  Calls Try.prog 34 #[.string a0, .string a1] w fun e w' => e = .returned (.bool r) ∧ Drawn0 w w' := by
 have H := h
 clear h
 unfold maskref1_contains.f at H
 have H' := Aside0.mk H
 clear H
 go_enter Try.func34, Try.ntmps34
 go_wp2
 go_loopg [5] k (fun kq v5 w' => ∃ (x5_1 : Int), v5 = .int .i64 x5_1 ∧ Aside0 (maskref1_contains.l0 kq a0 a1 x5_1 = some r) ∧ Aside0 (kq ≤ k) ∧ Drawn0 w w')
 case atStart => exact ⟨(0), (by rfl), H', ⟨Nat.le_refl _⟩, by repeat (exact Drawn0.refl _)⟩
 case round =>
  clear H'
  try clear p2
  obtain ⟨x5_1, rfl, HA, HK1, ⟨m1, rfl⟩⟩ := hrel
  cases gk with
  | zero => exact absurd HA.out (by simp [maskref1_contains.l0])
  | succ k1 =>
   have H := HA.out
   clear HA
   simp only [maskref1_contains.l0] at H
   replace H := iD H; rcases H with ⟨c3b0, H⟩ | ⟨c3b0, H⟩
   ·by_cases c4 : 0 ≤ x5_1
    ·rw [if_pos c4] at H
     have c4b0 := eq_true c4
     have c4b1 : decide (0 ≤ x5_1) = true := decide_eq_true c4
     clear c4
     by_cases c5 : x5_1 ≤ (wrap64 (x5_1 + (a1.size : Int)))
     ·rw [if_pos c5] at H
      have c5b0 := eq_true c5
      have c5b1 : decide (x5_1 ≤ (wrap64 (x5_1 + (a1.size : Int)))) = true := decide_eq_true c5
      have c6b0 := eq_true (of_decide_eq_true (by (with_reducible assumption)) : (wrap64 (x5_1 + (a1.size : Int))) ≤ (a0.size : Int))
      replace H := iE H; rcases H with ⟨c7b0, c7b1, H⟩ | ⟨c7, c7b0, c7b1, H⟩
      ·obtain rfl := Option.some.inj H
       go_wp2
       go_ret
       exact ⟨by rfl, by repeat (first | exact Drawn0.refl _ | apply Drawn0.step)⟩
      ·have H' := Aside0.mk H
       clear H
       go_wp2
       go_roundg k1
       case measure => have := HK1.out; omega
       case rel => exact ⟨(wrap64 (x5_1 + 1)), (by rfl), H', ⟨by have := HK1.out; omega⟩, by repeat (first | exact Drawn0.refl _ | apply Drawn0.step)⟩
     ·rw [if_neg c5] at H
      exact absurd H (by simp)
    ·rw [if_neg c4] at H
     exact absurd H (by simp)
   ·obtain rfl := Option.some.inj H
    go_wp2
    go_ret
    exact ⟨by rfl, by repeat (first | exact Drawn0.refl _ | apply Drawn0.step)⟩
end Go.Proofs.Ytlamgdibnnmbmaa.PSyn
end
section
namespace Go.Proofs.Ytlamgdibnnmbmaa.PSyn
open Go.RowKit Go.Proofs.YtlamgdibnnmbmaaW.PrintWords Go.Proofs.YtlamgdibnnmbmaaW.PrintLast Go.Proofs.YtlamgdibnnmbmaaW.PrintMore
attribute [local go_sem] max2_int min2_int max_two min_two max_three min_three max_four min_four
set_option linter.unusedVariables false
set_option linter.unusedSimpArgs false
mutual
def maskref1_taken.l0 : Nat → List (S73) → ByteArray → List (S27) → List ByteArray → Option (List ByteArray × Bool)
 | 0, _, _, _, _ => none
 | k + 1, x0, x1, x2, x8 => if x1.toList = ([] : List UInt8) then (some (x8, ((x8.length : Int) == (x2.length : Int)))) else (if 0 ≤ 1 then (if 1 ≤ (x1.size : Int) then (if (x1.extract 1 x1.size).toList = ([] : List UInt8) then (maskref1_taken.j1 k x0 (x1.extract 1 x1.size) x2 x8 (x1.extract 0 1) (⟨#[]⟩ : ByteArray) false) else (if 0 < ((x1.extract 1 x1.size).size : Int) then (if (bt (x1.extract 1 x1.size) 0) = 42 then (maskref1_taken.j1 k x0 (x1.extract 1 x1.size) x2 x8 (x1.extract 0 1) (⟨#[]⟩ : ByteArray) true) else (if (bt (x1.extract 1 x1.size) 0) = 43 then (maskref1_taken.j1 k x0 (x1.extract 1 x1.size) x2 x8 (x1.extract 0 1) (⟨#[]⟩ : ByteArray) true) else (maskref1_taken.j1 k x0 (x1.extract 1 x1.size) x2 x8 (x1.extract 0 1) (⟨#[]⟩ : ByteArray) ((bt (x1.extract 1 x1.size) 0) == 63)))) else (none))) else (none)) else (none))
def maskref1_taken.j1 : Nat → List (S73) → ByteArray → List (S27) → List ByteArray → ByteArray → ByteArray → Bool → Option (List ByteArray × Bool)
 | 0, _, _, _, _, _, _, _ => none
 | k + 1, x0, x1, x2, x8, x9, x10, x37 => if x37 = true then (if 0 ≤ 1 then (if 1 ≤ (x1.size : Int) then (maskref1_taken.j2 k x0 (x1.extract 1 x1.size) x2 x8 x9 (x1.extract 0 1)) else (none)) else (none)) else (maskref1_taken.j2 k x0 x1 x2 x8 x9 x10)
def maskref1_taken.j2 : Nat → List (S73) → ByteArray → List (S27) → List ByteArray → ByteArray → ByteArray → Option (List ByteArray × Bool)
 | 0, _, _, _, _, _, _ => none
 | k + 1, x0, x1, x2, x8, x9, x10 => maskref1_taken.l1 k x0 x1 x2 x8 x9 x10 0
def maskref1_taken.j6 : Nat → List (S73) → ByteArray → List (S27) → List ByteArray → ByteArray → Int → Option (List ByteArray × Bool)
 | 0, _, _, _, _, _, _ => none
 | k + 1, x0, x1, x2, x8, x10, x11 => if x11 = 0 then (if x10.toList = ([42] : List UInt8) then (maskref1_taken.l0 k x0 x1 x2 x8) else (some (([] : List ByteArray), false))) else (maskref1_taken.l0 k x0 x1 x2 x8)
def maskref1_taken.l1 : Nat → List (S73) → ByteArray → List (S27) → List ByteArray → ByteArray → ByteArray → Int → Option (List ByteArray × Bool)
 | 0, _, _, _, _, _, _, _ => none
 | k + 1, x0, x1, x2, x8, x9, x10, x11 => if (x8.length : Int) < (x2.length : Int) then (if 0 ≤ (x8.length : Int) then (if x10.toList = ([42] : List UInt8) then (maskref1_taken.j4 k x0 x1 x2 x8 x9 x10 x11 true ((rd_T27 x2 (x8.length : Int)).f0) ((rd_T27 x2 (x8.length : Int)).f1) ((rd_T27 x2 (x8.length : Int)).f2) ((rd_T27 x2 (x8.length : Int)).f3) ((rd_T27 x2 (x8.length : Int)).f4) ((rd_T27 x2 (x8.length : Int)).f5.f0) ((rd_T27 x2 (x8.length : Int)).f5.f1) ((rd_T27 x2 (x8.length : Int)).f5.f2) ((rd_T27 x2 (x8.length : Int)).f6) ((rd_T27 x2 (x8.length : Int)).f7)) else (maskref1_taken.j4 k x0 x1 x2 x8 x9 x10 x11 (x10.toList == ([43] : List UInt8)) ((rd_T27 x2 (x8.length : Int)).f0) ((rd_T27 x2 (x8.length : Int)).f1) ((rd_T27 x2 (x8.length : Int)).f2) ((rd_T27 x2 (x8.length : Int)).f3) ((rd_T27 x2 (x8.length : Int)).f4) ((rd_T27 x2 (x8.length : Int)).f5.f0) ((rd_T27 x2 (x8.length : Int)).f5.f1) ((rd_T27 x2 (x8.length : Int)).f5.f2) ((rd_T27 x2 (x8.length : Int)).f6) ((rd_T27 x2 (x8.length : Int)).f7))) else (none)) else (maskref1_taken.j6 k x0 x1 x2 x8 x10 x11)
def maskref1_taken.j4 : Nat → List (S73) → ByteArray → List (S27) → List ByteArray → ByteArray → ByteArray → Int → Bool → Int → Int → Int → ByteArray → ByteArray → Int → Int → Int → Bool → List (S27) → Option (List ByteArray × Bool)
 | 0, _, _, _, _, _, _, _, _, _, _, _, _, _, _, _, _, _, _ => none
 | k + 1, x0, x1, x2, x8, x9, x10, x11, x13, x195000, x195001, x195002, x195003, x195004, x195005, x195006, x195007, x195008, x195009 => if x13 = true then (if x195000 = 0 then (maskref1_taken.j5 k x0 x1 x2 x8 x9 x10 x11 false) else (if x195000 > 0 then (if x195000 < (x0.length : Int) then (if 0 ≤ x195000 then ((maskref1_contains.f k ((rd_T73 x0 x195000).f0) x9).bind fun t196 => (maskref1_taken.j5 k x0 x1 x2 x8 x9 x10 x11 t196)) else (none)) else (maskref1_taken.j5 k x0 x1 x2 x8 x9 x10 x11 false)) else (maskref1_taken.j5 k x0 x1 x2 x8 x9 x10 x11 false))) else (if x11 = 0 then (if x195000 = 0 then (maskref1_taken.j5 k x0 x1 x2 x8 x9 x10 x11 (x10.toList == ([63] : List UInt8))) else (maskref1_taken.j5 k x0 x1 x2 x8 x9 x10 x11 true)) else (maskref1_taken.j5 k x0 x1 x2 x8 x9 x10 x11 false))
def maskref1_taken.j5 : Nat → List (S73) → ByteArray → List (S27) → List ByteArray → ByteArray → ByteArray → Int → Bool → Option (List ByteArray × Bool)
 | 0, _, _, _, _, _, _, _, _ => none
 | k + 1, x0, x1, x2, x8, x9, x10, x11, x14 => if x14 = true then (if x8.length < 8796093022208 then (maskref1_taken.l1 k x0 x1 x2 (x8 ++ [x9]) x9 x10 (wrap64 (x11 + 1))) else (none)) else (maskref1_taken.j6 k x0 x1 x2 x8 x10 x11)
end
def maskref1_taken.f (k : Nat) (l0 : List (S73)) (a1 : ByteArray) (l2 : List (S27)) : Option (List ByteArray × Bool) := maskref1_taken.l0 k l0 a1 l2 ([] : List ByteArray)
set_option maxHeartbeats 8000000 in
set_option maxRecDepth 100000 in
theorem maskref1_taken.calls (k : Nat) (A0 : Option Addr) (c0 : Nat) (l0 : List (S73)) (a1 : ByteArray) (A2 : Option Addr) (c2 : Nat) (l2 : List (S27)) (r1 : List ByteArray) (r2 : Bool) (w : World) (hr0 : Kd.C k73 w A0 l0.length l0) (hc0 : l0.length ≤ c0) (hr2 : Kd.C k27 w A2 l2.length l2) (hc2 : l2.length ≤ c2) (h : maskref1_taken.f k l0 a1 l2 = some (r1, r2)) :
  Calls Try.prog 36 #[.slice A0 l0.length c0, .string a1, .slice A2 l2.length c2] w fun e w' => ∃ v0_ : Value, e = .returned (.tuple #[v0_, .bool r2]) ∧ Kd.R Kd.string 9 w' w.heap.size (fun _ => True) v0_ r1 ∧ Below w.heap.size w w' := by
 have hu27 := Try.underlying27
 have HR0 := Aside0.mk hr0
 have HC0 := Aside0.mk hc0
 clear hr0 hc0
 have HR2 := Aside0.mk hr2
 have HC2 := Aside0.mk hc2
 clear hr2 hc2
 have HB := Aside0.mk (Below.refl w.heap.size w)
 have H := h
 clear h
 unfold maskref1_taken.f at H
 have H' := Aside0.mk H
 clear H
 go_enter Try.func36, Try.ntmps36
 go_wp2
 go_loopg [1, 8] k (fun kq v1 v8 w' => ∃ (x1_1 : ByteArray) (x8_1 : List ByteArray), v1 = .string x1_1 ∧ Aside0 (maskref1_taken.l0 kq l0 x1_1 l2 x8_1 = some (r1, r2)) ∧ Aside0 (kq ≤ k) ∧ Aside0 (Kd.R Kd.string 9 w' w.heap.size (fun _ => True) v8 x8_1) ∧ Aside0 (Below w.heap.size w w'))
 case atStart => exact ⟨(a1), ([] : List ByteArray), (by rfl), H', ⟨Nat.le_refl _⟩, ⟨by exact Kd.R_nil _ _ _ _ _⟩, ⟨by repeat (with_reducible exact HB.out)⟩⟩
 case round =>
  clear H'
  obtain ⟨x1_1, x8_1, rfl, HA, HK1, HO_8, HB⟩ := hrel
  cases gk with
  | zero => exact absurd HA.out (by simp [maskref1_taken.l0])
  | succ k1 =>
   have H := HA.out
   clear HA
   simp only [maskref1_taken.l0] at H
   replace H := iE H; rcases H with ⟨c4b0, c4b1, H⟩ | ⟨c4, c4b0, c4b1, H⟩
   ·replace H := s2 H; obtain ⟨rfl, rfl⟩ := H
    obtain ⟨Ao5, co5, eo5⟩ := Kd.R_slice HO_8.out
    subst eo5
    go_wp2
    go_ret2
    exact ⟨_, by rfl, by exact HO_8.out, by repeat (with_reducible exact HB.out)⟩
   ·by_cases c6 : 0 ≤ 1
    ·rw [if_pos c6] at H
     have c6b0 := eq_true c6
     have c6b1 : decide (0 ≤ 1) = true := decide_eq_true c6
     clear c6
     by_cases c7 : 1 ≤ (x1_1.size : Int)
     ·rw [if_pos c7] at H
      have c7b0 := eq_true c7
      have c7b1 : decide (1 ≤ (x1_1.size : Int)) = true := decide_eq_true c7
      clear c7
      have c8b0 := eq_true (of_decide_eq_true (by (with_reducible assumption)) : 1 ≤ (x1_1.size : Int))
      have HC9 := Aside0.mk H
      clear H
      go_upto_region 6 with (fail)
      go_cut [37] (fun v37 wc => ∃ (kq : Nat) (x37_8 : Bool), v37 = .bool x37_8 ∧ Aside0 (maskref1_taken.j1 kq l0 (x1_1.extract 1 x1_1.size) l2 x8_1 (x1_1.extract 0 1) (⟨#[]⟩ : ByteArray) x37_8 = some (r1, r2)) ∧ Aside0 (kq ≤ k1) ∧ Aside0 (Kd.R Kd.string 9 wc w.heap.size (fun _ => True) u8 x8_1) ∧ Aside0 (Below w.heap.size w wc))
      case first =>
       have H := HC9.out
       clear HC9
       replace H := iE H; rcases H with ⟨c10b0, c10b1, H⟩ | ⟨c10, c10b0, c10b1, H⟩
       ·(skip)
        have H' := Aside0.mk H
        clear H
        go_wp2
        go_meet
        case rel => exact ⟨_, (false), (by rfl), H', ⟨by have := HK1.out; omega⟩, ⟨by exact HO_8.out⟩, ⟨by repeat (with_reducible exact HB.out)⟩⟩
       ·(skip)
        by_cases c11 : 0 < ((x1_1.extract 1 x1_1.size).size : Int)
        ·rw [if_pos c11] at H
         have c11b0 : decide (0 < ((x1_1.extract 1 x1_1.size).size : Int)) = true := decide_eq_true c11
         try have c11b0e : decide (0 < ((x1_1.size - 1 : Nat) : Int)) = true := by have h_ := c11b0; simp only [ByteArray.size_extract, Nat.min_self] at h_; exact h_
         have c11b1 : decide (0 < (x1_1.extract 1 x1_1.size).size) = true := decide_eq_true (by omega)
         try have c11b1e : decide (0 < (x1_1.size - 1)) = true := by have h_ := c11b1; simp only [ByteArray.size_extract, Nat.min_self] at h_; exact h_
         clear c11
         replace H := iE H; rcases H with ⟨c13b0, c13b1, H⟩ | ⟨c13, c13b0, c13b1, H⟩
         ·have H' := Aside0.mk H
          clear H
          have p12 : 0 ≤ (0 : Int) := (by omega)
          have q12 : 0 < (x1_1.extract 1 x1_1.size).size := (by have : (0 : Int) < ((x1_1.extract 1 x1_1.size).size : Int) := of_decide_eq_true (by (with_reducible assumption)); omega)
          try have q12e : 0 < (x1_1.size - 1) := by have h_ := q12; simp only [ByteArray.size_extract, Nat.min_self] at h_; exact h_
          have hx12 : ∀ h : 0 < (x1_1.extract 1 x1_1.size).size, (((x1_1.extract 1 x1_1.size)[0]'h).toNat : Int) = bt (x1_1.extract 1 x1_1.size) 0 := bt_at (x1_1.extract 1 x1_1.size) 0
          clear p12
          have qi12 : (0 < ((x1_1.extract 1 x1_1.size).size : Int)) = True := eq_true (of_decide_eq_true (by (with_reducible assumption)))
          try have qi12e : (0 < ((x1_1.size - 1 : Nat) : Int)) = True := by have h_ := qi12; simp only [ByteArray.size_extract, Nat.min_self] at h_; exact h_
          replace q12 := eq_true q12
          go_wp2
          go_meet
          case rel => exact ⟨_, (true), (by rfl), H', ⟨by have := HK1.out; omega⟩, ⟨by exact HO_8.out⟩, ⟨by repeat (with_reducible exact HB.out)⟩⟩
         ·replace H := iE H; rcases H with ⟨c15b0, c15b1, H⟩ | ⟨c15, c15b0, c15b1, H⟩
          ·have H' := Aside0.mk H
           clear H
           have p12 : 0 ≤ (0 : Int) := (by omega)
           have q12 : 0 < (x1_1.extract 1 x1_1.size).size := (by have : (0 : Int) < ((x1_1.extract 1 x1_1.size).size : Int) := of_decide_eq_true (by (with_reducible assumption)); omega)
           try have q12e : 0 < (x1_1.size - 1) := by have h_ := q12; simp only [ByteArray.size_extract, Nat.min_self] at h_; exact h_
           have hx12 : ∀ h : 0 < (x1_1.extract 1 x1_1.size).size, (((x1_1.extract 1 x1_1.size)[0]'h).toNat : Int) = bt (x1_1.extract 1 x1_1.size) 0 := bt_at (x1_1.extract 1 x1_1.size) 0
           clear p12
           have qi12 : (0 < ((x1_1.extract 1 x1_1.size).size : Int)) = True := eq_true (of_decide_eq_true (by (with_reducible assumption)))
           try have qi12e : (0 < ((x1_1.size - 1 : Nat) : Int)) = True := by have h_ := qi12; simp only [ByteArray.size_extract, Nat.min_self] at h_; exact h_
           replace q12 := eq_true q12
           have p14 : 0 ≤ (0 : Int) := (by omega)
           have q14 : 0 < (x1_1.extract 1 x1_1.size).size := (by have : (0 : Int) < ((x1_1.extract 1 x1_1.size).size : Int) := of_decide_eq_true (by (with_reducible assumption)); omega)
           try have q14e : 0 < (x1_1.size - 1) := by have h_ := q14; simp only [ByteArray.size_extract, Nat.min_self] at h_; exact h_
           have hx14 : ∀ h : 0 < (x1_1.extract 1 x1_1.size).size, (((x1_1.extract 1 x1_1.size)[0]'h).toNat : Int) = bt (x1_1.extract 1 x1_1.size) 0 := bt_at (x1_1.extract 1 x1_1.size) 0
           clear p14
           have qi14 : (0 < ((x1_1.extract 1 x1_1.size).size : Int)) = True := eq_true (of_decide_eq_true (by (with_reducible assumption)))
           try have qi14e : (0 < ((x1_1.size - 1 : Nat) : Int)) = True := by have h_ := qi14; simp only [ByteArray.size_extract, Nat.min_self] at h_; exact h_
           replace q14 := eq_true q14
           go_wp2
           go_meet
           case rel => exact ⟨_, (true), (by rfl), H', ⟨by have := HK1.out; omega⟩, ⟨by exact HO_8.out⟩, ⟨by repeat (with_reducible exact HB.out)⟩⟩
          ·have H' := Aside0.mk H
           clear H
           have p12 : 0 ≤ (0 : Int) := (by omega)
           have q12 : 0 < (x1_1.extract 1 x1_1.size).size := (by have : (0 : Int) < ((x1_1.extract 1 x1_1.size).size : Int) := of_decide_eq_true (by (with_reducible assumption)); omega)
           try have q12e : 0 < (x1_1.size - 1) := by have h_ := q12; simp only [ByteArray.size_extract, Nat.min_self] at h_; exact h_
           have hx12 : ∀ h : 0 < (x1_1.extract 1 x1_1.size).size, (((x1_1.extract 1 x1_1.size)[0]'h).toNat : Int) = bt (x1_1.extract 1 x1_1.size) 0 := bt_at (x1_1.extract 1 x1_1.size) 0
           clear p12
           have qi12 : (0 < ((x1_1.extract 1 x1_1.size).size : Int)) = True := eq_true (of_decide_eq_true (by (with_reducible assumption)))
           try have qi12e : (0 < ((x1_1.size - 1 : Nat) : Int)) = True := by have h_ := qi12; simp only [ByteArray.size_extract, Nat.min_self] at h_; exact h_
           replace q12 := eq_true q12
           have p14 : 0 ≤ (0 : Int) := (by omega)
           have q14 : 0 < (x1_1.extract 1 x1_1.size).size := (by have : (0 : Int) < ((x1_1.extract 1 x1_1.size).size : Int) := of_decide_eq_true (by (with_reducible assumption)); omega)
           try have q14e : 0 < (x1_1.size - 1) := by have h_ := q14; simp only [ByteArray.size_extract, Nat.min_self] at h_; exact h_
           have hx14 : ∀ h : 0 < (x1_1.extract 1 x1_1.size).size, (((x1_1.extract 1 x1_1.size)[0]'h).toNat : Int) = bt (x1_1.extract 1 x1_1.size) 0 := bt_at (x1_1.extract 1 x1_1.size) 0
           clear p14
           have qi14 : (0 < ((x1_1.extract 1 x1_1.size).size : Int)) = True := eq_true (of_decide_eq_true (by (with_reducible assumption)))
           try have qi14e : (0 < ((x1_1.size - 1 : Nat) : Int)) = True := by have h_ := qi14; simp only [ByteArray.size_extract, Nat.min_self] at h_; exact h_
           replace q14 := eq_true q14
           have p16 : 0 ≤ (0 : Int) := (by omega)
           have q16 : 0 < (x1_1.extract 1 x1_1.size).size := (by have : (0 : Int) < ((x1_1.extract 1 x1_1.size).size : Int) := of_decide_eq_true (by (with_reducible assumption)); omega)
           try have q16e : 0 < (x1_1.size - 1) := by have h_ := q16; simp only [ByteArray.size_extract, Nat.min_self] at h_; exact h_
           have hx16 : ∀ h : 0 < (x1_1.extract 1 x1_1.size).size, (((x1_1.extract 1 x1_1.size)[0]'h).toNat : Int) = bt (x1_1.extract 1 x1_1.size) 0 := bt_at (x1_1.extract 1 x1_1.size) 0
           clear p16
           have qi16 : (0 < ((x1_1.extract 1 x1_1.size).size : Int)) = True := eq_true (of_decide_eq_true (by (with_reducible assumption)))
           try have qi16e : (0 < ((x1_1.size - 1 : Nat) : Int)) = True := by have h_ := qi16; simp only [ByteArray.size_extract, Nat.min_self] at h_; exact h_
           replace q16 := eq_true q16
           go_wp2
           go_meet
           case rel => exact ⟨_, (((bt (x1_1.extract 1 x1_1.size) 0) == 63)), (by (with_reducible rfl)), H', ⟨by have := HK1.out; omega⟩, ⟨by exact HO_8.out⟩, ⟨by repeat (with_reducible exact HB.out)⟩⟩
        ·rw [if_neg c11] at H
         exact absurd H (by simp)
      case rest =>
       clear HC9
       (try clear c4); (try clear c4b0); (try clear c4b1); (try clear c6b0); (try clear c6b1); (try clear c7b0); (try clear c7b1); (try clear c8b0)
       obtain ⟨kq, x37_8, rfl, HA, HJ8, HO_8, HB⟩ := hcut
       cases kq with
       | zero => exact absurd HA.out (by simp [maskref1_taken.j1])
       | succ kj8 =>
        have H := HA.out
        clear HA
        simp only [maskref1_taken.j1] at H
        have HC17 := Aside0.mk H
        clear H
        go_upto_if 37 with (fail)
        go_cut [1, 10] (fun v1 v10 wc => ∃ (kq : Nat) (x1_16 : ByteArray) (x10_16 : ByteArray), v1 = .string x1_16 ∧ v10 = .string x10_16 ∧ Aside0 (maskref1_taken.j2 kq l0 x1_16 l2 x8_1 (x1_1.extract 0 1) x10_16 = some (r1, r2)) ∧ Aside0 (kq ≤ kj8) ∧ Aside0 (Kd.R Kd.string 9 wc w.heap.size (fun _ => True) u8 x8_1) ∧ Aside0 (Below w.heap.size w wc))
        case first =>
         have H := HC17.out
         clear HC17
         replace H := iB H; rcases H with ⟨rfl, H⟩ | ⟨rfl, H⟩
         ·by_cases c19 : 0 ≤ 1
          ·rw [if_pos c19] at H
           have c19b0 := eq_true c19
           have c19b1 : decide (0 ≤ 1) = true := decide_eq_true c19
           clear c19
           by_cases c20 : 1 ≤ ((x1_1.extract 1 x1_1.size).size : Int)
           ·rw [if_pos c20] at H
            have c20b0 := eq_true c20
            have c20b1 : decide (1 ≤ ((x1_1.extract 1 x1_1.size).size : Int)) = true := decide_eq_true c20
            try have c20b1e : decide (1 ≤ ((x1_1.size - 1 : Nat) : Int)) = true := by have h_ := c20b1; simp only [ByteArray.size_extract, Nat.min_self] at h_; exact h_
            try have c20b1f : (1 ≤ ((x1_1.size - 1 : Nat) : Int)) = True := eq_true (of_decide_eq_true c20b1e)
            clear c20
            have c21b0 := eq_true (of_decide_eq_true (by (with_reducible assumption)) : 1 ≤ ((x1_1.extract 1 x1_1.size).size : Int))
            have H' := Aside0.mk H
            clear H
            go_wp2
            repeat (go_quiet (fail); try go_wp2)
            go_meet
            case rel => exact ⟨_, ((x1_1.extract 1 x1_1.size).extract 1 (x1_1.extract 1 x1_1.size).size), ((x1_1.extract 1 x1_1.size).extract 0 1), (by (simp only [ByteArray.size_extract, Nat.min_self]; done)), (by (with_reducible rfl)), H', ⟨by have := HK1.out; have := HJ8.out; omega⟩, ⟨by (with_reducible repeat (apply Kd.R_drewN)); exact HO_8.out⟩, ⟨by repeat (with_reducible first | exact HB.out | apply pw_below_drewN)⟩⟩
           ·rw [if_neg c20] at H
            exact absurd H (by simp)
          ·rw [if_neg c19] at H
           exact absurd H (by simp)
         ·have H' := Aside0.mk H
          clear H
          go_wp2
          go_meet
          case rel => exact ⟨_, (x1_1.extract 1 x1_1.size), (⟨#[]⟩ : ByteArray), (by (with_reducible rfl)), (by (with_reducible rfl)), H', ⟨by have := HK1.out; have := HJ8.out; omega⟩, ⟨by exact HO_8.out⟩, ⟨by repeat (with_reducible exact HB.out)⟩⟩
        case rest =>
         clear HC17
         obtain ⟨kq, x1_16, x10_16, rfl, rfl, HA, HJ16, HO_8, HB⟩ := hcut
         cases kq with
         | zero => exact absurd HA.out (by simp [maskref1_taken.j2])
         | succ kj16 =>
          have H := HA.out
          clear HA
          simp only [maskref1_taken.j2] at H
          have HC22 := Aside0.mk H
          clear H
          go_upto_block 2 with (fail)
          go_cut [8, 11] (fun v8 v11 wc => ∃ (kq : Nat) (x8_21 : List ByteArray) (x11_21 : Int), v11 = .int .i64 x11_21 ∧ Aside0 (maskref1_taken.j6 kq l0 x1_16 l2 x8_21 x10_16 x11_21 = some (r1, r2)) ∧ Aside0 (kq ≤ kj16) ∧ Aside0 (Kd.R Kd.string 9 wc w.heap.size (fun _ => True) v8 x8_21) ∧ Aside0 (Below w.heap.size w wc))
          case first =>
           have H := HC22.out
           clear HC22
           have H' := Aside0.mk H
           clear H
           go_wp2
           go_loopg [8, 11] kj16 (fun kq v8 v11 w' => ∃ (x8_4 : List ByteArray) (x11_4 : Int), v11 = .int .i64 x11_4 ∧ Aside0 (maskref1_taken.l1 kq l0 x1_16 l2 x8_4 (x1_1.extract 0 1) x10_16 x11_4 = some (r1, r2)) ∧ Aside0 (kq ≤ kj16) ∧ Aside0 (Kd.R Kd.string 9 w' w.heap.size (fun _ => True) v8 x8_4) ∧ Aside0 (Below w.heap.size w w'))
           case atStart => exact ⟨(x8_1), (0), (by rfl), H', ⟨Nat.le_refl _⟩, ⟨by exact HO_8.out⟩, ⟨by repeat (with_reducible exact HB.out)⟩⟩
           case round =>
            clear H'
            obtain ⟨x8_4, x11_4, rfl, HA, HK4, HO_8, HB⟩ := hrel
            cases gk with
            | zero => exact absurd HA.out (by simp [maskref1_taken.l1])
            | succ k4 =>
             have H := HA.out
             clear HA
             simp only [maskref1_taken.l1] at H
             by_cases c23 : (x8_4.length : Int) < (l2.length : Int)
             ·rw [if_pos c23] at H
              have c23b0 : decide ((x8_4.length : Int) < (l2.length : Int)) = true := decide_eq_true c23
              have c23b1 : decide (x8_4.length < l2.length) = true := decide_eq_true (Int.ofNat_lt.mp c23)
              clear c23
              (skip)
              by_cases c24 : 0 ≤ (x8_4.length : Int)
              ·rw [if_pos c24] at H
               have c24b0 : decide (0 ≤ (x8_4.length : Int)) = true := decide_eq_true c24
               have c24b1 : decide (0 ≤ x8_4.length) = true := decide_eq_true (by omega)
               clear c24
               have HC25 := Aside0.mk H
               clear H
               obtain ⟨Ao26, co26, eo26⟩ := Kd.R_slice HO_8.out
               subst eo26
               have p193 : 0 ≤ ((x8_4.length : Int) : Int) := of_decide_eq_true (by (with_reducible assumption))
               have q193 : (x8_4.length : Int) < (l2.length : Int) := of_decide_eq_true (by (with_reducible assumption))
               obtain ⟨ad193, A193_9, c193_9, e193, hx193_0, hx193_1, hx193_2, hx193_3, hx193_4, hx193_5, hx193_6, hx193_7, hx193_8, hx193_9, hl193_9, hi193_9⟩ := at_T27 HR2.out (x8_4.length : Int) p193 q193
               cases e193
               replace hx193_0 := (HB.out.cell (World.block_lt_of_cell? w _ hx193_0)).trans hx193_0
               replace hx193_1 := (HB.out.cell (World.block_lt_of_cell? w _ hx193_1)).trans hx193_1
               replace hx193_2 := (HB.out.cell (World.block_lt_of_cell? w _ hx193_2)).trans hx193_2
               replace hx193_3 := (HB.out.cell (World.block_lt_of_cell? w _ hx193_3)).trans hx193_3
               replace hx193_4 := (HB.out.cell (World.block_lt_of_cell? w _ hx193_4)).trans hx193_4
               replace hx193_5 := (HB.out.cell (World.block_lt_of_cell? w _ hx193_5)).trans hx193_5
               replace hx193_6 := (HB.out.cell (World.block_lt_of_cell? w _ hx193_6)).trans hx193_6
               replace hx193_7 := (HB.out.cell (World.block_lt_of_cell? w _ hx193_7)).trans hx193_7
               replace hx193_8 := (HB.out.cell (World.block_lt_of_cell? w _ hx193_8)).trans hx193_8
               replace hx193_9 := (HB.out.cell (World.block_lt_of_cell? w _ hx193_9)).trans hx193_9
               have HR193_9 := Aside0.mk hi193_9
               have HC193_9 := Aside0.mk hl193_9
               clear hi193_9 hl193_9
               (try simp only [Go.IntWalk.toNatUp] at hx193_0)
               (try simp only [Go.IntWalk.toNatUp] at hx193_1)
               (try simp only [Go.IntWalk.toNatUp] at hx193_2)
               (try simp only [Go.IntWalk.toNatUp] at hx193_3)
               (try simp only [Go.IntWalk.toNatUp] at hx193_4)
               (try simp only [Go.IntWalk.toNatUp] at hx193_5)
               (try simp only [Go.IntWalk.toNatUp] at hx193_6)
               (try simp only [Go.IntWalk.toNatUp] at hx193_7)
               (try simp only [Go.IntWalk.toNatUp] at hx193_8)
               (try simp only [Go.IntWalk.toNatUp] at hx193_9)
               replace p193 := eq_true p193
               replace q193 := eq_true q193
               go_upto_region 11 with (((with_reducible refine gate_dst (N := 12) rfl ?_); (try (refine gate_guard (by rfl) ?_; dsimp only)); refine box_event ?hg (N := 12) ?hd (cs := #[.int .i64 0, .int .i64 0, .int .i64 0, .string (⟨#[]⟩ : ByteArray), .string (⟨#[]⟩ : ByteArray), .int .i64 0, .int .u64 0, .int .u64 0, .bool false, .slice none 0 0]) (t := 27) ?hr ?_; (case hd => rfl); (case hg => rfl); (case hr => (go_simp; done)); intro gb194 hg w27 hbox hb; replace HO_8 := Kd.rb1 HO_8 hb; have BK194 := Aside0.mk (hbox); have GW194 := ge1 HB hg; have GE194 := ge1 HB hg; replace HB := hb1 HB hb; clear hb hbox hg; have hcz28_0 : w27.cell? ⟨gb194, 0, none⟩ = some (.int .i64 0) := (blk_cell BK194.out 0).trans rfl; have hcz28_1 : w27.cell? ⟨gb194, 1, none⟩ = some (.int .i64 0) := (blk_cell BK194.out 1).trans rfl; have hcz28_2 : w27.cell? ⟨gb194, 2, none⟩ = some (.int .i64 0) := (blk_cell BK194.out 2).trans rfl; have hcz28_3 : w27.cell? ⟨gb194, 3, none⟩ = some (.string (⟨#[]⟩ : ByteArray)) := (blk_cell BK194.out 3).trans rfl; have hcz28_4 : w27.cell? ⟨gb194, 4, none⟩ = some (.string (⟨#[]⟩ : ByteArray)) := (blk_cell BK194.out 4).trans rfl; have hcz28_5 : w27.cell? ⟨gb194, 5, none⟩ = some (.int .i64 0) := (blk_cell BK194.out 5).trans rfl; have hcz28_6 : w27.cell? ⟨gb194, 6, none⟩ = some (.int .u64 0) := (blk_cell BK194.out 6).trans rfl; have hcz28_7 : w27.cell? ⟨gb194, 7, none⟩ = some (.int .u64 0) := (blk_cell BK194.out 7).trans rfl; have hcz28_8 : w27.cell? ⟨gb194, 8, none⟩ = some (.bool false) := (blk_cell BK194.out 8).trans rfl; have hcz28_9 : w27.cell? ⟨gb194, 9, none⟩ = some (.slice none 0 0) := (blk_cell BK194.out 9).trans rfl; have hfz28_0 := blk_frozen BK194.out 0; have hfz28_1 := blk_frozen BK194.out 1; have hfz28_2 := blk_frozen BK194.out 2; have hfz28_3 := blk_frozen BK194.out 3; have hfz28_4 := blk_frozen BK194.out 4; have hfz28_5 := blk_frozen BK194.out 5; have hfz28_6 := blk_frozen BK194.out 6; have hfz28_7 := blk_frozen BK194.out 7; have hfz28_8 := blk_frozen BK194.out 8; have hfz28_9 := blk_frozen BK194.out 9))
               go_cut [13] (fun v13 wc => ∃ (kq : Nat) (x13_24 : Bool), v13 = .bool x13_24 ∧ Aside0 (maskref1_taken.j4 kq l0 x1_16 l2 x8_4 (x1_1.extract 0 1) x10_16 x11_4 x13_24 ((rd_T27 l2 (x8_4.length : Int)).f0) ((rd_T27 l2 (x8_4.length : Int)).f1) ((rd_T27 l2 (x8_4.length : Int)).f2) ((rd_T27 l2 (x8_4.length : Int)).f3) ((rd_T27 l2 (x8_4.length : Int)).f4) ((rd_T27 l2 (x8_4.length : Int)).f5.f0) ((rd_T27 l2 (x8_4.length : Int)).f5.f1) ((rd_T27 l2 (x8_4.length : Int)).f5.f2) ((rd_T27 l2 (x8_4.length : Int)).f6) ((rd_T27 l2 (x8_4.length : Int)).f7) = some (r1, r2)) ∧ Aside0 (kq ≤ k4) ∧ Aside0 (Kd.R Kd.string 9 wc w.heap.size (fun _ => True) (.slice Ao26 x8_4.length co26) x8_4) ∧ Aside0 (wc.heap[gb194]? = some (.cells #[.int .i64 ((rd_T27 l2 (x8_4.length : Int)).f0), .int .i64 ((rd_T27 l2 (x8_4.length : Int)).f1), .int .i64 ((rd_T27 l2 (x8_4.length : Int)).f2), .string ((rd_T27 l2 (x8_4.length : Int)).f3), .string ((rd_T27 l2 (x8_4.length : Int)).f4), .int .i64 ((rd_T27 l2 (x8_4.length : Int)).f5.f0), .int .u64 ((rd_T27 l2 (x8_4.length : Int)).f5.f1), .int .u64 ((rd_T27 l2 (x8_4.length : Int)).f5.f2), .bool ((rd_T27 l2 (x8_4.length : Int)).f6), (.slice A193_9 ((rd_T27 l2 (x8_4.length : Int)).f7).length c193_9)] 27 (0, 0))) ∧ Aside0 (Below w.heap.size w wc))
               case first =>
                have H := HC25.out
                clear HC25
                replace H := iE H; rcases H with ⟨c29b0, c29b1, H⟩ | ⟨c29, c29b0, c29b1, H⟩
                ·(skip)
                 have H' := Aside0.mk H
                 clear H
                 go_wp2
                 go_meet
                 case rel => exact ⟨_, (true), (by rfl), H', ⟨by have := HK1.out; have := HJ8.out; have := HJ16.out; have := HK4.out; omega⟩, ⟨by exact Kd.R_mono (Kd.R_far (p := ⟨gb194, 9, none⟩) (Kd.R_far (p := ⟨gb194, 8, none⟩) (Kd.R_far (p := ⟨gb194, 7, none⟩) (Kd.R_far (p := ⟨gb194, 6, none⟩) (Kd.R_far (p := ⟨gb194, 5, none⟩) (Kd.R_far (p := ⟨gb194, 4, none⟩) (Kd.R_far (p := ⟨gb194, 3, none⟩) (Kd.R_far (p := ⟨gb194, 2, none⟩) (Kd.R_far (p := ⟨gb194, 1, none⟩) (Kd.R_far (p := ⟨gb194, 0, none⟩) (Kd.R_types HO_8.out BK194.out (by decide)) (fun _ hk => hk.2) (.int .i64 ((rd_T27 l2 (x8_4.length : Int)).f0))) (fun _ hk => hk.2) (.int .i64 ((rd_T27 l2 (x8_4.length : Int)).f1))) (fun _ hk => hk.2) (.int .i64 ((rd_T27 l2 (x8_4.length : Int)).f2))) (fun _ hk => hk.2) (.string ((rd_T27 l2 (x8_4.length : Int)).f3))) (fun _ hk => hk.2) (.string ((rd_T27 l2 (x8_4.length : Int)).f4))) (fun _ hk => hk.2) (.int .i64 ((rd_T27 l2 (x8_4.length : Int)).f5.f0))) (fun _ hk => hk.2) (.int .u64 ((rd_T27 l2 (x8_4.length : Int)).f5.f1))) (fun _ hk => hk.2) (.int .u64 ((rd_T27 l2 (x8_4.length : Int)).f5.f2))) (fun _ hk => hk.2) (.bool ((rd_T27 l2 (x8_4.length : Int)).f6))) (fun _ hk => hk.2) (.slice A193_9 ((rd_T27 l2 (x8_4.length : Int)).f7).length c193_9)) (fun _ hk => trivial)⟩, ⟨by refine blk_put (cs := #[.int .i64 ((rd_T27 l2 (x8_4.length : Int)).f0), .int .i64 ((rd_T27 l2 (x8_4.length : Int)).f1), .int .i64 ((rd_T27 l2 (x8_4.length : Int)).f2), .string ((rd_T27 l2 (x8_4.length : Int)).f3), .string ((rd_T27 l2 (x8_4.length : Int)).f4), .int .i64 ((rd_T27 l2 (x8_4.length : Int)).f5.f0), .int .u64 ((rd_T27 l2 (x8_4.length : Int)).f5.f1), .int .u64 ((rd_T27 l2 (x8_4.length : Int)).f5.f2), .bool ((rd_T27 l2 (x8_4.length : Int)).f6), .slice none 0 0]) ?_ 9 _ rfl; refine blk_put (cs := #[.int .i64 ((rd_T27 l2 (x8_4.length : Int)).f0), .int .i64 ((rd_T27 l2 (x8_4.length : Int)).f1), .int .i64 ((rd_T27 l2 (x8_4.length : Int)).f2), .string ((rd_T27 l2 (x8_4.length : Int)).f3), .string ((rd_T27 l2 (x8_4.length : Int)).f4), .int .i64 ((rd_T27 l2 (x8_4.length : Int)).f5.f0), .int .u64 ((rd_T27 l2 (x8_4.length : Int)).f5.f1), .int .u64 ((rd_T27 l2 (x8_4.length : Int)).f5.f2), .bool false, .slice none 0 0]) ?_ 8 _ rfl; refine blk_put (cs := #[.int .i64 ((rd_T27 l2 (x8_4.length : Int)).f0), .int .i64 ((rd_T27 l2 (x8_4.length : Int)).f1), .int .i64 ((rd_T27 l2 (x8_4.length : Int)).f2), .string ((rd_T27 l2 (x8_4.length : Int)).f3), .string ((rd_T27 l2 (x8_4.length : Int)).f4), .int .i64 ((rd_T27 l2 (x8_4.length : Int)).f5.f0), .int .u64 ((rd_T27 l2 (x8_4.length : Int)).f5.f1), .int .u64 0, .bool false, .slice none 0 0]) ?_ 7 _ rfl; refine blk_put (cs := #[.int .i64 ((rd_T27 l2 (x8_4.length : Int)).f0), .int .i64 ((rd_T27 l2 (x8_4.length : Int)).f1), .int .i64 ((rd_T27 l2 (x8_4.length : Int)).f2), .string ((rd_T27 l2 (x8_4.length : Int)).f3), .string ((rd_T27 l2 (x8_4.length : Int)).f4), .int .i64 ((rd_T27 l2 (x8_4.length : Int)).f5.f0), .int .u64 0, .int .u64 0, .bool false, .slice none 0 0]) ?_ 6 _ rfl; refine blk_put (cs := #[.int .i64 ((rd_T27 l2 (x8_4.length : Int)).f0), .int .i64 ((rd_T27 l2 (x8_4.length : Int)).f1), .int .i64 ((rd_T27 l2 (x8_4.length : Int)).f2), .string ((rd_T27 l2 (x8_4.length : Int)).f3), .string ((rd_T27 l2 (x8_4.length : Int)).f4), .int .i64 0, .int .u64 0, .int .u64 0, .bool false, .slice none 0 0]) ?_ 5 _ rfl; refine blk_put (cs := #[.int .i64 ((rd_T27 l2 (x8_4.length : Int)).f0), .int .i64 ((rd_T27 l2 (x8_4.length : Int)).f1), .int .i64 ((rd_T27 l2 (x8_4.length : Int)).f2), .string ((rd_T27 l2 (x8_4.length : Int)).f3), .string (⟨#[]⟩ : ByteArray), .int .i64 0, .int .u64 0, .int .u64 0, .bool false, .slice none 0 0]) ?_ 4 _ rfl; refine blk_put (cs := #[.int .i64 ((rd_T27 l2 (x8_4.length : Int)).f0), .int .i64 ((rd_T27 l2 (x8_4.length : Int)).f1), .int .i64 ((rd_T27 l2 (x8_4.length : Int)).f2), .string (⟨#[]⟩ : ByteArray), .string (⟨#[]⟩ : ByteArray), .int .i64 0, .int .u64 0, .int .u64 0, .bool false, .slice none 0 0]) ?_ 3 _ rfl; refine blk_put (cs := #[.int .i64 ((rd_T27 l2 (x8_4.length : Int)).f0), .int .i64 ((rd_T27 l2 (x8_4.length : Int)).f1), .int .i64 0, .string (⟨#[]⟩ : ByteArray), .string (⟨#[]⟩ : ByteArray), .int .i64 0, .int .u64 0, .int .u64 0, .bool false, .slice none 0 0]) ?_ 2 _ rfl; refine blk_put (cs := #[.int .i64 ((rd_T27 l2 (x8_4.length : Int)).f0), .int .i64 0, .int .i64 0, .string (⟨#[]⟩ : ByteArray), .string (⟨#[]⟩ : ByteArray), .int .i64 0, .int .u64 0, .int .u64 0, .bool false, .slice none 0 0]) ?_ 1 _ rfl; refine blk_put (cs := #[.int .i64 0, .int .i64 0, .int .i64 0, .string (⟨#[]⟩ : ByteArray), .string (⟨#[]⟩ : ByteArray), .int .i64 0, .int .u64 0, .int .u64 0, .bool false, .slice none 0 0]) ?_ 0 _ rfl; exact BK194.out⟩, ⟨by repeat (with_reducible first | exact HB.out | refine below_set ?_ GE194.out)⟩⟩
                ·(skip)
                 have H' := Aside0.mk H
                 clear H
                 go_wp2
                 go_meet
                 case rel => exact ⟨_, (x10_16.toList == ([43] : List UInt8)), (by rfl), H', ⟨by have := HK1.out; have := HJ8.out; have := HJ16.out; have := HK4.out; omega⟩, ⟨by exact Kd.R_mono (Kd.R_far (p := ⟨gb194, 9, none⟩) (Kd.R_far (p := ⟨gb194, 8, none⟩) (Kd.R_far (p := ⟨gb194, 7, none⟩) (Kd.R_far (p := ⟨gb194, 6, none⟩) (Kd.R_far (p := ⟨gb194, 5, none⟩) (Kd.R_far (p := ⟨gb194, 4, none⟩) (Kd.R_far (p := ⟨gb194, 3, none⟩) (Kd.R_far (p := ⟨gb194, 2, none⟩) (Kd.R_far (p := ⟨gb194, 1, none⟩) (Kd.R_far (p := ⟨gb194, 0, none⟩) (Kd.R_types HO_8.out BK194.out (by decide)) (fun _ hk => hk.2) (.int .i64 ((rd_T27 l2 (x8_4.length : Int)).f0))) (fun _ hk => hk.2) (.int .i64 ((rd_T27 l2 (x8_4.length : Int)).f1))) (fun _ hk => hk.2) (.int .i64 ((rd_T27 l2 (x8_4.length : Int)).f2))) (fun _ hk => hk.2) (.string ((rd_T27 l2 (x8_4.length : Int)).f3))) (fun _ hk => hk.2) (.string ((rd_T27 l2 (x8_4.length : Int)).f4))) (fun _ hk => hk.2) (.int .i64 ((rd_T27 l2 (x8_4.length : Int)).f5.f0))) (fun _ hk => hk.2) (.int .u64 ((rd_T27 l2 (x8_4.length : Int)).f5.f1))) (fun _ hk => hk.2) (.int .u64 ((rd_T27 l2 (x8_4.length : Int)).f5.f2))) (fun _ hk => hk.2) (.bool ((rd_T27 l2 (x8_4.length : Int)).f6))) (fun _ hk => hk.2) (.slice A193_9 ((rd_T27 l2 (x8_4.length : Int)).f7).length c193_9)) (fun _ hk => trivial)⟩, ⟨by refine blk_put (cs := #[.int .i64 ((rd_T27 l2 (x8_4.length : Int)).f0), .int .i64 ((rd_T27 l2 (x8_4.length : Int)).f1), .int .i64 ((rd_T27 l2 (x8_4.length : Int)).f2), .string ((rd_T27 l2 (x8_4.length : Int)).f3), .string ((rd_T27 l2 (x8_4.length : Int)).f4), .int .i64 ((rd_T27 l2 (x8_4.length : Int)).f5.f0), .int .u64 ((rd_T27 l2 (x8_4.length : Int)).f5.f1), .int .u64 ((rd_T27 l2 (x8_4.length : Int)).f5.f2), .bool ((rd_T27 l2 (x8_4.length : Int)).f6), .slice none 0 0]) ?_ 9 _ rfl; refine blk_put (cs := #[.int .i64 ((rd_T27 l2 (x8_4.length : Int)).f0), .int .i64 ((rd_T27 l2 (x8_4.length : Int)).f1), .int .i64 ((rd_T27 l2 (x8_4.length : Int)).f2), .string ((rd_T27 l2 (x8_4.length : Int)).f3), .string ((rd_T27 l2 (x8_4.length : Int)).f4), .int .i64 ((rd_T27 l2 (x8_4.length : Int)).f5.f0), .int .u64 ((rd_T27 l2 (x8_4.length : Int)).f5.f1), .int .u64 ((rd_T27 l2 (x8_4.length : Int)).f5.f2), .bool false, .slice none 0 0]) ?_ 8 _ rfl; refine blk_put (cs := #[.int .i64 ((rd_T27 l2 (x8_4.length : Int)).f0), .int .i64 ((rd_T27 l2 (x8_4.length : Int)).f1), .int .i64 ((rd_T27 l2 (x8_4.length : Int)).f2), .string ((rd_T27 l2 (x8_4.length : Int)).f3), .string ((rd_T27 l2 (x8_4.length : Int)).f4), .int .i64 ((rd_T27 l2 (x8_4.length : Int)).f5.f0), .int .u64 ((rd_T27 l2 (x8_4.length : Int)).f5.f1), .int .u64 0, .bool false, .slice none 0 0]) ?_ 7 _ rfl; refine blk_put (cs := #[.int .i64 ((rd_T27 l2 (x8_4.length : Int)).f0), .int .i64 ((rd_T27 l2 (x8_4.length : Int)).f1), .int .i64 ((rd_T27 l2 (x8_4.length : Int)).f2), .string ((rd_T27 l2 (x8_4.length : Int)).f3), .string ((rd_T27 l2 (x8_4.length : Int)).f4), .int .i64 ((rd_T27 l2 (x8_4.length : Int)).f5.f0), .int .u64 0, .int .u64 0, .bool false, .slice none 0 0]) ?_ 6 _ rfl; refine blk_put (cs := #[.int .i64 ((rd_T27 l2 (x8_4.length : Int)).f0), .int .i64 ((rd_T27 l2 (x8_4.length : Int)).f1), .int .i64 ((rd_T27 l2 (x8_4.length : Int)).f2), .string ((rd_T27 l2 (x8_4.length : Int)).f3), .string ((rd_T27 l2 (x8_4.length : Int)).f4), .int .i64 0, .int .u64 0, .int .u64 0, .bool false, .slice none 0 0]) ?_ 5 _ rfl; refine blk_put (cs := #[.int .i64 ((rd_T27 l2 (x8_4.length : Int)).f0), .int .i64 ((rd_T27 l2 (x8_4.length : Int)).f1), .int .i64 ((rd_T27 l2 (x8_4.length : Int)).f2), .string ((rd_T27 l2 (x8_4.length : Int)).f3), .string (⟨#[]⟩ : ByteArray), .int .i64 0, .int .u64 0, .int .u64 0, .bool false, .slice none 0 0]) ?_ 4 _ rfl; refine blk_put (cs := #[.int .i64 ((rd_T27 l2 (x8_4.length : Int)).f0), .int .i64 ((rd_T27 l2 (x8_4.length : Int)).f1), .int .i64 ((rd_T27 l2 (x8_4.length : Int)).f2), .string (⟨#[]⟩ : ByteArray), .string (⟨#[]⟩ : ByteArray), .int .i64 0, .int .u64 0, .int .u64 0, .bool false, .slice none 0 0]) ?_ 3 _ rfl; refine blk_put (cs := #[.int .i64 ((rd_T27 l2 (x8_4.length : Int)).f0), .int .i64 ((rd_T27 l2 (x8_4.length : Int)).f1), .int .i64 0, .string (⟨#[]⟩ : ByteArray), .string (⟨#[]⟩ : ByteArray), .int .i64 0, .int .u64 0, .int .u64 0, .bool false, .slice none 0 0]) ?_ 2 _ rfl; refine blk_put (cs := #[.int .i64 ((rd_T27 l2 (x8_4.length : Int)).f0), .int .i64 0, .int .i64 0, .string (⟨#[]⟩ : ByteArray), .string (⟨#[]⟩ : ByteArray), .int .i64 0, .int .u64 0, .int .u64 0, .bool false, .slice none 0 0]) ?_ 1 _ rfl; refine blk_put (cs := #[.int .i64 0, .int .i64 0, .int .i64 0, .string (⟨#[]⟩ : ByteArray), .string (⟨#[]⟩ : ByteArray), .int .i64 0, .int .u64 0, .int .u64 0, .bool false, .slice none 0 0]) ?_ 0 _ rfl; exact BK194.out⟩, ⟨by repeat (with_reducible first | exact HB.out | refine below_set ?_ GE194.out)⟩⟩
               case rest =>
                clear HC25
                (try clear c23b0); (try clear c23b1); (try clear c24b0); (try clear c24b1); (try clear hcz28_0 hcz28_1 hcz28_2 hcz28_3 hcz28_4 hcz28_5 hcz28_6 hcz28_7 hcz28_8 hcz28_9 hfz28_0 hfz28_1 hfz28_2 hfz28_3 hfz28_4 hfz28_5 hfz28_6 hfz28_7 hfz28_8 hfz28_9); (try clear hx193_0); (try clear hx193_1); (try clear hx193_2); (try clear hx193_3); (try clear hx193_4); (try clear hx193_5); (try clear hx193_6); (try clear hx193_7); (try clear hx193_8); (try clear hx193_9); (try clear p193); (try clear q193)
                obtain ⟨kq, x13_24, rfl, HA, HJ24, HO_8, BK194, HB⟩ := hcut
                cases kq with
                | zero => exact absurd HA.out (by simp [maskref1_taken.j4])
                | succ kj24 =>
                 have H := HA.out
                 clear HA
                 simp only [maskref1_taken.j4] at H
                 have HC30 := Aside0.mk H
                 clear H
                 obtain ⟨hcz31_0, hcz31_1, hcz31_2, hcz31_3, hcz31_4, hcz31_5, hcz31_6, hcz31_7, hcz31_8, hcz31_9⟩ := sq_cells10 (W := wc) (g := gb194) BK194.out; obtain ⟨hfz31_0, hfz31_1, hfz31_2, hfz31_3, hfz31_4, hfz31_5, hfz31_6, hfz31_7, hfz31_8, hfz31_9⟩ := sq_frozen10 BK194.out
                 go_upto_if 61 with (fail)
                 go_cut [14] (fun v14 wc => ∃ (kq : Nat) (x14_29 : Bool), v14 = .bool x14_29 ∧ Aside0 (maskref1_taken.j5 kq l0 x1_16 l2 x8_4 (x1_1.extract 0 1) x10_16 x11_4 x14_29 = some (r1, r2)) ∧ Aside0 (kq ≤ kj24) ∧ Aside0 (Kd.R Kd.string 9 wc w.heap.size (fun _ => True) (.slice Ao26 x8_4.length co26) x8_4) ∧ Aside0 (wc.heap[gb194]? = some (.cells #[.int .i64 ((rd_T27 l2 (x8_4.length : Int)).f0), .int .i64 ((rd_T27 l2 (x8_4.length : Int)).f1), .int .i64 ((rd_T27 l2 (x8_4.length : Int)).f2), .string ((rd_T27 l2 (x8_4.length : Int)).f3), .string ((rd_T27 l2 (x8_4.length : Int)).f4), .int .i64 ((rd_T27 l2 (x8_4.length : Int)).f5.f0), .int .u64 ((rd_T27 l2 (x8_4.length : Int)).f5.f1), .int .u64 ((rd_T27 l2 (x8_4.length : Int)).f5.f2), .bool ((rd_T27 l2 (x8_4.length : Int)).f6), (.slice A193_9 ((rd_T27 l2 (x8_4.length : Int)).f7).length c193_9)] 27 (0, 0))) ∧ Aside0 (Below w.heap.size w wc))
                 case first =>
                  have H := HC30.out
                  clear HC30
                  replace H := iB H; rcases H with ⟨rfl, H⟩ | ⟨rfl, H⟩
                  ·replace H := iE H; rcases H with ⟨c33b0, c33b1, H⟩ | ⟨c33, c33b0, c33b1, H⟩
                   ·(skip)
                    have H' := Aside0.mk H
                    clear H
                    go_wp2
                    go_meet
                    case rel => exact ⟨_, (false), (by rfl), H', ⟨by have := HK1.out; have := HJ8.out; have := HJ16.out; have := HK4.out; have := HJ24.out; omega⟩, ⟨by exact HO_8.out⟩, ⟨by exact BK194.out⟩, ⟨by repeat (with_reducible exact HB.out)⟩⟩
                   ·(skip)
                    replace H := iD H; rcases H with ⟨c34b0, H⟩ | ⟨c34b0, H⟩
                    ·replace c34b0 : decide (0 < ((rd_T27 l2 (x8_4.length : Int)).f0)) = true := c34b0
                     replace H := iD H; rcases H with ⟨c35b0, H⟩ | ⟨c35b0, H⟩
                     ·replace H := iN H; obtain ⟨c36b0, H⟩ := H
                      replace H := bN H; obtain ⟨t196, A37, H⟩ := H
                      have H' := Aside0.mk H
                      clear H
                      obtain ⟨hcz38_0, hcz38_1, hcz38_2, hcz38_3, hcz38_4, hcz38_5, hcz38_6, hcz38_7, hcz38_8, hcz38_9⟩ := sq_cells10 (W := wc) (g := gb194) BK194.out; obtain ⟨hfz38_0, hfz38_1, hfz38_2, hfz38_3, hfz38_4, hfz38_5, hfz38_6, hfz38_7, hfz38_8, hfz38_9⟩ := sq_frozen10 BK194.out
                      have p195 : 0 ≤ (((rd_T27 l2 (x8_4.length : Int)).f0) : Int) := of_decide_eq_true (by (with_reducible assumption))
                      have q195 : ((rd_T27 l2 (x8_4.length : Int)).f0) < (l0.length : Int) := of_decide_eq_true (by (with_reducible assumption))
                      obtain ⟨ad195, e195, hx195_0, hx195_1, hx195_2⟩ := at_T73 HR0.out ((rd_T27 l2 (x8_4.length : Int)).f0) p195 q195
                      cases e195
                      replace hx195_0 := (HB.out.cell (World.block_lt_of_cell? w _ hx195_0)).trans hx195_0
                      replace hx195_1 := (HB.out.cell (World.block_lt_of_cell? w _ hx195_1)).trans hx195_1
                      replace hx195_2 := (HB.out.cell (World.block_lt_of_cell? w _ hx195_2)).trans hx195_2
                      replace p195 := eq_true p195
                      replace q195 := eq_true q195
                      go_wp2_with ((go_at_call 34; (with_reducible refine (maskref1_contains.calls kj24 ((rd_T73 l0 ((rd_T27 l2 (x8_4.length : Int)).f0)).f0) (x1_1.extract 0 1) t196 _ A37.out).mono ?_); rintro e w' ⟨rfl, ⟨nd, rfl⟩⟩))
                      go_meet
                      case rel => exact ⟨_, (t196), (by rfl), H', ⟨by have := HK1.out; have := HJ8.out; have := HJ16.out; have := HK4.out; have := HJ24.out; omega⟩, ⟨by (with_reducible repeat (apply Kd.R_drewN)); exact HO_8.out⟩, ⟨by (with_reducible repeat (refine blk_drewN ?_ _)); exact BK194.out⟩, ⟨by repeat (with_reducible first | exact HB.out | apply pw_below_drewN)⟩⟩
                     ·have H' := Aside0.mk H
                      clear H
                      obtain ⟨hcz39_0, hcz39_1, hcz39_2, hcz39_3, hcz39_4, hcz39_5, hcz39_6, hcz39_7, hcz39_8, hcz39_9⟩ := sq_cells10 (W := wc) (g := gb194) BK194.out; obtain ⟨hfz39_0, hfz39_1, hfz39_2, hfz39_3, hfz39_4, hfz39_5, hfz39_6, hfz39_7, hfz39_8, hfz39_9⟩ := sq_frozen10 BK194.out
                      go_wp2
                      go_meet
                      case rel => exact ⟨_, (false), (by rfl), H', ⟨by have := HK1.out; have := HJ8.out; have := HJ16.out; have := HK4.out; have := HJ24.out; omega⟩, ⟨by exact HO_8.out⟩, ⟨by exact BK194.out⟩, ⟨by repeat (with_reducible exact HB.out)⟩⟩
                    ·replace c34b0 : decide (0 < ((rd_T27 l2 (x8_4.length : Int)).f0)) = false := c34b0
                     have H' := Aside0.mk H
                     clear H
                     obtain ⟨hcz40_0, hcz40_1, hcz40_2, hcz40_3, hcz40_4, hcz40_5, hcz40_6, hcz40_7, hcz40_8, hcz40_9⟩ := sq_cells10 (W := wc) (g := gb194) BK194.out; obtain ⟨hfz40_0, hfz40_1, hfz40_2, hfz40_3, hfz40_4, hfz40_5, hfz40_6, hfz40_7, hfz40_8, hfz40_9⟩ := sq_frozen10 BK194.out
                     go_wp2
                     go_meet
                     case rel => exact ⟨_, (false), (by rfl), H', ⟨by have := HK1.out; have := HJ8.out; have := HJ16.out; have := HK4.out; have := HJ24.out; omega⟩, ⟨by exact HO_8.out⟩, ⟨by exact BK194.out⟩, ⟨by repeat (with_reducible exact HB.out)⟩⟩
                  ·replace H := iE H; rcases H with ⟨c41b0, c41b1, H⟩ | ⟨c41, c41b0, c41b1, H⟩
                   ·replace H := iE H; rcases H with ⟨c42b0, c42b1, H⟩ | ⟨c42, c42b0, c42b1, H⟩
                    ·have H' := Aside0.mk H
                     clear H
                     go_wp2
                     go_meet
                     case rel => exact ⟨_, (x10_16.toList == ([63] : List UInt8)), (by rfl), H', ⟨by have := HK1.out; have := HJ8.out; have := HJ16.out; have := HK4.out; have := HJ24.out; omega⟩, ⟨by exact HO_8.out⟩, ⟨by exact BK194.out⟩, ⟨by repeat (with_reducible exact HB.out)⟩⟩
                    ·have H' := Aside0.mk H
                     clear H
                     go_wp2
                     go_meet
                     case rel => exact ⟨_, (true), (by rfl), H', ⟨by have := HK1.out; have := HJ8.out; have := HJ16.out; have := HK4.out; have := HJ24.out; omega⟩, ⟨by exact HO_8.out⟩, ⟨by exact BK194.out⟩, ⟨by repeat (with_reducible exact HB.out)⟩⟩
                   ·have H' := Aside0.mk H
                    clear H
                    go_wp2
                    go_meet
                    case rel => exact ⟨_, (false), (by rfl), H', ⟨by have := HK1.out; have := HJ8.out; have := HJ16.out; have := HK4.out; have := HJ24.out; omega⟩, ⟨by exact HO_8.out⟩, ⟨by exact BK194.out⟩, ⟨by repeat (with_reducible exact HB.out)⟩⟩
                 case rest =>
                  clear HC30
                  (try clear hcz31_0 hcz31_1 hcz31_2 hcz31_3 hcz31_4 hcz31_5 hcz31_6 hcz31_7 hcz31_8 hcz31_9); (try clear hfz31_0 hfz31_1 hfz31_2 hfz31_3 hfz31_4 hfz31_5 hfz31_6 hfz31_7 hfz31_8 hfz31_9)
                  obtain ⟨kq, x14_29, rfl, HA, HJ29, HO_8, BK194, HB⟩ := hcut
                  cases kq with
                  | zero => exact absurd HA.out (by simp [maskref1_taken.j5])
                  | succ kj29 =>
                   have H := HA.out
                   clear HA
                   simp only [maskref1_taken.j5] at H
                   replace H := iB H; rcases H with ⟨rfl, H⟩ | ⟨rfl, H⟩
                   ·by_cases c44 : x8_4.length < 8796093022208
                    ·rw [if_pos c44] at H
                     have LMc44 := Aside0.mk c44
                     clear c44
                     obtain ⟨y197, hy197⟩ : ∃ y_ : List ByteArray, y_ = (x8_4 ++ [(x1_1.extract 0 1)]) := ⟨_, rfl⟩
                     replace H : (maskref1_taken.l1 kj29 l0 x1_16 l2 y197 (x1_1.extract 0 1) x10_16 (wrap64 (x11_4 + 1))) = some (r1, r2) := by (rw [hy197]; with_reducible exact H)
                     have Ny197 := Aside0.mk hy197
                     clear hy197
                     have H' := Aside0.mk H
                     clear H
                     go_wp2_with (((with_reducible refine gate_builtin (b := .append) (xs := #[.tmp 96, .tmp 98]) rfl ?_); (try (refine gate_guard (by rfl) ?_; dsimp only)); at_builtin; refine Kd.R_append Kd.string (w0 := w) w.heap.size rfl (.tmp 96) (.tmp 98) 75 9 (.string ⟨#[]⟩) 16 rfl Try.underlying75 info9 rfl (by decide) (by omega) (.slice Ao26 x8_4.length co26) x8_4 (x1_1.extract 0 1) [.string (x1_1.extract 0 1)] (fun _ => True) (fun _ => False) rfl rfl ?aP (fun _ hk => hk.elim) ?aF ?aO ?aB ?aS ?aL ?_; (case aP => exact rfl); (case aB => exact HB.out); (case aF => exact (fun _ _ => trivial)); (case aO => exact HO_8.out); (case aS => exact (below_size HB.out)); (case aL => have := LMc44.out; omega); intro v198 w45 ho hb hg hat; rw [← Ny197.out] at ho; replace BK194 := Aside0.mk (blk_grown BK194.out hg (Kd.R_ne HO_8.out BK194.out (by decide))); replace HB := Aside0.mk (hb); have HO199 := Aside0.mk (ho); clear HO_8; clear ho hb hg hat))
                     go_roundg kj29
                     case measure => have := HK1.out; have := HJ8.out; have := HJ16.out; have := HK4.out; have := HJ24.out; have := HJ29.out; omega
                     case rel => exact ⟨(y197), (wrap64 (x11_4 + 1)), (by rfl), H', ⟨by have := HK1.out; have := HJ8.out; have := HJ16.out; have := HK4.out; have := HJ24.out; have := HJ29.out; omega⟩, ⟨by exact HO199.out⟩, ⟨by repeat (with_reducible exact HB.out)⟩⟩
                    ·rw [if_neg c44] at H
                     exact absurd H (by simp)
                   ·have H' := Aside0.mk H
                    clear H
                    go_wp2
                    go_meet
                    case rel => exact ⟨_, (x8_4), (x11_4), (by rfl), H', ⟨by have := HK1.out; have := HJ8.out; have := HJ16.out; have := HK4.out; have := HJ24.out; have := HJ29.out; omega⟩, ⟨by exact HO_8.out⟩, ⟨by repeat (with_reducible exact HB.out)⟩⟩
              ·rw [if_neg c24] at H
               exact absurd H (by simp)
             ·rw [if_neg c23] at H
              have c23b0 : decide ((x8_4.length : Int) < (l2.length : Int)) = false := decide_eq_false c23
              have c23b1 : decide (x8_4.length < l2.length) = false := decide_eq_false (fun h => c23 (Int.ofNat_lt.mpr h))
              clear c23
              (skip)
              have H' := Aside0.mk H
              clear H
              obtain ⟨Ao46, co46, eo46⟩ := Kd.R_slice HO_8.out
              subst eo46
              go_wp2
              go_meet
              case rel => exact ⟨_, (x8_4), (x11_4), (by rfl), H', ⟨by have := HK1.out; have := HJ8.out; have := HJ16.out; have := HK4.out; omega⟩, ⟨by exact HO_8.out⟩, ⟨by repeat (with_reducible exact HB.out)⟩⟩
          case rest =>
           clear HC22
           obtain ⟨kq, x8_21, x11_21, rfl, HA, HJ21, HO_8, HB⟩ := hcut
           cases kq with
           | zero => exact absurd HA.out (by simp [maskref1_taken.j6])
           | succ kj21 =>
            have H := HA.out
            clear HA
            simp only [maskref1_taken.j6] at H
            replace H := iE H; rcases H with ⟨c47b0, c47b1, H⟩ | ⟨c47, c47b0, c47b1, H⟩
            ·replace H := iE H; rcases H with ⟨c48b0, c48b1, H⟩ | ⟨c48, c48b0, c48b1, H⟩
             ·have H' := Aside0.mk H
              clear H
              go_wp2
              go_roundg kj21
              case measure => have := HK1.out; have := HJ8.out; have := HJ16.out; have := HJ21.out; omega
              case rel => exact ⟨(x1_16), (x8_21), (by rfl), H', ⟨by have := HK1.out; have := HJ8.out; have := HJ16.out; have := HJ21.out; omega⟩, ⟨by exact HO_8.out⟩, ⟨by repeat (with_reducible exact HB.out)⟩⟩
             ·replace H := s2 H; obtain ⟨rfl, rfl⟩ := H
              go_wp2
              go_ret2
              exact ⟨_, by rfl, by exact Kd.R_nil _ _ _ _ _, by repeat (with_reducible exact HB.out)⟩
            ·have H' := Aside0.mk H
             clear H
             go_wp2
             go_roundg kj21
             case measure => have := HK1.out; have := HJ8.out; have := HJ16.out; have := HJ21.out; omega
             case rel => exact ⟨(x1_16), (x8_21), (by rfl), H', ⟨by have := HK1.out; have := HJ8.out; have := HJ16.out; have := HJ21.out; omega⟩, ⟨by exact HO_8.out⟩, ⟨by repeat (with_reducible exact HB.out)⟩⟩
     ·rw [if_neg c7] at H
      exact absurd H (by simp)
    ·rw [if_neg c6] at H
     exact absurd H (by simp)
end Go.Proofs.Ytlamgdibnnmbmaa.PSyn
end
