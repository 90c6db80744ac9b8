/- Part 30 of the proof of SyntaxExprsUptoSaid: The law SyntaxExprs, where the tree that it reads is of bulk at most 1048576: it returns true; the tree reads behind the call as it read before. Out of the plain theorem of YtlamgdibnnmbmaaPureSyntaxExprs and the printed contract. -/
import Derived.Test.YtlamgdibnnmbmaaQSyntaxExprsUpto13
import Derived.Test.YtlamgdibnnmbmaaQSyntaxExprsUpto22
import Derived.Test.YtlamgdibnnmbmaaQSyntaxExprsUpto16
import Derived.Test.YtlamgdibnnmbmaaQSyntaxExprsUpto27
import Derived.Test.YtlamgdibnnmbmaaQSyntaxExprsUpto23
section
namespace Go.Proofs.Ytlamgdibnnmbmaa.PSyn
open Go.RowKit Go.Proofs.YtlamgdibnnmbmaaW.PrintWords Go.Proofs.YtlamgdibnnmbmaaW.PrintLast Go.Proofs.YtlamgdibnnmbmaaW.PrintMore
attribute [local go_sem] max2_int min2_int max_two min_two max_three min_three max_four min_four
set_option linter.unusedVariables false
set_option linter.unusedSimpArgs false
theorem eqA24 (d : Nat) (w : World) (x0 y0 : Int) (x1 y1 : Int) (x2 y2 : Int) :
  (Op.equalIn (d + 2) 24 (.agg #[.int .i64 x0, .int .u64 x1, .int .u64 x2]) (.agg #[.int .i64 y0, .int .u64 y1, .int .u64 y2])).run Try.prog w = .ok (x0 == y0 && (x1 == y1 && (x2 == y2))) w := by
 refine eqA_of Try.underlying24 (by kernel_rfl) ?_
 refine eqf_cons (by rfl) (by go_simp; rfl) (by go_simp; rfl) (by go_simp) ?_
 refine eqf_cons (by rfl) (by go_simp; rfl) (by go_simp; rfl) (by go_simp) ?_
 exact eqf_last (by rfl) (by go_simp; rfl) (by go_simp; rfl) (by go_simp)
end Go.Proofs.Ytlamgdibnnmbmaa.PSyn
end
section
namespace Go.Proofs.Ytlamgdibnnmbmaa.PSyn
open Go.RowKit Go.Proofs.YtlamgdibnnmbmaaW.PrintWords Go.Proofs.YtlamgdibnnmbmaaW.PrintLast Go.Proofs.YtlamgdibnnmbmaaW.PrintMore
attribute [local go_sem] max2_int min2_int max_two min_two max_three min_three max_four min_four
set_option linter.unusedVariables false
set_option linter.unusedSimpArgs false
def lex_quotable.f (a0 : Int) : Option (Bool) := if a0 > 32 then (if a0 ≤ 126 then ((strings_IndexByte.f (⟨#[46, 91, 93, 96, 34, 92]⟩ : ByteArray) a0).bind fun t108 => (some (decide (t108 < 0)))) else (some false)) else (some false)
set_option maxHeartbeats 8000000 in
set_option maxRecDepth 100000 in
theorem lex_quotable.calls (a0 : Int) (r : Bool) (w : World) (h : lex_quotable.f a0 = some r) :
  Calls Try.prog 50 #[.int .u8 a0] w fun e w' => e = .returned (.bool r) ∧ Drawn0 w w' := by
 have H := h
 clear h
 unfold lex_quotable.f at H
 replace H := iD H; rcases H with ⟨c2b0, H⟩ | ⟨c2b0, H⟩
 ·replace c2b0 : decide (32 < a0) = true := c2b0
  replace H := iD H; rcases H with ⟨c3b0, H⟩ | ⟨c3b0, H⟩
  ·replace H := bN H; obtain ⟨t108, A4, H⟩ := H
   obtain rfl := Option.some.inj H
   go_enter Try.func50, Try.ntmps50
   go_wp2_with ((go_at_call 51; (with_reducible refine (strings_IndexByte.calls (⟨#[46, 91, 93, 96, 34, 92]⟩ : ByteArray) a0 t108 _ A4.out).mono ?_); rintro e w' ⟨rfl, ⟨nd, rfl⟩⟩))
   go_ret
   exact ⟨by rfl, by repeat (first | exact Drawn0.refl _ | apply Drawn0.step)⟩
  ·obtain rfl := Option.some.inj H
   go_enter Try.func50, Try.ntmps50
   go_wp2
   go_ret
   exact ⟨by rfl, by repeat (exact Drawn0.refl _)⟩
 ·replace c2b0 : decide (32 < a0) = false := c2b0
  obtain rfl := Option.some.inj H
  go_enter Try.func50, Try.ntmps50
  go_wp2
  go_ret
  exact ⟨by rfl, by repeat (exact Drawn0.refl _)⟩
end Go.Proofs.Ytlamgdibnnmbmaa.PSyn
end
section
namespace Go.Proofs.Ytlamgdibnnmbmaa.PSyn
open Go.RowKit Go.Proofs.YtlamgdibnnmbmaaW.PrintWords Go.Proofs.YtlamgdibnnmbmaaW.PrintLast Go.Proofs.YtlamgdibnnmbmaaW.PrintMore
attribute [local go_sem] max2_int min2_int max_two min_two max_three min_three max_four min_four
set_option linter.unusedVariables false
set_option linter.unusedSimpArgs false
mutual
def lex_Quoted.j0 : Nat → ByteArray → Bool → Option (Bool)
 | 0, _, _ => none
 | k + 1, x0, x11 => if x11 = true then (some false) else (lex_Quoted.l0 k x0 (x0.size : Int) 0)
def lex_Quoted.l0 : Nat → ByteArray → Int → Int → Option (Bool)
 | 0, _, _, _ => none
 | k + 1, x0, x13, x14 => if x14 < x13 then (if 0 ≤ x14 then (if x14 < (x0.size : Int) then ((lex_quotable.f (bt x0 x14)).bind fun t109 => (if t109 = true then (lex_Quoted.l0 k x0 x13 (wrap64 (x14 + 1))) else (some false))) else (none)) else (none)) else (some true)
end
def lex_Quoted.f (k : Nat) (a0 : ByteArray) : Option (Bool) := if (a0.size : Int) < 1 then (lex_Quoted.j0 k a0 true) else (lex_Quoted.j0 k a0 (decide ((a0.size : Int) > 40)))
theorem lex_Quoted.mono_l : ∀ k, (∀ y0 y1, LeO (lex_Quoted.j0 k y0 y1) (lex_Quoted.j0 (k + 1) y0 y1)) ∧ (∀ y0 y1 y2, LeO (lex_Quoted.l0 k y0 y1 y2) (lex_Quoted.l0 (k + 1) y0 y1 y2))
 | 0 => ⟨fun _ _ r h => by simp [lex_Quoted.j0] at h, fun _ _ _ r h => by simp [lex_Quoted.l0] at h⟩
 | k + 1 => by
  obtain ⟨ih0, ih1⟩ := lex_Quoted.mono_l k
  refine ⟨?_, ?_⟩
  ·intro y0 y1
   unfold lex_Quoted.j0
   repeat' first | with_reducible exact ih0 _ _ | with_reducible exact ih1 _ _ _ | with_reducible exact LeO.refl _ | with_reducible exact LeO.none _ | with_reducible refine LeO.ite ?_ ?_ | with_reducible refine LeO.bind ?_ (fun _ => ?_)
  ·intro y0 y1 y2
   unfold lex_Quoted.l0
   repeat' first | with_reducible exact ih0 _ _ | with_reducible exact ih1 _ _ _ | with_reducible exact LeO.refl _ | with_reducible exact LeO.none _ | with_reducible refine LeO.ite ?_ ?_ | with_reducible refine LeO.bind ?_ (fun _ => ?_)
theorem lex_Quoted.mono : ∀ a0 k, LeO (lex_Quoted.f k a0) (lex_Quoted.f (k + 1) a0) := by
 intro a0 k
 obtain ⟨ih0, ih1⟩ := lex_Quoted.mono_l k
 unfold lex_Quoted.f
 repeat' first | with_reducible exact ih0 _ _ | with_reducible exact ih1 _ _ _ | with_reducible exact LeO.refl _ | with_reducible exact LeO.none _ | with_reducible refine LeO.ite ?_ ?_ | with_reducible refine LeO.bind ?_ (fun _ => ?_)
set_option maxHeartbeats 8000000 in
set_option maxRecDepth 100000 in
theorem lex_Quoted.calls (k : Nat) (a0 : ByteArray) (r : Bool) (w : World) (h : lex_Quoted.f k a0 = some r) :
  Calls Try.prog 80 #[.string a0] w fun e w' => e = .returned (.bool r) ∧ Drawn0 w w' := by
 have H := h
 clear h
 unfold lex_Quoted.f at H
 have HC2 := Aside0.mk H
 clear H
 go_enter Try.func80, Try.ntmps80
 go_upto_region 1 with (fail)
 go_cut [11] (fun v11 wc => ∃ (kq : Nat) (x11_1 : Bool), v11 = .bool x11_1 ∧ Aside0 (lex_Quoted.j0 kq a0 x11_1 = some r) ∧ Aside0 (kq ≤ k) ∧ Drawn0 w wc)
 case first =>
  have H := HC2.out
  clear HC2
  by_cases c3 : (a0.size : Int) < 1
  ·rw [if_pos c3] at H
   have c3b0 : decide ((a0.size : Int) < 1) = true := decide_eq_true c3
   have c3b1 : decide (a0.size < 1) = true := decide_eq_true (by omega)
   clear c3
   (skip)
   have H' := Aside0.mk H
   clear H
   go_wp2
   go_meet
   case rel => exact ⟨_, (true), (by rfl), H', ⟨by omega⟩, by repeat (exact Drawn0.refl _)⟩
  ·rw [if_neg c3] at H
   have c3b0 : decide ((a0.size : Int) < 1) = false := decide_eq_false c3
   have c3b1 : decide (a0.size < 1) = false := decide_eq_false (by omega)
   clear c3
   (skip)
   have H' := Aside0.mk H
   clear H
   go_wp2
   go_meet
   case rel => exact ⟨_, (decide ((a0.size : Int) > 40)), (by rfl), H', ⟨by omega⟩, by repeat (exact Drawn0.refl _)⟩
 case rest =>
  clear HC2
  obtain ⟨kq, x11_1, rfl, HA, HJ1, ⟨mc1, rfl⟩⟩ := hcut
  cases kq with
  | zero => exact absurd HA.out (by simp [lex_Quoted.j0])
  | succ kj1 =>
   have H := HA.out
   clear HA
   simp only [lex_Quoted.j0] at H
   replace H := iB H; rcases H with ⟨rfl, H⟩ | ⟨rfl, H⟩
   ·obtain rfl := Option.some.inj H
    go_wp2
    go_ret
    exact ⟨by rfl, by repeat (first | exact Drawn0.refl _ | apply Drawn0.step)⟩
   ·have H' := Aside0.mk H
    clear H
    go_wp2
    go_loopg [14] kj1 (fun kq v14 w' => ∃ (x14_2 : Int), v14 = .int .i64 x14_2 ∧ Aside0 (lex_Quoted.l0 kq a0 (a0.size : Int) x14_2 = some r) ∧ Aside0 (kq ≤ kj1) ∧ Drawn0 w w')
    case atStart => exact ⟨(0), (by rfl), H', ⟨Nat.le_refl _⟩, by repeat (first | exact Drawn0.refl _ | apply Drawn0.step)⟩
    case round =>
     clear H'
     obtain ⟨x14_2, rfl, HA, HK2, ⟨m2, rfl⟩⟩ := hrel
     cases gk with
     | zero => exact absurd HA.out (by simp [lex_Quoted.l0])
     | succ k2 =>
      have H := HA.out
      clear HA
      simp only [lex_Quoted.l0] at H
      replace H := iD H; rcases H with ⟨c5b0, H⟩ | ⟨c5b0, H⟩
      ·replace H := iN H; obtain ⟨c6b0, H⟩ := H
       replace H := iN H; obtain ⟨c7b0, H⟩ := H
       replace H := bN H; obtain ⟨t109, A9, H⟩ := H
       replace H := iB H; rcases H with ⟨rfl, H⟩ | ⟨rfl, H⟩
       ·have H' := Aside0.mk H
        clear H
        have p8 : 0 ≤ (x14_2 : Int) := of_decide_eq_true (by (with_reducible assumption))
        have q8 : x14_2 < (a0.size : Int) := of_decide_eq_true (by (with_reducible assumption))
        have hx8 := bt_at a0 x14_2
        replace p8 := eq_true p8
        replace q8 := eq_true q8
        go_wp2_with ((refine callA (some 20) Try.func50 #[.int .u8 (bt a0 x14_2)] ?_; (with_reducible refine (lex_quotable.calls (bt a0 x14_2) true _ A9.out).mono ?_); rintro e w' ⟨rfl, ⟨nd, rfl⟩⟩; refine ⟨_, rfl, ?_⟩))
        go_roundg k2
        case measure => have := HJ1.out; have := HK2.out; omega
        case rel => exact ⟨(wrap64 (x14_2 + 1)), (by rfl), H', ⟨by have := HJ1.out; have := HK2.out; omega⟩, by repeat (first | exact Drawn0.refl _ | apply Drawn0.step)⟩
       ·obtain rfl := Option.some.inj H
        have p8 : 0 ≤ (x14_2 : Int) := of_decide_eq_true (by (with_reducible assumption))
        have q8 : x14_2 < (a0.size : Int) := of_decide_eq_true (by (with_reducible assumption))
        have hx8 := bt_at a0 x14_2
        replace p8 := eq_true p8
        replace q8 := eq_true q8
        go_wp2_with ((refine callA (some 20) Try.func50 #[.int .u8 (bt a0 x14_2)] ?_; (with_reducible refine (lex_quotable.calls (bt a0 x14_2) false _ A9.out).mono ?_); rintro e w' ⟨rfl, ⟨nd, rfl⟩⟩; refine ⟨_, rfl, ?_⟩))
        go_ret
        exact ⟨by rfl, by repeat (first | exact Drawn0.refl _ | apply Drawn0.step)⟩
      ·obtain rfl := Option.some.inj H
       go_wp2
       go_ret
       exact ⟨by rfl, by repeat (first | exact Drawn0.refl _ | apply Drawn0.step)⟩
end Go.Proofs.Ytlamgdibnnmbmaa.PSyn
end
section
namespace Go.Proofs.Ytlamgdibnnmbmaa.PSyn
open Go.RowKit Go.Proofs.YtlamgdibnnmbmaaW.PrintWords Go.Proofs.YtlamgdibnnmbmaaW.PrintLast Go.Proofs.YtlamgdibnnmbmaaW.PrintMore
attribute [local go_sem] max2_int min2_int max_two min_two max_three min_three max_four min_four
set_option linter.unusedVariables false
set_option linter.unusedSimpArgs false
attribute [local go_sem high] eqA24
mutual
def syntax_fields.j0 : Nat → ByteArray → Bool → Bool → Int → Int → Int → ByteArray → ByteArray → Int → Int → Int → Bool → List (S27) → Option (Int)
 | 0, _, _, _, _, _, _, _, _, _, _, _, _, _ => none
 | k + 1, x0, x6, x18, x113000, x113001, x113002, x113003, x113004, x113005, x113006, x113007, x113008, x113009 => if x18 = true then (some 9) else (if x6 = true then ((bits_Check.f k x113005 x113006 x113007).bind fun t116 => (syntax_fields.j1 k x0 x6 (t116 != 0) x113000 x113001 x113002 x113003 x113004 x113005 x113006 x113007 x113008 x113009)) else (syntax_fields.j1 k x0 x6 false x113000 x113001 x113002 x113003 x113004 x113005 x113006 x113007 x113008 x113009))
def syntax_fields.j1 : Nat → ByteArray → Bool → Bool → Int → Int → Int → ByteArray → ByteArray → Int → Int → Int → Bool → List (S27) → Option (Int)
 | 0, _, _, _, _, _, _, _, _, _, _, _, _, _ => none
 | k + 1, x0, x6, x26, x113000, x113001, x113002, x113003, x113004, x113005, x113006, x113007, x113008, x113009 => if x26 = true then (syntax_fields.j4 k x26 x113000 x113001 x113002 x113003 x113004 x113005 x113006 x113007 x113008 x113009) else (if x6 = true then (syntax_fields.j2 k x0 x6 false x113000 x113001 x113002 x113003 x113004 x113005 x113006 x113007 x113008 x113009) else (syntax_fields.j2 k x0 x6 (!(x113005 == 0) || (!(x113006 == 0) || (!(x113007 == 0)))) x113000 x113001 x113002 x113003 x113004 x113005 x113006 x113007 x113008 x113009))
def syntax_fields.j4 : Nat → Bool → Int → Int → Int → ByteArray → ByteArray → Int → Int → Int → Bool → List (S27) → Option (Int)
 | 0, _, _, _, _, _, _, _, _, _, _, _ => none
 | k + 1, x26, x113000, x113001, x113002, x113003, x113004, x113005, x113006, x113007, x113008, x113009 => if x26 = true then (some 4) else (if (x113004.size : Int) > 200 then (some 3) else (syntax_fields.l0 k (x113004.size : Int) 0 x113000 x113001 x113002 x113003 x113004 x113005 x113006 x113007 x113008 x113009))
def syntax_fields.l0 : Nat → Int → Int → Int → Int → Int → ByteArray → ByteArray → Int → Int → Int → Bool → List (S27) → Option (Int)
 | 0, _, _, _, _, _, _, _, _, _, _, _, _ => none
 | k + 1, x68, x69, x113000, x113001, x113002, x113003, x113004, x113005, x113006, x113007, x113008, x113009 => if x69 < x68 then (if 0 ≤ x69 then (if x69 < (x113004.size : Int) then (if (bt x113004 x69) < 32 then (some 4) else (if (bt x113004 x69) > 126 then (some 4) else (syntax_fields.l0 k x68 (wrap64 (x69 + 1)) x113000 x113001 x113002 x113003 x113004 x113005 x113006 x113007 x113008 x113009))) else (none)) else (none)) else (some 0)
def syntax_fields.j2 : Nat → ByteArray → Bool → Bool → Int → Int → Int → ByteArray → ByteArray → Int → Int → Int → Bool → List (S27) → Option (Int)
 | 0, _, _, _, _, _, _, _, _, _, _, _, _, _ => none
 | k + 1, x0, x6, x26, x113000, x113001, x113002, x113003, x113004, x113005, x113006, x113007, x113008, x113009 => if x26 = true then (syntax_fields.j4 k x26 x113000 x113001 x113002 x113003 x113004 x113005 x113006 x113007 x113008 x113009) else (if x113008 = true then (if x6 = true then (syntax_fields.j3 k x0 false x113000 x113001 x113002 x113003 x113004 x113005 x113006 x113007 x113008 x113009) else ((strings_Contains.f x0 (⟨#[83]⟩ : ByteArray)).bind fun t117 => (syntax_fields.j3 k x0 (!t117) x113000 x113001 x113002 x113003 x113004 x113005 x113006 x113007 x113008 x113009))) else (syntax_fields.j3 k x0 false x113000 x113001 x113002 x113003 x113004 x113005 x113006 x113007 x113008 x113009))
def syntax_fields.j3 : Nat → ByteArray → Bool → Int → Int → Int → ByteArray → ByteArray → Int → Int → Int → Bool → List (S27) → Option (Int)
 | 0, _, _, _, _, _, _, _, _, _, _, _, _ => none
 | k + 1, x0, x26, x113000, x113001, x113002, x113003, x113004, x113005, x113006, x113007, x113008, x113009 => if x26 = true then (syntax_fields.j4 k x26 x113000 x113001 x113002 x113003 x113004 x113005 x113006 x113007 x113008 x113009) else (if x113004.toList = ([] : List UInt8) then (syntax_fields.j4 k false x113000 x113001 x113002 x113003 x113004 x113005 x113006 x113007 x113008 x113009) else ((strings_Contains.f x0 (⟨#[88]⟩ : ByteArray)).bind fun t118 => (syntax_fields.j4 k (!t118) x113000 x113001 x113002 x113003 x113004 x113005 x113006 x113007 x113008 x113009)))
end
def syntax_fields.f (k : Nat) (a0 : ByteArray) (a1_0 : Int) (a1_1 : Int) (a1_2 : Int) (a1_3 : ByteArray) (a1_4 : ByteArray) (a1_5 : Int) (a1_6 : Int) (a1_7 : Int) (a1_8 : Bool) (l1_9 : List (S27)) : Option (Int) := (strings_Contains.f a0 (⟨#[78]⟩ : ByteArray)).bind fun t113 => ((strings_Contains.f a0 (⟨#[86]⟩ : ByteArray)).bind fun t114 => (if (t113 != (a1_3.toList != ([] : List UInt8))) = true then (some 4) else (if t113 = true then ((lex_Quoted.f k a1_3).bind fun t115 => (syntax_fields.j0 k a0 t114 (!t115) a1_0 a1_1 a1_2 a1_3 a1_4 a1_5 a1_6 a1_7 a1_8 l1_9)) else (syntax_fields.j0 k a0 t114 false a1_0 a1_1 a1_2 a1_3 a1_4 a1_5 a1_6 a1_7 a1_8 l1_9))))
theorem syntax_fields.mono_l : ∀ k, (∀ y0 y1 y2 y3 y4 y5 y6 y7 y8 y9 y10 y11 y12, LeO (syntax_fields.j0 k y0 y1 y2 y3 y4 y5 y6 y7 y8 y9 y10 y11 y12) (syntax_fields.j0 (k + 1) y0 y1 y2 y3 y4 y5 y6 y7 y8 y9 y10 y11 y12)) ∧ (∀ y0 y1 y2 y3 y4 y5 y6 y7 y8 y9 y10 y11 y12, LeO (syntax_fields.j1 k y0 y1 y2 y3 y4 y5 y6 y7 y8 y9 y10 y11 y12) (syntax_fields.j1 (k + 1) y0 y1 y2 y3 y4 y5 y6 y7 y8 y9 y10 y11 y12)) ∧ (∀ y0 y1 y2 y3 y4 y5 y6 y7 y8 y9 y10, LeO (syntax_fields.j4 k y0 y1 y2 y3 y4 y5 y6 y7 y8 y9 y10) (syntax_fields.j4 (k + 1) y0 y1 y2 y3 y4 y5 y6 y7 y8 y9 y10)) ∧ (∀ y0 y1 y2 y3 y4 y5 y6 y7 y8 y9 y10 y11, LeO (syntax_fields.l0 k y0 y1 y2 y3 y4 y5 y6 y7 y8 y9 y10 y11) (syntax_fields.l0 (k + 1) y0 y1 y2 y3 y4 y5 y6 y7 y8 y9 y10 y11)) ∧ (∀ y0 y1 y2 y3 y4 y5 y6 y7 y8 y9 y10 y11 y12, LeO (syntax_fields.j2 k y0 y1 y2 y3 y4 y5 y6 y7 y8 y9 y10 y11 y12) (syntax_fields.j2 (k + 1) y0 y1 y2 y3 y4 y5 y6 y7 y8 y9 y10 y11 y12)) ∧ (∀ y0 y1 y2 y3 y4 y5 y6 y7 y8 y9 y10 y11, LeO (syntax_fields.j3 k y0 y1 y2 y3 y4 y5 y6 y7 y8 y9 y10 y11) (syntax_fields.j3 (k + 1) y0 y1 y2 y3 y4 y5 y6 y7 y8 y9 y10 y11))
 | 0 => ⟨fun _ _ _ _ _ _ _ _ _ _ _ _ _ r h => by simp [syntax_fields.j0] at h, fun _ _ _ _ _ _ _ _ _ _ _ _ _ r h => by simp [syntax_fields.j1] at h, fun _ _ _ _ _ _ _ _ _ _ _ r h => by simp [syntax_fields.j4] at h, fun _ _ _ _ _ _ _ _ _ _ _ _ r h => by simp [syntax_fields.l0] at h, fun _ _ _ _ _ _ _ _ _ _ _ _ _ r h => by simp [syntax_fields.j2] at h, fun _ _ _ _ _ _ _ _ _ _ _ _ r h => by simp [syntax_fields.j3] at h⟩
 | k + 1 => by
  obtain ⟨ih0, ih1, ih2, ih3, ih4, ih5⟩ := syntax_fields.mono_l k
  refine ⟨?_, ?_, ?_, ?_, ?_, ?_⟩
  ·intro y0 y1 y2 y3 y4 y5 y6 y7 y8 y9 y10 y11 y12
   unfold syntax_fields.j0
   repeat' first | with_reducible exact ih0 _ _ _ _ _ _ _ _ _ _ _ _ _ | with_reducible exact ih1 _ _ _ _ _ _ _ _ _ _ _ _ _ | with_reducible exact ih2 _ _ _ _ _ _ _ _ _ _ _ | with_reducible exact ih3 _ _ _ _ _ _ _ _ _ _ _ _ | with_reducible exact ih4 _ _ _ _ _ _ _ _ _ _ _ _ _ | with_reducible exact ih5 _ _ _ _ _ _ _ _ _ _ _ _ | with_reducible exact bits_Check.mono _ _ _ _ | with_reducible exact lex_Quoted.mono _ _ | with_reducible exact LeO.refl _ | with_reducible exact LeO.none _ | with_reducible refine LeO.ite ?_ ?_ | with_reducible refine LeO.bind ?_ (fun _ => ?_)
  ·intro y0 y1 y2 y3 y4 y5 y6 y7 y8 y9 y10 y11 y12
   unfold syntax_fields.j1
   repeat' first | with_reducible exact ih0 _ _ _ _ _ _ _ _ _ _ _ _ _ | with_reducible exact ih1 _ _ _ _ _ _ _ _ _ _ _ _ _ | with_reducible exact ih2 _ _ _ _ _ _ _ _ _ _ _ | with_reducible exact ih3 _ _ _ _ _ _ _ _ _ _ _ _ | with_reducible exact ih4 _ _ _ _ _ _ _ _ _ _ _ _ _ | with_reducible exact ih5 _ _ _ _ _ _ _ _ _ _ _ _ | with_reducible exact bits_Check.mono _ _ _ _ | with_reducible exact lex_Quoted.mono _ _ | with_reducible exact LeO.refl _ | with_reducible exact LeO.none _ | with_reducible refine LeO.ite ?_ ?_ | with_reducible refine LeO.bind ?_ (fun _ => ?_)
  ·intro y0 y1 y2 y3 y4 y5 y6 y7 y8 y9 y10
   unfold syntax_fields.j4
   repeat' first | with_reducible exact ih0 _ _ _ _ _ _ _ _ _ _ _ _ _ | with_reducible exact ih1 _ _ _ _ _ _ _ _ _ _ _ _ _ | with_reducible exact ih2 _ _ _ _ _ _ _ _ _ _ _ | with_reducible exact ih3 _ _ _ _ _ _ _ _ _ _ _ _ | with_reducible exact ih4 _ _ _ _ _ _ _ _ _ _ _ _ _ | with_reducible exact ih5 _ _ _ _ _ _ _ _ _ _ _ _ | with_reducible exact bits_Check.mono _ _ _ _ | with_reducible exact lex_Quoted.mono _ _ | with_reducible exact LeO.refl _ | with_reducible exact LeO.none _ | with_reducible refine LeO.ite ?_ ?_ | with_reducible refine LeO.bind ?_ (fun _ => ?_)
  ·intro y0 y1 y2 y3 y4 y5 y6 y7 y8 y9 y10 y11
   unfold syntax_fields.l0
   repeat' first | with_reducible exact ih0 _ _ _ _ _ _ _ _ _ _ _ _ _ | with_reducible exact ih1 _ _ _ _ _ _ _ _ _ _ _ _ _ | with_reducible exact ih2 _ _ _ _ _ _ _ _ _ _ _ | with_reducible exact ih3 _ _ _ _ _ _ _ _ _ _ _ _ | with_reducible exact ih4 _ _ _ _ _ _ _ _ _ _ _ _ _ | with_reducible exact ih5 _ _ _ _ _ _ _ _ _ _ _ _ | with_reducible exact bits_Check.mono _ _ _ _ | with_reducible exact lex_Quoted.mono _ _ | with_reducible exact LeO.refl _ | with_reducible exact LeO.none _ | with_reducible refine LeO.ite ?_ ?_ | with_reducible refine LeO.bind ?_ (fun _ => ?_)
  ·intro y0 y1 y2 y3 y4 y5 y6 y7 y8 y9 y10 y11 y12
   unfold syntax_fields.j2
   repeat' first | with_reducible exact ih0 _ _ _ _ _ _ _ _ _ _ _ _ _ | with_reducible exact ih1 _ _ _ _ _ _ _ _ _ _ _ _ _ | with_reducible exact ih2 _ _ _ _ _ _ _ _ _ _ _ | with_reducible exact ih3 _ _ _ _ _ _ _ _ _ _ _ _ | with_reducible exact ih4 _ _ _ _ _ _ _ _ _ _ _ _ _ | with_reducible exact ih5 _ _ _ _ _ _ _ _ _ _ _ _ | with_reducible exact bits_Check.mono _ _ _ _ | with_reducible exact lex_Quoted.mono _ _ | with_reducible exact LeO.refl _ | with_reducible exact LeO.none _ | with_reducible refine LeO.ite ?_ ?_ | with_reducible refine LeO.bind ?_ (fun _ => ?_)
  ·intro y0 y1 y2 y3 y4 y5 y6 y7 y8 y9 y10 y11
   unfold syntax_fields.j3
   repeat' first | with_reducible exact ih0 _ _ _ _ _ _ _ _ _ _ _ _ _ | with_reducible exact ih1 _ _ _ _ _ _ _ _ _ _ _ _ _ | with_reducible exact ih2 _ _ _ _ _ _ _ _ _ _ _ | with_reducible exact ih3 _ _ _ _ _ _ _ _ _ _ _ _ | with_reducible exact ih4 _ _ _ _ _ _ _ _ _ _ _ _ _ | with_reducible exact ih5 _ _ _ _ _ _ _ _ _ _ _ _ | with_reducible exact bits_Check.mono _ _ _ _ | with_reducible exact lex_Quoted.mono _ _ | with_reducible exact LeO.refl _ | with_reducible exact LeO.none _ | with_reducible refine LeO.ite ?_ ?_ | with_reducible refine LeO.bind ?_ (fun _ => ?_)
theorem syntax_fields.mono : ∀ a0 a1 a2 a3 a4 a5 a6 a7 a8 a9 a10 k, LeO (syntax_fields.f k a0 a1 a2 a3 a4 a5 a6 a7 a8 a9 a10) (syntax_fields.f (k + 1) a0 a1 a2 a3 a4 a5 a6 a7 a8 a9 a10) := by
 intro a0 a1 a2 a3 a4 a5 a6 a7 a8 a9 a10 k
 obtain ⟨ih0, ih1, ih2, ih3, ih4, ih5⟩ := syntax_fields.mono_l k
 unfold syntax_fields.f
 repeat' first | with_reducible exact ih0 _ _ _ _ _ _ _ _ _ _ _ _ _ | with_reducible exact ih1 _ _ _ _ _ _ _ _ _ _ _ _ _ | with_reducible exact ih2 _ _ _ _ _ _ _ _ _ _ _ | with_reducible exact ih3 _ _ _ _ _ _ _ _ _ _ _ _ | with_reducible exact ih4 _ _ _ _ _ _ _ _ _ _ _ _ _ | with_reducible exact ih5 _ _ _ _ _ _ _ _ _ _ _ _ | with_reducible exact bits_Check.mono _ _ _ _ | with_reducible exact lex_Quoted.mono _ _ | with_reducible exact LeO.refl _ | with_reducible exact LeO.none _ | with_reducible refine LeO.ite ?_ ?_ | with_reducible refine LeO.bind ?_ (fun _ => ?_)
set_option maxHeartbeats 8000000 in
set_option maxRecDepth 100000 in
theorem syntax_fields.calls (k : Nat) (a0 : ByteArray) (a1_0 : Int) (a1_1 : Int) (a1_2 : Int) (a1_3 : ByteArray) (a1_4 : ByteArray) (a1_5 : Int) (a1_6 : Int) (a1_7 : Int) (a1_8 : Bool) (A1_9 : Option Addr) (c1_9 : Nat) (l1_9 : List (S27)) (r : Int) (w : World) (hr1_9 : Kd.C k27 w A1_9 l1_9.length l1_9) (hc1_9 : l1_9.length ≤ c1_9) (h : syntax_fields.f k a0 a1_0 a1_1 a1_2 a1_3 a1_4 a1_5 a1_6 a1_7 a1_8 l1_9 = some r) :
  Calls Try.prog 61 #[.string a0, .agg #[.int .i64 a1_0, .int .i64 a1_1, .int .i64 a1_2, .string a1_3, .string a1_4, .int .i64 a1_5, .int .u64 a1_6, .int .u64 a1_7, .bool a1_8, .slice A1_9 l1_9.length c1_9]] w fun e w' => e = .returned (.int .i64 r) ∧ Below w.heap.size w w' := by
 have hu27 := Try.underlying27
 have hu24 := Try.underlying24
 have HR1_9 := Aside0.mk hr1_9
 have HC1_9 := Aside0.mk hc1_9
 clear hr1_9 hc1_9
 have HB := Aside0.mk (Below.refl w.heap.size w)
 have H := h
 clear h
 unfold syntax_fields.f at H
 replace H := bN H; obtain ⟨t113, A3, H⟩ := H
 replace H := bN H; obtain ⟨t114, A4, H⟩ := H
 by_cases c5 : (t113 != (a1_3.toList != ([] : List UInt8))) = true
 ·rw [if_pos c5] at H
  have c5b0 : (t113 != (a1_3.toList != ([] : List UInt8))) = true := c5
  (try (have c5b1 : decide (t113 = (a1_3.toList != ([] : List UInt8))) = false := by simpa using c5))
  (try (have c5b2 : (t113 == (a1_3.toList != ([] : List UInt8))) = false := by simpa using c5))
  (try (have c5b3 : ¬ (t113 = (a1_3.toList != ([] : List UInt8))) := by simpa using c5))
  (try (have c5b4 : (!t113 == !a1_3.toList.isEmpty) = true := sq_bne c5))
  clear c5
  obtain rfl := Option.some.inj H
  go_enter Try.func61, Try.ntmps61
  go_wp2_with (first | (refine boxA HB 3 #[.int .i64 a1_0, .int .i64 a1_1, .int .i64 a1_2, .string a1_3, .string a1_4, .int .i64 a1_5, .int .u64 a1_6, .int .u64 a1_7, .bool a1_8, .slice A1_9 l1_9.length c1_9] 27 ?_; clear HB; intro gb112 w6 BK112 GE112 hg hb HB; clear hb hg) | (refine callA (some 9) Try.func74 #[.string a0, .string (⟨#[78]⟩ : ByteArray)] ?_; (with_reducible refine (strings_Contains.calls a0 (⟨#[78]⟩ : ByteArray) t113 _ A3.out).mono ?_); rintro e w' ⟨rfl, ⟨nd, rfl⟩⟩; refine ⟨_, rfl, ?_⟩) | (refine callA (some 11) Try.func74 #[.string a0, .string (⟨#[86]⟩ : ByteArray)] ?_; (with_reducible refine (strings_Contains.calls a0 (⟨#[86]⟩ : ByteArray) t114 _ A4.out).mono ?_); rintro e w' ⟨rfl, ⟨nd, rfl⟩⟩; refine ⟨_, rfl, ?_⟩; have hcz7_0 : w6.cell? ⟨gb112, 0, none⟩ = some (.int .i64 a1_0) := (blk_cell BK112.out 0).trans rfl; have hcz7_1 : w6.cell? ⟨gb112, 1, none⟩ = some (.int .i64 a1_1) := (blk_cell BK112.out 1).trans rfl; have hcz7_2 : w6.cell? ⟨gb112, 2, none⟩ = some (.int .i64 a1_2) := (blk_cell BK112.out 2).trans rfl; have hcz7_3 : w6.cell? ⟨gb112, 3, none⟩ = some (.string a1_3) := (blk_cell BK112.out 3).trans rfl; have hcz7_4 : w6.cell? ⟨gb112, 4, none⟩ = some (.string a1_4) := (blk_cell BK112.out 4).trans rfl; have hcz7_5 : w6.cell? ⟨gb112, 5, none⟩ = some (.int .i64 a1_5) := (blk_cell BK112.out 5).trans rfl; have hcz7_6 : w6.cell? ⟨gb112, 6, none⟩ = some (.int .u64 a1_6) := (blk_cell BK112.out 6).trans rfl; have hcz7_7 : w6.cell? ⟨gb112, 7, none⟩ = some (.int .u64 a1_7) := (blk_cell BK112.out 7).trans rfl; have hcz7_8 : w6.cell? ⟨gb112, 8, none⟩ = some (.bool a1_8) := (blk_cell BK112.out 8).trans rfl; have hcz7_9 : w6.cell? ⟨gb112, 9, none⟩ = some (.slice A1_9 l1_9.length c1_9) := (blk_cell BK112.out 9).trans rfl; have hfz7_0 := blk_frozen BK112.out 0; have hfz7_1 := blk_frozen BK112.out 1; have hfz7_2 := blk_frozen BK112.out 2; have hfz7_3 := blk_frozen BK112.out 3; have hfz7_4 := blk_frozen BK112.out 4; have hfz7_5 := blk_frozen BK112.out 5; have hfz7_6 := blk_frozen BK112.out 6; have hfz7_7 := blk_frozen BK112.out 7; have hfz7_8 := blk_frozen BK112.out 8; have hfz7_9 := blk_frozen BK112.out 9))
  go_ret
  exact ⟨by rfl, by repeat (with_reducible first | exact HB.out | apply pw_below_drewN)⟩
 ·rw [if_neg c5] at H
  have c5b0 : (t113 != (a1_3.toList != ([] : List UInt8))) = false := by simpa using c5
  (try (have c5b1 : decide (t113 = (a1_3.toList != ([] : List UInt8))) = true := by simpa using c5))
  (try (have c5b2 : (t113 == (a1_3.toList != ([] : List UInt8))) = true := by simpa using c5))
  (try (have c5b3 : (!t113 == !a1_3.toList.isEmpty) = false := sq_bne (Bool.eq_false_iff.mpr c5)))
  clear c5
  have HC8 := Aside0.mk H
  clear H
  go_enter Try.func61, Try.ntmps61
  go_upto_region 4 with (first | (refine boxA HB 3 #[.int .i64 a1_0, .int .i64 a1_1, .int .i64 a1_2, .string a1_3, .string a1_4, .int .i64 a1_5, .int .u64 a1_6, .int .u64 a1_7, .bool a1_8, .slice A1_9 l1_9.length c1_9] 27 ?_; clear HB; intro gb112 w9 BK112 GE112 hg hb HB; clear hb hg) | (refine callA (some 9) Try.func74 #[.string a0, .string (⟨#[78]⟩ : ByteArray)] ?_; (with_reducible refine (strings_Contains.calls a0 (⟨#[78]⟩ : ByteArray) t113 _ A3.out).mono ?_); rintro e w' ⟨rfl, ⟨nd, rfl⟩⟩; refine ⟨_, rfl, ?_⟩) | (refine callA (some 11) Try.func74 #[.string a0, .string (⟨#[86]⟩ : ByteArray)] ?_; (with_reducible refine (strings_Contains.calls a0 (⟨#[86]⟩ : ByteArray) t114 _ A4.out).mono ?_); rintro e w' ⟨rfl, ⟨nd, rfl⟩⟩; refine ⟨_, rfl, ?_⟩; have hcz10_0 : w9.cell? ⟨gb112, 0, none⟩ = some (.int .i64 a1_0) := (blk_cell BK112.out 0).trans rfl; have hcz10_1 : w9.cell? ⟨gb112, 1, none⟩ = some (.int .i64 a1_1) := (blk_cell BK112.out 1).trans rfl; have hcz10_2 : w9.cell? ⟨gb112, 2, none⟩ = some (.int .i64 a1_2) := (blk_cell BK112.out 2).trans rfl; have hcz10_3 : w9.cell? ⟨gb112, 3, none⟩ = some (.string a1_3) := (blk_cell BK112.out 3).trans rfl; have hcz10_4 : w9.cell? ⟨gb112, 4, none⟩ = some (.string a1_4) := (blk_cell BK112.out 4).trans rfl; have hcz10_5 : w9.cell? ⟨gb112, 5, none⟩ = some (.int .i64 a1_5) := (blk_cell BK112.out 5).trans rfl; have hcz10_6 : w9.cell? ⟨gb112, 6, none⟩ = some (.int .u64 a1_6) := (blk_cell BK112.out 6).trans rfl; have hcz10_7 : w9.cell? ⟨gb112, 7, none⟩ = some (.int .u64 a1_7) := (blk_cell BK112.out 7).trans rfl; have hcz10_8 : w9.cell? ⟨gb112, 8, none⟩ = some (.bool a1_8) := (blk_cell BK112.out 8).trans rfl; have hcz10_9 : w9.cell? ⟨gb112, 9, none⟩ = some (.slice A1_9 l1_9.length c1_9) := (blk_cell BK112.out 9).trans rfl; have hfz10_0 := blk_frozen BK112.out 0; have hfz10_1 := blk_frozen BK112.out 1; have hfz10_2 := blk_frozen BK112.out 2; have hfz10_3 := blk_frozen BK112.out 3; have hfz10_4 := blk_frozen BK112.out 4; have hfz10_5 := blk_frozen BK112.out 5; have hfz10_6 := blk_frozen BK112.out 6; have hfz10_7 := blk_frozen BK112.out 7; have hfz10_8 := blk_frozen BK112.out 8; have hfz10_9 := blk_frozen BK112.out 9))
  go_cut [18] (fun v18 wc => ∃ (kq : Nat) (x18_7 : Bool), v18 = .bool x18_7 ∧ Aside0 (syntax_fields.j0 kq a0 t114 x18_7 a1_0 a1_1 a1_2 a1_3 a1_4 a1_5 a1_6 a1_7 a1_8 l1_9 = some r) ∧ Aside0 (kq ≤ k) ∧ Aside0 (wc.heap[gb112]? = some (.cells #[.int .i64 a1_0, .int .i64 a1_1, .int .i64 a1_2, .string a1_3, .string a1_4, .int .i64 a1_5, .int .u64 a1_6, .int .u64 a1_7, .bool a1_8, (.slice A1_9 l1_9.length c1_9)] 27 (0, 0))) ∧ Aside0 (Below w.heap.size w wc))
  case first =>
   have H := HC8.out
   clear HC8
   replace H := iB H; rcases H with ⟨rfl, H⟩ | ⟨rfl, H⟩
   ·replace H := bN H; obtain ⟨t115, A12, H⟩ := H
    have H' := Aside0.mk H
    clear H
    obtain ⟨hcz13_0, hcz13_1, hcz13_2, hcz13_3, hcz13_4, hcz13_5, hcz13_6, hcz13_7, hcz13_8, hcz13_9⟩ := sq_cells10 (W := w9) (g := gb112) BK112.out; obtain ⟨hfz13_0, hfz13_1, hfz13_2, hfz13_3, hfz13_4, hfz13_5, hfz13_6, hfz13_7, hfz13_8, hfz13_9⟩ := sq_frozen10 BK112.out
    go_wp2_with ((go_at_call 80; (with_reducible refine (lex_Quoted.calls k a1_3 t115 _ A12.out).mono ?_); rintro e w' ⟨rfl, ⟨nd, rfl⟩⟩))
    go_meet
    case rel => exact ⟨_, (!t115), (by rfl), H', ⟨by omega⟩, ⟨by (with_reducible repeat (refine blk_drewN ?_ _)); exact BK112.out⟩, ⟨by repeat (with_reducible first | exact HB.out | apply pw_below_drewN)⟩⟩
   ·have H' := Aside0.mk H
    clear H
    go_wp2
    go_meet
    case rel => exact ⟨_, (false), (by rfl), H', ⟨by omega⟩, ⟨by (with_reducible repeat (refine blk_drewN ?_ _)); exact BK112.out⟩, ⟨by repeat (with_reducible first | exact HB.out | apply pw_below_drewN)⟩⟩
  case rest =>
   clear HC8
   (try clear c5b0); (try clear c5b1); (try clear c5b2); (try clear hcz10_0 hcz10_1 hcz10_2 hcz10_3 hcz10_4 hcz10_5 hcz10_6 hcz10_7 hcz10_8 hcz10_9); (try clear hfz10_0 hfz10_1 hfz10_2 hfz10_3 hfz10_4 hfz10_5 hfz10_6 hfz10_7 hfz10_8 hfz10_9)
   obtain ⟨kq, x18_7, rfl, HA, HJ7, BK112, HB⟩ := hcut
   cases kq with
   | zero => exact absurd HA.out (by simp [syntax_fields.j0])
   | succ kj7 =>
    have H := HA.out
    clear HA
    simp only [syntax_fields.j0] at H
    replace H := iB H; rcases H with ⟨rfl, H⟩ | ⟨rfl, H⟩
    ·obtain rfl := Option.some.inj H
     go_wp2
     go_ret
     exact ⟨by rfl, by repeat (with_reducible exact HB.out)⟩
    ·have HC15 := Aside0.mk H
     clear H
     go_upto_region 6 with (fail)
     go_cut [26] (fun v26 wc => ∃ (kq : Nat) (x26_14 : Bool), v26 = .bool x26_14 ∧ Aside0 (syntax_fields.j1 kq a0 t114 x26_14 a1_0 a1_1 a1_2 a1_3 a1_4 a1_5 a1_6 a1_7 a1_8 l1_9 = some r) ∧ Aside0 (kq ≤ kj7) ∧ Aside0 (wc.heap[gb112]? = some (.cells #[.int .i64 a1_0, .int .i64 a1_1, .int .i64 a1_2, .string a1_3, .string a1_4, .int .i64 a1_5, .int .u64 a1_6, .int .u64 a1_7, .bool a1_8, (.slice A1_9 l1_9.length c1_9)] 27 (0, 0))) ∧ Aside0 (Below w.heap.size w wc))
     case first =>
      have H := HC15.out
      clear HC15
      replace H := iB H; rcases H with ⟨rfl, H⟩ | ⟨rfl, H⟩
      ·replace H := bN H; obtain ⟨t116, A17, H⟩ := H
       have H' := Aside0.mk H
       clear H
       obtain ⟨hcz18_0, hcz18_1, hcz18_2, hcz18_3, hcz18_4, hcz18_5, hcz18_6, hcz18_7, hcz18_8, hcz18_9⟩ := sq_cells10 (W := wc) (g := gb112) BK112.out; obtain ⟨hfz18_0, hfz18_1, hfz18_2, hfz18_3, hfz18_4, hfz18_5, hfz18_6, hfz18_7, hfz18_8, hfz18_9⟩ := sq_frozen10 BK112.out
       go_wp2_with ((go_at_call 81; (with_reducible refine (bits_Check.calls kj7 a1_5 a1_6 a1_7 t116 _ A17.out).mono ?_); rintro e w19 ⟨rfl, hb⟩; replace BK112 := bk1 BK112 hb; replace HB := hb1 HB hb; (try clear hb)))
       go_meet
       case rel => exact ⟨_, (t116 != 0), (by rfl), H', ⟨by have := HJ7.out; omega⟩, ⟨by exact BK112.out⟩, ⟨by repeat (with_reducible exact HB.out)⟩⟩
      ·have H' := Aside0.mk H
       clear H
       go_wp2
       go_meet
       case rel => exact ⟨_, (false), (by rfl), H', ⟨by have := HJ7.out; omega⟩, ⟨by exact BK112.out⟩, ⟨by repeat (with_reducible exact HB.out)⟩⟩
     case rest =>
      clear HC15
      obtain ⟨kq, x26_14, rfl, HA, HJ14, BK112, HB⟩ := hcut
      cases kq with
      | zero => exact absurd HA.out (by simp [syntax_fields.j1])
      | succ kj14 =>
       have H := HA.out
       clear HA
       simp only [syntax_fields.j1] at H
       have HC20 := Aside0.mk H
       clear H
       go_upto_if 26 with (fail)
       go_cut [26] (fun v26 wc => ∃ (kq : Nat) (x26_19 : Bool), v26 = .bool x26_19 ∧ Aside0 (syntax_fields.j4 kq x26_19 a1_0 a1_1 a1_2 a1_3 a1_4 a1_5 a1_6 a1_7 a1_8 l1_9 = some r) ∧ Aside0 (kq ≤ kj14) ∧ Aside0 (wc.heap[gb112]? = some (.cells #[.int .i64 a1_0, .int .i64 a1_1, .int .i64 a1_2, .string a1_3, .string a1_4, .int .i64 a1_5, .int .u64 a1_6, .int .u64 a1_7, .bool a1_8, (.slice A1_9 l1_9.length c1_9)] 27 (0, 0))) ∧ Aside0 (Below w.heap.size w wc))
       case first =>
        have H := HC20.out
        clear HC20
        replace H := iB H; rcases H with ⟨rfl, H⟩ | ⟨rfl, H⟩
        ·have H' := Aside0.mk H
         clear H
         go_wp2
         go_meet
         case rel => exact ⟨_, (true), (by rfl), H', ⟨by have := HJ7.out; have := HJ14.out; omega⟩, ⟨by exact BK112.out⟩, ⟨by repeat (with_reducible exact HB.out)⟩⟩
        ·have HC22 := Aside0.mk H
         clear H
         go_upto_region 7 with (fail)
         go_cut [26] (fun v26 wc => ∃ (kq : Nat) (x26_21 : Bool), v26 = .bool x26_21 ∧ Aside0 (syntax_fields.j2 kq a0 t114 x26_21 a1_0 a1_1 a1_2 a1_3 a1_4 a1_5 a1_6 a1_7 a1_8 l1_9 = some r) ∧ Aside0 (kq ≤ kj14) ∧ Aside0 (wc.heap[gb112]? = some (.cells #[.int .i64 a1_0, .int .i64 a1_1, .int .i64 a1_2, .string a1_3, .string a1_4, .int .i64 a1_5, .int .u64 a1_6, .int .u64 a1_7, .bool a1_8, (.slice A1_9 l1_9.length c1_9)] 27 (0, 0))) ∧ Aside0 (Below w.heap.size w wc))
         case first =>
          have H := HC22.out
          clear HC22
          replace H := iB H; rcases H with ⟨rfl, H⟩ | ⟨rfl, H⟩
          ·have H' := Aside0.mk H
           clear H
           go_wp2
           go_meet
           case rel => exact ⟨_, (false), (by rfl), H', ⟨by have := HJ7.out; have := HJ14.out; omega⟩, ⟨by exact BK112.out⟩, ⟨by repeat (with_reducible exact HB.out)⟩⟩
          ·have H' := Aside0.mk H
           clear H
           obtain ⟨hcz24_0, hcz24_1, hcz24_2, hcz24_3, hcz24_4, hcz24_5, hcz24_6, hcz24_7, hcz24_8, hcz24_9⟩ := sq_cells10 (W := wc) (g := gb112) BK112.out; obtain ⟨hfz24_0, hfz24_1, hfz24_2, hfz24_3, hfz24_4, hfz24_5, hfz24_6, hfz24_7, hfz24_8, hfz24_9⟩ := sq_frozen10 BK112.out
           go_wp2
           go_meet
           case rel => exact ⟨_, ((!(a1_5 == 0) || (!(a1_6 == 0) || (!(a1_7 == 0))))), (by rfl), H', ⟨by have := HJ7.out; have := HJ14.out; omega⟩, ⟨by exact BK112.out⟩, ⟨by repeat (with_reducible exact HB.out)⟩⟩
         case rest =>
          clear HC22
          obtain ⟨kq, x26_21, rfl, HA, HJ21, BK112, HB⟩ := hcut
          cases kq with
          | zero => exact absurd HA.out (by simp [syntax_fields.j2])
          | succ kj21 =>
           have H := HA.out
           clear HA
           simp only [syntax_fields.j2] at H
           replace H := iB H; rcases H with ⟨rfl, H⟩ | ⟨rfl, H⟩
           ·have H' := Aside0.mk H
            clear H
            go_wp2
            go_meet
            case rel => exact ⟨_, (true), (by rfl), H', ⟨by have := HJ7.out; have := HJ14.out; have := HJ21.out; omega⟩, ⟨by exact BK112.out⟩, ⟨by repeat (with_reducible exact HB.out)⟩⟩
           ·have HC26 := Aside0.mk H
            clear H
            go_upto_region 8 with (fail)
            go_cut [26] (fun v26 wc => ∃ (kq : Nat) (x26_25 : Bool), v26 = .bool x26_25 ∧ Aside0 (syntax_fields.j3 kq a0 x26_25 a1_0 a1_1 a1_2 a1_3 a1_4 a1_5 a1_6 a1_7 a1_8 l1_9 = some r) ∧ Aside0 (kq ≤ kj21) ∧ Aside0 (wc.heap[gb112]? = some (.cells #[.int .i64 a1_0, .int .i64 a1_1, .int .i64 a1_2, .string a1_3, .string a1_4, .int .i64 a1_5, .int .u64 a1_6, .int .u64 a1_7, .bool a1_8, (.slice A1_9 l1_9.length c1_9)] 27 (0, 0))) ∧ Aside0 (Below w.heap.size w wc))
            case first =>
             have H := HC26.out
             clear HC26
             replace H := iB H; rcases H with ⟨rfl, H⟩ | ⟨rfl, H⟩
             ·replace H := iB H; rcases H with ⟨rfl, H⟩ | ⟨rfl, H⟩
              ·have H' := Aside0.mk H
               clear H
               obtain ⟨hcz29_0, hcz29_1, hcz29_2, hcz29_3, hcz29_4, hcz29_5, hcz29_6, hcz29_7, hcz29_8, hcz29_9⟩ := sq_cells10 (W := wc) (g := gb112) BK112.out; obtain ⟨hfz29_0, hfz29_1, hfz29_2, hfz29_3, hfz29_4, hfz29_5, hfz29_6, hfz29_7, hfz29_8, hfz29_9⟩ := sq_frozen10 BK112.out
               go_wp2
               go_meet
               case rel => exact ⟨_, (false), (by rfl), H', ⟨by have := HJ7.out; have := HJ14.out; have := HJ21.out; omega⟩, ⟨by exact BK112.out⟩, ⟨by repeat (with_reducible exact HB.out)⟩⟩
              ·replace H := bN H; obtain ⟨t117, A30, H⟩ := H
               have H' := Aside0.mk H
               clear H
               obtain ⟨hcz31_0, hcz31_1, hcz31_2, hcz31_3, hcz31_4, hcz31_5, hcz31_6, hcz31_7, hcz31_8, hcz31_9⟩ := sq_cells10 (W := wc) (g := gb112) BK112.out; obtain ⟨hfz31_0, hfz31_1, hfz31_2, hfz31_3, hfz31_4, hfz31_5, hfz31_6, hfz31_7, hfz31_8, hfz31_9⟩ := sq_frozen10 BK112.out
               go_wp2_with ((go_at_call 74; (with_reducible refine (strings_Contains.calls a0 (⟨#[83]⟩ : ByteArray) t117 _ A30.out).mono ?_); rintro e w' ⟨rfl, ⟨nd, rfl⟩⟩))
               go_meet
               case rel => exact ⟨_, (!t117), (by rfl), H', ⟨by have := HJ7.out; have := HJ14.out; have := HJ21.out; omega⟩, ⟨by (with_reducible repeat (refine blk_drewN ?_ _)); exact BK112.out⟩, ⟨by repeat (with_reducible first | exact HB.out | apply pw_below_drewN)⟩⟩
             ·have H' := Aside0.mk H
              clear H
              obtain ⟨hcz32_0, hcz32_1, hcz32_2, hcz32_3, hcz32_4, hcz32_5, hcz32_6, hcz32_7, hcz32_8, hcz32_9⟩ := sq_cells10 (W := wc) (g := gb112) BK112.out; obtain ⟨hfz32_0, hfz32_1, hfz32_2, hfz32_3, hfz32_4, hfz32_5, hfz32_6, hfz32_7, hfz32_8, hfz32_9⟩ := sq_frozen10 BK112.out
              go_wp2
              go_meet
              case rel => exact ⟨_, (false), (by rfl), H', ⟨by have := HJ7.out; have := HJ14.out; have := HJ21.out; omega⟩, ⟨by exact BK112.out⟩, ⟨by repeat (with_reducible exact HB.out)⟩⟩
            case rest =>
             clear HC26
             obtain ⟨kq, x26_25, rfl, HA, HJ25, BK112, HB⟩ := hcut
             cases kq with
             | zero => exact absurd HA.out (by simp [syntax_fields.j3])
             | succ kj25 =>
              have H := HA.out
              clear HA
              simp only [syntax_fields.j3] at H
              replace H := iB H; rcases H with ⟨rfl, H⟩ | ⟨rfl, H⟩
              ·have H' := Aside0.mk H
               clear H
               go_wp2
               go_meet
               case rel => exact ⟨_, (true), (by rfl), H', ⟨by have := HJ7.out; have := HJ14.out; have := HJ21.out; have := HJ25.out; omega⟩, ⟨by exact BK112.out⟩, ⟨by repeat (with_reducible exact HB.out)⟩⟩
              ·replace H := iE H; rcases H with ⟨c34b0, c34b1, H⟩ | ⟨c34, c34b0, c34b1, H⟩
               ·have H' := Aside0.mk H
                clear H
                obtain ⟨hcz35_0, hcz35_1, hcz35_2, hcz35_3, hcz35_4, hcz35_5, hcz35_6, hcz35_7, hcz35_8, hcz35_9⟩ := sq_cells10 (W := wc) (g := gb112) BK112.out; obtain ⟨hfz35_0, hfz35_1, hfz35_2, hfz35_3, hfz35_4, hfz35_5, hfz35_6, hfz35_7, hfz35_8, hfz35_9⟩ := sq_frozen10 BK112.out
                go_wp2
                go_meet
                case rel => exact ⟨_, (false), (by rfl), H', ⟨by have := HJ7.out; have := HJ14.out; have := HJ21.out; have := HJ25.out; omega⟩, ⟨by exact BK112.out⟩, ⟨by repeat (with_reducible exact HB.out)⟩⟩
               ·replace H := bN H; obtain ⟨t118, A36, H⟩ := H
                have H' := Aside0.mk H
                clear H
                obtain ⟨hcz37_0, hcz37_1, hcz37_2, hcz37_3, hcz37_4, hcz37_5, hcz37_6, hcz37_7, hcz37_8, hcz37_9⟩ := sq_cells10 (W := wc) (g := gb112) BK112.out; obtain ⟨hfz37_0, hfz37_1, hfz37_2, hfz37_3, hfz37_4, hfz37_5, hfz37_6, hfz37_7, hfz37_8, hfz37_9⟩ := sq_frozen10 BK112.out
                go_wp2_with ((go_at_call 74; (with_reducible refine (strings_Contains.calls a0 (⟨#[88]⟩ : ByteArray) t118 _ A36.out).mono ?_); rintro e w' ⟨rfl, ⟨nd, rfl⟩⟩))
                go_meet
                case rel => exact ⟨_, (!t118), (by rfl), H', ⟨by have := HJ7.out; have := HJ14.out; have := HJ21.out; have := HJ25.out; omega⟩, ⟨by (with_reducible repeat (refine blk_drewN ?_ _)); exact BK112.out⟩, ⟨by repeat (with_reducible first | exact HB.out | apply pw_below_drewN)⟩⟩
       case rest =>
        clear HC20
        obtain ⟨kq, x26_19, rfl, HA, HJ19, BK112, HB⟩ := hcut
        cases kq with
        | zero => exact absurd HA.out (by simp [syntax_fields.j4])
        | succ kj19 =>
         have H := HA.out
         clear HA
         simp only [syntax_fields.j4] at H
         replace H := iB H; rcases H with ⟨rfl, H⟩ | ⟨rfl, H⟩
         ·obtain rfl := Option.some.inj H
          go_wp2
          go_ret
          exact ⟨by rfl, by repeat (with_reducible exact HB.out)⟩
         ·by_cases c39 : (a1_4.size : Int) > 200
          ·rw [if_pos c39] at H
           have c39b0 : decide (200 < (a1_4.size : Int)) = true := decide_eq_true c39
           have c39b1 : decide (200 < a1_4.size) = true := decide_eq_true (by omega)
           clear c39
           obtain rfl := Option.some.inj H
           obtain ⟨hcz40_0, hcz40_1, hcz40_2, hcz40_3, hcz40_4, hcz40_5, hcz40_6, hcz40_7, hcz40_8, hcz40_9⟩ := sq_cells10 (W := wc) (g := gb112) BK112.out; obtain ⟨hfz40_0, hfz40_1, hfz40_2, hfz40_3, hfz40_4, hfz40_5, hfz40_6, hfz40_7, hfz40_8, hfz40_9⟩ := sq_frozen10 BK112.out
           go_wp2
           go_ret
           exact ⟨by rfl, by repeat (with_reducible exact HB.out)⟩
          ·rw [if_neg c39] at H
           have c39b0 : decide (200 < (a1_4.size : Int)) = false := decide_eq_false c39
           have c39b1 : decide (200 < a1_4.size) = false := decide_eq_false (by omega)
           clear c39
           have H' := Aside0.mk H
           clear H
           obtain ⟨hcz41_0, hcz41_1, hcz41_2, hcz41_3, hcz41_4, hcz41_5, hcz41_6, hcz41_7, hcz41_8, hcz41_9⟩ := sq_cells10 (W := wc) (g := gb112) BK112.out; obtain ⟨hfz41_0, hfz41_1, hfz41_2, hfz41_3, hfz41_4, hfz41_5, hfz41_6, hfz41_7, hfz41_8, hfz41_9⟩ := sq_frozen10 BK112.out
           go_wp2
           go_loopg [69] kj19 (fun kq v69 w' => ∃ (x69_4 : Int), v69 = .int .i64 x69_4 ∧ Aside0 (syntax_fields.l0 kq (a1_4.size : Int) x69_4 a1_0 a1_1 a1_2 a1_3 a1_4 a1_5 a1_6 a1_7 a1_8 l1_9 = some r) ∧ Aside0 (kq ≤ kj19) ∧ Aside0 (w'.heap[gb112]? = some (.cells #[.int .i64 a1_0, .int .i64 a1_1, .int .i64 a1_2, .string a1_3, .string a1_4, .int .i64 a1_5, .int .u64 a1_6, .int .u64 a1_7, .bool a1_8, (.slice A1_9 l1_9.length c1_9)] 27 (0, 0))) ∧ Aside0 (Below w.heap.size w w'))
           case atStart => exact ⟨(0), (by rfl), H', ⟨Nat.le_refl _⟩, ⟨by exact BK112.out⟩, ⟨by repeat (with_reducible exact HB.out)⟩⟩
           case round =>
            clear H'
            (try clear c39b0); (try clear c39b1); (try clear hcz41_0 hcz41_1 hcz41_2 hcz41_3 hcz41_4 hcz41_5 hcz41_6 hcz41_7 hcz41_8 hcz41_9); (try clear hfz41_0 hfz41_1 hfz41_2 hfz41_3 hfz41_4 hfz41_5 hfz41_6 hfz41_7 hfz41_8 hfz41_9)
            obtain ⟨x69_4, rfl, HA, HK4, BK112, HB⟩ := hrel
            cases gk with
            | zero => exact absurd HA.out (by simp [syntax_fields.l0])
            | succ k4 =>
             have H := HA.out
             clear HA
             simp only [syntax_fields.l0] at H
             replace H := iD H; rcases H with ⟨c42b0, H⟩ | ⟨c42b0, H⟩
             ·replace H := iN H; obtain ⟨c43b0, H⟩ := H
              replace H := iN H; obtain ⟨c44b0, H⟩ := H
              replace H := iD H; rcases H with ⟨c46b0, H⟩ | ⟨c46b0, H⟩
              ·obtain rfl := Option.some.inj H
               obtain ⟨hcz47_0, hcz47_1, hcz47_2, hcz47_3, hcz47_4, hcz47_5, hcz47_6, hcz47_7, hcz47_8, hcz47_9⟩ := sq_cells10 (W := wr) (g := gb112) BK112.out; obtain ⟨hfz47_0, hfz47_1, hfz47_2, hfz47_3, hfz47_4, hfz47_5, hfz47_6, hfz47_7, hfz47_8, hfz47_9⟩ := sq_frozen10 BK112.out
               have p45 : 0 ≤ (x69_4 : Int) := of_decide_eq_true (by (with_reducible assumption))
               have q45 : x69_4 < (a1_4.size : Int) := of_decide_eq_true (by (with_reducible assumption))
               have hx45 := bt_at a1_4 x69_4
               replace p45 := eq_true p45
               replace q45 := eq_true q45
               go_wp2
               go_ret
               exact ⟨by rfl, by repeat (with_reducible exact HB.out)⟩
              ·replace H := iD H; rcases H with ⟨c49b0, H⟩ | ⟨c49b0, H⟩
               ·replace c49b0 : decide (126 < (bt a1_4 x69_4)) = true := c49b0
                obtain rfl := Option.some.inj H
                obtain ⟨hcz50_0, hcz50_1, hcz50_2, hcz50_3, hcz50_4, hcz50_5, hcz50_6, hcz50_7, hcz50_8, hcz50_9⟩ := sq_cells10 (W := wr) (g := gb112) BK112.out; obtain ⟨hfz50_0, hfz50_1, hfz50_2, hfz50_3, hfz50_4, hfz50_5, hfz50_6, hfz50_7, hfz50_8, hfz50_9⟩ := sq_frozen10 BK112.out
                have p45 : 0 ≤ (x69_4 : Int) := of_decide_eq_true (by (with_reducible assumption))
                have q45 : x69_4 < (a1_4.size : Int) := of_decide_eq_true (by (with_reducible assumption))
                have hx45 := bt_at a1_4 x69_4
                replace p45 := eq_true p45
                replace q45 := eq_true q45
                have p48 : 0 ≤ (x69_4 : Int) := of_decide_eq_true (by (with_reducible assumption))
                have q48 : x69_4 < (a1_4.size : Int) := of_decide_eq_true (by (with_reducible assumption))
                have hx48 := bt_at a1_4 x69_4
                replace p48 := eq_true p48
                replace q48 := eq_true q48
                go_wp2
                go_ret
                exact ⟨by rfl, by repeat (with_reducible exact HB.out)⟩
               ·replace c49b0 : decide (126 < (bt a1_4 x69_4)) = false := c49b0
                have H' := Aside0.mk H
                clear H
                obtain ⟨hcz51_0, hcz51_1, hcz51_2, hcz51_3, hcz51_4, hcz51_5, hcz51_6, hcz51_7, hcz51_8, hcz51_9⟩ := sq_cells10 (W := wr) (g := gb112) BK112.out; obtain ⟨hfz51_0, hfz51_1, hfz51_2, hfz51_3, hfz51_4, hfz51_5, hfz51_6, hfz51_7, hfz51_8, hfz51_9⟩ := sq_frozen10 BK112.out
                have p45 : 0 ≤ (x69_4 : Int) := of_decide_eq_true (by (with_reducible assumption))
                have q45 : x69_4 < (a1_4.size : Int) := of_decide_eq_true (by (with_reducible assumption))
                have hx45 := bt_at a1_4 x69_4
                replace p45 := eq_true p45
                replace q45 := eq_true q45
                have p48 : 0 ≤ (x69_4 : Int) := of_decide_eq_true (by (with_reducible assumption))
                have q48 : x69_4 < (a1_4.size : Int) := of_decide_eq_true (by (with_reducible assumption))
                have hx48 := bt_at a1_4 x69_4
                replace p48 := eq_true p48
                replace q48 := eq_true q48
                go_wp2
                go_roundg k4
                case measure => have := HJ7.out; have := HJ14.out; have := HJ19.out; have := HK4.out; omega
                case rel => exact ⟨(wrap64 (x69_4 + 1)), (by rfl), H', ⟨by have := HJ7.out; have := HJ14.out; have := HJ19.out; have := HK4.out; omega⟩, ⟨by exact BK112.out⟩, ⟨by repeat (with_reducible exact HB.out)⟩⟩
             ·obtain rfl := Option.some.inj H
              go_wp2
              go_ret
              exact ⟨by rfl, by repeat (with_reducible exact HB.out)⟩
end Go.Proofs.Ytlamgdibnnmbmaa.PSyn
end
section
namespace Go.Proofs.Ytlamgdibnnmbmaa.PSyn
open Go.RowKit Go.Proofs.YtlamgdibnnmbmaaW.PrintWords Go.Proofs.YtlamgdibnnmbmaaW.PrintLast Go.Proofs.YtlamgdibnnmbmaaW.PrintMore
attribute [local go_sem] max2_int min2_int max_two min_two max_three min_three max_four min_four
set_option linter.unusedVariables false
set_option linter.unusedSimpArgs false
attribute [local go_sem high] eqA24
def syntax_bare.f (a0_0 : Int) (a0_1 : Int) (a0_2 : Int) (a0_3 : ByteArray) (a0_4 : ByteArray) (a0_5 : Int) (a0_6 : Int) (a0_7 : Int) (a0_8 : Bool) (l0_9 : List (S27)) : Option (Bool) := if a0_3.toList = ([] : List UInt8) then (if a0_4.toList = ([] : List UInt8) then (if (a0_5 == 0 && (a0_6 == 0 && (a0_7 == 0))) = true then (if a0_8 = true then (some false) else (some ((l0_9.length : Int) == 0))) else (some false)) else (some false)) else (some false)
set_option maxHeartbeats 8000000 in
set_option maxRecDepth 100000 in
theorem syntax_bare.calls (a0_0 : Int) (a0_1 : Int) (a0_2 : Int) (a0_3 : ByteArray) (a0_4 : ByteArray) (a0_5 : Int) (a0_6 : Int) (a0_7 : Int) (a0_8 : Bool) (A0_9 : Option Addr) (c0_9 : Nat) (l0_9 : List (S27)) (r : Bool) (w : World) (hr0_9 : Kd.C k27 w A0_9 l0_9.length l0_9) (hc0_9 : l0_9.length ≤ c0_9) (h : syntax_bare.f a0_0 a0_1 a0_2 a0_3 a0_4 a0_5 a0_6 a0_7 a0_8 l0_9 = some r) :
  Calls Try.prog 64 #[.agg #[.int .i64 a0_0, .int .i64 a0_1, .int .i64 a0_2, .string a0_3, .string a0_4, .int .i64 a0_5, .int .u64 a0_6, .int .u64 a0_7, .bool a0_8, .slice A0_9 l0_9.length c0_9]] w fun e w' => e = .returned (.bool r) ∧ Below w.heap.size w w' := by
 have hu27 := Try.underlying27
 have hu24 := Try.underlying24
 have HR0_9 := Aside0.mk hr0_9
 have HC0_9 := Aside0.mk hc0_9
 clear hr0_9 hc0_9
 have HB := Aside0.mk (Below.refl w.heap.size w)
 have H := h
 clear h
 unfold syntax_bare.f at H
 replace H := iE H; rcases H with ⟨c2b0, c2b1, H⟩ | ⟨c2, c2b0, c2b1, H⟩
 ·replace H := iE H; rcases H with ⟨c3b0, c3b1, H⟩ | ⟨c3, c3b0, c3b1, H⟩
  ·by_cases c4 : (a0_5 == 0 && (a0_6 == 0 && (a0_7 == 0))) = true
   ·rw [if_pos c4] at H
    have c4b0 : (a0_5 == 0 && (a0_6 == 0 && (a0_7 == 0))) = true := c4
    (try (have c4b1 : decide (a0_5 = 0 && (a0_6 == 0 && (a0_7 == 0))) = true := by simpa using c4))
    (try (have c4b2 : (a0_5 == 0 && (a0_6 == 0 && (a0_7 == 0))) = true := by simpa using c4))
    clear c4
    replace H := iB H; rcases H with ⟨rfl, H⟩ | ⟨rfl, H⟩
    ·obtain rfl := Option.some.inj H
     go_enter Try.func64, Try.ntmps64
     go_wp2_with (((with_reducible refine gate_dst (N := 1) rfl ?_); (try (refine gate_guard (by rfl) ?_; dsimp only)); refine boxA HB 1 #[.int .i64 a0_0, .int .i64 a0_1, .int .i64 a0_2, .string a0_3, .string a0_4, .int .i64 a0_5, .int .u64 a0_6, .int .u64 a0_7, .bool true, .slice A0_9 l0_9.length c0_9] 27 ?_; clear HB; intro gb135 w6 BK135 GE135 hg hb HB; clear hb hg; have hcz7_0 : w6.cell? ⟨gb135, 0, none⟩ = some (.int .i64 a0_0) := (blk_cell BK135.out 0).trans rfl; have hcz7_1 : w6.cell? ⟨gb135, 1, none⟩ = some (.int .i64 a0_1) := (blk_cell BK135.out 1).trans rfl; have hcz7_2 : w6.cell? ⟨gb135, 2, none⟩ = some (.int .i64 a0_2) := (blk_cell BK135.out 2).trans rfl; have hcz7_3 : w6.cell? ⟨gb135, 3, none⟩ = some (.string a0_3) := (blk_cell BK135.out 3).trans rfl; have hcz7_4 : w6.cell? ⟨gb135, 4, none⟩ = some (.string a0_4) := (blk_cell BK135.out 4).trans rfl; have hcz7_5 : w6.cell? ⟨gb135, 5, none⟩ = some (.int .i64 a0_5) := (blk_cell BK135.out 5).trans rfl; have hcz7_6 : w6.cell? ⟨gb135, 6, none⟩ = some (.int .u64 a0_6) := (blk_cell BK135.out 6).trans rfl; have hcz7_7 : w6.cell? ⟨gb135, 7, none⟩ = some (.int .u64 a0_7) := (blk_cell BK135.out 7).trans rfl; have hcz7_8 : w6.cell? ⟨gb135, 8, none⟩ = some (.bool true) := (blk_cell BK135.out 8).trans rfl; have hcz7_9 : w6.cell? ⟨gb135, 9, none⟩ = some (.slice A0_9 l0_9.length c0_9) := (blk_cell BK135.out 9).trans rfl; have hfz7_0 := blk_frozen BK135.out 0; have hfz7_1 := blk_frozen BK135.out 1; have hfz7_2 := blk_frozen BK135.out 2; have hfz7_3 := blk_frozen BK135.out 3; have hfz7_4 := blk_frozen BK135.out 4; have hfz7_5 := blk_frozen BK135.out 5; have hfz7_6 := blk_frozen BK135.out 6; have hfz7_7 := blk_frozen BK135.out 7; have hfz7_8 := blk_frozen BK135.out 8; have hfz7_9 := blk_frozen BK135.out 9))
     go_ret
     exact ⟨by rfl, by repeat (with_reducible exact HB.out)⟩
    ·obtain rfl := Option.some.inj H
     go_enter Try.func64, Try.ntmps64
     go_wp2_with (((with_reducible refine gate_dst (N := 1) rfl ?_); (try (refine gate_guard (by rfl) ?_; dsimp only)); refine boxA HB 1 #[.int .i64 a0_0, .int .i64 a0_1, .int .i64 a0_2, .string a0_3, .string a0_4, .int .i64 a0_5, .int .u64 a0_6, .int .u64 a0_7, .bool false, .slice A0_9 l0_9.length c0_9] 27 ?_; clear HB; intro gb135 w8 BK135 GE135 hg hb HB; clear hb hg; have hcz9_0 : w8.cell? ⟨gb135, 0, none⟩ = some (.int .i64 a0_0) := (blk_cell BK135.out 0).trans rfl; have hcz9_1 : w8.cell? ⟨gb135, 1, none⟩ = some (.int .i64 a0_1) := (blk_cell BK135.out 1).trans rfl; have hcz9_2 : w8.cell? ⟨gb135, 2, none⟩ = some (.int .i64 a0_2) := (blk_cell BK135.out 2).trans rfl; have hcz9_3 : w8.cell? ⟨gb135, 3, none⟩ = some (.string a0_3) := (blk_cell BK135.out 3).trans rfl; have hcz9_4 : w8.cell? ⟨gb135, 4, none⟩ = some (.string a0_4) := (blk_cell BK135.out 4).trans rfl; have hcz9_5 : w8.cell? ⟨gb135, 5, none⟩ = some (.int .i64 a0_5) := (blk_cell BK135.out 5).trans rfl; have hcz9_6 : w8.cell? ⟨gb135, 6, none⟩ = some (.int .u64 a0_6) := (blk_cell BK135.out 6).trans rfl; have hcz9_7 : w8.cell? ⟨gb135, 7, none⟩ = some (.int .u64 a0_7) := (blk_cell BK135.out 7).trans rfl; have hcz9_8 : w8.cell? ⟨gb135, 8, none⟩ = some (.bool false) := (blk_cell BK135.out 8).trans rfl; have hcz9_9 : w8.cell? ⟨gb135, 9, none⟩ = some (.slice A0_9 l0_9.length c0_9) := (blk_cell BK135.out 9).trans rfl; have hfz9_0 := blk_frozen BK135.out 0; have hfz9_1 := blk_frozen BK135.out 1; have hfz9_2 := blk_frozen BK135.out 2; have hfz9_3 := blk_frozen BK135.out 3; have hfz9_4 := blk_frozen BK135.out 4; have hfz9_5 := blk_frozen BK135.out 5; have hfz9_6 := blk_frozen BK135.out 6; have hfz9_7 := blk_frozen BK135.out 7; have hfz9_8 := blk_frozen BK135.out 8; have hfz9_9 := blk_frozen BK135.out 9))
     go_ret
     exact ⟨by rfl, by repeat (with_reducible exact HB.out)⟩
   ·rw [if_neg c4] at H
    have c4b0 : (a0_5 == 0 && (a0_6 == 0 && (a0_7 == 0))) = false := by simpa using c4
    (try (have c4b1 : decide (a0_5 = 0 && (a0_6 == 0 && (a0_7 == 0))) = false := by simpa using c4))
    (try (have c4b2 : (a0_5 == 0 && (a0_6 == 0 && (a0_7 == 0))) = false := by simpa using c4))
    (try (have c4b3 : ¬ (a0_5 = 0 && (a0_6 == 0 && (a0_7 == 0))) := by simpa using c4))
    clear c4
    obtain rfl := Option.some.inj H
    go_enter Try.func64, Try.ntmps64
    go_wp2_with (((with_reducible refine gate_dst (N := 1) rfl ?_); (try (refine gate_guard (by rfl) ?_; dsimp only)); refine boxA HB 1 #[.int .i64 a0_0, .int .i64 a0_1, .int .i64 a0_2, .string a0_3, .string a0_4, .int .i64 a0_5, .int .u64 a0_6, .int .u64 a0_7, .bool a0_8, .slice A0_9 l0_9.length c0_9] 27 ?_; clear HB; intro gb135 w10 BK135 GE135 hg hb HB; clear hb hg; have hcz11_0 : w10.cell? ⟨gb135, 0, none⟩ = some (.int .i64 a0_0) := (blk_cell BK135.out 0).trans rfl; have hcz11_1 : w10.cell? ⟨gb135, 1, none⟩ = some (.int .i64 a0_1) := (blk_cell BK135.out 1).trans rfl; have hcz11_2 : w10.cell? ⟨gb135, 2, none⟩ = some (.int .i64 a0_2) := (blk_cell BK135.out 2).trans rfl; have hcz11_3 : w10.cell? ⟨gb135, 3, none⟩ = some (.string a0_3) := (blk_cell BK135.out 3).trans rfl; have hcz11_4 : w10.cell? ⟨gb135, 4, none⟩ = some (.string a0_4) := (blk_cell BK135.out 4).trans rfl; have hcz11_5 : w10.cell? ⟨gb135, 5, none⟩ = some (.int .i64 a0_5) := (blk_cell BK135.out 5).trans rfl; have hcz11_6 : w10.cell? ⟨gb135, 6, none⟩ = some (.int .u64 a0_6) := (blk_cell BK135.out 6).trans rfl; have hcz11_7 : w10.cell? ⟨gb135, 7, none⟩ = some (.int .u64 a0_7) := (blk_cell BK135.out 7).trans rfl; have hcz11_8 : w10.cell? ⟨gb135, 8, none⟩ = some (.bool a0_8) := (blk_cell BK135.out 8).trans rfl; have hcz11_9 : w10.cell? ⟨gb135, 9, none⟩ = some (.slice A0_9 l0_9.length c0_9) := (blk_cell BK135.out 9).trans rfl; have hfz11_0 := blk_frozen BK135.out 0; have hfz11_1 := blk_frozen BK135.out 1; have hfz11_2 := blk_frozen BK135.out 2; have hfz11_3 := blk_frozen BK135.out 3; have hfz11_4 := blk_frozen BK135.out 4; have hfz11_5 := blk_frozen BK135.out 5; have hfz11_6 := blk_frozen BK135.out 6; have hfz11_7 := blk_frozen BK135.out 7; have hfz11_8 := blk_frozen BK135.out 8; have hfz11_9 := blk_frozen BK135.out 9))
    go_ret
    exact ⟨by rfl, by repeat (with_reducible exact HB.out)⟩
  ·obtain rfl := Option.some.inj H
   go_enter Try.func64, Try.ntmps64
   go_wp2_with (((with_reducible refine gate_dst (N := 1) rfl ?_); (try (refine gate_guard (by rfl) ?_; dsimp only)); refine boxA HB 1 #[.int .i64 a0_0, .int .i64 a0_1, .int .i64 a0_2, .string a0_3, .string a0_4, .int .i64 a0_5, .int .u64 a0_6, .int .u64 a0_7, .bool a0_8, .slice A0_9 l0_9.length c0_9] 27 ?_; clear HB; intro gb135 w12 BK135 GE135 hg hb HB; clear hb hg; have hcz13_0 : w12.cell? ⟨gb135, 0, none⟩ = some (.int .i64 a0_0) := (blk_cell BK135.out 0).trans rfl; have hcz13_1 : w12.cell? ⟨gb135, 1, none⟩ = some (.int .i64 a0_1) := (blk_cell BK135.out 1).trans rfl; have hcz13_2 : w12.cell? ⟨gb135, 2, none⟩ = some (.int .i64 a0_2) := (blk_cell BK135.out 2).trans rfl; have hcz13_3 : w12.cell? ⟨gb135, 3, none⟩ = some (.string a0_3) := (blk_cell BK135.out 3).trans rfl; have hcz13_4 : w12.cell? ⟨gb135, 4, none⟩ = some (.string a0_4) := (blk_cell BK135.out 4).trans rfl; have hcz13_5 : w12.cell? ⟨gb135, 5, none⟩ = some (.int .i64 a0_5) := (blk_cell BK135.out 5).trans rfl; have hcz13_6 : w12.cell? ⟨gb135, 6, none⟩ = some (.int .u64 a0_6) := (blk_cell BK135.out 6).trans rfl; have hcz13_7 : w12.cell? ⟨gb135, 7, none⟩ = some (.int .u64 a0_7) := (blk_cell BK135.out 7).trans rfl; have hcz13_8 : w12.cell? ⟨gb135, 8, none⟩ = some (.bool a0_8) := (blk_cell BK135.out 8).trans rfl; have hcz13_9 : w12.cell? ⟨gb135, 9, none⟩ = some (.slice A0_9 l0_9.length c0_9) := (blk_cell BK135.out 9).trans rfl; have hfz13_0 := blk_frozen BK135.out 0; have hfz13_1 := blk_frozen BK135.out 1; have hfz13_2 := blk_frozen BK135.out 2; have hfz13_3 := blk_frozen BK135.out 3; have hfz13_4 := blk_frozen BK135.out 4; have hfz13_5 := blk_frozen BK135.out 5; have hfz13_6 := blk_frozen BK135.out 6; have hfz13_7 := blk_frozen BK135.out 7; have hfz13_8 := blk_frozen BK135.out 8; have hfz13_9 := blk_frozen BK135.out 9))
   go_ret
   exact ⟨by rfl, by repeat (with_reducible exact HB.out)⟩
 ·obtain rfl := Option.some.inj H
  go_enter Try.func64, Try.ntmps64
  go_wp2_with (((with_reducible refine gate_dst (N := 1) rfl ?_); (try (refine gate_guard (by rfl) ?_; dsimp only)); refine boxA HB 1 #[.int .i64 a0_0, .int .i64 a0_1, .int .i64 a0_2, .string a0_3, .string a0_4, .int .i64 a0_5, .int .u64 a0_6, .int .u64 a0_7, .bool a0_8, .slice A0_9 l0_9.length c0_9] 27 ?_; clear HB; intro gb135 w14 BK135 GE135 hg hb HB; clear hb hg; have hcz15_0 : w14.cell? ⟨gb135, 0, none⟩ = some (.int .i64 a0_0) := (blk_cell BK135.out 0).trans rfl; have hcz15_1 : w14.cell? ⟨gb135, 1, none⟩ = some (.int .i64 a0_1) := (blk_cell BK135.out 1).trans rfl; have hcz15_2 : w14.cell? ⟨gb135, 2, none⟩ = some (.int .i64 a0_2) := (blk_cell BK135.out 2).trans rfl; have hcz15_3 : w14.cell? ⟨gb135, 3, none⟩ = some (.string a0_3) := (blk_cell BK135.out 3).trans rfl; have hcz15_4 : w14.cell? ⟨gb135, 4, none⟩ = some (.string a0_4) := (blk_cell BK135.out 4).trans rfl; have hcz15_5 : w14.cell? ⟨gb135, 5, none⟩ = some (.int .i64 a0_5) := (blk_cell BK135.out 5).trans rfl; have hcz15_6 : w14.cell? ⟨gb135, 6, none⟩ = some (.int .u64 a0_6) := (blk_cell BK135.out 6).trans rfl; have hcz15_7 : w14.cell? ⟨gb135, 7, none⟩ = some (.int .u64 a0_7) := (blk_cell BK135.out 7).trans rfl; have hcz15_8 : w14.cell? ⟨gb135, 8, none⟩ = some (.bool a0_8) := (blk_cell BK135.out 8).trans rfl; have hcz15_9 : w14.cell? ⟨gb135, 9, none⟩ = some (.slice A0_9 l0_9.length c0_9) := (blk_cell BK135.out 9).trans rfl; have hfz15_0 := blk_frozen BK135.out 0; have hfz15_1 := blk_frozen BK135.out 1; have hfz15_2 := blk_frozen BK135.out 2; have hfz15_3 := blk_frozen BK135.out 3; have hfz15_4 := blk_frozen BK135.out 4; have hfz15_5 := blk_frozen BK135.out 5; have hfz15_6 := blk_frozen BK135.out 6; have hfz15_7 := blk_frozen BK135.out 7; have hfz15_8 := blk_frozen BK135.out 8; have hfz15_9 := blk_frozen BK135.out 9))
  go_ret
  exact ⟨by rfl, by repeat (with_reducible exact HB.out)⟩
end Go.Proofs.Ytlamgdibnnmbmaa.PSyn
end
section
namespace Go.Proofs.Ytlamgdibnnmbmaa.PSyn
open Go.RowKit Go.Proofs.YtlamgdibnnmbmaaW.PrintWords Go.Proofs.YtlamgdibnnmbmaaW.PrintLast Go.Proofs.YtlamgdibnnmbmaaW.PrintMore
attribute [local go_sem] max2_int min2_int max_two min_two max_three min_three max_four min_four
set_option linter.unusedVariables false
set_option linter.unusedSimpArgs false
mutual
def maskref1_within.l0 : Nat → ByteArray → Int → Int → ByteArray → Int → Int → Option (Bool)
 | 0, _, _, _, _, _, _ => none
 | k + 1, x0, x1, x2, x3, x12, x13 => if x13 < x12 then (if 0 ≤ x13 then (if x13 < (x0.size : Int) then (if (bt x0 x13) < x1 then (maskref1_within.j1 k x0 x1 x2 x3 x13 x12 x13 true) else (maskref1_within.j1 k x0 x1 x2 x3 x13 x12 x13 (decide ((bt x0 x13) > x2)))) else (none)) else (none)) else (some true)
def maskref1_within.j1 : Nat → ByteArray → Int → Int → ByteArray → Int → Int → Int → Bool → Option (Bool)
 | 0, _, _, _, _, _, _, _, _ => none
 | k + 1, x0, x1, x2, x3, x9, x12, x13, x27 => if x27 = true then (some false) else (maskref1_within.l1 k x0 x1 x2 x3 x9 x12 x13 (x3.size : Int) 0)
def maskref1_within.l1 : Nat → ByteArray → Int → Int → ByteArray → Int → Int → Int → Int → Int → Option (Bool)
 | 0, _, _, _, _, _, _, _, _, _ => none
 | k + 1, x0, x1, x2, x3, x9, x12, x13, x29, x30 => if x30 < x29 then (if 0 ≤ x9 then (if x9 < (x0.size : Int) then (if 0 ≤ x30 then (if x30 < (x3.size : Int) then (if (bt x0 x9) = (bt x3 x30) then (some false) else (maskref1_within.l1 k x0 x1 x2 x3 x9 x12 x13 x29 (wrap64 (x30 + 1)))) else (none)) else (none)) else (none)) else (none)) else (maskref1_within.l0 k x0 x1 x2 x3 x12 (wrap64 (x13 + 1)))
end
def maskref1_within.f (k : Nat) (a0 : ByteArray) (a1 : Int) (a2 : Int) (a3 : ByteArray) : Option (Bool) := maskref1_within.l0 k a0 a1 a2 a3 (a0.size : Int) 0
set_option maxHeartbeats 8000000 in
set_option maxRecDepth 100000 in
theorem maskref1_within.calls (k : Nat) (a0 : ByteArray) (a1 : Int) (a2 : Int) (a3 : ByteArray) (r : Bool) (w : World) (h : maskref1_within.f k a0 a1 a2 a3 = some r) :
  Calls Try.prog 67 #[.string a0, .int .u8 a1, .int .u8 a2, .string a3] w fun e w' => e = .returned (.bool r) ∧ Drawn0 w w' := by
 have H := h
 clear h
 unfold maskref1_within.f at H
 have H' := Aside0.mk H
 clear H
 go_enter Try.func67, Try.ntmps67
 go_wp2
 go_loopg [13] k (fun kq v13 w' => ∃ (x13_1 : Int), v13 = .int .i64 x13_1 ∧ Aside0 (maskref1_within.l0 kq a0 a1 a2 a3 (a0.size : Int) x13_1 = some r) ∧ Aside0 (kq ≤ k) ∧ Drawn0 w w')
 case atStart => exact ⟨(0), (by rfl), H', ⟨Nat.le_refl _⟩, by repeat (exact Drawn0.refl _)⟩
 case round =>
  clear H'
  try clear p2
  obtain ⟨x13_1, rfl, HA, HK1, ⟨m1, rfl⟩⟩ := hrel
  cases gk with
  | zero => exact absurd HA.out (by simp [maskref1_within.l0])
  | succ k1 =>
   have H := HA.out
   clear HA
   simp only [maskref1_within.l0] at H
   replace H := iD H; rcases H with ⟨c5b0, H⟩ | ⟨c5b0, H⟩
   ·have HC6 := Aside0.mk H
    clear H
    go_upto_region 4 with (fail)
    go_cut [27] (fun v27 wc => ∃ (kq : Nat) (x27_5 : Bool), v27 = .bool x27_5 ∧ Aside0 (maskref1_within.j1 kq a0 a1 a2 a3 x13_1 (a0.size : Int) x13_1 x27_5 = some r) ∧ Aside0 (kq ≤ k1) ∧ Drawn0 w wc)
    case first =>
     have H := HC6.out
     clear HC6
     replace H := iN H; obtain ⟨c7b0, H⟩ := H
     (skip)
     replace H := iN H; obtain ⟨c8b0, H⟩ := H
     replace H := iD H; rcases H with ⟨c10b0, H⟩ | ⟨c10b0, H⟩
     ·have H' := Aside0.mk H
      clear H
      have p9 : 0 ≤ (x13_1 : Int) := of_decide_eq_true (by (with_reducible assumption))
      have q9 : x13_1 < (a0.size : Int) := of_decide_eq_true (by (with_reducible assumption))
      have hx9 := bt_at a0 x13_1
      replace p9 := eq_true p9
      replace q9 := eq_true q9
      go_wp2
      go_meet
      case rel => exact ⟨_, (true), (by rfl), H', ⟨by have := HK1.out; omega⟩, by repeat (first | exact Drawn0.refl _ | apply Drawn0.step)⟩
     ·have H' := Aside0.mk H
      clear H
      have p9 : 0 ≤ (x13_1 : Int) := of_decide_eq_true (by (with_reducible assumption))
      have q9 : x13_1 < (a0.size : Int) := of_decide_eq_true (by (with_reducible assumption))
      have hx9 := bt_at a0 x13_1
      replace p9 := eq_true p9
      replace q9 := eq_true q9
      have p11 : 0 ≤ (x13_1 : Int) := of_decide_eq_true (by (with_reducible assumption))
      have q11 : x13_1 < (a0.size : Int) := of_decide_eq_true (by (with_reducible assumption))
      have hx11 := bt_at a0 x13_1
      replace p11 := eq_true p11
      replace q11 := eq_true q11
      go_wp2
      go_meet
      case rel => exact ⟨_, (decide ((bt a0 x13_1) > a2)), (by rfl), H', ⟨by have := HK1.out; omega⟩, by repeat (first | exact Drawn0.refl _ | apply Drawn0.step)⟩
    case rest =>
     clear HC6
     (try clear c5b0)
     obtain ⟨kq, x27_5, rfl, HA, HJ5, ⟨mc5, rfl⟩⟩ := hcut
     cases kq with
     | zero => exact absurd HA.out (by simp [maskref1_within.j1])
     | succ kj5 =>
      have H := HA.out
      clear HA
      simp only [maskref1_within.j1] at H
      replace H := iB H; rcases H with ⟨rfl, H⟩ | ⟨rfl, H⟩
      ·obtain rfl := Option.some.inj H
       go_wp2
       go_ret
       exact ⟨by rfl, by repeat (first | exact Drawn0.refl _ | apply Drawn0.step)⟩
      ·have H' := Aside0.mk H
       clear H
       go_wp2
       go_loopg [30] kj5 (fun kq v30 w' => ∃ (x30_3 : Int), v30 = .int .i64 x30_3 ∧ Aside0 (maskref1_within.l1 kq a0 a1 a2 a3 x13_1 (a0.size : Int) x13_1 (a3.size : Int) x30_3 = some r) ∧ Aside0 (kq ≤ kj5) ∧ Drawn0 w w')
       case atStart => exact ⟨(0), (by rfl), H', ⟨Nat.le_refl _⟩, by repeat (first | exact Drawn0.refl _ | apply Drawn0.step)⟩
       case round =>
        clear H'
        obtain ⟨x30_3, rfl, HA, HK3, ⟨m3, rfl⟩⟩ := hrel
        cases gk with
        | zero => exact absurd HA.out (by simp [maskref1_within.l1])
        | succ k3 =>
         have H := HA.out
         clear HA
         simp only [maskref1_within.l1] at H
         replace H := iD H; rcases H with ⟨c13b0, H⟩ | ⟨c13b0, H⟩
         ·replace H := iN H; obtain ⟨c14b0, H⟩ := H
          replace H := iN H; obtain ⟨c15b0, H⟩ := H
          replace H := iN H; obtain ⟨c17b0, H⟩ := H
          replace H := iN H; obtain ⟨c18b0, H⟩ := H
          replace H := iE H; rcases H with ⟨c20b0, c20b1, H⟩ | ⟨c20, c20b0, c20b1, H⟩
          ·obtain rfl := Option.some.inj H
           have p16 : 0 ≤ (x13_1 : Int) := of_decide_eq_true (by (with_reducible assumption))
           have q16 : x13_1 < (a0.size : Int) := of_decide_eq_true (by (with_reducible assumption))
           have hx16 := bt_at a0 x13_1
           replace p16 := eq_true p16
           replace q16 := eq_true q16
           have p19 : 0 ≤ (x30_3 : Int) := of_decide_eq_true (by (with_reducible assumption))
           have q19 : x30_3 < (a3.size : Int) := of_decide_eq_true (by (with_reducible assumption))
           have hx19 := bt_at a3 x30_3
           replace p19 := eq_true p19
           replace q19 := eq_true q19
           go_wp2
           repeat (go_quiet (fail); try go_wp2)
           go_ret
           exact ⟨by rfl, by repeat (first | exact Drawn0.refl _ | apply Drawn0.step)⟩
          ·have H' := Aside0.mk H
           clear H
           have p16 : 0 ≤ (x13_1 : Int) := of_decide_eq_true (by (with_reducible assumption))
           have q16 : x13_1 < (a0.size : Int) := of_decide_eq_true (by (with_reducible assumption))
           have hx16 := bt_at a0 x13_1
           replace p16 := eq_true p16
           replace q16 := eq_true q16
           have p19 : 0 ≤ (x30_3 : Int) := of_decide_eq_true (by (with_reducible assumption))
           have q19 : x30_3 < (a3.size : Int) := of_decide_eq_true (by (with_reducible assumption))
           have hx19 := bt_at a3 x30_3
           replace p19 := eq_true p19
           replace q19 := eq_true q19
           go_wp2
           repeat (go_quiet (fail); try go_wp2)
           go_roundg k3
           case measure => have := HK1.out; have := HJ5.out; have := HK3.out; omega
           case rel => exact ⟨(wrap64 (x30_3 + 1)), (by rfl), H', ⟨by have := HK1.out; have := HJ5.out; have := HK3.out; omega⟩, by repeat (first | exact Drawn0.refl _ | apply Drawn0.step)⟩
         ·have H' := Aside0.mk H
          clear H
          go_wp2
          go_roundg k3
          case measure => have := HK1.out; have := HJ5.out; have := HK3.out; omega
          case rel => exact ⟨(wrap64 (x13_1 + 1)), (by rfl), H', ⟨by have := HK1.out; have := HJ5.out; have := HK3.out; omega⟩, by repeat (first | exact Drawn0.refl _ | apply Drawn0.step)⟩
   ·obtain rfl := Option.some.inj H
    go_wp2
    go_ret
    exact ⟨by rfl, by repeat (first | exact Drawn0.refl _ | apply Drawn0.step)⟩
end Go.Proofs.Ytlamgdibnnmbmaa.PSyn
end
section
namespace Go.Proofs.Ytlamgdibnnmbmaa.PSyn
open Go.RowKit Go.Proofs.YtlamgdibnnmbmaaW.PrintWords Go.Proofs.YtlamgdibnnmbmaaW.PrintLast Go.Proofs.YtlamgdibnnmbmaaW.PrintMore
attribute [local go_sem] max2_int min2_int max_two min_two max_three min_three max_four min_four
set_option linter.unusedVariables false
set_option linter.unusedSimpArgs false
def maskref1_inQuoted.f (k : Nat) (a0 : Int) : Option (Bool) := (maskref1_within.f k (strOfNums (([a0] : List Int))) 33 126 (⟨#[46, 91, 93, 34, 92, 96]⟩ : ByteArray)).bind fun t181 => (some t181)
set_option maxHeartbeats 8000000 in
set_option maxRecDepth 100000 in
theorem maskref1_inQuoted.calls (k : Nat) (a0 : Int) (r : Bool) (w : World) (h : maskref1_inQuoted.f k a0 = some r) :
  Calls Try.prog 56 #[.int .u8 a0] w fun e w' => e = .returned (.bool r) ∧ Below w.heap.size w w' := by
 have HB := Aside0.mk (Below.refl w.heap.size w)
 have H := h
 clear h
 unfold maskref1_inQuoted.f at H
 obtain ⟨y178, hy178⟩ : ∃ y_ : List Int, y_ = ([a0] : List Int) := ⟨_, rfl⟩
 replace H : ((maskref1_within.f k (strOfNums y178) 33 126 (⟨#[46, 91, 93, 34, 92, 96]⟩ : ByteArray)).bind fun t181 => (some t181)) = some r := by (rw [hy178]; with_reducible exact H)
 have Ny178 := Aside0.mk hy178
 clear hy178
 replace H := bN H; obtain ⟨t181, A2, H⟩ := H
 obtain rfl := Option.some.inj H
 go_enter Try.func56, Try.ntmps56
 go_wp2_with (first | ((with_reducible refine gate_dst (N := 4) rfl ?_); refine Kd.R_lit (Kd.int .u8) _ 5 ?hg (N := 4) ?hd (xs := ([a0] : List Int)) (inner := [.int .u8 a0]) (ok := fun _ => True) (okp := fun _ => True) ?hr ?hp (fun _ hk => hk) trivial (Below.refl _ _) (Nat.le_refl _) (by simp) ?_; (case hd => rfl); (case hg => rfl); (case hr => (go_simp; done)); (case hp => exact (Reps.one (show Kd.M (Kd.int .u8) _ _ _ a0 [.int .u8 a0] from rfl) (Reps.none _ _))); intro v179 w3 ho4 hb hg_ hnew_; clear hg_ hnew_; (rw [← Ny178.out] at ho4); have HO180 := Aside0.mk (Kd.R_lower ho4 (below_size HB.out)); replace HB := hb1 HB hb; clear hb ho4; have hcv5 := own_string (P := Try.prog) Try.underlying90 Try.underlying5 Try.underlying9 (Kd.own_of_R HO180.out)) | (refine callA (some 6) Try.func67 #[.string (strOfNums y178), .int .u8 33, .int .u8 126, .string (⟨#[46, 91, 93, 34, 92, 96]⟩ : ByteArray)] ?_; (with_reducible refine (maskref1_within.calls k (strOfNums y178) 33 126 (⟨#[46, 91, 93, 34, 92, 96]⟩ : ByteArray) t181 _ A2.out).mono ?_); rintro e w' ⟨rfl, ⟨nd, rfl⟩⟩; refine ⟨_, rfl, ?_⟩))
 go_ret
 exact ⟨by rfl, by repeat (with_reducible first | exact HB.out | apply pw_below_drewN)⟩
end Go.Proofs.Ytlamgdibnnmbmaa.PSyn
end
section
namespace Go.Proofs.Ytlamgdibnnmbmaa.PSyn
open Go.RowKit Go.Proofs.YtlamgdibnnmbmaaW.PrintWords Go.Proofs.YtlamgdibnnmbmaaW.PrintLast Go.Proofs.YtlamgdibnnmbmaaW.PrintMore
attribute [local go_sem] max2_int min2_int max_two min_two max_three min_three max_four min_four
set_option linter.unusedVariables false
set_option linter.unusedSimpArgs false
def maskref1_run__inQuoted.l0 : Nat → ByteArray → Int → Int → Option (Int)
 | 0, _, _, _ => none
 | k + 1, x0, x7, x8 => if x8 < x7 then (if 0 ≤ x8 then (if x8 < (x0.size : Int) then ((maskref1_inQuoted.f k (bt x0 x8)).bind fun t182 => (if t182 = true then (maskref1_run__inQuoted.l0 k x0 x7 (wrap64 (x8 + 1))) else (some x8))) else (none)) else (none)) else (some (x0.size : Int))
def maskref1_run__inQuoted.f (k : Nat) (a0 : ByteArray)  : Option (Int) := maskref1_run__inQuoted.l0 k a0 (a0.size : Int) 0
set_option maxHeartbeats 8000000 in
set_option maxRecDepth 100000 in
theorem maskref1_run__inQuoted.calls (k : Nat) (a0 : ByteArray)  (r : Int) (w : World) (h : maskref1_run__inQuoted.f k a0 = some r) :
  Calls Try.prog 53 #[.string a0, .func (.func 56) #[] #[]] w fun e w' => e = .returned (.int .i64 r) ∧ Below w.heap.size w w' := by
 have HB := Aside0.mk (Below.refl w.heap.size w)
 have H := h
 clear h
 unfold maskref1_run__inQuoted.f at H
 have H' := Aside0.mk H
 clear H
 go_enter Try.func53, Try.ntmps53
 go_wp2
 go_loopg [8] k (fun kq v8 w' => ∃ (x8_1 : Int), v8 = .int .i64 x8_1 ∧ Aside0 (maskref1_run__inQuoted.l0 kq a0 (a0.size : Int) x8_1 = some r) ∧ Aside0 (kq ≤ k) ∧ Aside0 (Below w.heap.size w w'))
 case atStart => exact ⟨(0), (by rfl), H', ⟨Nat.le_refl _⟩, ⟨by repeat (with_reducible exact HB.out)⟩⟩
 case round =>
  clear H'
  try clear p2
  obtain ⟨x8_1, rfl, HA, HK1, HB⟩ := hrel
  cases gk with
  | zero => exact absurd HA.out (by simp [maskref1_run__inQuoted.l0])
  | succ k1 =>
   have H := HA.out
   clear HA
   simp only [maskref1_run__inQuoted.l0] at H
   replace H := iD H; rcases H with ⟨c3b0, H⟩ | ⟨c3b0, H⟩
   ·replace H := iN H; obtain ⟨c4b0, H⟩ := H
    replace H := iN H; obtain ⟨c5b0, H⟩ := H
    replace H := bN H; obtain ⟨t182, A7, H⟩ := H
    replace H := iB H; rcases H with ⟨rfl, H⟩ | ⟨rfl, H⟩
    ·have H' := Aside0.mk H
     clear H
     have p6 : 0 ≤ (x8_1 : Int) := of_decide_eq_true (by (with_reducible assumption))
     have q6 : x8_1 < (a0.size : Int) := of_decide_eq_true (by (with_reducible assumption))
     have hx6 := bt_at a0 x8_1
     replace p6 := eq_true p6
     replace q6 := eq_true q6
     go_wp2_with ((go_at_call 56; (with_reducible refine (maskref1_inQuoted.calls k1 (bt a0 x8_1) true _ A7.out).mono ?_); rintro e w9 ⟨rfl, hb⟩; replace HB := hb1 HB hb; (try clear hb)))
     go_roundg k1
     case measure => have := HK1.out; omega
     case rel => exact ⟨(wrap64 (x8_1 + 1)), (by rfl), H', ⟨by have := HK1.out; omega⟩, ⟨by repeat (with_reducible exact HB.out)⟩⟩
    ·obtain rfl := Option.some.inj H
     have p6 : 0 ≤ (x8_1 : Int) := of_decide_eq_true (by (with_reducible assumption))
     have q6 : x8_1 < (a0.size : Int) := of_decide_eq_true (by (with_reducible assumption))
     have hx6 := bt_at a0 x8_1
     replace p6 := eq_true p6
     replace q6 := eq_true q6
     go_wp2_with ((go_at_call 56; (with_reducible refine (maskref1_inQuoted.calls k1 (bt a0 x8_1) false _ A7.out).mono ?_); rintro e w10 ⟨rfl, hb⟩; replace HB := hb1 HB hb; (try clear hb)))
     go_ret
     exact ⟨by rfl, by repeat (with_reducible exact HB.out)⟩
   ·obtain rfl := Option.some.inj H
    go_wp2
    go_ret
    exact ⟨by rfl, by repeat (with_reducible exact HB.out)⟩
end Go.Proofs.Ytlamgdibnnmbmaa.PSyn
end
section
namespace Go.Proofs.Ytlamgdibnnmbmaa.PSyn
open Go.RowKit Go.Proofs.YtlamgdibnnmbmaaW.PrintWords Go.Proofs.YtlamgdibnnmbmaaW.PrintLast Go.Proofs.YtlamgdibnnmbmaaW.PrintMore
attribute [local go_sem] max2_int min2_int max_two min_two max_three min_three max_four min_four
set_option linter.unusedVariables false
set_option linter.unusedSimpArgs false
def maskref1_QuotedName.f (k : Nat) (a0 : ByteArray) : Option (Bool) := if (a0.size : Int) ≥ 1 then (if (a0.size : Int) ≤ 40 then ((maskref1_run__inQuoted.f k a0).bind fun t183 => (some (t183 == (a0.size : Int)))) else (some false)) else (some false)
set_option maxHeartbeats 8000000 in
set_option maxRecDepth 100000 in
theorem maskref1_QuotedName.calls (k : Nat) (a0 : ByteArray) (r : Bool) (w : World) (h : maskref1_QuotedName.f k a0 = some r) :
  Calls Try.prog 65 #[.string a0] w fun e w' => e = .returned (.bool r) ∧ Below w.heap.size w w' := by
 have HB := Aside0.mk (Below.refl w.heap.size w)
 have H := h
 clear h
 unfold maskref1_QuotedName.f at H
 by_cases c2 : (a0.size : Int) ≥ 1
 ·rw [if_pos c2] at H
  have c2b0 : decide (1 ≤ (a0.size : Int)) = true := decide_eq_true c2
  have c2b1 : decide (1 ≤ a0.size) = true := decide_eq_true (by omega)
  clear c2
  by_cases c3 : (a0.size : Int) ≤ 40
  ·rw [if_pos c3] at H
   have c3b0 : decide ((a0.size : Int) ≤ 40) = true := decide_eq_true c3
   have c3b1 : decide (a0.size ≤ 40) = true := decide_eq_true (by omega)
   clear c3
   replace H := bN H; obtain ⟨t183, A4, H⟩ := H
   obtain rfl := Option.some.inj H
   go_enter Try.func65, Try.ntmps65
   go_wp2_with ((go_at_call 53; (with_reducible refine (maskref1_run__inQuoted.calls k a0  t183 _ A4.out).mono ?_); rintro e w5 ⟨rfl, hb⟩; replace HB := hb1 HB hb; (try clear hb)))
   go_ret
   exact ⟨by rfl, by repeat (with_reducible exact HB.out)⟩
  ·rw [if_neg c3] at H
   have c3b0 : decide ((a0.size : Int) ≤ 40) = false := decide_eq_false c3
   have c3b1 : decide (a0.size ≤ 40) = false := decide_eq_false (by omega)
   clear c3
   obtain rfl := Option.some.inj H
   go_enter Try.func65, Try.ntmps65
   go_wp2
   go_ret
   exact ⟨by rfl, by repeat (with_reducible exact HB.out)⟩
 ·rw [if_neg c2] at H
  have c2b0 : decide (1 ≤ (a0.size : Int)) = false := decide_eq_false c2
  have c2b1 : decide (1 ≤ a0.size) = false := decide_eq_false (by omega)
  clear c2
  obtain rfl := Option.some.inj H
  go_enter Try.func65, Try.ntmps65
  go_wp2
  go_ret
  exact ⟨by rfl, by repeat (with_reducible exact HB.out)⟩
end Go.Proofs.Ytlamgdibnnmbmaa.PSyn
end
section
namespace Go.Proofs.Ytlamgdibnnmbmaa.PSyn
open Go.RowKit Go.Proofs.YtlamgdibnnmbmaaW.PrintWords Go.Proofs.YtlamgdibnnmbmaaW.PrintLast Go.Proofs.YtlamgdibnnmbmaaW.PrintMore
attribute [local go_sem] max2_int min2_int max_two min_two max_three min_three max_four min_four
set_option linter.unusedVariables false
set_option linter.unusedSimpArgs false
attribute [local go_sem high] eqA24
mutual
def maskref1_fieldFault.j0 : Nat → ByteArray → Bool → Bool → Int → Int → Int → ByteArray → ByteArray → Int → Int → Int → Bool → List (S27) → Option (Int)
 | 0, _, _, _, _, _, _, _, _, _, _, _, _, _ => none
 | k + 1, x0, x5, x15, x186000, x186001, x186002, x186003, x186004, x186005, x186006, x186007, x186008, x186009 => if x15 = true then (some 9) else (if x5 = true then ((maskref1_Valid.f k x186005 x186006 x186007).bind fun t189 => (if t189 = true then (maskref1_fieldFault.j1 k x0 x5 false x186000 x186001 x186002 x186003 x186004 x186005 x186006 x186007 x186008 x186009) else (maskref1_fieldFault.j1 k x0 x5 true x186000 x186001 x186002 x186003 x186004 x186005 x186006 x186007 x186008 x186009))) else (maskref1_fieldFault.j1 k x0 x5 (!(x186005 == 0) || (!(x186006 == 0) || (!(x186007 == 0)))) x186000 x186001 x186002 x186003 x186004 x186005 x186006 x186007 x186008 x186009))
def maskref1_fieldFault.j1 : Nat → ByteArray → Bool → Bool → Int → Int → Int → ByteArray → ByteArray → Int → Int → Int → Bool → List (S27) → Option (Int)
 | 0, _, _, _, _, _, _, _, _, _, _, _, _, _ => none
 | k + 1, x0, x5, x25, x186000, x186001, x186002, x186003, x186004, x186005, x186006, x186007, x186008, x186009 => if x25 = true then (some 4) else (if x186008 = true then (if x5 = true then (maskref1_fieldFault.j2 k x0 false x186000 x186001 x186002 x186003 x186004 x186005 x186006 x186007 x186008 x186009) else ((maskref1_contains.f k x0 (⟨#[83]⟩ : ByteArray)).bind fun t190 => (maskref1_fieldFault.j2 k x0 (!t190) x186000 x186001 x186002 x186003 x186004 x186005 x186006 x186007 x186008 x186009))) else (maskref1_fieldFault.j2 k x0 false x186000 x186001 x186002 x186003 x186004 x186005 x186006 x186007 x186008 x186009))
def maskref1_fieldFault.j2 : Nat → ByteArray → Bool → Int → Int → Int → ByteArray → ByteArray → Int → Int → Int → Bool → List (S27) → Option (Int)
 | 0, _, _, _, _, _, _, _, _, _, _, _, _ => none
 | k + 1, x0, x43, x186000, x186001, x186002, x186003, x186004, x186005, x186006, x186007, x186008, x186009 => if x43 = true then (some 4) else (if x186004.toList = ([] : List UInt8) then (maskref1_fieldFault.j3 k false x186000 x186001 x186002 x186003 x186004 x186005 x186006 x186007 x186008 x186009) else ((maskref1_contains.f k x0 (⟨#[88]⟩ : ByteArray)).bind fun t191 => (maskref1_fieldFault.j3 k (!t191) x186000 x186001 x186002 x186003 x186004 x186005 x186006 x186007 x186008 x186009)))
def maskref1_fieldFault.j3 : Nat → Bool → Int → Int → Int → ByteArray → ByteArray → Int → Int → Int → Bool → List (S27) → Option (Int)
 | 0, _, _, _, _, _, _, _, _, _, _, _ => none
 | k + 1, x55, x186000, x186001, x186002, x186003, x186004, x186005, x186006, x186007, x186008, x186009 => if x55 = true then (some 4) else (if (x186004.size : Int) > 200 then (some 3) else ((maskref1_within.f k x186004 32 126 (⟨#[]⟩ : ByteArray)).bind fun t192 => (if t192 = true then (some 0) else (some 4))))
end
def maskref1_fieldFault.f (k : Nat) (a0 : ByteArray) (a1_0 : Int) (a1_1 : Int) (a1_2 : Int) (a1_3 : ByteArray) (a1_4 : ByteArray) (a1_5 : Int) (a1_6 : Int) (a1_7 : Int) (a1_8 : Bool) (l1_9 : List (S27)) : Option (Int) := (maskref1_contains.f k a0 (⟨#[86]⟩ : ByteArray)).bind fun t186 => ((maskref1_contains.f k a0 (⟨#[78]⟩ : ByteArray)).bind fun t187 => (if (t187 != (a1_3.toList != ([] : List UInt8))) = true then (some 4) else (if a1_3.toList = ([] : List UInt8) then (maskref1_fieldFault.j0 k a0 t186 false a1_0 a1_1 a1_2 a1_3 a1_4 a1_5 a1_6 a1_7 a1_8 l1_9) else ((maskref1_QuotedName.f k a1_3).bind fun t188 => (maskref1_fieldFault.j0 k a0 t186 (!t188) a1_0 a1_1 a1_2 a1_3 a1_4 a1_5 a1_6 a1_7 a1_8 l1_9)))))
set_option maxHeartbeats 8000000 in
set_option maxRecDepth 100000 in
theorem maskref1_fieldFault.calls (k : Nat) (a0 : ByteArray) (a1_0 : Int) (a1_1 : Int) (a1_2 : Int) (a1_3 : ByteArray) (a1_4 : ByteArray) (a1_5 : Int) (a1_6 : Int) (a1_7 : Int) (a1_8 : Bool) (A1_9 : Option Addr) (c1_9 : Nat) (l1_9 : List (S27)) (r : Int) (w : World) (hr1_9 : Kd.C k27 w A1_9 l1_9.length l1_9) (hc1_9 : l1_9.length ≤ c1_9) (h : maskref1_fieldFault.f k a0 a1_0 a1_1 a1_2 a1_3 a1_4 a1_5 a1_6 a1_7 a1_8 l1_9 = some r) :
  Calls Try.prog 35 #[.string a0, .agg #[.int .i64 a1_0, .int .i64 a1_1, .int .i64 a1_2, .string a1_3, .string a1_4, .int .i64 a1_5, .int .u64 a1_6, .int .u64 a1_7, .bool a1_8, .slice A1_9 l1_9.length c1_9]] w fun e w' => e = .returned (.int .i64 r) ∧ Below w.heap.size w w' := by
 have hu27 := Try.underlying27
 have hu24 := Try.underlying24
 have HR1_9 := Aside0.mk hr1_9
 have HC1_9 := Aside0.mk hc1_9
 clear hr1_9 hc1_9
 have HB := Aside0.mk (Below.refl w.heap.size w)
 have H := h
 clear h
 unfold maskref1_fieldFault.f at H
 replace H := bN H; obtain ⟨t186, A3, H⟩ := H
 replace H := bN H; obtain ⟨t187, A4, H⟩ := H
 by_cases c5 : (t187 != (a1_3.toList != ([] : List UInt8))) = true
 ·rw [if_pos c5] at H
  have c5b0 : (t187 != (a1_3.toList != ([] : List UInt8))) = true := c5
  (try (have c5b1 : decide (t187 = (a1_3.toList != ([] : List UInt8))) = false := by simpa using c5))
  (try (have c5b2 : (t187 == (a1_3.toList != ([] : List UInt8))) = false := by simpa using c5))
  (try (have c5b3 : ¬ (t187 = (a1_3.toList != ([] : List UInt8))) := by simpa using c5))
  (try (have c5b4 : (!t187 == !a1_3.toList.isEmpty) = true := sq_bne c5))
  clear c5
  obtain rfl := Option.some.inj H
  go_enter Try.func35, Try.ntmps35
  go_wp2_with (first | (refine boxA HB 3 #[.int .i64 a1_0, .int .i64 a1_1, .int .i64 a1_2, .string a1_3, .string a1_4, .int .i64 a1_5, .int .u64 a1_6, .int .u64 a1_7, .bool a1_8, .slice A1_9 l1_9.length c1_9] 27 ?_; clear HB; intro gb185 w6 BK185 GE185 hg hb HB; clear hb hg) | (go_at_call 34; (with_reducible refine (maskref1_contains.calls k a0 (⟨#[86]⟩ : ByteArray) t186 _ A3.out).mono ?_); rintro e w' ⟨rfl, ⟨nd, rfl⟩⟩))
  repeat (go_quiet ((go_at_call 34; (with_reducible refine (maskref1_contains.calls k a0 (⟨#[78]⟩ : ByteArray) t187 _ A4.out).mono ?_); rintro e w' ⟨rfl, ⟨nd, rfl⟩⟩; (try exact ⟨rfl, _, Eq.trans (World.drewN_drewN _ _ _) (congrArg (World.drewN _) (Nat.add_assoc _ _ _))⟩); obtain ⟨hcz7_0, hcz7_1, hcz7_2, hcz7_3, hcz7_4, hcz7_5, hcz7_6, hcz7_7, hcz7_8, hcz7_9, hfz7_0, hfz7_1, hfz7_2, hfz7_3, hfz7_4, hfz7_5, hfz7_6, hfz7_7, hfz7_8, hfz7_9⟩ := cf10 BK185)); try go_wp2)
  go_ret
  exact ⟨by rfl, by repeat (with_reducible first | exact HB.out | apply pw_below_drewN)⟩
 ·rw [if_neg c5] at H
  have c5b0 : (t187 != (a1_3.toList != ([] : List UInt8))) = false := by simpa using c5
  (try (have c5b1 : decide (t187 = (a1_3.toList != ([] : List UInt8))) = true := by simpa using c5))
  (try (have c5b2 : (t187 == (a1_3.toList != ([] : List UInt8))) = true := by simpa using c5))
  (try (have c5b3 : (!t187 == !a1_3.toList.isEmpty) = false := sq_bne (Bool.eq_false_iff.mpr c5)))
  clear c5
  have HC8 := Aside0.mk H
  clear H
  go_enter Try.func35, Try.ntmps35
  go_upto_region 4 with (first | (refine boxA HB 3 #[.int .i64 a1_0, .int .i64 a1_1, .int .i64 a1_2, .string a1_3, .string a1_4, .int .i64 a1_5, .int .u64 a1_6, .int .u64 a1_7, .bool a1_8, .slice A1_9 l1_9.length c1_9] 27 ?_; clear HB; intro gb185 w9 BK185 GE185 hg hb HB; clear hb hg) | (go_at_call 34; (with_reducible refine (maskref1_contains.calls k a0 (⟨#[86]⟩ : ByteArray) t186 _ A3.out).mono ?_); rintro e w' ⟨rfl, ⟨nd, rfl⟩⟩))
  repeat (go_quiet ((go_at_call 34; (with_reducible refine (maskref1_contains.calls k a0 (⟨#[78]⟩ : ByteArray) t187 _ A4.out).mono ?_); rintro e w' ⟨rfl, ⟨nd, rfl⟩⟩; (try exact ⟨rfl, _, Eq.trans (World.drewN_drewN _ _ _) (congrArg (World.drewN _) (Nat.add_assoc _ _ _))⟩); obtain ⟨hcz10_0, hcz10_1, hcz10_2, hcz10_3, hcz10_4, hcz10_5, hcz10_6, hcz10_7, hcz10_8, hcz10_9, hfz10_0, hfz10_1, hfz10_2, hfz10_3, hfz10_4, hfz10_5, hfz10_6, hfz10_7, hfz10_8, hfz10_9⟩ := cf10 BK185)); go_upto_region 4 with (fail))
  go_cut [15] (fun v15 wc => ∃ (kq : Nat) (x15_7 : Bool), v15 = .bool x15_7 ∧ Aside0 (maskref1_fieldFault.j0 kq a0 t186 x15_7 a1_0 a1_1 a1_2 a1_3 a1_4 a1_5 a1_6 a1_7 a1_8 l1_9 = some r) ∧ Aside0 (kq ≤ k) ∧ Aside0 (wc.heap[gb185]? = some (.cells #[.int .i64 a1_0, .int .i64 a1_1, .int .i64 a1_2, .string a1_3, .string a1_4, .int .i64 a1_5, .int .u64 a1_6, .int .u64 a1_7, .bool a1_8, (.slice A1_9 l1_9.length c1_9)] 27 (0, 0))) ∧ Aside0 (Below w.heap.size w wc))
  case first =>
   have H := HC8.out
   clear HC8
   replace H := iE H; rcases H with ⟨c11b0, c11b1, H⟩ | ⟨c11, c11b0, c11b1, H⟩
   ·(skip)
    have H' := Aside0.mk H
    clear H
    obtain ⟨hcz12_0, hcz12_1, hcz12_2, hcz12_3, hcz12_4, hcz12_5, hcz12_6, hcz12_7, hcz12_8, hcz12_9⟩ := sq_cells10 (W := w9) (g := gb185) BK185.out; obtain ⟨hfz12_0, hfz12_1, hfz12_2, hfz12_3, hfz12_4, hfz12_5, hfz12_6, hfz12_7, hfz12_8, hfz12_9⟩ := sq_frozen10 BK185.out
    go_wp2
    go_meet
    case rel => exact ⟨_, (false), (by rfl), H', ⟨by omega⟩, ⟨by (with_reducible repeat (refine blk_drewN ?_ _)); exact BK185.out⟩, ⟨by repeat (with_reducible first | exact HB.out | apply pw_below_drewN)⟩⟩
   ·(skip)
    replace H := bN H; obtain ⟨t188, A13, H⟩ := H
    have H' := Aside0.mk H
    clear H
    obtain ⟨hcz14_0, hcz14_1, hcz14_2, hcz14_3, hcz14_4, hcz14_5, hcz14_6, hcz14_7, hcz14_8, hcz14_9⟩ := sq_cells10 (W := w9) (g := gb185) BK185.out; obtain ⟨hfz14_0, hfz14_1, hfz14_2, hfz14_3, hfz14_4, hfz14_5, hfz14_6, hfz14_7, hfz14_8, hfz14_9⟩ := sq_frozen10 BK185.out
    go_wp2_with ((go_at_call 65; (with_reducible refine (maskref1_QuotedName.calls k a1_3 t188 _ A13.out).mono ?_); rintro e w15 ⟨rfl, hb⟩; replace BK185 := bk1 BK185 hb; replace HB := hb1 HB hb; (try clear hb)))
    go_meet
    case rel => exact ⟨_, (!t188), (by rfl), H', ⟨by omega⟩, ⟨by exact BK185.out⟩, ⟨by repeat (with_reducible exact HB.out)⟩⟩
  case rest =>
   clear HC8
   (try clear c5b0); (try clear c5b1); (try clear c5b2); (try clear hcz10_0 hcz10_1 hcz10_2 hcz10_3 hcz10_4 hcz10_5 hcz10_6 hcz10_7 hcz10_8 hcz10_9); (try clear hfz10_0 hfz10_1 hfz10_2 hfz10_3 hfz10_4 hfz10_5 hfz10_6 hfz10_7 hfz10_8 hfz10_9)
   obtain ⟨kq, x15_7, rfl, HA, HJ7, BK185, HB⟩ := hcut
   cases kq with
   | zero => exact absurd HA.out (by simp [maskref1_fieldFault.j0])
   | succ kj7 =>
    have H := HA.out
    clear HA
    simp only [maskref1_fieldFault.j0] at H
    replace H := iB H; rcases H with ⟨rfl, H⟩ | ⟨rfl, H⟩
    ·obtain rfl := Option.some.inj H
     go_wp2
     go_ret
     exact ⟨by rfl, by repeat (with_reducible exact HB.out)⟩
    ·have HC17 := Aside0.mk H
     clear H
     go_upto_region 6 with (fail)
     go_cut [25] (fun v25 wc => ∃ (kq : Nat) (x25_16 : Bool), v25 = .bool x25_16 ∧ Aside0 (maskref1_fieldFault.j1 kq a0 t186 x25_16 a1_0 a1_1 a1_2 a1_3 a1_4 a1_5 a1_6 a1_7 a1_8 l1_9 = some r) ∧ Aside0 (kq ≤ kj7) ∧ Aside0 (wc.heap[gb185]? = some (.cells #[.int .i64 a1_0, .int .i64 a1_1, .int .i64 a1_2, .string a1_3, .string a1_4, .int .i64 a1_5, .int .u64 a1_6, .int .u64 a1_7, .bool a1_8, (.slice A1_9 l1_9.length c1_9)] 27 (0, 0))) ∧ Aside0 (Below w.heap.size w wc))
     case first =>
      have H := HC17.out
      clear HC17
      replace H := iB H; rcases H with ⟨rfl, H⟩ | ⟨rfl, H⟩
      ·replace H := bN H; obtain ⟨t189, A19, H⟩ := H
       replace H := iB H; rcases H with ⟨rfl, H⟩ | ⟨rfl, H⟩
       ·have H' := Aside0.mk H
        clear H
        obtain ⟨hcz21_0, hcz21_1, hcz21_2, hcz21_3, hcz21_4, hcz21_5, hcz21_6, hcz21_7, hcz21_8, hcz21_9⟩ := sq_cells10 (W := wc) (g := gb185) BK185.out; obtain ⟨hfz21_0, hfz21_1, hfz21_2, hfz21_3, hfz21_4, hfz21_5, hfz21_6, hfz21_7, hfz21_8, hfz21_9⟩ := sq_frozen10 BK185.out
        go_wp2_with ((go_at_call 66; (with_reducible refine (maskref1_Valid.calls kj7 a1_5 a1_6 a1_7 true _ A19.out).mono ?_); rintro e w22 ⟨rfl, hb⟩; replace BK185 := bk1 BK185 hb; replace HB := hb1 HB hb; (try clear hb)))
        go_meet
        case rel => exact ⟨_, (false), (by rfl), H', ⟨by have := HJ7.out; omega⟩, ⟨by exact BK185.out⟩, ⟨by repeat (with_reducible exact HB.out)⟩⟩
       ·have H' := Aside0.mk H
        clear H
        obtain ⟨hcz23_0, hcz23_1, hcz23_2, hcz23_3, hcz23_4, hcz23_5, hcz23_6, hcz23_7, hcz23_8, hcz23_9⟩ := sq_cells10 (W := wc) (g := gb185) BK185.out; obtain ⟨hfz23_0, hfz23_1, hfz23_2, hfz23_3, hfz23_4, hfz23_5, hfz23_6, hfz23_7, hfz23_8, hfz23_9⟩ := sq_frozen10 BK185.out
        go_wp2_with ((go_at_call 66; (with_reducible refine (maskref1_Valid.calls kj7 a1_5 a1_6 a1_7 false _ A19.out).mono ?_); rintro e w24 ⟨rfl, hb⟩; replace BK185 := bk1 BK185 hb; replace HB := hb1 HB hb; (try clear hb)))
        go_meet
        case rel => exact ⟨_, (true), (by rfl), H', ⟨by have := HJ7.out; omega⟩, ⟨by exact BK185.out⟩, ⟨by repeat (with_reducible exact HB.out)⟩⟩
      ·have H' := Aside0.mk H
       clear H
       obtain ⟨hcz25_0, hcz25_1, hcz25_2, hcz25_3, hcz25_4, hcz25_5, hcz25_6, hcz25_7, hcz25_8, hcz25_9⟩ := sq_cells10 (W := wc) (g := gb185) BK185.out; obtain ⟨hfz25_0, hfz25_1, hfz25_2, hfz25_3, hfz25_4, hfz25_5, hfz25_6, hfz25_7, hfz25_8, hfz25_9⟩ := sq_frozen10 BK185.out
       go_wp2
       go_meet
       case rel => exact ⟨_, ((!(a1_5 == 0) || (!(a1_6 == 0) || (!(a1_7 == 0))))), (by rfl), H', ⟨by have := HJ7.out; omega⟩, ⟨by exact BK185.out⟩, ⟨by repeat (with_reducible exact HB.out)⟩⟩
     case rest =>
      clear HC17
      obtain ⟨kq, x25_16, rfl, HA, HJ16, BK185, HB⟩ := hcut
      cases kq with
      | zero => exact absurd HA.out (by simp [maskref1_fieldFault.j1])
      | succ kj16 =>
       have H := HA.out
       clear HA
       simp only [maskref1_fieldFault.j1] at H
       replace H := iB H; rcases H with ⟨rfl, H⟩ | ⟨rfl, H⟩
       ·obtain rfl := Option.some.inj H
        go_wp2
        go_ret
        exact ⟨by rfl, by repeat (with_reducible exact HB.out)⟩
       ·have HC27 := Aside0.mk H
        clear H
        go_upto_region 8 with (fail)
        go_cut [43] (fun v43 wc => ∃ (kq : Nat) (x43_26 : Bool), v43 = .bool x43_26 ∧ Aside0 (maskref1_fieldFault.j2 kq a0 x43_26 a1_0 a1_1 a1_2 a1_3 a1_4 a1_5 a1_6 a1_7 a1_8 l1_9 = some r) ∧ Aside0 (kq ≤ kj16) ∧ Aside0 (wc.heap[gb185]? = some (.cells #[.int .i64 a1_0, .int .i64 a1_1, .int .i64 a1_2, .string a1_3, .string a1_4, .int .i64 a1_5, .int .u64 a1_6, .int .u64 a1_7, .bool a1_8, (.slice A1_9 l1_9.length c1_9)] 27 (0, 0))) ∧ Aside0 (Below w.heap.size w wc))
        case first =>
         have H := HC27.out
         clear HC27
         replace H := iB H; rcases H with ⟨rfl, H⟩ | ⟨rfl, H⟩
         ·replace H := iB H; rcases H with ⟨rfl, H⟩ | ⟨rfl, H⟩
          ·have H' := Aside0.mk H
           clear H
           obtain ⟨hcz30_0, hcz30_1, hcz30_2, hcz30_3, hcz30_4, hcz30_5, hcz30_6, hcz30_7, hcz30_8, hcz30_9⟩ := sq_cells10 (W := wc) (g := gb185) BK185.out; obtain ⟨hfz30_0, hfz30_1, hfz30_2, hfz30_3, hfz30_4, hfz30_5, hfz30_6, hfz30_7, hfz30_8, hfz30_9⟩ := sq_frozen10 BK185.out
           go_wp2
           go_meet
           case rel => exact ⟨_, (false), (by rfl), H', ⟨by have := HJ7.out; have := HJ16.out; omega⟩, ⟨by exact BK185.out⟩, ⟨by repeat (with_reducible exact HB.out)⟩⟩
          ·replace H := bN H; obtain ⟨t190, A31, H⟩ := H
           have H' := Aside0.mk H
           clear H
           obtain ⟨hcz32_0, hcz32_1, hcz32_2, hcz32_3, hcz32_4, hcz32_5, hcz32_6, hcz32_7, hcz32_8, hcz32_9⟩ := sq_cells10 (W := wc) (g := gb185) BK185.out; obtain ⟨hfz32_0, hfz32_1, hfz32_2, hfz32_3, hfz32_4, hfz32_5, hfz32_6, hfz32_7, hfz32_8, hfz32_9⟩ := sq_frozen10 BK185.out
           go_wp2_with ((go_at_call 34; (with_reducible refine (maskref1_contains.calls kj16 a0 (⟨#[83]⟩ : ByteArray) t190 _ A31.out).mono ?_); rintro e w' ⟨rfl, ⟨nd, rfl⟩⟩))
           go_meet
           case rel => exact ⟨_, (!t190), (by rfl), H', ⟨by have := HJ7.out; have := HJ16.out; omega⟩, ⟨by (with_reducible repeat (refine blk_drewN ?_ _)); exact BK185.out⟩, ⟨by repeat (with_reducible first | exact HB.out | apply pw_below_drewN)⟩⟩
         ·have H' := Aside0.mk H
          clear H
          obtain ⟨hcz33_0, hcz33_1, hcz33_2, hcz33_3, hcz33_4, hcz33_5, hcz33_6, hcz33_7, hcz33_8, hcz33_9⟩ := sq_cells10 (W := wc) (g := gb185) BK185.out; obtain ⟨hfz33_0, hfz33_1, hfz33_2, hfz33_3, hfz33_4, hfz33_5, hfz33_6, hfz33_7, hfz33_8, hfz33_9⟩ := sq_frozen10 BK185.out
          go_wp2
          go_meet
          case rel => exact ⟨_, (false), (by rfl), H', ⟨by have := HJ7.out; have := HJ16.out; omega⟩, ⟨by exact BK185.out⟩, ⟨by repeat (with_reducible exact HB.out)⟩⟩
        case rest =>
         clear HC27
         obtain ⟨kq, x43_26, rfl, HA, HJ26, BK185, HB⟩ := hcut
         cases kq with
         | zero => exact absurd HA.out (by simp [maskref1_fieldFault.j2])
         | succ kj26 =>
          have H := HA.out
          clear HA
          simp only [maskref1_fieldFault.j2] at H
          replace H := iB H; rcases H with ⟨rfl, H⟩ | ⟨rfl, H⟩
          ·obtain rfl := Option.some.inj H
           go_wp2
           go_ret
           exact ⟨by rfl, by repeat (with_reducible exact HB.out)⟩
          ·have HC35 := Aside0.mk H
           clear H
           go_upto_region 10 with (fail)
           go_cut [55] (fun v55 wc => ∃ (kq : Nat) (x55_34 : Bool), v55 = .bool x55_34 ∧ Aside0 (maskref1_fieldFault.j3 kq x55_34 a1_0 a1_1 a1_2 a1_3 a1_4 a1_5 a1_6 a1_7 a1_8 l1_9 = some r) ∧ Aside0 (kq ≤ kj26) ∧ Aside0 (wc.heap[gb185]? = some (.cells #[.int .i64 a1_0, .int .i64 a1_1, .int .i64 a1_2, .string a1_3, .string a1_4, .int .i64 a1_5, .int .u64 a1_6, .int .u64 a1_7, .bool a1_8, (.slice A1_9 l1_9.length c1_9)] 27 (0, 0))) ∧ Aside0 (Below w.heap.size w wc))
           case first =>
            have H := HC35.out
            clear HC35
            replace H := iE H; rcases H with ⟨c36b0, c36b1, H⟩ | ⟨c36, c36b0, c36b1, H⟩
            ·(skip)
             have H' := Aside0.mk H
             clear H
             obtain ⟨hcz37_0, hcz37_1, hcz37_2, hcz37_3, hcz37_4, hcz37_5, hcz37_6, hcz37_7, hcz37_8, hcz37_9⟩ := sq_cells10 (W := wc) (g := gb185) BK185.out; obtain ⟨hfz37_0, hfz37_1, hfz37_2, hfz37_3, hfz37_4, hfz37_5, hfz37_6, hfz37_7, hfz37_8, hfz37_9⟩ := sq_frozen10 BK185.out
             go_wp2
             go_meet
             case rel => exact ⟨_, (false), (by rfl), H', ⟨by have := HJ7.out; have := HJ16.out; have := HJ26.out; omega⟩, ⟨by exact BK185.out⟩, ⟨by repeat (with_reducible exact HB.out)⟩⟩
            ·(skip)
             replace H := bN H; obtain ⟨t191, A38, H⟩ := H
             have H' := Aside0.mk H
             clear H
             obtain ⟨hcz39_0, hcz39_1, hcz39_2, hcz39_3, hcz39_4, hcz39_5, hcz39_6, hcz39_7, hcz39_8, hcz39_9⟩ := sq_cells10 (W := wc) (g := gb185) BK185.out; obtain ⟨hfz39_0, hfz39_1, hfz39_2, hfz39_3, hfz39_4, hfz39_5, hfz39_6, hfz39_7, hfz39_8, hfz39_9⟩ := sq_frozen10 BK185.out
             go_wp2_with ((go_at_call 34; (with_reducible refine (maskref1_contains.calls kj26 a0 (⟨#[88]⟩ : ByteArray) t191 _ A38.out).mono ?_); rintro e w' ⟨rfl, ⟨nd, rfl⟩⟩))
             go_meet
             case rel => exact ⟨_, (!t191), (by rfl), H', ⟨by have := HJ7.out; have := HJ16.out; have := HJ26.out; omega⟩, ⟨by (with_reducible repeat (refine blk_drewN ?_ _)); exact BK185.out⟩, ⟨by repeat (with_reducible first | exact HB.out | apply pw_below_drewN)⟩⟩
           case rest =>
            clear HC35
            obtain ⟨kq, x55_34, rfl, HA, HJ34, BK185, HB⟩ := hcut
            cases kq with
            | zero => exact absurd HA.out (by simp [maskref1_fieldFault.j3])
            | succ kj34 =>
             have H := HA.out
             clear HA
             simp only [maskref1_fieldFault.j3] at H
             replace H := iB H; rcases H with ⟨rfl, H⟩ | ⟨rfl, H⟩
             ·obtain rfl := Option.some.inj H
              go_wp2
              go_ret
              exact ⟨by rfl, by repeat (with_reducible exact HB.out)⟩
             ·by_cases c41 : (a1_4.size : Int) > 200
              ·rw [if_pos c41] at H
               have c41b0 : decide (200 < (a1_4.size : Int)) = true := decide_eq_true c41
               have c41b1 : decide (200 < a1_4.size) = true := decide_eq_true (by omega)
               clear c41
               obtain rfl := Option.some.inj H
               obtain ⟨hcz42_0, hcz42_1, hcz42_2, hcz42_3, hcz42_4, hcz42_5, hcz42_6, hcz42_7, hcz42_8, hcz42_9⟩ := sq_cells10 (W := wc) (g := gb185) BK185.out; obtain ⟨hfz42_0, hfz42_1, hfz42_2, hfz42_3, hfz42_4, hfz42_5, hfz42_6, hfz42_7, hfz42_8, hfz42_9⟩ := sq_frozen10 BK185.out
               go_wp2
               go_ret
               exact ⟨by rfl, by repeat (with_reducible exact HB.out)⟩
              ·rw [if_neg c41] at H
               have c41b0 : decide (200 < (a1_4.size : Int)) = false := decide_eq_false c41
               have c41b1 : decide (200 < a1_4.size) = false := decide_eq_false (by omega)
               clear c41
               replace H := bN H; obtain ⟨t192, A43, H⟩ := H
               replace H := iB H; rcases H with ⟨rfl, H⟩ | ⟨rfl, H⟩
               ·obtain rfl := Option.some.inj H
                obtain ⟨hcz45_0, hcz45_1, hcz45_2, hcz45_3, hcz45_4, hcz45_5, hcz45_6, hcz45_7, hcz45_8, hcz45_9⟩ := sq_cells10 (W := wc) (g := gb185) BK185.out; obtain ⟨hfz45_0, hfz45_1, hfz45_2, hfz45_3, hfz45_4, hfz45_5, hfz45_6, hfz45_7, hfz45_8, hfz45_9⟩ := sq_frozen10 BK185.out
                go_wp2_with ((go_at_call 67; (with_reducible refine (maskref1_within.calls kj34 a1_4 32 126 (⟨#[]⟩ : ByteArray) true _ A43.out).mono ?_); rintro e w' ⟨rfl, ⟨nd, rfl⟩⟩))
                go_ret
                exact ⟨by rfl, by repeat (with_reducible first | exact HB.out | apply pw_below_drewN)⟩
               ·obtain rfl := Option.some.inj H
                obtain ⟨hcz46_0, hcz46_1, hcz46_2, hcz46_3, hcz46_4, hcz46_5, hcz46_6, hcz46_7, hcz46_8, hcz46_9⟩ := sq_cells10 (W := wc) (g := gb185) BK185.out; obtain ⟨hfz46_0, hfz46_1, hfz46_2, hfz46_3, hfz46_4, hfz46_5, hfz46_6, hfz46_7, hfz46_8, hfz46_9⟩ := sq_frozen10 BK185.out
                go_wp2_with ((go_at_call 67; (with_reducible refine (maskref1_within.calls kj34 a1_4 32 126 (⟨#[]⟩ : ByteArray) false _ A43.out).mono ?_); rintro e w' ⟨rfl, ⟨nd, rfl⟩⟩))
                go_ret
                exact ⟨by rfl, by repeat (with_reducible first | exact HB.out | apply pw_below_drewN)⟩
end Go.Proofs.Ytlamgdibnnmbmaa.PSyn
end
