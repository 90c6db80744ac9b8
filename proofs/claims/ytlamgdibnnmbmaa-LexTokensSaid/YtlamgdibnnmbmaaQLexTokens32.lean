/- Part 33 of the proof of LexTokensSaid: The law LexTokens: for all arguments it returns true; each argument reads behind the call as it read before. Out of the plain theorem of YtlamgdibnnmbmaaLtA and the printed contract. -/
import Derived.Test.YtlamgdibnnmbmaaQLexTokens13
import Derived.Test.YtlamgdibnnmbmaaQLexTokens15
section
namespace Go.Proofs.Ytlamgdibnnmbmaa.PLex
open Go.RowKit Go.Proofs.YtlamgdibnnmbmaaW.PrintWords Go.Proofs.YtlamgdibnnmbmaaW.PrintLast Go.Proofs.YtlamgdibnnmbmaaW.PrintMore
attribute [local go_sem] max2_int min2_int max_two min_two max_three min_three max_four min_four
set_option linter.unusedVariables false
set_option linter.unusedSimpArgs false
def maskref1_contains.l0 : Nat → ByteArray → ByteArray → Int → Option (Bool)
 | 0, _, _, _ => none
 | k + 1, x0, x1, x5 => if (wrap64 (x5 + (x1.size : Int))) ≤ (x0.size : Int) then (if 0 ≤ x5 then (if x5 ≤ (wrap64 (x5 + (x1.size : Int))) then (if (x0.extract (x5 : Int).toNat ((wrap64 (x5 + (x1.size : Int))) : Int).toNat).toList = x1.toList then (some true) else (maskref1_contains.l0 k x0 x1 (wrap64 (x5 + 1)))) else (none)) else (none)) else (some false)
def maskref1_contains.f (k : Nat) (a0 : ByteArray) (a1 : ByteArray) : Option (Bool) := maskref1_contains.l0 k a0 a1 0
set_option maxHeartbeats 8000000 in
set_option maxRecDepth 100000 in
theorem maskref1_contains.calls (k : Nat) (a0 : ByteArray) (a1 : ByteArray) (r : Bool) (w : World) (h : maskref1_contains.f k a0 a1 = some r) :
  Calls Try.prog 34 #[.string a0, .string a1] w fun e w' => e = .returned (.bool r) ∧ Drawn0 w w' := by
 have H := h
 clear h
 unfold maskref1_contains.f at H
 have H' := Aside0.mk H
 clear H
 go_enter Try.func34, Try.ntmps34
 go_wp2
 go_loopg [5] k (fun kq v5 w' => ∃ (x5_1 : Int), v5 = .int .i64 x5_1 ∧ Aside0 (maskref1_contains.l0 kq a0 a1 x5_1 = some r) ∧ Aside0 (kq ≤ k) ∧ Drawn0 w w')
 case atStart => exact ⟨(0), (by rfl), H', ⟨Nat.le_refl _⟩, by repeat (exact Drawn0.refl _)⟩
 case round =>
  clear H'
  try clear p2
  obtain ⟨x5_1, rfl, HA, HK1, ⟨m1, rfl⟩⟩ := hrel
  cases gk with
  | zero => exact absurd HA.out (by simp [maskref1_contains.l0])
  | succ k1 =>
   have H := HA.out
   clear HA
   simp only [maskref1_contains.l0] at H
   replace H := iD H; rcases H with ⟨c3b0, H⟩ | ⟨c3b0, H⟩
   ·by_cases c4 : 0 ≤ x5_1
    ·rw [if_pos c4] at H
     have c4b0 := eq_true c4
     have c4b1 : decide (0 ≤ x5_1) = true := decide_eq_true c4
     clear c4
     by_cases c5 : x5_1 ≤ (wrap64 (x5_1 + (a1.size : Int)))
     ·rw [if_pos c5] at H
      have c5b0 := eq_true c5
      have c5b1 : decide (x5_1 ≤ (wrap64 (x5_1 + (a1.size : Int)))) = true := decide_eq_true c5
      have c6b0 := eq_true (of_decide_eq_true (by (with_reducible assumption)) : (wrap64 (x5_1 + (a1.size : Int))) ≤ (a0.size : Int))
      replace H := iE H; rcases H with ⟨c7b0, c7b1, H⟩ | ⟨c7, c7b0, c7b1, H⟩
      ·obtain rfl := Option.some.inj H
       go_wp2
       go_ret
       exact ⟨by rfl, by repeat (first | exact Drawn0.refl _ | apply Drawn0.step)⟩
      ·have H' := Aside0.mk H
       clear H
       go_wp2
       go_roundg k1
       case measure => have := HK1.out; omega
       case rel => exact ⟨(wrap64 (x5_1 + 1)), (by rfl), H', ⟨by have := HK1.out; omega⟩, by repeat (first | exact Drawn0.refl _ | apply Drawn0.step)⟩
     ·rw [if_neg c5] at H
      exact absurd H (by simp)
    ·rw [if_neg c4] at H
     exact absurd H (by simp)
   ·obtain rfl := Option.some.inj H
    go_wp2
    go_ret
    exact ⟨by rfl, by repeat (first | exact Drawn0.refl _ | apply Drawn0.step)⟩
end Go.Proofs.Ytlamgdibnnmbmaa.PLex
end
section
namespace Go.Proofs.Ytlamgdibnnmbmaa.PLex
open Go.RowKit Go.Proofs.YtlamgdibnnmbmaaW.PrintWords Go.Proofs.YtlamgdibnnmbmaaW.PrintLast Go.Proofs.YtlamgdibnnmbmaaW.PrintMore
attribute [local go_sem] max2_int min2_int max_two min_two max_three min_three max_four min_four
set_option linter.unusedVariables false
set_option linter.unusedSimpArgs false
def maskref1_isLetter.f (a0 : Int) : Option (Bool) := if a0 ≥ 97 then (if a0 ≤ 122 then (some true) else (if a0 ≥ 65 then (if a0 ≤ 90 then (some true) else (some (a0 == 95))) else (some (a0 == 95)))) else (if a0 ≥ 65 then (if a0 ≤ 90 then (some true) else (some (a0 == 95))) else (some (a0 == 95)))
set_option maxHeartbeats 8000000 in
set_option maxRecDepth 100000 in
theorem maskref1_isLetter.calls (a0 : Int) (r : Bool) (w : World) (h : maskref1_isLetter.f a0 = some r) :
  Calls Try.prog 55 #[.int .u8 a0] w fun e w' => e = .returned (.bool r) ∧ Drawn0 w w' := by
 have H := h
 clear h
 unfold maskref1_isLetter.f at H
 replace H := iD H; rcases H with ⟨c2b0, H⟩ | ⟨c2b0, H⟩
 ·replace c2b0 : decide (97 ≤ a0) = true := c2b0
  replace H := iD H; rcases H with ⟨c3b0, H⟩ | ⟨c3b0, H⟩
  ·obtain rfl := Option.some.inj H
   go_enter Try.func55, Try.ntmps55
   go_wp2
   go_ret
   exact ⟨by rfl, by repeat (exact Drawn0.refl _)⟩
  ·replace H := iD H; rcases H with ⟨c4b0, H⟩ | ⟨c4b0, H⟩
   ·replace c4b0 : decide (65 ≤ a0) = true := c4b0
    replace H := iD H; rcases H with ⟨c5b0, H⟩ | ⟨c5b0, H⟩
    ·obtain rfl := Option.some.inj H
     go_enter Try.func55, Try.ntmps55
     go_wp2
     go_ret
     exact ⟨by rfl, by repeat (exact Drawn0.refl _)⟩
    ·obtain rfl := Option.some.inj H
     go_enter Try.func55, Try.ntmps55
     go_wp2
     go_ret
     exact ⟨by rfl, by repeat (exact Drawn0.refl _)⟩
   ·replace c4b0 : decide (65 ≤ a0) = false := c4b0
    obtain rfl := Option.some.inj H
    go_enter Try.func55, Try.ntmps55
    go_wp2
    go_ret
    exact ⟨by rfl, by repeat (exact Drawn0.refl _)⟩
 ·replace c2b0 : decide (97 ≤ a0) = false := c2b0
  replace H := iD H; rcases H with ⟨c6b0, H⟩ | ⟨c6b0, H⟩
  ·replace c6b0 : decide (65 ≤ a0) = true := c6b0
   replace H := iD H; rcases H with ⟨c7b0, H⟩ | ⟨c7b0, H⟩
   ·obtain rfl := Option.some.inj H
    go_enter Try.func55, Try.ntmps55
    go_wp2
    go_ret
    exact ⟨by rfl, by repeat (exact Drawn0.refl _)⟩
   ·obtain rfl := Option.some.inj H
    go_enter Try.func55, Try.ntmps55
    go_wp2
    go_ret
    exact ⟨by rfl, by repeat (exact Drawn0.refl _)⟩
  ·replace c6b0 : decide (65 ≤ a0) = false := c6b0
   obtain rfl := Option.some.inj H
   go_enter Try.func55, Try.ntmps55
   go_wp2
   go_ret
   exact ⟨by rfl, by repeat (exact Drawn0.refl _)⟩
end Go.Proofs.Ytlamgdibnnmbmaa.PLex
end
section
namespace Go.Proofs.Ytlamgdibnnmbmaa.PLex
open Go.RowKit Go.Proofs.YtlamgdibnnmbmaaW.PrintWords Go.Proofs.YtlamgdibnnmbmaaW.PrintLast Go.Proofs.YtlamgdibnnmbmaaW.PrintMore
attribute [local go_sem] max2_int min2_int max_two min_two max_three min_three max_four min_four
set_option linter.unusedVariables false
set_option linter.unusedSimpArgs false
mutual
def maskref1_stringToken.l0 : Nat → ByteArray → List Int → Int → Option (Int × Int × Int × ByteArray × Bool × Int × Int × Int × Bool × Int × Int)
 | 0, _, _, _ => none
 | k + 1, x0, x5, x6 => if x6 < (x0.size : Int) then (if 0 ≤ x6 then (maskref1_stringToken.j1 k x0 x5 x6 ((bt x0 x6) != 10)) else (none)) else (maskref1_stringToken.j1 k x0 x5 x6 false)
def maskref1_stringToken.j1 : Nat → ByteArray → List Int → Int → Bool → Option (Int × Int × Int × ByteArray × Bool × Int × Int × Int × Bool × Int × Int)
 | 0, _, _, _, _ => none
 | k + 1, x0, x5, x6, x17 => if x17 = true then (if 0 ≤ x6 then (if x6 < (x0.size : Int) then (if (bt x0 x6) = 34 then (if (x5.length : Int) > 200 then (some (0, 0, 0, (⟨#[]⟩ : ByteArray), false, 0, 0, 0, false, 0, 3)) else (some (4, 0, 0, strOfNums x5, false, 0, 0, 0, false, wrap64 (x6 + 1), 0))) else (if (bt x0 x6) = 92 then (maskref1_stringToken.j2 k x0 x5 x6 (bt x0 x6) ((wrap64 (x6 + 1)) == (x0.size : Int))) else (maskref1_stringToken.j2 k x0 x5 x6 (bt x0 x6) false))) else (none)) else (none)) else (some (0, 0, 0, (⟨#[]⟩ : ByteArray), false, 0, 0, 0, false, 0, 11))
def maskref1_stringToken.j2 : Nat → ByteArray → List Int → Int → Int → Bool → Option (Int × Int × Int × ByteArray × Bool × Int × Int × Int × Bool × Int × Int)
 | 0, _, _, _, _, _ => none
 | k + 1, x0, x5, x6, x7, x39 => if x39 = true then (some (0, 0, 0, (⟨#[]⟩ : ByteArray), false, 0, 0, 0, false, 0, 11)) else (if x7 = 92 then (if 0 ≤ (wrap64 (x6 + 1)) then (if (wrap64 (x6 + 1)) < (x0.size : Int) then (if (bt x0 (wrap64 (x6 + 1))) = 34 then (if x5.length < 140737488355328 then (maskref1_stringToken.l0 k x0 (x5 ++ [bt x0 (wrap64 (x6 + 1))]) (wrap64 ((wrap64 (x6 + 1)) + 1))) else (none)) else (if (bt x0 (wrap64 (x6 + 1))) = 92 then (if x5.length < 140737488355328 then (maskref1_stringToken.l0 k x0 (x5 ++ [bt x0 (wrap64 (x6 + 1))]) (wrap64 ((wrap64 (x6 + 1)) + 1))) else (none)) else (some (0, 0, 0, (⟨#[]⟩ : ByteArray), false, 0, 0, 0, false, 0, 10)))) else (none)) else (none)) else (if x7 < 32 then (some (0, 0, 0, (⟨#[]⟩ : ByteArray), false, 0, 0, 0, false, 0, 10)) else (if x7 > 126 then (some (0, 0, 0, (⟨#[]⟩ : ByteArray), false, 0, 0, 0, false, 0, 10)) else (if x5.length < 140737488355328 then (maskref1_stringToken.l0 k x0 (x5 ++ [x7]) (wrap64 (x6 + 1))) else (none)))))
end
def maskref1_stringToken.f (k : Nat) (a0 : ByteArray) : Option (Int × Int × Int × ByteArray × Bool × Int × Int × Int × Bool × Int × Int) := maskref1_stringToken.l0 k a0 ([] : List Int) 1
set_option maxHeartbeats 8000000 in
set_option maxRecDepth 100000 in
theorem maskref1_stringToken.calls (k : Nat) (a0 : ByteArray) (r1 : Int) (r2 : Int) (r3 : Int) (r4 : ByteArray) (r5 : Bool) (r6 : Int) (r7 : Int) (r8 : Int) (r9 : Bool) (r10 : Int) (r11 : Int) (w : World) (h : maskref1_stringToken.f k a0 = some (r1, r2, r3, r4, r5, r6, r7, r8, r9, r10, r11)) :
  Calls Try.prog 57 #[.string a0] w fun e w' => e = .returned (.tuple #[.agg #[.int .i64 r1, .int .i64 r2, .int .i64 r3, .string r4, .bool r5, .int .i64 r6, .int .u64 r7, .int .u64 r8, .bool r9], .int .i64 r10, .int .i64 r11]) ∧ Below w.heap.size w w' := by
 have hu51 := Try.underlying51
 have HB := Aside0.mk (Below.refl w.heap.size w)
 have H := h
 clear h
 unfold maskref1_stringToken.f at H
 have H' := Aside0.mk H
 clear H
 go_enter Try.func57, Try.ntmps57
 go_wp2_with (((with_reducible refine gate_dst (N := 2) rfl ?_); (try (refine gate_guard (by rfl) ?_; dsimp only)); refine boxA HB 2 #[.int .i64 0, .int .i64 0, .int .i64 0, .string (⟨#[]⟩ : ByteArray), .bool false, .int .i64 0, .int .u64 0, .int .u64 0, .bool false] 51 ?_; clear HB; intro gb200 w2 BK200 GE200 hg hb HB; clear hb hg))
 go_loopg [5, 6] k (fun kq v5 v6 w' => ∃ (x5_1 : List Int) (x6_1 : Int) (x201000_1 : Int) (x201001_1 : Int) (x201002_1 : Int) (x201003_1 : ByteArray) (x201004_1 : Bool) (x201005_1 : Int) (x201006_1 : Int) (x201007_1 : Int) (x201008_1 : Bool), v6 = .int .i64 x6_1 ∧ Aside0 (maskref1_stringToken.l0 kq a0 x5_1 x6_1 = some (r1, r2, r3, r4, r5, r6, r7, r8, r9, r10, r11)) ∧ Aside0 (kq ≤ k) ∧ Aside0 (Kd.R (Kd.int .u8) 5 w' w.heap.size (fun _ => True) v5 x5_1) ∧ Aside0 (w'.heap[gb200]? = some (.cells #[.int .i64 x201000_1, .int .i64 x201001_1, .int .i64 x201002_1, .string x201003_1, .bool x201004_1, .int .i64 x201005_1, .int .u64 x201006_1, .int .u64 x201007_1, .bool x201008_1] 51 (0, 0))) ∧ Aside0 (Below w.heap.size w w'))
 case atStart => exact ⟨([] : List Int), (1), (0), (0), (0), (⟨#[]⟩ : ByteArray), (false), (0), (0), (0), (false), (by rfl), H', ⟨Nat.le_refl _⟩, ⟨by exact Kd.R_nil _ _ _ _ _⟩, ⟨by exact BK200.out⟩, ⟨by repeat (with_reducible exact HB.out)⟩⟩
 case round =>
  clear H'
  try clear p2
  obtain ⟨x5_1, x6_1, x201000_1, x201001_1, x201002_1, x201003_1, x201004_1, x201005_1, x201006_1, x201007_1, x201008_1, rfl, HA, HK1, HO_5, BK200, HB⟩ := hrel
  cases gk with
  | zero => exact absurd HA.out (by simp [maskref1_stringToken.l0])
  | succ k1 =>
   have H := HA.out
   clear HA
   simp only [maskref1_stringToken.l0] at H
   have HC3 := Aside0.mk H
   clear H
   go_upto_region 3 with (fail)
   go_cut [17] (fun v17 wc => ∃ (kq : Nat) (x17_2 : Bool), v17 = .bool x17_2 ∧ Aside0 (maskref1_stringToken.j1 kq a0 x5_1 x6_1 x17_2 = some (r1, r2, r3, r4, r5, r6, r7, r8, r9, r10, r11)) ∧ Aside0 (kq ≤ k1) ∧ Aside0 (Kd.R (Kd.int .u8) 5 wc w.heap.size (fun _ => True) u5 x5_1) ∧ Aside0 (wc.heap[gb200]? = some (.cells #[.int .i64 x201000_1, .int .i64 x201001_1, .int .i64 x201002_1, .string x201003_1, .bool x201004_1, .int .i64 x201005_1, .int .u64 x201006_1, .int .u64 x201007_1, .bool x201008_1] 51 (0, 0))) ∧ Aside0 (Below w.heap.size w wc))
   case first =>
    have H := HC3.out
    clear HC3
    replace H := iD H; rcases H with ⟨c4b0, H⟩ | ⟨c4b0, H⟩
    ·(skip)
     replace H := iN H; obtain ⟨c5b0, H⟩ := H
     have H' := Aside0.mk H
     clear H
     have p6 : 0 ≤ (x6_1 : Int) := of_decide_eq_true (by (with_reducible assumption))
     have q6 : x6_1 < (a0.size : Int) := of_decide_eq_true (by (with_reducible assumption))
     have hx6 := bt_at a0 x6_1
     replace p6 := eq_true p6
     replace q6 := eq_true q6
     go_wp2
     go_meet
     case rel => exact ⟨_, ((bt a0 x6_1) != 10), (by rfl), H', ⟨by have := HK1.out; omega⟩, ⟨by exact HO_5.out⟩, ⟨by exact BK200.out⟩, ⟨by repeat (with_reducible exact HB.out)⟩⟩
    ·(skip)
     have H' := Aside0.mk H
     clear H
     go_wp2
     go_meet
     case rel => exact ⟨_, (false), (by rfl), H', ⟨by have := HK1.out; omega⟩, ⟨by exact HO_5.out⟩, ⟨by exact BK200.out⟩, ⟨by repeat (with_reducible exact HB.out)⟩⟩
   case rest =>
    clear HC3
    obtain ⟨kq, x17_2, rfl, HA, HJ2, HO_5, BK200, HB⟩ := hcut
    cases kq with
    | zero => exact absurd HA.out (by simp [maskref1_stringToken.j1])
    | succ kj2 =>
     have H := HA.out
     clear HA
     simp only [maskref1_stringToken.j1] at H
     replace H := iB H; rcases H with ⟨rfl, H⟩ | ⟨rfl, H⟩
     ·replace H := iN H; obtain ⟨c8b0, H⟩ := H
      replace H := iN H; obtain ⟨c9b0, H⟩ := H
      replace H := iE H; rcases H with ⟨c11b0, c11b1, H⟩ | ⟨c11, c11b0, c11b1, H⟩
      ·by_cases c12 : (x5_1.length : Int) > 200
       ·rw [if_pos c12] at H
        have c12b0 : decide (200 < (x5_1.length : Int)) = true := decide_eq_true c12
        have c12b1 : decide (200 < x5_1.length) = true := decide_eq_true (by omega)
        clear c12
        simp only [Option.some.injEq, Prod.mk.injEq] at H
        obtain ⟨rfl, rfl, rfl, rfl, rfl, rfl, rfl, rfl, rfl, rfl, rfl⟩ := H
        have p10 : 0 ≤ (x6_1 : Int) := of_decide_eq_true (by (with_reducible assumption))
        have q10 : x6_1 < (a0.size : Int) := of_decide_eq_true (by (with_reducible assumption))
        have hx10 := bt_at a0 x6_1
        replace p10 := eq_true p10
        replace q10 := eq_true q10
        obtain ⟨Ao13, co13, eo13⟩ := Kd.R_slice HO_5.out
        subst eo13
        obtain ⟨hcz14_0, hcz14_1, hcz14_2, hcz14_3, hcz14_4, hcz14_5, hcz14_6, hcz14_7, hcz14_8, hfz14_0, hfz14_1, hfz14_2, hfz14_3, hfz14_4, hfz14_5, hfz14_6, hfz14_7, hfz14_8⟩ := cf9 BK200
        go_wp2
        refine bodyPost_ret (results_ctt rfl _ _ gb200 51 #[.int .i64 0, .int .i64 0, .int .i64 0, .string (⟨#[]⟩ : ByteArray), .bool false, .int .i64 0, .int .u64 0, .int .u64 0, .bool false] (0, 0) _ rfl (by refine blk_put (cs := #[.int .i64 0, .int .i64 0, .int .i64 0, .string (⟨#[]⟩ : ByteArray), .bool false, .int .i64 0, .int .u64 0, .int .u64 0, .bool x201008_1]) ?_ 8 _ rfl; refine blk_put (cs := #[.int .i64 0, .int .i64 0, .int .i64 0, .string (⟨#[]⟩ : ByteArray), .bool false, .int .i64 0, .int .u64 0, .int .u64 x201007_1, .bool x201008_1]) ?_ 7 _ rfl; refine blk_put (cs := #[.int .i64 0, .int .i64 0, .int .i64 0, .string (⟨#[]⟩ : ByteArray), .bool false, .int .i64 0, .int .u64 x201006_1, .int .u64 x201007_1, .bool x201008_1]) ?_ 6 _ rfl; refine blk_put (cs := #[.int .i64 0, .int .i64 0, .int .i64 0, .string (⟨#[]⟩ : ByteArray), .bool false, .int .i64 x201005_1, .int .u64 x201006_1, .int .u64 x201007_1, .bool x201008_1]) ?_ 5 _ rfl; refine blk_put (cs := #[.int .i64 0, .int .i64 0, .int .i64 0, .string (⟨#[]⟩ : ByteArray), .bool x201004_1, .int .i64 x201005_1, .int .u64 x201006_1, .int .u64 x201007_1, .bool x201008_1]) ?_ 4 _ rfl; refine blk_put (cs := #[.int .i64 0, .int .i64 0, .int .i64 0, .string x201003_1, .bool x201004_1, .int .i64 x201005_1, .int .u64 x201006_1, .int .u64 x201007_1, .bool x201008_1]) ?_ 3 _ rfl; refine blk_put (cs := #[.int .i64 0, .int .i64 0, .int .i64 x201002_1, .string x201003_1, .bool x201004_1, .int .i64 x201005_1, .int .u64 x201006_1, .int .u64 x201007_1, .bool x201008_1]) ?_ 2 _ rfl; refine blk_put (cs := #[.int .i64 0, .int .i64 x201001_1, .int .i64 x201002_1, .string x201003_1, .bool x201004_1, .int .i64 x201005_1, .int .u64 x201006_1, .int .u64 x201007_1, .bool x201008_1]) ?_ 1 _ rfl; refine blk_put (cs := #[.int .i64 x201000_1, .int .i64 x201001_1, .int .i64 x201002_1, .string x201003_1, .bool x201004_1, .int .i64 x201005_1, .int .u64 x201006_1, .int .u64 x201007_1, .bool x201008_1]) ?_ 0 _ rfl; exact BK200.out) Try.underlying51 rfl (by kernel_rfl)) rfl ?_
        exact ⟨by rfl, by repeat (with_reducible first | exact HB.out | refine below_set ?_ GE200.out)⟩
       ·rw [if_neg c12] at H
        have c12b0 : decide (200 < (x5_1.length : Int)) = false := decide_eq_false c12
        have c12b1 : decide (200 < x5_1.length) = false := decide_eq_false (by omega)
        clear c12
        simp only [Option.some.injEq, Prod.mk.injEq] at H
        obtain ⟨rfl, rfl, rfl, rfl, rfl, rfl, rfl, rfl, rfl, rfl, rfl⟩ := H
        have p10 : 0 ≤ (x6_1 : Int) := of_decide_eq_true (by (with_reducible assumption))
        have q10 : x6_1 < (a0.size : Int) := of_decide_eq_true (by (with_reducible assumption))
        have hx10 := bt_at a0 x6_1
        replace p10 := eq_true p10
        replace q10 := eq_true q10
        obtain ⟨Ao15, co15, eo15⟩ := Kd.R_slice HO_5.out
        subst eo15
        have hcv16 := own_string (P := Try.prog) Try.underlying90 Try.underlying5 Try.underlying9 (Kd.own_of_R HO_5.out)
        obtain ⟨hcz17_0, hcz17_1, hcz17_2, hcz17_3, hcz17_4, hcz17_5, hcz17_6, hcz17_7, hcz17_8, hfz17_0, hfz17_1, hfz17_2, hfz17_3, hfz17_4, hfz17_5, hfz17_6, hfz17_7, hfz17_8⟩ := cf9 BK200
        go_wp2
        refine bodyPost_ret (results_ctt rfl _ _ gb200 51 #[.int .i64 4, .int .i64 0, .int .i64 0, .string (strOfNums x5_1), .bool false, .int .i64 0, .int .u64 0, .int .u64 0, .bool false] (0, 0) _ rfl (by refine blk_put (cs := #[.int .i64 4, .int .i64 0, .int .i64 0, .string (strOfNums x5_1), .bool false, .int .i64 0, .int .u64 0, .int .u64 0, .bool x201008_1]) ?_ 8 _ rfl; refine blk_put (cs := #[.int .i64 4, .int .i64 0, .int .i64 0, .string (strOfNums x5_1), .bool false, .int .i64 0, .int .u64 0, .int .u64 x201007_1, .bool x201008_1]) ?_ 7 _ rfl; refine blk_put (cs := #[.int .i64 4, .int .i64 0, .int .i64 0, .string (strOfNums x5_1), .bool false, .int .i64 0, .int .u64 x201006_1, .int .u64 x201007_1, .bool x201008_1]) ?_ 6 _ rfl; refine blk_put (cs := #[.int .i64 4, .int .i64 0, .int .i64 0, .string (strOfNums x5_1), .bool false, .int .i64 x201005_1, .int .u64 x201006_1, .int .u64 x201007_1, .bool x201008_1]) ?_ 5 _ rfl; refine blk_put (cs := #[.int .i64 4, .int .i64 0, .int .i64 0, .string (strOfNums x5_1), .bool x201004_1, .int .i64 x201005_1, .int .u64 x201006_1, .int .u64 x201007_1, .bool x201008_1]) ?_ 4 _ rfl; refine blk_put (cs := #[.int .i64 4, .int .i64 0, .int .i64 0, .string x201003_1, .bool x201004_1, .int .i64 x201005_1, .int .u64 x201006_1, .int .u64 x201007_1, .bool x201008_1]) ?_ 3 _ rfl; refine blk_put (cs := #[.int .i64 4, .int .i64 0, .int .i64 x201002_1, .string x201003_1, .bool x201004_1, .int .i64 x201005_1, .int .u64 x201006_1, .int .u64 x201007_1, .bool x201008_1]) ?_ 2 _ rfl; refine blk_put (cs := #[.int .i64 4, .int .i64 x201001_1, .int .i64 x201002_1, .string x201003_1, .bool x201004_1, .int .i64 x201005_1, .int .u64 x201006_1, .int .u64 x201007_1, .bool x201008_1]) ?_ 1 _ rfl; refine blk_put (cs := #[.int .i64 x201000_1, .int .i64 x201001_1, .int .i64 x201002_1, .string x201003_1, .bool x201004_1, .int .i64 x201005_1, .int .u64 x201006_1, .int .u64 x201007_1, .bool x201008_1]) ?_ 0 _ rfl; exact BK200.out) Try.underlying51 rfl (by kernel_rfl)) rfl ?_
        exact ⟨by rfl, by repeat (with_reducible first | exact HB.out | refine below_set ?_ GE200.out)⟩
      ·have HC18 := Aside0.mk H
       clear H
       have p10 : 0 ≤ (x6_1 : Int) := of_decide_eq_true (by (with_reducible assumption))
       have q10 : x6_1 < (a0.size : Int) := of_decide_eq_true (by (with_reducible assumption))
       have hx10 := bt_at a0 x6_1
       replace p10 := eq_true p10
       replace q10 := eq_true q10
       go_upto_region 11 with (fail)
       go_cut [39] (fun v39 wc => ∃ (kq : Nat) (x39_17 : Bool), v39 = .bool x39_17 ∧ Aside0 (maskref1_stringToken.j2 kq a0 x5_1 x6_1 (bt a0 x6_1) x39_17 = some (r1, r2, r3, r4, r5, r6, r7, r8, r9, r10, r11)) ∧ Aside0 (kq ≤ kj2) ∧ Aside0 (Kd.R (Kd.int .u8) 5 wc w.heap.size (fun _ => True) u5 x5_1) ∧ Aside0 (wc.heap[gb200]? = some (.cells #[.int .i64 x201000_1, .int .i64 x201001_1, .int .i64 x201002_1, .string x201003_1, .bool x201004_1, .int .i64 x201005_1, .int .u64 x201006_1, .int .u64 x201007_1, .bool x201008_1] 51 (0, 0))) ∧ Aside0 (Below w.heap.size w wc))
       case first =>
        have H := HC18.out
        clear HC18
        replace H := iE H; rcases H with ⟨c19b0, c19b1, H⟩ | ⟨c19, c19b0, c19b1, H⟩
        ·(skip)
         have H' := Aside0.mk H
         clear H
         go_wp2
         go_meet
         case rel => exact ⟨_, (((wrap64 (x6_1 + 1)) == (a0.size : Int))), (by rfl), H', ⟨by have := HK1.out; have := HJ2.out; omega⟩, ⟨by exact HO_5.out⟩, ⟨by exact BK200.out⟩, ⟨by repeat (with_reducible exact HB.out)⟩⟩
        ·(skip)
         have H' := Aside0.mk H
         clear H
         go_wp2
         go_meet
         case rel => exact ⟨_, (false), (by rfl), H', ⟨by have := HK1.out; have := HJ2.out; omega⟩, ⟨by exact HO_5.out⟩, ⟨by exact BK200.out⟩, ⟨by repeat (with_reducible exact HB.out)⟩⟩
       case rest =>
        clear HC18
        (try clear c8b0); (try clear c9b0); (try clear p10); (try clear q10); (try clear hx10); (try clear c11); (try clear c11b0); (try clear c11b1)
        obtain ⟨kq, x39_17, rfl, HA, HJ17, HO_5, BK200, HB⟩ := hcut
        cases kq with
        | zero => exact absurd HA.out (by simp [maskref1_stringToken.j2])
        | succ kj17 =>
         have H := HA.out
         clear HA
         simp only [maskref1_stringToken.j2] at H
         replace H := iB H; rcases H with ⟨rfl, H⟩ | ⟨rfl, H⟩
         ·simp only [Option.some.injEq, Prod.mk.injEq] at H
          obtain ⟨rfl, rfl, rfl, rfl, rfl, rfl, rfl, rfl, rfl, rfl, rfl⟩ := H
          obtain ⟨hcz21_0, hcz21_1, hcz21_2, hcz21_3, hcz21_4, hcz21_5, hcz21_6, hcz21_7, hcz21_8, hfz21_0, hfz21_1, hfz21_2, hfz21_3, hfz21_4, hfz21_5, hfz21_6, hfz21_7, hfz21_8⟩ := cf9 BK200
          go_wp2
          refine bodyPost_ret (results_ctt rfl _ _ gb200 51 #[.int .i64 0, .int .i64 0, .int .i64 0, .string (⟨#[]⟩ : ByteArray), .bool false, .int .i64 0, .int .u64 0, .int .u64 0, .bool false] (0, 0) _ rfl (by refine blk_put (cs := #[.int .i64 0, .int .i64 0, .int .i64 0, .string (⟨#[]⟩ : ByteArray), .bool false, .int .i64 0, .int .u64 0, .int .u64 0, .bool x201008_1]) ?_ 8 _ rfl; refine blk_put (cs := #[.int .i64 0, .int .i64 0, .int .i64 0, .string (⟨#[]⟩ : ByteArray), .bool false, .int .i64 0, .int .u64 0, .int .u64 x201007_1, .bool x201008_1]) ?_ 7 _ rfl; refine blk_put (cs := #[.int .i64 0, .int .i64 0, .int .i64 0, .string (⟨#[]⟩ : ByteArray), .bool false, .int .i64 0, .int .u64 x201006_1, .int .u64 x201007_1, .bool x201008_1]) ?_ 6 _ rfl; refine blk_put (cs := #[.int .i64 0, .int .i64 0, .int .i64 0, .string (⟨#[]⟩ : ByteArray), .bool false, .int .i64 x201005_1, .int .u64 x201006_1, .int .u64 x201007_1, .bool x201008_1]) ?_ 5 _ rfl; refine blk_put (cs := #[.int .i64 0, .int .i64 0, .int .i64 0, .string (⟨#[]⟩ : ByteArray), .bool x201004_1, .int .i64 x201005_1, .int .u64 x201006_1, .int .u64 x201007_1, .bool x201008_1]) ?_ 4 _ rfl; refine blk_put (cs := #[.int .i64 0, .int .i64 0, .int .i64 0, .string x201003_1, .bool x201004_1, .int .i64 x201005_1, .int .u64 x201006_1, .int .u64 x201007_1, .bool x201008_1]) ?_ 3 _ rfl; refine blk_put (cs := #[.int .i64 0, .int .i64 0, .int .i64 x201002_1, .string x201003_1, .bool x201004_1, .int .i64 x201005_1, .int .u64 x201006_1, .int .u64 x201007_1, .bool x201008_1]) ?_ 2 _ rfl; refine blk_put (cs := #[.int .i64 0, .int .i64 x201001_1, .int .i64 x201002_1, .string x201003_1, .bool x201004_1, .int .i64 x201005_1, .int .u64 x201006_1, .int .u64 x201007_1, .bool x201008_1]) ?_ 1 _ rfl; refine blk_put (cs := #[.int .i64 x201000_1, .int .i64 x201001_1, .int .i64 x201002_1, .string x201003_1, .bool x201004_1, .int .i64 x201005_1, .int .u64 x201006_1, .int .u64 x201007_1, .bool x201008_1]) ?_ 0 _ rfl; exact BK200.out) Try.underlying51 rfl (by kernel_rfl)) rfl ?_
          exact ⟨by rfl, by repeat (with_reducible first | exact HB.out | refine below_set ?_ GE200.out)⟩
         ·replace H := iE H; rcases H with ⟨c22b0, c22b1, H⟩ | ⟨c22, c22b0, c22b1, H⟩
          ·obtain ⟨ji23, hji23⟩ : ∃ j_ : Int, (wrap64 (x6_1 + 1)) = j_ := ⟨_, rfl⟩
           replace H : (if 0 ≤ (ji23) then (if (ji23) < (a0.size : Int) then (if (bt a0 (ji23)) = 34 then (if x5_1.length < 140737488355328 then (maskref1_stringToken.l0 kj17 a0 (x5_1 ++ [bt a0 (ji23)]) (wrap64 ((ji23) + 1))) else (none)) else (if (bt a0 (ji23)) = 92 then (if x5_1.length < 140737488355328 then (maskref1_stringToken.l0 kj17 a0 (x5_1 ++ [bt a0 (ji23)]) (wrap64 ((ji23) + 1))) else (none)) else (some (0, 0, 0, (⟨#[]⟩ : ByteArray), false, 0, 0, 0, false, 0, 10)))) else (none)) else (none)) = some (r1, r2, r3, r4, r5, r6, r7, r8, r9, r10, r11) := by (rw [hji23] at H; exact H)
           have hji23w : (IntKind.i64.wrap (x6_1 + 1)) = ji23 := (i64_w _).trans hji23
           replace H := iN H; obtain ⟨c24b0, H⟩ := H
           replace H := iN H; obtain ⟨c25b0, H⟩ := H
           replace H := iE H; rcases H with ⟨c27b0, c27b1, H⟩ | ⟨c27, c27b0, c27b1, H⟩
           ·by_cases c29 : x5_1.length < 140737488355328
            ·rw [if_pos c29] at H
             have LMc29 := Aside0.mk c29
             clear c29
             obtain ⟨y201, hy201⟩ : ∃ y_ : List Int, y_ = (x5_1 ++ [bt a0 (ji23)]) := ⟨_, rfl⟩
             replace H : (maskref1_stringToken.l0 kj17 a0 y201 (wrap64 ((ji23) + 1))) = some (r1, r2, r3, r4, r5, r6, r7, r8, r9, r10, r11) := by (rw [hy201]; with_reducible exact H)
             have Ny201 := Aside0.mk hy201
             clear hy201
             have H' := Aside0.mk H
             clear H
             have p26 : 0 ≤ ((ji23) : Int) := of_decide_eq_true (by (with_reducible assumption))
             have q26 : (ji23) < (a0.size : Int) := of_decide_eq_true (by (with_reducible assumption))
             have hx26 := bt_at a0 (ji23)
             replace p26 := eq_true p26
             replace q26 := eq_true q26
             have p28 : 0 ≤ ((ji23) : Int) := of_decide_eq_true (by (with_reducible assumption))
             have q28 : (ji23) < (a0.size : Int) := of_decide_eq_true (by (with_reducible assumption))
             have hx28 := bt_at a0 (ji23)
             replace p28 := eq_true p28
             replace q28 := eq_true q28
             go_wp2_with (((with_reducible refine gate_builtin (b := .append) (xs := #[.tmp 66, .tmp 70]) rfl ?_); (try (refine gate_guard (by rfl) ?_; dsimp only)); at_builtin; refine Kd.R_append (Kd.int .u8) (w0 := w) w.heap.size rfl (.tmp 66) (.tmp 70) 90 5 (.int .u8 0) 1 rfl Try.underlying90 info5 rfl (by decide) (by omega) u5 x5_1 (bt a0 (ji23)) [.int .u8 (bt a0 (ji23))] (fun _ => True) (fun _ => False) rfl rfl ?aP (fun _ hk => hk.elim) ?aF ?aO ?aB ?aS ?aL ?_; (case aP => exact rfl); (case aB => exact HB.out); (case aF => exact (fun _ _ => trivial)); (case aO => exact HO_5.out); (case aS => exact (below_size HB.out)); (case aL => have := LMc29.out; omega); intro v202 w30 ho hb hg hat; rw [← Ny201.out] at ho; replace BK200 := Aside0.mk (blk_grown BK200.out hg (Kd.R_ne HO_5.out BK200.out (by decide))); replace HB := Aside0.mk (hb); have HO203 := Aside0.mk (ho); clear HO_5; clear ho hb hg hat))
             go_roundg kj17
             case measure => have := HK1.out; have := HJ2.out; have := HJ17.out; omega
             case rel => exact ⟨(y201), (wrap64 ((ji23) + 1)), (x201000_1), (x201001_1), (x201002_1), (x201003_1), (x201004_1), (x201005_1), (x201006_1), (x201007_1), (x201008_1), (by rfl), H', ⟨by have := HK1.out; have := HJ2.out; have := HJ17.out; omega⟩, ⟨by exact HO203.out⟩, ⟨by exact BK200.out⟩, ⟨by repeat (with_reducible exact HB.out)⟩⟩
            ·rw [if_neg c29] at H
             exact absurd H (by simp)
           ·replace H := iE H; rcases H with ⟨c32b0, c32b1, H⟩ | ⟨c32, c32b0, c32b1, H⟩
            ·by_cases c34 : x5_1.length < 140737488355328
             ·rw [if_pos c34] at H
              have LMc34 := Aside0.mk c34
              clear c34
              obtain ⟨y204, hy204⟩ : ∃ y_ : List Int, y_ = (x5_1 ++ [bt a0 (ji23)]) := ⟨_, rfl⟩
              replace H : (maskref1_stringToken.l0 kj17 a0 y204 (wrap64 ((ji23) + 1))) = some (r1, r2, r3, r4, r5, r6, r7, r8, r9, r10, r11) := by (rw [hy204]; with_reducible exact H)
              have Ny204 := Aside0.mk hy204
              clear hy204
              have H' := Aside0.mk H
              clear H
              have p26 : 0 ≤ ((ji23) : Int) := of_decide_eq_true (by (with_reducible assumption))
              have q26 : (ji23) < (a0.size : Int) := of_decide_eq_true (by (with_reducible assumption))
              have hx26 := bt_at a0 (ji23)
              replace p26 := eq_true p26
              replace q26 := eq_true q26
              have p31 : 0 ≤ ((ji23) : Int) := of_decide_eq_true (by (with_reducible assumption))
              have q31 : (ji23) < (a0.size : Int) := of_decide_eq_true (by (with_reducible assumption))
              have hx31 := bt_at a0 (ji23)
              replace p31 := eq_true p31
              replace q31 := eq_true q31
              have p33 : 0 ≤ ((ji23) : Int) := of_decide_eq_true (by (with_reducible assumption))
              have q33 : (ji23) < (a0.size : Int) := of_decide_eq_true (by (with_reducible assumption))
              have hx33 := bt_at a0 (ji23)
              replace p33 := eq_true p33
              replace q33 := eq_true q33
              go_wp2_with (((with_reducible refine gate_builtin (b := .append) (xs := #[.tmp 66, .tmp 70]) rfl ?_); (try (refine gate_guard (by rfl) ?_; dsimp only)); at_builtin; refine Kd.R_append (Kd.int .u8) (w0 := w) w.heap.size rfl (.tmp 66) (.tmp 70) 90 5 (.int .u8 0) 1 rfl Try.underlying90 info5 rfl (by decide) (by omega) u5 x5_1 (bt a0 (ji23)) [.int .u8 (bt a0 (ji23))] (fun _ => True) (fun _ => False) rfl rfl ?aP (fun _ hk => hk.elim) ?aF ?aO ?aB ?aS ?aL ?_; (case aP => exact rfl); (case aB => exact HB.out); (case aF => exact (fun _ _ => trivial)); (case aO => exact HO_5.out); (case aS => exact (below_size HB.out)); (case aL => have := LMc34.out; omega); intro v205 w35 ho hb hg hat; rw [← Ny204.out] at ho; replace BK200 := Aside0.mk (blk_grown BK200.out hg (Kd.R_ne HO_5.out BK200.out (by decide))); replace HB := Aside0.mk (hb); have HO206 := Aside0.mk (ho); clear HO_5; clear ho hb hg hat))
              go_roundg kj17
              case measure => have := HK1.out; have := HJ2.out; have := HJ17.out; omega
              case rel => exact ⟨(y204), (wrap64 ((ji23) + 1)), (x201000_1), (x201001_1), (x201002_1), (x201003_1), (x201004_1), (x201005_1), (x201006_1), (x201007_1), (x201008_1), (by rfl), H', ⟨by have := HK1.out; have := HJ2.out; have := HJ17.out; omega⟩, ⟨by exact HO206.out⟩, ⟨by exact BK200.out⟩, ⟨by repeat (with_reducible exact HB.out)⟩⟩
             ·rw [if_neg c34] at H
              exact absurd H (by simp)
            ·simp only [Option.some.injEq, Prod.mk.injEq] at H
             obtain ⟨rfl, rfl, rfl, rfl, rfl, rfl, rfl, rfl, rfl, rfl, rfl⟩ := H
             have p26 : 0 ≤ ((ji23) : Int) := of_decide_eq_true (by (with_reducible assumption))
             have q26 : (ji23) < (a0.size : Int) := of_decide_eq_true (by (with_reducible assumption))
             have hx26 := bt_at a0 (ji23)
             replace p26 := eq_true p26
             replace q26 := eq_true q26
             have p31 : 0 ≤ ((ji23) : Int) := of_decide_eq_true (by (with_reducible assumption))
             have q31 : (ji23) < (a0.size : Int) := of_decide_eq_true (by (with_reducible assumption))
             have hx31 := bt_at a0 (ji23)
             replace p31 := eq_true p31
             replace q31 := eq_true q31
             obtain ⟨hcz36_0, hcz36_1, hcz36_2, hcz36_3, hcz36_4, hcz36_5, hcz36_6, hcz36_7, hcz36_8, hfz36_0, hfz36_1, hfz36_2, hfz36_3, hfz36_4, hfz36_5, hfz36_6, hfz36_7, hfz36_8⟩ := cf9 BK200
             go_wp2
             refine bodyPost_ret (results_ctt rfl _ _ gb200 51 #[.int .i64 0, .int .i64 0, .int .i64 0, .string (⟨#[]⟩ : ByteArray), .bool false, .int .i64 0, .int .u64 0, .int .u64 0, .bool false] (0, 0) _ rfl (by refine blk_put (cs := #[.int .i64 0, .int .i64 0, .int .i64 0, .string (⟨#[]⟩ : ByteArray), .bool false, .int .i64 0, .int .u64 0, .int .u64 0, .bool x201008_1]) ?_ 8 _ rfl; refine blk_put (cs := #[.int .i64 0, .int .i64 0, .int .i64 0, .string (⟨#[]⟩ : ByteArray), .bool false, .int .i64 0, .int .u64 0, .int .u64 x201007_1, .bool x201008_1]) ?_ 7 _ rfl; refine blk_put (cs := #[.int .i64 0, .int .i64 0, .int .i64 0, .string (⟨#[]⟩ : ByteArray), .bool false, .int .i64 0, .int .u64 x201006_1, .int .u64 x201007_1, .bool x201008_1]) ?_ 6 _ rfl; refine blk_put (cs := #[.int .i64 0, .int .i64 0, .int .i64 0, .string (⟨#[]⟩ : ByteArray), .bool false, .int .i64 x201005_1, .int .u64 x201006_1, .int .u64 x201007_1, .bool x201008_1]) ?_ 5 _ rfl; refine blk_put (cs := #[.int .i64 0, .int .i64 0, .int .i64 0, .string (⟨#[]⟩ : ByteArray), .bool x201004_1, .int .i64 x201005_1, .int .u64 x201006_1, .int .u64 x201007_1, .bool x201008_1]) ?_ 4 _ rfl; refine blk_put (cs := #[.int .i64 0, .int .i64 0, .int .i64 0, .string x201003_1, .bool x201004_1, .int .i64 x201005_1, .int .u64 x201006_1, .int .u64 x201007_1, .bool x201008_1]) ?_ 3 _ rfl; refine blk_put (cs := #[.int .i64 0, .int .i64 0, .int .i64 x201002_1, .string x201003_1, .bool x201004_1, .int .i64 x201005_1, .int .u64 x201006_1, .int .u64 x201007_1, .bool x201008_1]) ?_ 2 _ rfl; refine blk_put (cs := #[.int .i64 0, .int .i64 x201001_1, .int .i64 x201002_1, .string x201003_1, .bool x201004_1, .int .i64 x201005_1, .int .u64 x201006_1, .int .u64 x201007_1, .bool x201008_1]) ?_ 1 _ rfl; refine blk_put (cs := #[.int .i64 x201000_1, .int .i64 x201001_1, .int .i64 x201002_1, .string x201003_1, .bool x201004_1, .int .i64 x201005_1, .int .u64 x201006_1, .int .u64 x201007_1, .bool x201008_1]) ?_ 0 _ rfl; exact BK200.out) Try.underlying51 rfl (by kernel_rfl)) rfl ?_
             exact ⟨by rfl, by repeat (with_reducible first | exact HB.out | refine below_set ?_ GE200.out)⟩
          ·replace H := iD H; rcases H with ⟨c37b0, H⟩ | ⟨c37b0, H⟩
           ·simp only [Option.some.injEq, Prod.mk.injEq] at H
            obtain ⟨rfl, rfl, rfl, rfl, rfl, rfl, rfl, rfl, rfl, rfl, rfl⟩ := H
            obtain ⟨hcz38_0, hcz38_1, hcz38_2, hcz38_3, hcz38_4, hcz38_5, hcz38_6, hcz38_7, hcz38_8, hfz38_0, hfz38_1, hfz38_2, hfz38_3, hfz38_4, hfz38_5, hfz38_6, hfz38_7, hfz38_8⟩ := cf9 BK200
            go_wp2
            refine bodyPost_ret (results_ctt rfl _ _ gb200 51 #[.int .i64 0, .int .i64 0, .int .i64 0, .string (⟨#[]⟩ : ByteArray), .bool false, .int .i64 0, .int .u64 0, .int .u64 0, .bool false] (0, 0) _ rfl (by refine blk_put (cs := #[.int .i64 0, .int .i64 0, .int .i64 0, .string (⟨#[]⟩ : ByteArray), .bool false, .int .i64 0, .int .u64 0, .int .u64 0, .bool x201008_1]) ?_ 8 _ rfl; refine blk_put (cs := #[.int .i64 0, .int .i64 0, .int .i64 0, .string (⟨#[]⟩ : ByteArray), .bool false, .int .i64 0, .int .u64 0, .int .u64 x201007_1, .bool x201008_1]) ?_ 7 _ rfl; refine blk_put (cs := #[.int .i64 0, .int .i64 0, .int .i64 0, .string (⟨#[]⟩ : ByteArray), .bool false, .int .i64 0, .int .u64 x201006_1, .int .u64 x201007_1, .bool x201008_1]) ?_ 6 _ rfl; refine blk_put (cs := #[.int .i64 0, .int .i64 0, .int .i64 0, .string (⟨#[]⟩ : ByteArray), .bool false, .int .i64 x201005_1, .int .u64 x201006_1, .int .u64 x201007_1, .bool x201008_1]) ?_ 5 _ rfl; refine blk_put (cs := #[.int .i64 0, .int .i64 0, .int .i64 0, .string (⟨#[]⟩ : ByteArray), .bool x201004_1, .int .i64 x201005_1, .int .u64 x201006_1, .int .u64 x201007_1, .bool x201008_1]) ?_ 4 _ rfl; refine blk_put (cs := #[.int .i64 0, .int .i64 0, .int .i64 0, .string x201003_1, .bool x201004_1, .int .i64 x201005_1, .int .u64 x201006_1, .int .u64 x201007_1, .bool x201008_1]) ?_ 3 _ rfl; refine blk_put (cs := #[.int .i64 0, .int .i64 0, .int .i64 x201002_1, .string x201003_1, .bool x201004_1, .int .i64 x201005_1, .int .u64 x201006_1, .int .u64 x201007_1, .bool x201008_1]) ?_ 2 _ rfl; refine blk_put (cs := #[.int .i64 0, .int .i64 x201001_1, .int .i64 x201002_1, .string x201003_1, .bool x201004_1, .int .i64 x201005_1, .int .u64 x201006_1, .int .u64 x201007_1, .bool x201008_1]) ?_ 1 _ rfl; refine blk_put (cs := #[.int .i64 x201000_1, .int .i64 x201001_1, .int .i64 x201002_1, .string x201003_1, .bool x201004_1, .int .i64 x201005_1, .int .u64 x201006_1, .int .u64 x201007_1, .bool x201008_1]) ?_ 0 _ rfl; exact BK200.out) Try.underlying51 rfl (by kernel_rfl)) rfl ?_
            exact ⟨by rfl, by repeat (with_reducible first | exact HB.out | refine below_set ?_ GE200.out)⟩
           ·replace H := iD H; rcases H with ⟨c39b0, H⟩ | ⟨c39b0, H⟩
            ·replace c39b0 : decide (126 < (bt a0 x6_1)) = true := c39b0
             simp only [Option.some.injEq, Prod.mk.injEq] at H
             obtain ⟨rfl, rfl, rfl, rfl, rfl, rfl, rfl, rfl, rfl, rfl, rfl⟩ := H
             obtain ⟨hcz40_0, hcz40_1, hcz40_2, hcz40_3, hcz40_4, hcz40_5, hcz40_6, hcz40_7, hcz40_8, hfz40_0, hfz40_1, hfz40_2, hfz40_3, hfz40_4, hfz40_5, hfz40_6, hfz40_7, hfz40_8⟩ := cf9 BK200
             go_wp2
             refine bodyPost_ret (results_ctt rfl _ _ gb200 51 #[.int .i64 0, .int .i64 0, .int .i64 0, .string (⟨#[]⟩ : ByteArray), .bool false, .int .i64 0, .int .u64 0, .int .u64 0, .bool false] (0, 0) _ rfl (by refine blk_put (cs := #[.int .i64 0, .int .i64 0, .int .i64 0, .string (⟨#[]⟩ : ByteArray), .bool false, .int .i64 0, .int .u64 0, .int .u64 0, .bool x201008_1]) ?_ 8 _ rfl; refine blk_put (cs := #[.int .i64 0, .int .i64 0, .int .i64 0, .string (⟨#[]⟩ : ByteArray), .bool false, .int .i64 0, .int .u64 0, .int .u64 x201007_1, .bool x201008_1]) ?_ 7 _ rfl; refine blk_put (cs := #[.int .i64 0, .int .i64 0, .int .i64 0, .string (⟨#[]⟩ : ByteArray), .bool false, .int .i64 0, .int .u64 x201006_1, .int .u64 x201007_1, .bool x201008_1]) ?_ 6 _ rfl; refine blk_put (cs := #[.int .i64 0, .int .i64 0, .int .i64 0, .string (⟨#[]⟩ : ByteArray), .bool false, .int .i64 x201005_1, .int .u64 x201006_1, .int .u64 x201007_1, .bool x201008_1]) ?_ 5 _ rfl; refine blk_put (cs := #[.int .i64 0, .int .i64 0, .int .i64 0, .string (⟨#[]⟩ : ByteArray), .bool x201004_1, .int .i64 x201005_1, .int .u64 x201006_1, .int .u64 x201007_1, .bool x201008_1]) ?_ 4 _ rfl; refine blk_put (cs := #[.int .i64 0, .int .i64 0, .int .i64 0, .string x201003_1, .bool x201004_1, .int .i64 x201005_1, .int .u64 x201006_1, .int .u64 x201007_1, .bool x201008_1]) ?_ 3 _ rfl; refine blk_put (cs := #[.int .i64 0, .int .i64 0, .int .i64 x201002_1, .string x201003_1, .bool x201004_1, .int .i64 x201005_1, .int .u64 x201006_1, .int .u64 x201007_1, .bool x201008_1]) ?_ 2 _ rfl; refine blk_put (cs := #[.int .i64 0, .int .i64 x201001_1, .int .i64 x201002_1, .string x201003_1, .bool x201004_1, .int .i64 x201005_1, .int .u64 x201006_1, .int .u64 x201007_1, .bool x201008_1]) ?_ 1 _ rfl; refine blk_put (cs := #[.int .i64 x201000_1, .int .i64 x201001_1, .int .i64 x201002_1, .string x201003_1, .bool x201004_1, .int .i64 x201005_1, .int .u64 x201006_1, .int .u64 x201007_1, .bool x201008_1]) ?_ 0 _ rfl; exact BK200.out) Try.underlying51 rfl (by kernel_rfl)) rfl ?_
             exact ⟨by rfl, by repeat (with_reducible first | exact HB.out | refine below_set ?_ GE200.out)⟩
            ·replace c39b0 : decide (126 < (bt a0 x6_1)) = false := c39b0
             by_cases c41 : x5_1.length < 140737488355328
             ·rw [if_pos c41] at H
              have LMc41 := Aside0.mk c41
              clear c41
              obtain ⟨y207, hy207⟩ : ∃ y_ : List Int, y_ = (x5_1 ++ [(bt a0 x6_1)]) := ⟨_, rfl⟩
              replace H : (maskref1_stringToken.l0 kj17 a0 y207 (wrap64 (x6_1 + 1))) = some (r1, r2, r3, r4, r5, r6, r7, r8, r9, r10, r11) := by (rw [hy207]; with_reducible exact H)
              have Ny207 := Aside0.mk hy207
              clear hy207
              have H' := Aside0.mk H
              clear H
              go_wp2_with (((with_reducible refine gate_builtin (b := .append) (xs := #[.tmp 23, .tmp 25]) rfl ?_); (try (refine gate_guard (by rfl) ?_; dsimp only)); at_builtin; refine Kd.R_append (Kd.int .u8) (w0 := w) w.heap.size rfl (.tmp 23) (.tmp 25) 90 5 (.int .u8 0) 1 rfl Try.underlying90 info5 rfl (by decide) (by omega) u5 x5_1 (bt a0 x6_1) [.int .u8 (bt a0 x6_1)] (fun _ => True) (fun _ => False) rfl rfl ?aP (fun _ hk => hk.elim) ?aF ?aO ?aB ?aS ?aL ?_; (case aP => exact rfl); (case aB => exact HB.out); (case aF => exact (fun _ _ => trivial)); (case aO => exact HO_5.out); (case aS => exact (below_size HB.out)); (case aL => have := LMc41.out; omega); intro v208 w42 ho hb hg hat; rw [← Ny207.out] at ho; replace BK200 := Aside0.mk (blk_grown BK200.out hg (Kd.R_ne HO_5.out BK200.out (by decide))); replace HB := Aside0.mk (hb); have HO209 := Aside0.mk (ho); clear HO_5; clear ho hb hg hat))
              go_roundg kj17
              case measure => have := HK1.out; have := HJ2.out; have := HJ17.out; omega
              case rel => exact ⟨(y207), (wrap64 (x6_1 + 1)), (x201000_1), (x201001_1), (x201002_1), (x201003_1), (x201004_1), (x201005_1), (x201006_1), (x201007_1), (x201008_1), (by rfl), H', ⟨by have := HK1.out; have := HJ2.out; have := HJ17.out; omega⟩, ⟨by exact HO209.out⟩, ⟨by exact BK200.out⟩, ⟨by repeat (with_reducible exact HB.out)⟩⟩
             ·rw [if_neg c41] at H
              exact absurd H (by simp)
     ·simp only [Option.some.injEq, Prod.mk.injEq] at H
      obtain ⟨rfl, rfl, rfl, rfl, rfl, rfl, rfl, rfl, rfl, rfl, rfl⟩ := H
      obtain ⟨hcz43_0, hcz43_1, hcz43_2, hcz43_3, hcz43_4, hcz43_5, hcz43_6, hcz43_7, hcz43_8, hfz43_0, hfz43_1, hfz43_2, hfz43_3, hfz43_4, hfz43_5, hfz43_6, hfz43_7, hfz43_8⟩ := cf9 BK200
      go_wp2
      refine bodyPost_ret (results_ctt rfl _ _ gb200 51 #[.int .i64 0, .int .i64 0, .int .i64 0, .string (⟨#[]⟩ : ByteArray), .bool false, .int .i64 0, .int .u64 0, .int .u64 0, .bool false] (0, 0) _ rfl (by refine blk_put (cs := #[.int .i64 0, .int .i64 0, .int .i64 0, .string (⟨#[]⟩ : ByteArray), .bool false, .int .i64 0, .int .u64 0, .int .u64 0, .bool x201008_1]) ?_ 8 _ rfl; refine blk_put (cs := #[.int .i64 0, .int .i64 0, .int .i64 0, .string (⟨#[]⟩ : ByteArray), .bool false, .int .i64 0, .int .u64 0, .int .u64 x201007_1, .bool x201008_1]) ?_ 7 _ rfl; refine blk_put (cs := #[.int .i64 0, .int .i64 0, .int .i64 0, .string (⟨#[]⟩ : ByteArray), .bool false, .int .i64 0, .int .u64 x201006_1, .int .u64 x201007_1, .bool x201008_1]) ?_ 6 _ rfl; refine blk_put (cs := #[.int .i64 0, .int .i64 0, .int .i64 0, .string (⟨#[]⟩ : ByteArray), .bool false, .int .i64 x201005_1, .int .u64 x201006_1, .int .u64 x201007_1, .bool x201008_1]) ?_ 5 _ rfl; refine blk_put (cs := #[.int .i64 0, .int .i64 0, .int .i64 0, .string (⟨#[]⟩ : ByteArray), .bool x201004_1, .int .i64 x201005_1, .int .u64 x201006_1, .int .u64 x201007_1, .bool x201008_1]) ?_ 4 _ rfl; refine blk_put (cs := #[.int .i64 0, .int .i64 0, .int .i64 0, .string x201003_1, .bool x201004_1, .int .i64 x201005_1, .int .u64 x201006_1, .int .u64 x201007_1, .bool x201008_1]) ?_ 3 _ rfl; refine blk_put (cs := #[.int .i64 0, .int .i64 0, .int .i64 x201002_1, .string x201003_1, .bool x201004_1, .int .i64 x201005_1, .int .u64 x201006_1, .int .u64 x201007_1, .bool x201008_1]) ?_ 2 _ rfl; refine blk_put (cs := #[.int .i64 0, .int .i64 x201001_1, .int .i64 x201002_1, .string x201003_1, .bool x201004_1, .int .i64 x201005_1, .int .u64 x201006_1, .int .u64 x201007_1, .bool x201008_1]) ?_ 1 _ rfl; refine blk_put (cs := #[.int .i64 x201000_1, .int .i64 x201001_1, .int .i64 x201002_1, .string x201003_1, .bool x201004_1, .int .i64 x201005_1, .int .u64 x201006_1, .int .u64 x201007_1, .bool x201008_1]) ?_ 0 _ rfl; exact BK200.out) Try.underlying51 rfl (by kernel_rfl)) rfl ?_
      exact ⟨by rfl, by repeat (with_reducible first | exact HB.out | refine below_set ?_ GE200.out)⟩
end Go.Proofs.Ytlamgdibnnmbmaa.PLex
end
section
namespace Go.Proofs.Ytlamgdibnnmbmaa.PLex
open Go.RowKit Go.Proofs.YtlamgdibnnmbmaaW.PrintWords Go.Proofs.YtlamgdibnnmbmaaW.PrintLast Go.Proofs.YtlamgdibnnmbmaaW.PrintMore
attribute [local go_sem] max2_int min2_int max_two min_two max_three min_three max_four min_four
set_option linter.unusedVariables false
set_option linter.unusedSimpArgs false
def maskref1_isWord.f (a0 : Int) : Option (Bool) := (maskref1_isLetter.f a0).bind fun t340 => (if t340 = true then (some true) else (if a0 ≥ 48 then (some (decide (a0 ≤ 57))) else (some false)))
set_option maxHeartbeats 8000000 in
set_option maxRecDepth 100000 in
theorem maskref1_isWord.calls (a0 : Int) (r : Bool) (w : World) (h : maskref1_isWord.f a0 = some r) :
  Calls Try.prog 54 #[.int .u8 a0] w fun e w' => e = .returned (.bool r) ∧ Drawn0 w w' := by
 have H := h
 clear h
 unfold maskref1_isWord.f at H
 replace H := bN H; obtain ⟨t340, A2, H⟩ := H
 replace H := iB H; rcases H with ⟨rfl, H⟩ | ⟨rfl, H⟩
 ·obtain rfl := Option.some.inj H
  go_enter Try.func54, Try.ntmps54
  go_wp2_with ((refine callA (some 4) Try.func55 #[.int .u8 a0] ?_; (with_reducible refine (maskref1_isLetter.calls a0 true _ A2.out).mono ?_); rintro e w' ⟨rfl, ⟨nd, rfl⟩⟩; refine ⟨_, rfl, ?_⟩))
  go_ret
  exact ⟨by rfl, by repeat (first | exact Drawn0.refl _ | apply Drawn0.step)⟩
 ·replace H := iD H; rcases H with ⟨c4b0, H⟩ | ⟨c4b0, H⟩
  ·replace c4b0 : decide (48 ≤ a0) = true := c4b0
   obtain rfl := Option.some.inj H
   go_enter Try.func54, Try.ntmps54
   go_wp2_with ((refine callA (some 4) Try.func55 #[.int .u8 a0] ?_; (with_reducible refine (maskref1_isLetter.calls a0 false _ A2.out).mono ?_); rintro e w' ⟨rfl, ⟨nd, rfl⟩⟩; refine ⟨_, rfl, ?_⟩))
   go_ret
   exact ⟨by rfl, by repeat (first | exact Drawn0.refl _ | apply Drawn0.step)⟩
  ·replace c4b0 : decide (48 ≤ a0) = false := c4b0
   obtain rfl := Option.some.inj H
   go_enter Try.func54, Try.ntmps54
   go_wp2_with ((refine callA (some 4) Try.func55 #[.int .u8 a0] ?_; (with_reducible refine (maskref1_isLetter.calls a0 false _ A2.out).mono ?_); rintro e w' ⟨rfl, ⟨nd, rfl⟩⟩; refine ⟨_, rfl, ?_⟩))
   go_ret
   exact ⟨by rfl, by repeat (first | exact Drawn0.refl _ | apply Drawn0.step)⟩
end Go.Proofs.Ytlamgdibnnmbmaa.PLex
end
section
namespace Go.Proofs.Ytlamgdibnnmbmaa.PLex
open Go.RowKit Go.Proofs.YtlamgdibnnmbmaaW.PrintWords Go.Proofs.YtlamgdibnnmbmaaW.PrintLast Go.Proofs.YtlamgdibnnmbmaaW.PrintMore
attribute [local go_sem] max2_int min2_int max_two min_two max_three min_three max_four min_four
set_option linter.unusedVariables false
set_option linter.unusedSimpArgs false
def maskref1_run__isWord.l0 : Nat → ByteArray → Int → Int → Option (Int)
 | 0, _, _, _ => none
 | k + 1, x0, x7, x8 => if x8 < x7 then (if 0 ≤ x8 then (if x8 < (x0.size : Int) then ((maskref1_isWord.f (bt x0 x8)).bind fun t341 => (if t341 = true then (maskref1_run__isWord.l0 k x0 x7 (wrap64 (x8 + 1))) else (some x8))) else (none)) else (none)) else (some (x0.size : Int))
def maskref1_run__isWord.f (k : Nat) (a0 : ByteArray)  : Option (Int) := maskref1_run__isWord.l0 k a0 (a0.size : Int) 0
set_option maxHeartbeats 8000000 in
set_option maxRecDepth 100000 in
theorem maskref1_run__isWord.calls (k : Nat) (a0 : ByteArray)  (r : Int) (w : World) (h : maskref1_run__isWord.f k a0 = some r) :
  Calls Try.prog 53 #[.string a0, .func (.func 54) #[] #[]] w fun e w' => e = .returned (.int .i64 r) ∧ Drawn0 w w' := by
 have H := h
 clear h
 unfold maskref1_run__isWord.f at H
 have H' := Aside0.mk H
 clear H
 go_enter Try.func53, Try.ntmps53
 go_wp2
 go_loopg [8] k (fun kq v8 w' => ∃ (x8_1 : Int), v8 = .int .i64 x8_1 ∧ Aside0 (maskref1_run__isWord.l0 kq a0 (a0.size : Int) x8_1 = some r) ∧ Aside0 (kq ≤ k) ∧ Drawn0 w w')
 case atStart => exact ⟨(0), (by rfl), H', ⟨Nat.le_refl _⟩, by repeat (exact Drawn0.refl _)⟩
 case round =>
  clear H'
  try clear p2
  obtain ⟨x8_1, rfl, HA, HK1, ⟨m1, rfl⟩⟩ := hrel
  cases gk with
  | zero => exact absurd HA.out (by simp [maskref1_run__isWord.l0])
  | succ k1 =>
   have H := HA.out
   clear HA
   simp only [maskref1_run__isWord.l0] at H
   replace H := iD H; rcases H with ⟨c3b0, H⟩ | ⟨c3b0, H⟩
   ·replace H := iN H; obtain ⟨c4b0, H⟩ := H
    replace H := iN H; obtain ⟨c5b0, H⟩ := H
    replace H := bN H; obtain ⟨t341, A7, H⟩ := H
    replace H := iB H; rcases H with ⟨rfl, H⟩ | ⟨rfl, H⟩
    ·have H' := Aside0.mk H
     clear H
     have p6 : 0 ≤ (x8_1 : Int) := of_decide_eq_true (by (with_reducible assumption))
     have q6 : x8_1 < (a0.size : Int) := of_decide_eq_true (by (with_reducible assumption))
     have hx6 := bt_at a0 x8_1
     replace p6 := eq_true p6
     replace q6 := eq_true q6
     go_wp2_with ((go_at_call 54; (with_reducible refine (maskref1_isWord.calls (bt a0 x8_1) true _ A7.out).mono ?_); rintro e w' ⟨rfl, ⟨nd, rfl⟩⟩))
     go_roundg k1
     case measure => have := HK1.out; omega
     case rel => exact ⟨(wrap64 (x8_1 + 1)), (by rfl), H', ⟨by have := HK1.out; omega⟩, by repeat (first | exact Drawn0.refl _ | apply Drawn0.step)⟩
    ·obtain rfl := Option.some.inj H
     have p6 : 0 ≤ (x8_1 : Int) := of_decide_eq_true (by (with_reducible assumption))
     have q6 : x8_1 < (a0.size : Int) := of_decide_eq_true (by (with_reducible assumption))
     have hx6 := bt_at a0 x8_1
     replace p6 := eq_true p6
     replace q6 := eq_true q6
     go_wp2_with ((go_at_call 54; (with_reducible refine (maskref1_isWord.calls (bt a0 x8_1) false _ A7.out).mono ?_); rintro e w' ⟨rfl, ⟨nd, rfl⟩⟩))
     go_ret
     exact ⟨by rfl, by repeat (first | exact Drawn0.refl _ | apply Drawn0.step)⟩
   ·obtain rfl := Option.some.inj H
    go_wp2
    go_ret
    exact ⟨by rfl, by repeat (first | exact Drawn0.refl _ | apply Drawn0.step)⟩
end Go.Proofs.Ytlamgdibnnmbmaa.PLex
end
section
namespace Go.Proofs.Ytlamgdibnnmbmaa.PLex
open Go.RowKit Go.Proofs.YtlamgdibnnmbmaaW.PrintWords Go.Proofs.YtlamgdibnnmbmaaW.PrintLast Go.Proofs.YtlamgdibnnmbmaaW.PrintMore
attribute [local go_sem] max2_int min2_int max_two min_two max_three min_three max_four min_four
set_option linter.unusedVariables false
set_option linter.unusedSimpArgs false
mutual
def maskref1_B.j0 : Nat → List Int → Bool → Option (Int × Int × Int)
 | 0, _, _ => none
 | k + 1, x0, x13 => if x13 = true then (some (0, 0, 0)) else (maskref1_B.l0 k x0 (x0.length : Int) 0 (x0.length : Int) 0 0)
def maskref1_B.l0 : Nat → List Int → Int → Int → Int → Int → Int → Option (Int × Int × Int)
 | 0, _, _, _, _, _, _ => none
 | k + 1, x18, x19, x20, x212000, x212001, x212002 => if x20 < x19 then (if 0 ≤ x20 then (if x20 < (x18.length : Int) then (if (rd x18 x20) = 49 then (maskref1_B.j2 k x20 (rd x18 x20) x18 x19 x20 true x212000 x212001 x212002) else (maskref1_B.j2 k x20 (rd x18 x20) x18 x19 x20 ((rd x18 x20) == 120) x212000 x212001 x212002)) else (none)) else (none)) else (some (x212000, x212001, x212002))
def maskref1_B.j2 : Nat → Int → Int → List Int → Int → Int → Bool → Int → Int → Int → Option (Int × Int × Int)
 | 0, _, _, _, _, _, _, _, _, _ => none
 | k + 1, x4, x5, x18, x19, x20, x30, x212000, x212001, x212002 => if x30 = true then (if 0 ≤ x4 then (maskref1_B.j3 k x4 x5 x18 x19 x20 x212000 (Go.bits .or .u64 x212001 (shl .u64 1 x4)) x212002) else (none)) else (maskref1_B.j3 k x4 x5 x18 x19 x20 x212000 x212001 x212002)
def maskref1_B.j3 : Nat → Int → Int → List Int → Int → Int → Int → Int → Int → Option (Int × Int × Int)
 | 0, _, _, _, _, _, _, _, _ => none
 | k + 1, x4, x5, x18, x19, x20, x212000, x212001, x212002 => if x5 = 120 then (if 0 ≤ x4 then (maskref1_B.l0 k x18 x19 (wrap64 (x20 + 1)) x212000 x212001 (Go.bits .or .u64 x212002 (shl .u64 1 x4))) else (none)) else (if x5 = 122 then (if 0 ≤ x4 then (maskref1_B.l0 k x18 x19 (wrap64 (x20 + 1)) x212000 x212001 (Go.bits .or .u64 x212002 (shl .u64 1 x4))) else (none)) else (maskref1_B.l0 k x18 x19 (wrap64 (x20 + 1)) x212000 x212001 x212002))
end
def maskref1_B.f (k : Nat) (l0 : List Int) : Option (Int × Int × Int) := if (l0.length : Int) < 1 then (maskref1_B.j0 k l0 true) else (maskref1_B.j0 k l0 (decide ((l0.length : Int) > 64)))
set_option maxHeartbeats 8000000 in
set_option maxRecDepth 100000 in
theorem maskref1_B.calls (k : Nat) (A0 : Option Addr) (c0 : Nat) (l0 : List Int) (r1 : Int) (r2 : Int) (r3 : Int) (w : World) (hr0 : Kd.C (Kd.int .u8) w A0 l0.length l0) (hc0 : l0.length ≤ c0) (h : maskref1_B.f k l0 = some (r1, r2, r3)) :
  Calls Try.prog 79 #[.slice A0 l0.length c0] w fun e w' => e = .returned (.agg #[.int .i64 r1, .int .u64 r2, .int .u64 r3]) ∧ Below w.heap.size w w' := by
 have hu24 := Try.underlying24
 have HR0 := Aside0.mk hr0
 have HC0 := Aside0.mk hc0
 clear hr0 hc0
 have HB := Aside0.mk (Below.refl w.heap.size w)
 have H := h
 clear h
 unfold maskref1_B.f at H
 have HC2 := Aside0.mk H
 clear H
 go_enter Try.func79, Try.ntmps79
 go_upto_region 1 with (((with_reducible refine gate_dst (N := 2) rfl ?_); (try (refine gate_guard (by rfl) ?_; dsimp only)); refine boxA HB 2 #[.int .i64 0, .int .u64 0, .int .u64 0] 24 ?_; clear HB; intro gb210 w3 BK210 GE210 hg hb HB; clear hb hg))
 (try simp only [Act.put, List.setIfInBounds_toArray, List.set_cons_zero, List.set_cons_succ])
 go_cut [13] (fun v13 wc => ∃ (kq : Nat) (x13_1 : Bool), v13 = .bool x13_1 ∧ Aside0 (maskref1_B.j0 kq l0 x13_1 = some (r1, r2, r3)) ∧ Aside0 (kq ≤ k) ∧ Aside0 (wc.heap[gb210]? = some (.cells #[.int .i64 0, .int .u64 0, .int .u64 0] 24 (0, 0))) ∧ Aside0 (Below w.heap.size w wc))
 case first =>
  have H := HC2.out
  clear HC2
  by_cases c4 : (l0.length : Int) < 1
  ·rw [if_pos c4] at H
   have c4b0 : decide ((l0.length : Int) < 1) = true := decide_eq_true c4
   have c4b1 : decide (l0.length < 1) = true := decide_eq_true (by omega)
   clear c4
   (skip)
   have H' := Aside0.mk H
   clear H
   go_wp2
   go_meet
   case rel => exact ⟨_, (true), (by rfl), H', ⟨by omega⟩, ⟨by exact BK210.out⟩, ⟨by repeat (with_reducible exact HB.out)⟩⟩
  ·rw [if_neg c4] at H
   have c4b0 : decide ((l0.length : Int) < 1) = false := decide_eq_false c4
   have c4b1 : decide (l0.length < 1) = false := decide_eq_false (by omega)
   clear c4
   (skip)
   have H' := Aside0.mk H
   clear H
   go_wp2
   go_meet
   case rel => exact ⟨_, (decide ((l0.length : Int) > 64)), (by rfl), H', ⟨by omega⟩, ⟨by exact BK210.out⟩, ⟨by repeat (with_reducible exact HB.out)⟩⟩
 case rest =>
  clear HC2
  obtain ⟨kq, x13_1, rfl, HA, HJ1, BK210, HB⟩ := hcut
  cases kq with
  | zero => exact absurd HA.out (by simp [maskref1_B.j0])
  | succ kj1 =>
   have H := HA.out
   clear HA
   simp only [maskref1_B.j0] at H
   replace H := iB H; rcases H with ⟨rfl, H⟩ | ⟨rfl, H⟩
   ·replace H := s3 H; obtain ⟨rfl, rfl, rfl⟩ := H
    obtain ⟨hcz6_0, hcz6_1, hcz6_2, hfz6_0, hfz6_1, hfz6_2⟩ := cf3 BK210
    go_wp2
    refine retA gb210 24 #[.int .i64 0, .int .u64 0, .int .u64 0] (put3 BK210) Try.underlying24 ?_
    exact ⟨by rfl, by repeat (with_reducible first | exact HB.out | refine below_set ?_ GE210.out)⟩
   ·have H' := Aside0.mk H
    clear H
    go_wp2_with (((with_reducible refine gate_dst (N := 3) rfl ?_); (try (refine gate_guard (by rfl) ?_; dsimp only)); refine boxA HB 3 #[.int .i64 0, .int .u64 0, .int .u64 0] 24 ?_; clear HB; intro gb211 w7 BK211 GE211 hg hb HB; have NB210_211 := nbA BK210 hg; have NB211_210 := nbB BK210 hg; replace BK210 := bk1 BK210 hb; clear hb hg; have hnb8 := NB211_210.out; have hnc8 := NB210_211.out; obtain ⟨hcz9_0, hcz9_1, hcz9_2, hfz9_0, hfz9_1, hfz9_2⟩ := cf3 BK211))
    go_loopg [20] kj1 (fun kq v20 w' => ∃ (x20_2 : Int) (x212001_2 : Int) (x212002_2 : Int), v20 = .int .i64 x20_2 ∧ Aside0 (maskref1_B.l0 kq l0 (l0.length : Int) x20_2 (l0.length : Int) x212001_2 x212002_2 = some (r1, r2, r3)) ∧ Aside0 (kq ≤ kj1) ∧ Aside0 (w'.heap[gb210]? = some (.cells #[.int .i64 0, .int .u64 0, .int .u64 0] 24 (0, 0))) ∧ Aside0 (w'.heap[gb211]? = some (.cells #[.int .i64 (l0.length : Int), .int .u64 x212001_2, .int .u64 x212002_2] 24 (0, 0))) ∧ Aside0 (Below w.heap.size w w'))
    case atStart => exact ⟨(0), (0), (0), (by rfl), H', ⟨Nat.le_refl _⟩, ⟨by refine blk_far ?_ NB210_211.out _; refine blk_far ?_ NB210_211.out _; refine blk_far ?_ NB210_211.out _; exact BK210.out⟩, ⟨by refine blk_put (cs := #[.int .i64 (l0.length : Int), .int .u64 0, .int .u64 0]) ?_ 2 _ rfl; refine blk_put (cs := #[.int .i64 (l0.length : Int), .int .u64 0, .int .u64 0]) ?_ 1 _ rfl; refine blk_put (cs := #[.int .i64 0, .int .u64 0, .int .u64 0]) ?_ 0 _ rfl; exact BK211.out⟩, ⟨by repeat (with_reducible first | exact HB.out | refine below_set ?_ GE211.out)⟩⟩
    case round =>
     clear H'
     (try clear hcz9_0 hcz9_1 hcz9_2); (try clear hfz9_0 hfz9_1 hfz9_2)
     obtain ⟨x20_2, x212001_2, x212002_2, rfl, HA, HK2, BK210, BK211, HB⟩ := hrel
     cases gk with
     | zero => exact absurd HA.out (by simp [maskref1_B.l0])
     | succ k2 =>
      have H := HA.out
      clear HA
      simp only [maskref1_B.l0] at H
      replace H := iD H; rcases H with ⟨c10b0, H⟩ | ⟨c10b0, H⟩
      ·replace H := iN H; obtain ⟨c11b0, H⟩ := H
       replace H := iN H; obtain ⟨c12b0, H⟩ := H
       have HC13 := Aside0.mk H
       clear H
       have p212 : 0 ≤ (x20_2 : Int) := of_decide_eq_true (by (with_reducible assumption))
       have q212 : x20_2 < (l0.length : Int) := of_decide_eq_true (by (with_reducible assumption))
       obtain ⟨ad212, e212, hx212_0⟩ := Kd.at_int HR0.out x20_2 p212 q212
       cases e212
       replace hx212_0 := (HB.out.cell (World.block_lt_of_cell? w _ hx212_0)).trans hx212_0
       replace p212 := eq_true p212
       replace q212 := eq_true q212
       go_upto_region 7 with (fail)
       go_cut [30] (fun v30 wc => ∃ (kq : Nat) (x30_12 : Bool), v30 = .bool x30_12 ∧ Aside0 (maskref1_B.j2 kq x20_2 (rd l0 x20_2) l0 (l0.length : Int) x20_2 x30_12 (l0.length : Int) x212001_2 x212002_2 = some (r1, r2, r3)) ∧ Aside0 (kq ≤ k2) ∧ Aside0 (wc.heap[gb210]? = some (.cells #[.int .i64 0, .int .u64 0, .int .u64 0] 24 (0, 0))) ∧ Aside0 (wc.heap[gb211]? = some (.cells #[.int .i64 (l0.length : Int), .int .u64 x212001_2, .int .u64 x212002_2] 24 (0, 0))) ∧ Aside0 (Below w.heap.size w wc))
       case first =>
        have H := HC13.out
        clear HC13
        replace H := iE H; rcases H with ⟨c14b0, c14b1, H⟩ | ⟨c14, c14b0, c14b1, H⟩
        ·(skip)
         have H' := Aside0.mk H
         clear H
         go_wp2
         go_meet
         case rel => exact ⟨_, (true), (by rfl), H', ⟨by have := HJ1.out; have := HK2.out; omega⟩, ⟨by exact BK210.out⟩, ⟨by exact BK211.out⟩, ⟨by repeat (with_reducible exact HB.out)⟩⟩
        ·(skip)
         have H' := Aside0.mk H
         clear H
         go_wp2
         go_meet
         case rel => exact ⟨_, ((rd l0 x20_2) == 120), (by rfl), H', ⟨by have := HJ1.out; have := HK2.out; omega⟩, ⟨by exact BK210.out⟩, ⟨by exact BK211.out⟩, ⟨by repeat (with_reducible exact HB.out)⟩⟩
       case rest =>
        clear HC13
        (try clear c10b0); (try clear c11b0); (try clear c12b0); (try clear hx212_0); (try clear p212); (try clear q212)
        obtain ⟨kq, x30_12, rfl, HA, HJ12, BK210, BK211, HB⟩ := hcut
        cases kq with
        | zero => exact absurd HA.out (by simp [maskref1_B.j2])
        | succ kj12 =>
         have H := HA.out
         clear HA
         simp only [maskref1_B.j2] at H
         have HC15 := Aside0.mk H
         clear H
         go_upto_if 30 with (fail)
         go_cut [] (fun wc => ∃ (kq : Nat) (x212001_14 : Int), Aside0 (maskref1_B.j3 kq x20_2 (rd l0 x20_2) l0 (l0.length : Int) x20_2 (l0.length : Int) x212001_14 x212002_2 = some (r1, r2, r3)) ∧ Aside0 (kq ≤ kj12) ∧ Aside0 (wc.heap[gb210]? = some (.cells #[.int .i64 0, .int .u64 0, .int .u64 0] 24 (0, 0))) ∧ Aside0 (wc.heap[gb211]? = some (.cells #[.int .i64 (l0.length : Int), .int .u64 x212001_14, .int .u64 x212002_2] 24 (0, 0))) ∧ Aside0 (Below w.heap.size w wc))
         case first =>
          have H := HC15.out
          clear HC15
          replace H := iB H; rcases H with ⟨rfl, H⟩ | ⟨rfl, H⟩
          ·by_cases c17 : 0 ≤ x20_2
           ·rw [if_pos c17] at H
            have c17b0 := eq_true c17
            have c17b1 : decide (0 ≤ x20_2) = true := decide_eq_true c17
            clear c17
            obtain ⟨ji18, hji18⟩ : ∃ j_ : Int, (shl .u64 1 x20_2) = j_ := ⟨_, rfl⟩
            replace H : (maskref1_B.j3 kj12 x20_2 (rd l0 x20_2) l0 (l0.length : Int) x20_2 (l0.length : Int) (Go.bits .or .u64 x212001_2 (ji18)) x212002_2) = some (r1, r2, r3) := by (rw [hji18] at H; exact H)
            have hji18_ : (IntKind.u64.wrap (1 * 2 ^ min x20_2.toNat 64)) = ji18 := hji18
            have hji18z : x20_2 ≤ 64 → (IntKind.u64.wrap (1 * 2 ^ x20_2.toNat)) = ji18 := shl_small hji18
            have hji18u : (IntKind.u64.wrap (2 ^ min x20_2.toNat 64)) = ji18 := by have h_ := hji18_; rw [Int.one_mul] at h_; exact h_
            have hji18v : x20_2 ≤ 64 → (IntKind.u64.wrap (2 ^ x20_2.toNat)) = ji18 := fun hle_ => by have h_ := hji18z hle_; rw [Int.one_mul] at h_; exact h_
            have H' := Aside0.mk H
            clear H
            try go_wp2
            replace BK210 := bkd BK210
            replace BK211 := bkd BK211
            replace HB := hbd HB
            refine start_ (n := 7) (S := fun w' => w'.cell? ⟨gb211, 0, none⟩ = some (.int .i64 (l0.length : Int)) ∧ w'.cell? ⟨gb211, 1, none⟩ = some (.int .u64 x212001_2) ∧ w'.cell? ⟨gb211, 2, none⟩ = some (.int .u64 x212002_2)) (ds := [6]) (tb 7 0) (by kernel_rfl) rfl (by kernel_rfl) (d3 BK211) (fun hHeld => ?_)
            generalize wc.drew = w19 at BK210 BK211 HB hHeld ⊢
            refine pure_ (i := 0) (N := some 31) (v := ?_) (a' := ?_) #[true, false, false, false, false, false, false] rfl rfl (by kernel_rfl) (fun _ _ _ h => h) (Or.inl ⟨by rfl, ?_⟩) ?_ ?_
            rotate_left
            ·intro w'
             go_simp
             with_reducible rfl
            rotate_left
            ·simp only [Act.put, List.setIfInBounds_toArray, List.set_cons_zero, List.set_cons_succ, i64_w, i32_w]
             rfl
            refine pure_ (i := 2) (N := some 33) (v := ?_) (a' := ?_) #[true, false, true, false, false, false, false] rfl rfl (by kernel_rfl) (fun _ _ _ h => h) (Or.inl ⟨by rfl, ?_⟩) ?_ ?_
            rotate_left
            ·intro w'
             go_simp
             with_reducible rfl
            rotate_left
            ·simp only [Act.put, List.setIfInBounds_toArray, List.set_cons_zero, List.set_cons_succ, i64_w, i32_w]
             rfl
            refine pure_ (i := 3) (N := some 34) (v := ?_) (a' := ?_) #[true, false, true, true, false, false, false] rfl rfl (by kernel_rfl) (fun _ _ _ h => h) (Or.inl ⟨by rfl, ?_⟩) ?_ ?_
            rotate_left
            ·intro w'
             go_simp
             with_reducible rfl
            rotate_left
            ·simp only [Act.put, List.setIfInBounds_toArray, List.set_cons_zero, List.set_cons_succ, i64_w, i32_w]
             rfl
            refine take_ (i := 1) (N := some 32) (v := ?_) (a' := ?_) #[true, true, true, true, false, false, false] rfl rfl (by kernel_rfl) (fun _ _ _ h => h) (Or.inl ⟨by rfl, ?_⟩) hHeld ?_ ?_
            rotate_left
            ·rintro w' ⟨s0, s1, s2⟩
             go_simp
             with_reducible rfl
            rotate_left
            ·simp only [Act.put, List.setIfInBounds_toArray, List.set_cons_zero, List.set_cons_succ, i64_w, i32_w]
             rfl
            refine pure_ (i := 4) (N := some 35) (v := ?_) (a' := ?_) #[true, true, true, true, true, false, false] rfl rfl (by kernel_rfl) (fun _ _ _ h => h) (Or.inl ⟨by rfl, ?_⟩) ?_ ?_
            rotate_left
            ·intro w'
             go_simp
             with_reducible rfl
            rotate_left
            ·simp only [Act.put, List.setIfInBounds_toArray, List.set_cons_zero, List.set_cons_succ, i64_w, i32_w]
             rfl
            refine pure_ (i := 5) (N := some 36) (v := ?_) (a' := ?_) #[true, true, true, true, true, true, false] rfl rfl (by kernel_rfl) (fun _ _ _ h => h) (Or.inl ⟨by rfl, ?_⟩) ?_ ?_
            rotate_left
            ·intro w'
             go_simp
             with_reducible rfl
            rotate_left
            ·simp only [Act.put, List.setIfInBounds_toArray, List.set_cons_zero, List.set_cons_succ, i64_w, i32_w]
             rfl
            refine last_ (i := 6) (N := none) #[true, true, true, true, true, true, true] rfl rfl (by kernel_rfl) (by decide) (fun K hK => ?_)
            have hs20 : w19.cell? ⟨gb211, 1, none⟩ = some (.int .u64 x212001_2) := (blk_cell BK211.out 1).trans rfl
            have hfs20 := blk_frozen BK211.out 1
            have hns20_0 := NB210_211.out
            have hms20_0 := NB211_210.out
            refine skip_ (w1 := ?_) (by rfl) rfl ?_ ?_
            rotate_left
            ·go_simp
             rfl
            refine hK.out _ _ ?_
            clear hK K
            refine done_ (by kernel_rfl) ?_
            try go_wp2
            go_meet
            case rel => exact ⟨_, (Go.bits .or .u64 x212001_2 (ji18)), H', ⟨by have := HJ1.out; have := HK2.out; have := HJ12.out; omega⟩, ⟨by refine blk_far ?_ NB210_211.out _; exact BK210.out⟩, ⟨by refine blk_put (cs := #[.int .i64 (l0.length : Int), .int .u64 x212001_2, .int .u64 x212002_2]) ?_ 1 _ rfl; exact BK211.out⟩, ⟨by repeat (with_reducible first | exact HB.out | refine below_set ?_ GE211.out)⟩⟩
           ·rw [if_neg c17] at H
            exact absurd H (by simp)
          ·have H' := Aside0.mk H
           clear H
           go_wp2
           go_meet
           case rel => exact ⟨_, (x212001_2), H', ⟨by have := HJ1.out; have := HK2.out; have := HJ12.out; omega⟩, ⟨by exact BK210.out⟩, ⟨by exact BK211.out⟩, ⟨by repeat (with_reducible exact HB.out)⟩⟩
         case rest =>
          clear HC15
          obtain ⟨kq, x212001_14, HA, HJ14, BK210, BK211, HB⟩ := hcut
          cases kq with
          | zero => exact absurd HA.out (by simp [maskref1_B.j3])
          | succ kj14 =>
           have H := HA.out
           clear HA
           simp only [maskref1_B.j3] at H
           replace H := iE H; rcases H with ⟨c21b0, c21b1, H⟩ | ⟨c21, c21b0, c21b1, H⟩
           ·by_cases c22 : 0 ≤ x20_2
            ·rw [if_pos c22] at H
             have c22b0 := eq_true c22
             have c22b1 : decide (0 ≤ x20_2) = true := decide_eq_true c22
             clear c22
             obtain ⟨ji23, hji23⟩ : ∃ j_ : Int, (shl .u64 1 x20_2) = j_ := ⟨_, rfl⟩
             replace H : (maskref1_B.l0 kj14 l0 (l0.length : Int) (wrap64 (x20_2 + 1)) (l0.length : Int) x212001_14 (Go.bits .or .u64 x212002_2 (ji23))) = some (r1, r2, r3) := by (rw [hji23] at H; exact H)
             have hji23_ : (IntKind.u64.wrap (1 * 2 ^ min x20_2.toNat 64)) = ji23 := hji23
             have hji23z : x20_2 ≤ 64 → (IntKind.u64.wrap (1 * 2 ^ x20_2.toNat)) = ji23 := shl_small hji23
             have hji23u : (IntKind.u64.wrap (2 ^ min x20_2.toNat 64)) = ji23 := by have h_ := hji23_; rw [Int.one_mul] at h_; exact h_
             have hji23v : x20_2 ≤ 64 → (IntKind.u64.wrap (2 ^ x20_2.toNat)) = ji23 := fun hle_ => by have h_ := hji23z hle_; rw [Int.one_mul] at h_; exact h_
             have H' := Aside0.mk H
             clear H
             try go_wp2
             replace BK210 := bkd BK210
             replace BK211 := bkd BK211
             replace HB := hbd HB
             refine start_ (n := 7) (S := fun w' => w'.cell? ⟨gb211, 0, none⟩ = some (.int .i64 (l0.length : Int)) ∧ w'.cell? ⟨gb211, 1, none⟩ = some (.int .u64 x212001_14) ∧ w'.cell? ⟨gb211, 2, none⟩ = some (.int .u64 x212002_2)) (ds := [6]) (tb 7 0) (by kernel_rfl) rfl (by kernel_rfl) (d3 BK211) (fun hHeld => ?_)
             generalize wc.drew = w24 at BK210 BK211 HB hHeld ⊢
             refine pure_ (i := 0) (N := some 43) (v := ?_) (a' := ?_) #[true, false, false, false, false, false, false] rfl rfl (by kernel_rfl) (fun _ _ _ h => h) (Or.inl ⟨by rfl, ?_⟩) ?_ ?_
             rotate_left
             ·intro w'
              go_simp
              with_reducible rfl
             rotate_left
             ·simp only [Act.put, List.setIfInBounds_toArray, List.set_cons_zero, List.set_cons_succ, i64_w, i32_w]
              rfl
             refine pure_ (i := 2) (N := some 45) (v := ?_) (a' := ?_) #[true, false, true, false, false, false, false] rfl rfl (by kernel_rfl) (fun _ _ _ h => h) (Or.inl ⟨by rfl, ?_⟩) ?_ ?_
             rotate_left
             ·intro w'
              go_simp
              with_reducible rfl
             rotate_left
             ·simp only [Act.put, List.setIfInBounds_toArray, List.set_cons_zero, List.set_cons_succ, i64_w, i32_w]
              rfl
             refine pure_ (i := 3) (N := some 46) (v := ?_) (a' := ?_) #[true, false, true, true, false, false, false] rfl rfl (by kernel_rfl) (fun _ _ _ h => h) (Or.inl ⟨by rfl, ?_⟩) ?_ ?_
             rotate_left
             ·intro w'
              go_simp
              with_reducible rfl
             rotate_left
             ·simp only [Act.put, List.setIfInBounds_toArray, List.set_cons_zero, List.set_cons_succ, i64_w, i32_w]
              rfl
             refine take_ (i := 1) (N := some 44) (v := ?_) (a' := ?_) #[true, true, true, true, false, false, false] rfl rfl (by kernel_rfl) (fun _ _ _ h => h) (Or.inl ⟨by rfl, ?_⟩) hHeld ?_ ?_
             rotate_left
             ·rintro w' ⟨s0, s1, s2⟩
              go_simp
              with_reducible rfl
             rotate_left
             ·simp only [Act.put, List.setIfInBounds_toArray, List.set_cons_zero, List.set_cons_succ, i64_w, i32_w]
              rfl
             refine pure_ (i := 4) (N := some 47) (v := ?_) (a' := ?_) #[true, true, true, true, true, false, false] rfl rfl (by kernel_rfl) (fun _ _ _ h => h) (Or.inl ⟨by rfl, ?_⟩) ?_ ?_
             rotate_left
             ·intro w'
              go_simp
              with_reducible rfl
             rotate_left
             ·simp only [Act.put, List.setIfInBounds_toArray, List.set_cons_zero, List.set_cons_succ, i64_w, i32_w]
              rfl
             refine pure_ (i := 5) (N := some 48) (v := ?_) (a' := ?_) #[true, true, true, true, true, true, false] rfl rfl (by kernel_rfl) (fun _ _ _ h => h) (Or.inl ⟨by rfl, ?_⟩) ?_ ?_
             rotate_left
             ·intro w'
              go_simp
              with_reducible rfl
             rotate_left
             ·simp only [Act.put, List.setIfInBounds_toArray, List.set_cons_zero, List.set_cons_succ, i64_w, i32_w]
              rfl
             refine last_ (i := 6) (N := none) #[true, true, true, true, true, true, true] rfl rfl (by kernel_rfl) (by decide) (fun K hK => ?_)
             have hs25 : w24.cell? ⟨gb211, 2, none⟩ = some (.int .u64 x212002_2) := (blk_cell BK211.out 2).trans rfl
             have hfs25 := blk_frozen BK211.out 2
             have hns25_0 := NB210_211.out
             have hms25_0 := NB211_210.out
             refine skip_ (w1 := ?_) (by rfl) rfl ?_ ?_
             rotate_left
             ·go_simp
              rfl
             refine hK.out _ _ ?_
             clear hK K
             refine done_ (by kernel_rfl) ?_
             try go_wp2
             go_roundg kj14
             case measure => have := HJ1.out; have := HK2.out; have := HJ12.out; have := HJ14.out; omega
             case rel => exact ⟨(wrap64 (x20_2 + 1)), (x212001_14), (Go.bits .or .u64 x212002_2 (ji23)), (by rfl), H', ⟨by have := HJ1.out; have := HK2.out; have := HJ12.out; have := HJ14.out; omega⟩, ⟨by refine blk_far ?_ NB210_211.out _; exact BK210.out⟩, ⟨by refine blk_put (cs := #[.int .i64 (l0.length : Int), .int .u64 x212001_14, .int .u64 x212002_2]) ?_ 2 _ rfl; exact BK211.out⟩, ⟨by repeat (with_reducible first | exact HB.out | refine below_set ?_ GE211.out)⟩⟩
            ·rw [if_neg c22] at H
             exact absurd H (by simp)
           ·replace H := iE H; rcases H with ⟨c26b0, c26b1, H⟩ | ⟨c26, c26b0, c26b1, H⟩
            ·by_cases c27 : 0 ≤ x20_2
             ·rw [if_pos c27] at H
              have c27b0 := eq_true c27
              have c27b1 : decide (0 ≤ x20_2) = true := decide_eq_true c27
              clear c27
              obtain ⟨ji28, hji28⟩ : ∃ j_ : Int, (shl .u64 1 x20_2) = j_ := ⟨_, rfl⟩
              replace H : (maskref1_B.l0 kj14 l0 (l0.length : Int) (wrap64 (x20_2 + 1)) (l0.length : Int) x212001_14 (Go.bits .or .u64 x212002_2 (ji28))) = some (r1, r2, r3) := by (rw [hji28] at H; exact H)
              have hji28_ : (IntKind.u64.wrap (1 * 2 ^ min x20_2.toNat 64)) = ji28 := hji28
              have hji28z : x20_2 ≤ 64 → (IntKind.u64.wrap (1 * 2 ^ x20_2.toNat)) = ji28 := shl_small hji28
              have hji28u : (IntKind.u64.wrap (2 ^ min x20_2.toNat 64)) = ji28 := by have h_ := hji28_; rw [Int.one_mul] at h_; exact h_
              have hji28v : x20_2 ≤ 64 → (IntKind.u64.wrap (2 ^ x20_2.toNat)) = ji28 := fun hle_ => by have h_ := hji28z hle_; rw [Int.one_mul] at h_; exact h_
              have H' := Aside0.mk H
              clear H
              try go_wp2
              replace BK210 := bkd BK210
              replace BK211 := bkd BK211
              replace HB := hbd HB
              refine start_ (n := 7) (S := fun w' => w'.cell? ⟨gb211, 0, none⟩ = some (.int .i64 (l0.length : Int)) ∧ w'.cell? ⟨gb211, 1, none⟩ = some (.int .u64 x212001_14) ∧ w'.cell? ⟨gb211, 2, none⟩ = some (.int .u64 x212002_2)) (ds := [6]) (tb 7 0) (by kernel_rfl) rfl (by kernel_rfl) (d3 BK211) (fun hHeld => ?_)
              generalize wc.drew = w29 at BK210 BK211 HB hHeld ⊢
              refine pure_ (i := 0) (N := some 43) (v := ?_) (a' := ?_) #[true, false, false, false, false, false, false] rfl rfl (by kernel_rfl) (fun _ _ _ h => h) (Or.inl ⟨by rfl, ?_⟩) ?_ ?_
              rotate_left
              ·intro w'
               go_simp
               with_reducible rfl
              rotate_left
              ·simp only [Act.put, List.setIfInBounds_toArray, List.set_cons_zero, List.set_cons_succ, i64_w, i32_w]
               rfl
              refine pure_ (i := 2) (N := some 45) (v := ?_) (a' := ?_) #[true, false, true, false, false, false, false] rfl rfl (by kernel_rfl) (fun _ _ _ h => h) (Or.inl ⟨by rfl, ?_⟩) ?_ ?_
              rotate_left
              ·intro w'
               go_simp
               with_reducible rfl
              rotate_left
              ·simp only [Act.put, List.setIfInBounds_toArray, List.set_cons_zero, List.set_cons_succ, i64_w, i32_w]
               rfl
              refine pure_ (i := 3) (N := some 46) (v := ?_) (a' := ?_) #[true, false, true, true, false, false, false] rfl rfl (by kernel_rfl) (fun _ _ _ h => h) (Or.inl ⟨by rfl, ?_⟩) ?_ ?_
              rotate_left
              ·intro w'
               go_simp
               with_reducible rfl
              rotate_left
              ·simp only [Act.put, List.setIfInBounds_toArray, List.set_cons_zero, List.set_cons_succ, i64_w, i32_w]
               rfl
              refine take_ (i := 1) (N := some 44) (v := ?_) (a' := ?_) #[true, true, true, true, false, false, false] rfl rfl (by kernel_rfl) (fun _ _ _ h => h) (Or.inl ⟨by rfl, ?_⟩) hHeld ?_ ?_
              rotate_left
              ·rintro w' ⟨s0, s1, s2⟩
               go_simp
               with_reducible rfl
              rotate_left
              ·simp only [Act.put, List.setIfInBounds_toArray, List.set_cons_zero, List.set_cons_succ, i64_w, i32_w]
               rfl
              refine pure_ (i := 4) (N := some 47) (v := ?_) (a' := ?_) #[true, true, true, true, true, false, false] rfl rfl (by kernel_rfl) (fun _ _ _ h => h) (Or.inl ⟨by rfl, ?_⟩) ?_ ?_
              rotate_left
              ·intro w'
               go_simp
               with_reducible rfl
              rotate_left
              ·simp only [Act.put, List.setIfInBounds_toArray, List.set_cons_zero, List.set_cons_succ, i64_w, i32_w]
               rfl
              refine pure_ (i := 5) (N := some 48) (v := ?_) (a' := ?_) #[true, true, true, true, true, true, false] rfl rfl (by kernel_rfl) (fun _ _ _ h => h) (Or.inl ⟨by rfl, ?_⟩) ?_ ?_
              rotate_left
              ·intro w'
               go_simp
               with_reducible rfl
              rotate_left
              ·simp only [Act.put, List.setIfInBounds_toArray, List.set_cons_zero, List.set_cons_succ, i64_w, i32_w]
               rfl
              refine last_ (i := 6) (N := none) #[true, true, true, true, true, true, true] rfl rfl (by kernel_rfl) (by decide) (fun K hK => ?_)
              have hs30 : w29.cell? ⟨gb211, 2, none⟩ = some (.int .u64 x212002_2) := (blk_cell BK211.out 2).trans rfl
              have hfs30 := blk_frozen BK211.out 2
              have hns30_0 := NB210_211.out
              have hms30_0 := NB211_210.out
              refine skip_ (w1 := ?_) (by rfl) rfl ?_ ?_
              rotate_left
              ·go_simp
               rfl
              refine hK.out _ _ ?_
              clear hK K
              refine done_ (by kernel_rfl) ?_
              try go_wp2
              go_roundg kj14
              case measure => have := HJ1.out; have := HK2.out; have := HJ12.out; have := HJ14.out; omega
              case rel => exact ⟨(wrap64 (x20_2 + 1)), (x212001_14), (Go.bits .or .u64 x212002_2 (ji28)), (by rfl), H', ⟨by have := HJ1.out; have := HK2.out; have := HJ12.out; have := HJ14.out; omega⟩, ⟨by refine blk_far ?_ NB210_211.out _; exact BK210.out⟩, ⟨by refine blk_put (cs := #[.int .i64 (l0.length : Int), .int .u64 x212001_14, .int .u64 x212002_2]) ?_ 2 _ rfl; exact BK211.out⟩, ⟨by repeat (with_reducible first | exact HB.out | refine below_set ?_ GE211.out)⟩⟩
             ·rw [if_neg c27] at H
              exact absurd H (by simp)
            ·have H' := Aside0.mk H
             clear H
             go_wp2
             go_roundg kj14
             case measure => have := HJ1.out; have := HK2.out; have := HJ12.out; have := HJ14.out; omega
             case rel => exact ⟨(wrap64 (x20_2 + 1)), (x212001_14), (x212002_2), (by rfl), H', ⟨by have := HJ1.out; have := HK2.out; have := HJ12.out; have := HJ14.out; omega⟩, ⟨by exact BK210.out⟩, ⟨by exact BK211.out⟩, ⟨by repeat (with_reducible exact HB.out)⟩⟩
      ·replace H := s3 H; obtain ⟨rfl, rfl, rfl⟩ := H
       have hnb31 := NB211_210.out
       have hnc31 := NB210_211.out
       obtain ⟨hcz32_0, hcz32_1, hcz32_2, hfz32_0, hfz32_1, hfz32_2⟩ := cf3 BK211
       obtain ⟨hcz33_0, hcz33_1, hcz33_2, hfz33_0, hfz33_1, hfz33_2⟩ := cf3 BK210
       go_wp2
       refine retA gb210 24 #[.int .i64 (l0.length : Int), .int .u64 x212001_2, .int .u64 x212002_2] (put3 BK210) Try.underlying24 ?_
       exact ⟨by rfl, by repeat (with_reducible first | exact HB.out | refine below_set ?_ GE210.out)⟩
end Go.Proofs.Ytlamgdibnnmbmaa.PLex
end
section
namespace Go.Proofs.Ytlamgdibnnmbmaa.PLex
open Go.RowKit Go.Proofs.YtlamgdibnnmbmaaW.PrintWords Go.Proofs.YtlamgdibnnmbmaaW.PrintLast Go.Proofs.YtlamgdibnnmbmaaW.PrintMore
attribute [local go_sem] max2_int min2_int max_two min_two max_three min_three max_four min_four
set_option linter.unusedVariables false
set_option linter.unusedSimpArgs false
def maskref1_numberToken_1.f (a0 : Int) : Option (Bool) := if a0 ≥ 48 then (some (decide (a0 ≤ 57))) else (some false)
set_option maxHeartbeats 8000000 in
set_option maxRecDepth 100000 in
theorem maskref1_numberToken_1.calls (a0 : Int) (r : Bool) (w : World) (h : maskref1_numberToken_1.f a0 = some r) :
  Calls Try.prog 77 #[.int .u8 a0] w fun e w' => e = .returned (.bool r) ∧ Drawn0 w w' := by
 have H := h
 clear h
 unfold maskref1_numberToken_1.f at H
 replace H := iD H; rcases H with ⟨c2b0, H⟩ | ⟨c2b0, H⟩
 ·replace c2b0 : decide (48 ≤ a0) = true := c2b0
  obtain rfl := Option.some.inj H
  go_enter Try.func77, Try.ntmps77
  go_wp2
  go_ret
  exact ⟨by rfl, by repeat (exact Drawn0.refl _)⟩
 ·replace c2b0 : decide (48 ≤ a0) = false := c2b0
  obtain rfl := Option.some.inj H
  go_enter Try.func77, Try.ntmps77
  go_wp2
  go_ret
  exact ⟨by rfl, by repeat (exact Drawn0.refl _)⟩
end Go.Proofs.Ytlamgdibnnmbmaa.PLex
end
section
namespace Go.Proofs.Ytlamgdibnnmbmaa.PLex
open Go.RowKit Go.Proofs.YtlamgdibnnmbmaaW.PrintWords Go.Proofs.YtlamgdibnnmbmaaW.PrintLast Go.Proofs.YtlamgdibnnmbmaaW.PrintMore
attribute [local go_sem] max2_int min2_int max_two min_two max_three min_three max_four min_four
set_option linter.unusedVariables false
set_option linter.unusedSimpArgs false
def maskref1_run__numberToken_1.l0 : Nat → ByteArray → Int → Int → Option (Int)
 | 0, _, _, _ => none
 | k + 1, x0, x7, x8 => if x8 < x7 then (if 0 ≤ x8 then (if x8 < (x0.size : Int) then ((maskref1_numberToken_1.f (bt x0 x8)).bind fun t339 => (if t339 = true then (maskref1_run__numberToken_1.l0 k x0 x7 (wrap64 (x8 + 1))) else (some x8))) else (none)) else (none)) else (some (x0.size : Int))
def maskref1_run__numberToken_1.f (k : Nat) (a0 : ByteArray)  : Option (Int) := maskref1_run__numberToken_1.l0 k a0 (a0.size : Int) 0
set_option maxHeartbeats 8000000 in
set_option maxRecDepth 100000 in
theorem maskref1_run__numberToken_1.calls (k : Nat) (a0 : ByteArray)  (r : Int) (w : World) (h : maskref1_run__numberToken_1.f k a0 = some r) :
  Calls Try.prog 53 #[.string a0, .func (.func 77) #[] #[]] w fun e w' => e = .returned (.int .i64 r) ∧ Drawn0 w w' := by
 have H := h
 clear h
 unfold maskref1_run__numberToken_1.f at H
 have H' := Aside0.mk H
 clear H
 go_enter Try.func53, Try.ntmps53
 go_wp2
 go_loopg [8] k (fun kq v8 w' => ∃ (x8_1 : Int), v8 = .int .i64 x8_1 ∧ Aside0 (maskref1_run__numberToken_1.l0 kq a0 (a0.size : Int) x8_1 = some r) ∧ Aside0 (kq ≤ k) ∧ Drawn0 w w')
 case atStart => exact ⟨(0), (by rfl), H', ⟨Nat.le_refl _⟩, by repeat (exact Drawn0.refl _)⟩
 case round =>
  clear H'
  try clear p2
  obtain ⟨x8_1, rfl, HA, HK1, ⟨m1, rfl⟩⟩ := hrel
  cases gk with
  | zero => exact absurd HA.out (by simp [maskref1_run__numberToken_1.l0])
  | succ k1 =>
   have H := HA.out
   clear HA
   simp only [maskref1_run__numberToken_1.l0] at H
   replace H := iD H; rcases H with ⟨c3b0, H⟩ | ⟨c3b0, H⟩
   ·replace H := iN H; obtain ⟨c4b0, H⟩ := H
    replace H := iN H; obtain ⟨c5b0, H⟩ := H
    replace H := bN H; obtain ⟨t339, A7, H⟩ := H
    replace H := iB H; rcases H with ⟨rfl, H⟩ | ⟨rfl, H⟩
    ·have H' := Aside0.mk H
     clear H
     have p6 : 0 ≤ (x8_1 : Int) := of_decide_eq_true (by (with_reducible assumption))
     have q6 : x8_1 < (a0.size : Int) := of_decide_eq_true (by (with_reducible assumption))
     have hx6 := bt_at a0 x8_1
     replace p6 := eq_true p6
     replace q6 := eq_true q6
     go_wp2_with ((go_at_call 77; (with_reducible refine (maskref1_numberToken_1.calls (bt a0 x8_1) true _ A7.out).mono ?_); rintro e w' ⟨rfl, ⟨nd, rfl⟩⟩))
     go_roundg k1
     case measure => have := HK1.out; omega
     case rel => exact ⟨(wrap64 (x8_1 + 1)), (by rfl), H', ⟨by have := HK1.out; omega⟩, by repeat (first | exact Drawn0.refl _ | apply Drawn0.step)⟩
    ·obtain rfl := Option.some.inj H
     have p6 : 0 ≤ (x8_1 : Int) := of_decide_eq_true (by (with_reducible assumption))
     have q6 : x8_1 < (a0.size : Int) := of_decide_eq_true (by (with_reducible assumption))
     have hx6 := bt_at a0 x8_1
     replace p6 := eq_true p6
     replace q6 := eq_true q6
     go_wp2_with ((go_at_call 77; (with_reducible refine (maskref1_numberToken_1.calls (bt a0 x8_1) false _ A7.out).mono ?_); rintro e w' ⟨rfl, ⟨nd, rfl⟩⟩))
     go_ret
     exact ⟨by rfl, by repeat (first | exact Drawn0.refl _ | apply Drawn0.step)⟩
   ·obtain rfl := Option.some.inj H
    go_wp2
    go_ret
    exact ⟨by rfl, by repeat (first | exact Drawn0.refl _ | apply Drawn0.step)⟩
end Go.Proofs.Ytlamgdibnnmbmaa.PLex
end
section
namespace Go.Proofs.Ytlamgdibnnmbmaa.PLex
open Go.RowKit Go.Proofs.YtlamgdibnnmbmaaW.PrintWords Go.Proofs.YtlamgdibnnmbmaaW.PrintLast Go.Proofs.YtlamgdibnnmbmaaW.PrintMore
attribute [local go_sem] max2_int min2_int max_two min_two max_three min_three max_four min_four
set_option linter.unusedVariables false
set_option linter.unusedSimpArgs false
def maskref1_Fill.l0 : Nat → Int → List Int → Int → Int → Option (List Int)
 | 0, _, _, _, _ => none
 | k + 1, x1, x5, x6, x7 => if x7 < x6 then (if x5.length < 140737488355328 then (maskref1_Fill.l0 k x1 (x5 ++ [x1]) x6 (wrap64 (x7 + 1))) else (none)) else (some x5)
def maskref1_Fill.f (k : Nat) (a0 : Int) (a1 : Int) : Option (List Int) := maskref1_Fill.l0 k a1 ([] : List Int) a0 0
set_option maxHeartbeats 8000000 in
set_option maxRecDepth 100000 in
theorem maskref1_Fill.calls (k : Nat) (a0 : Int) (a1 : Int) (r : List Int) (w : World) (h : maskref1_Fill.f k a0 a1 = some r) :
  Calls Try.prog 99 #[.int .i64 a0, .int .u8 a1] w fun e w' => ∃ v0_ : Value, e = .returned (v0_) ∧ Kd.R (Kd.int .u8) 5 w' w.heap.size (fun _ => True) v0_ r ∧ Below w.heap.size w w' := by
 have HB := Aside0.mk (Below.refl w.heap.size w)
 have H := h
 clear h
 unfold maskref1_Fill.f at H
 have H' := Aside0.mk H
 clear H
 go_enter Try.func99, Try.ntmps99
 go_wp2
 go_loopg [5, 7] k (fun kq v5 v7 w' => ∃ (x5_1 : List Int) (x7_1 : Int), v7 = .int .i64 x7_1 ∧ Aside0 (maskref1_Fill.l0 kq a1 x5_1 a0 x7_1 = some r) ∧ Aside0 (kq ≤ k) ∧ Aside0 (Kd.R (Kd.int .u8) 5 w' w.heap.size (fun _ => True) v5 x5_1) ∧ Aside0 (Below w.heap.size w w'))
 case atStart => exact ⟨([] : List Int), (0), (by rfl), H', ⟨Nat.le_refl _⟩, ⟨by exact Kd.R_nil _ _ _ _ _⟩, ⟨by repeat (with_reducible exact HB.out)⟩⟩
 case round =>
  clear H'
  try clear p2
  obtain ⟨x5_1, x7_1, rfl, HA, HK1, HO_5, HB⟩ := hrel
  cases gk with
  | zero => exact absurd HA.out (by simp [maskref1_Fill.l0])
  | succ k1 =>
   have H := HA.out
   clear HA
   simp only [maskref1_Fill.l0] at H
   replace H := iD H; rcases H with ⟨c3b0, H⟩ | ⟨c3b0, H⟩
   ·by_cases c4 : x5_1.length < 140737488355328
    ·rw [if_pos c4] at H
     have LMc4 := Aside0.mk c4
     clear c4
     obtain ⟨y213, hy213⟩ : ∃ y_ : List Int, y_ = (x5_1 ++ [a1]) := ⟨_, rfl⟩
     replace H : (maskref1_Fill.l0 k1 a1 y213 a0 (wrap64 (x7_1 + 1))) = some r := by (rw [hy213]; with_reducible exact H)
     have Ny213 := Aside0.mk hy213
     clear hy213
     have H' := Aside0.mk H
     clear H
     go_wp2_with (((with_reducible refine gate_builtin (b := .append) (xs := #[.tmp 9, .tmp 11]) rfl ?_); at_builtin; refine Kd.R_append (Kd.int .u8) (w0 := w) w.heap.size rfl (.tmp 9) (.tmp 11) 90 5 (.int .u8 0) 1 rfl Try.underlying90 info5 rfl (by decide) (by omega) u5 x5_1 a1 [.int .u8 a1] (fun _ => True) (fun _ => False) rfl rfl ?aP (fun _ hk => hk.elim) ?aF ?aO ?aB ?aS ?aL ?_; (case aP => exact rfl); (case aB => exact HB.out); (case aF => exact (fun _ _ => trivial)); (case aO => exact HO_5.out); (case aS => exact (below_size HB.out)); (case aL => have := LMc4.out; omega); intro v214 w5 ho hb hg hat; rw [← Ny213.out] at ho; replace HB := Aside0.mk (hb); have HO215 := Aside0.mk (ho); clear HO_5; clear ho hb hg hat))
     go_roundg k1
     case measure => have := HK1.out; omega
     case rel => exact ⟨(y213), (wrap64 (x7_1 + 1)), (by rfl), H', ⟨by have := HK1.out; omega⟩, ⟨by exact HO215.out⟩, ⟨by repeat (with_reducible exact HB.out)⟩⟩
    ·rw [if_neg c4] at H
     exact absurd H (by simp)
   ·obtain rfl := Option.some.inj H
    go_wp2
    go_ret
    exact ⟨_, by rfl, by exact HO_5.out, by repeat (with_reducible exact HB.out)⟩
end Go.Proofs.Ytlamgdibnnmbmaa.PLex
end
section
namespace Go.Proofs.Ytlamgdibnnmbmaa.PLex
open Go.RowKit Go.Proofs.YtlamgdibnnmbmaaW.PrintWords Go.Proofs.YtlamgdibnnmbmaaW.PrintLast Go.Proofs.YtlamgdibnnmbmaaW.PrintMore
attribute [local go_sem] max2_int min2_int max_two min_two max_three min_three max_four min_four
set_option linter.unusedVariables false
set_option linter.unusedSimpArgs false
def maskref1_AndOf.j0 : Nat → Int → Int → Bool → Option (Int)
 | 0, _, _, _ => none
 | k + 1, x0, x1, x5 => if x5 = true then (some 48) else (if x0 = 49 then (if x1 = 49 then (some 49) else (some 120)) else (some 120))
def maskref1_AndOf.f (k : Nat) (a0 : Int) (a1 : Int) : Option (Int) := if a0 = 48 then (maskref1_AndOf.j0 k a0 a1 true) else (maskref1_AndOf.j0 k a0 a1 (a1 == 48))
set_option maxHeartbeats 8000000 in
set_option maxRecDepth 100000 in
theorem maskref1_AndOf.calls (k : Nat) (a0 : Int) (a1 : Int) (r : Int) (w : World) (h : maskref1_AndOf.f k a0 a1 = some r) :
  Calls Try.prog 106 #[.int .u8 a0, .int .u8 a1] w fun e w' => e = .returned (.int .u8 r) ∧ Drawn0 w w' := by
 have H := h
 clear h
 unfold maskref1_AndOf.f at H
 have HC3 := Aside0.mk H
 clear H
 go_enter Try.func106, Try.ntmps106
 go_upto_region 1 with (fail)
 go_cut [5] (fun v5 wc => ∃ (kq : Nat) (x5_2 : Bool), v5 = .bool x5_2 ∧ Aside0 (maskref1_AndOf.j0 kq a0 a1 x5_2 = some r) ∧ Aside0 (kq ≤ k) ∧ Drawn0 w wc)
 case first =>
  have H := HC3.out
  clear HC3
  replace H := iE H; rcases H with ⟨c4b0, c4b1, H⟩ | ⟨c4, c4b0, c4b1, H⟩
  ·(skip)
   have H' := Aside0.mk H
   clear H
   go_wp2
   go_meet
   case rel => exact ⟨_, (true), (by rfl), H', ⟨by omega⟩, by repeat (exact Drawn0.refl _)⟩
  ·(skip)
   have H' := Aside0.mk H
   clear H
   go_wp2
   go_meet
   case rel => exact ⟨_, (a1 == 48), (by rfl), H', ⟨by omega⟩, by repeat (exact Drawn0.refl _)⟩
 case rest =>
  clear HC3
  obtain ⟨kq, x5_2, rfl, HA, HJ2, ⟨mc2, rfl⟩⟩ := hcut
  cases kq with
  | zero => exact absurd HA.out (by simp [maskref1_AndOf.j0])
  | succ kj2 =>
   have H := HA.out
   clear HA
   simp only [maskref1_AndOf.j0] at H
   replace H := iB H; rcases H with ⟨rfl, H⟩ | ⟨rfl, H⟩
   ·obtain rfl := Option.some.inj H
    go_wp2
    go_ret
    exact ⟨by rfl, by repeat (first | exact Drawn0.refl _ | apply Drawn0.step)⟩
   ·replace H := iE H; rcases H with ⟨c6b0, c6b1, H⟩ | ⟨c6, c6b0, c6b1, H⟩
    ·replace H := iE H; rcases H with ⟨c7b0, c7b1, H⟩ | ⟨c7, c7b0, c7b1, H⟩
     ·obtain rfl := Option.some.inj H
      go_wp2
      go_ret
      exact ⟨by rfl, by repeat (first | exact Drawn0.refl _ | apply Drawn0.step)⟩
     ·obtain rfl := Option.some.inj H
      go_wp2
      go_ret
      exact ⟨by rfl, by repeat (first | exact Drawn0.refl _ | apply Drawn0.step)⟩
    ·obtain rfl := Option.some.inj H
     go_wp2
     go_ret
     exact ⟨by rfl, by repeat (first | exact Drawn0.refl _ | apply Drawn0.step)⟩
end Go.Proofs.Ytlamgdibnnmbmaa.PLex
end
section
namespace Go.Proofs.Ytlamgdibnnmbmaa.PLex
open Go.RowKit Go.Proofs.YtlamgdibnnmbmaaW.PrintWords Go.Proofs.YtlamgdibnnmbmaaW.PrintLast Go.Proofs.YtlamgdibnnmbmaaW.PrintMore
attribute [local go_sem] max2_int min2_int max_two min_two max_three min_three max_four min_four
set_option linter.unusedVariables false
set_option linter.unusedSimpArgs false
def maskref1_NotOf.f (a0 : Int) : Option (Int) := if a0 = 48 then (some 49) else (if a0 = 49 then (some 48) else (some 120))
set_option maxHeartbeats 8000000 in
set_option maxRecDepth 100000 in
theorem maskref1_NotOf.calls (a0 : Int) (r : Int) (w : World) (h : maskref1_NotOf.f a0 = some r) :
  Calls Try.prog 107 #[.int .u8 a0] w fun e w' => e = .returned (.int .u8 r) ∧ Drawn0 w w' := by
 have H := h
 clear h
 unfold maskref1_NotOf.f at H
 replace H := iE H; rcases H with ⟨c2b0, c2b1, H⟩ | ⟨c2, c2b0, c2b1, H⟩
 ·obtain rfl := Option.some.inj H
  go_enter Try.func107, Try.ntmps107
  go_wp2
  go_ret
  exact ⟨by rfl, by repeat (exact Drawn0.refl _)⟩
 ·replace H := iE H; rcases H with ⟨c3b0, c3b1, H⟩ | ⟨c3, c3b0, c3b1, H⟩
  ·obtain rfl := Option.some.inj H
   go_enter Try.func107, Try.ntmps107
   go_wp2
   go_ret
   exact ⟨by rfl, by repeat (exact Drawn0.refl _)⟩
  ·obtain rfl := Option.some.inj H
   go_enter Try.func107, Try.ntmps107
   go_wp2
   go_ret
   exact ⟨by rfl, by repeat (exact Drawn0.refl _)⟩
end Go.Proofs.Ytlamgdibnnmbmaa.PLex
end
section
namespace Go.Proofs.Ytlamgdibnnmbmaa.PLex
open Go.RowKit Go.Proofs.YtlamgdibnnmbmaaW.PrintWords Go.Proofs.YtlamgdibnnmbmaaW.PrintLast Go.Proofs.YtlamgdibnnmbmaaW.PrintMore
attribute [local go_sem] max2_int min2_int max_two min_two max_three min_three max_four min_four
set_option linter.unusedVariables false
set_option linter.unusedSimpArgs false
def maskref1_OrOf.f (k : Nat) (a0 : Int) (a1 : Int) : Option (Int) := (maskref1_NotOf.f a0).bind fun t216 => ((maskref1_NotOf.f a1).bind fun t217 => ((maskref1_AndOf.f k t216 t217).bind fun t218 => ((maskref1_NotOf.f t218).bind fun t219 => (some t219))))
set_option maxHeartbeats 8000000 in
set_option maxRecDepth 100000 in
theorem maskref1_OrOf.calls (k : Nat) (a0 : Int) (a1 : Int) (r : Int) (w : World) (h : maskref1_OrOf.f k a0 a1 = some r) :
  Calls Try.prog 105 #[.int .u8 a0, .int .u8 a1] w fun e w' => e = .returned (.int .u8 r) ∧ Drawn0 w w' := by
 have H := h
 clear h
 unfold maskref1_OrOf.f at H
 replace H := bN H; obtain ⟨t216, A3, H⟩ := H
 replace H := bN H; obtain ⟨t217, A4, H⟩ := H
 replace H := bN H; obtain ⟨t218, A5, H⟩ := H
 replace H := bN H; obtain ⟨t219, A6, H⟩ := H
 obtain rfl := Option.some.inj H
 go_enter Try.func105, Try.ntmps105
 go_wp2_with (first | (refine callA (some 6) Try.func107 #[.int .u8 a0] ?_; (with_reducible refine (maskref1_NotOf.calls a0 t216 _ A3.out).mono ?_); rintro e w' ⟨rfl, ⟨nd, rfl⟩⟩; refine ⟨_, rfl, ?_⟩) | (refine callA (some 8) Try.func107 #[.int .u8 a1] ?_; (with_reducible refine (maskref1_NotOf.calls a1 t217 _ A4.out).mono ?_); rintro e w' ⟨rfl, ⟨nd, rfl⟩⟩; refine ⟨_, rfl, ?_⟩) | (refine callA (some 9) Try.func106 #[.int .u8 t216, .int .u8 t217] ?_; (with_reducible refine (maskref1_AndOf.calls k t216 t217 t218 _ A5.out).mono ?_); rintro e w' ⟨rfl, ⟨nd, rfl⟩⟩; refine ⟨_, rfl, ?_⟩) | (refine callA (some 10) Try.func107 #[.int .u8 t218] ?_; (with_reducible refine (maskref1_NotOf.calls t218 t219 _ A6.out).mono ?_); rintro e w' ⟨rfl, ⟨nd, rfl⟩⟩; refine ⟨_, rfl, ?_⟩))
 go_ret
 exact ⟨by rfl, by repeat (first | exact Drawn0.refl _ | apply Drawn0.step)⟩
end Go.Proofs.Ytlamgdibnnmbmaa.PLex
end
section
namespace Go.Proofs.Ytlamgdibnnmbmaa.PLex
open Go.RowKit Go.Proofs.YtlamgdibnnmbmaaW.PrintWords Go.Proofs.YtlamgdibnnmbmaaW.PrintLast Go.Proofs.YtlamgdibnnmbmaaW.PrintMore
attribute [local go_sem] max2_int min2_int max_two min_two max_three min_three max_four min_four
set_option linter.unusedVariables false
set_option linter.unusedSimpArgs false
def maskref1_XorOf.f (k : Nat) (a0 : Int) (a1 : Int) : Option (Int) := (maskref1_NotOf.f a1).bind fun t220 => ((maskref1_AndOf.f k a0 t220).bind fun t221 => ((maskref1_NotOf.f a0).bind fun t222 => ((maskref1_AndOf.f k t222 a1).bind fun t223 => ((maskref1_OrOf.f k t221 t223).bind fun t224 => (some t224)))))
set_option maxHeartbeats 8000000 in
set_option maxRecDepth 100000 in
theorem maskref1_XorOf.calls (k : Nat) (a0 : Int) (a1 : Int) (r : Int) (w : World) (h : maskref1_XorOf.f k a0 a1 = some r) :
  Calls Try.prog 104 #[.int .u8 a0, .int .u8 a1] w fun e w' => e = .returned (.int .u8 r) ∧ Drawn0 w w' := by
 have H := h
 clear h
 unfold maskref1_XorOf.f at H
 replace H := bN H; obtain ⟨t220, A3, H⟩ := H
 replace H := bN H; obtain ⟨t221, A4, H⟩ := H
 replace H := bN H; obtain ⟨t222, A5, H⟩ := H
 replace H := bN H; obtain ⟨t223, A6, H⟩ := H
 replace H := bN H; obtain ⟨t224, A7, H⟩ := H
 obtain rfl := Option.some.inj H
 go_enter Try.func104, Try.ntmps104
 go_wp2_with (first | (refine callA (some 7) Try.func107 #[.int .u8 a1] ?_; (with_reducible refine (maskref1_NotOf.calls a1 t220 _ A3.out).mono ?_); rintro e w' ⟨rfl, ⟨nd, rfl⟩⟩; refine ⟨_, rfl, ?_⟩) | (refine callA (some 8) Try.func106 #[.int .u8 a0, .int .u8 t220] ?_; (with_reducible refine (maskref1_AndOf.calls k a0 t220 t221 _ A4.out).mono ?_); rintro e w' ⟨rfl, ⟨nd, rfl⟩⟩; refine ⟨_, rfl, ?_⟩) | (refine callA (some 10) Try.func107 #[.int .u8 a0] ?_; (with_reducible refine (maskref1_NotOf.calls a0 t222 _ A5.out).mono ?_); rintro e w' ⟨rfl, ⟨nd, rfl⟩⟩; refine ⟨_, rfl, ?_⟩) | (refine callA (some 12) Try.func106 #[.int .u8 t222, .int .u8 a1] ?_; (with_reducible refine (maskref1_AndOf.calls k t222 a1 t223 _ A6.out).mono ?_); rintro e w' ⟨rfl, ⟨nd, rfl⟩⟩; refine ⟨_, rfl, ?_⟩) | (refine callA (some 13) Try.func105 #[.int .u8 t221, .int .u8 t223] ?_; (with_reducible refine (maskref1_OrOf.calls k t221 t223 t224 _ A7.out).mono ?_); rintro e w' ⟨rfl, ⟨nd, rfl⟩⟩; refine ⟨_, rfl, ?_⟩))
 go_ret
 exact ⟨by rfl, by repeat (first | exact Drawn0.refl _ | apply Drawn0.step)⟩
end Go.Proofs.Ytlamgdibnnmbmaa.PLex
end
section
namespace Go.Proofs.Ytlamgdibnnmbmaa.PLex
open Go.RowKit Go.Proofs.YtlamgdibnnmbmaaW.PrintWords Go.Proofs.YtlamgdibnnmbmaaW.PrintLast Go.Proofs.YtlamgdibnnmbmaaW.PrintMore
attribute [local go_sem] max2_int min2_int max_two min_two max_three min_three max_four min_four
set_option linter.unusedVariables false
set_option linter.unusedSimpArgs false
def maskref1_plus.l0 : Nat → List Int → List Int → Int → List Int → Int → Int → Option (List Int)
 | 0, _, _, _, _, _, _ => none
 | k + 1, x0, x1, x2, x7, x10, x11 => if x11 < x10 then (if 0 ≤ x11 then (if x11 < (x0.length : Int) then (if x11 < (x1.length : Int) then ((maskref1_XorOf.f k (rd x0 x11) (rd x1 x11)).bind fun t227 => ((maskref1_XorOf.f k t227 x2).bind fun t228 => (if x7.length < 140737488355328 then ((maskref1_AndOf.f k (rd x0 x11) (rd x1 x11)).bind fun t234 => ((maskref1_XorOf.f k (rd x0 x11) (rd x1 x11)).bind fun t237 => ((maskref1_AndOf.f k x2 t237).bind fun t238 => ((maskref1_OrOf.f k t234 t238).bind fun t239 => (maskref1_plus.l0 k x0 x1 t239 (x7 ++ [t228]) x10 (wrap64 (x11 + 1))))))) else (none)))) else (none)) else (none)) else (none)) else (some x7)
def maskref1_plus.f (k : Nat) (l0 : List Int) (l1 : List Int) (a2 : Int) : Option (List Int) := maskref1_plus.l0 k l0 l1 a2 ([] : List Int) (l0.length : Int) 0
def maskref1_plus.T5 : Bool × List (List Nat × List Nat) := (true, [([], []), ([], []), ([], []), ([1, 2], [1, 2]), ([3], [3]), ([], []), ([], []), ([5, 6], [5, 6]), ([7], [7]), ([4, 8], [4, 8]), ([], []), ([9, 10, 9], [9, 10]), ([11], [11]), ([0, 12, 11], [0, 12]), ([13, 13, 0, 1, 2, 3, 4, 5, 6, 7, 8, 9, 10, 11, 12, 13], [0, 13])])
def maskref1_plus.B5 : List Nat := [0, 0, 0, 6, 14, 0, 0, 96, 224, 510, 0, 2046, 4094, 8191, 16383]
theorem maskref1_plus.tab5 : rtab .any (opsOf Try.f100 5) = maskref1_plus.T5 := by kernel_rfl
theorem maskref1_plus.bits5 : waitsOk maskref1_plus.T5.2 maskref1_plus.B5 = true := by kernel_rfl
def maskref1_plus.T6 : Bool × List (List Nat × List Nat) := (true, [([], []), ([], []), ([0, 1], [0, 1]), ([2], [2]), ([], []), ([], []), ([4, 5], [4, 5]), ([6], [6]), ([3, 7], [3, 7]), ([], []), ([], []), ([], []), ([10, 11], [10, 11]), ([12], [12]), ([], []), ([], []), ([14, 15], [14, 15]), ([16], [16]), ([13, 17, 8], [13, 17]), ([9, 18, 18], [9, 18]), ([8, 19, 19], [8, 19]), ([20, 20, 0, 1, 2, 3, 4, 5, 6, 7, 8, 9, 10, 11, 12, 13, 14, 15, 16, 17, 18, 19, 20], [9, 20])])
def maskref1_plus.B6 : List Nat := [0, 0, 3, 7, 0, 0, 48, 112, 255, 0, 0, 0, 3072, 7168, 0, 0, 49152, 114688, 261631, 524287, 1048575, 2097151]
theorem maskref1_plus.tab6 : rtab .any (opsOf Try.f100 6) = maskref1_plus.T6 := by kernel_rfl
theorem maskref1_plus.bits6 : waitsOk maskref1_plus.T6.2 maskref1_plus.B6 = true := by kernel_rfl
set_option maxHeartbeats 8000000 in
set_option maxRecDepth 100000 in
theorem maskref1_plus.calls (k : Nat) (A0 : Option Addr) (c0 : Nat) (l0 : List Int) (A1 : Option Addr) (c1 : Nat) (l1 : List Int) (a2 : Int) (r : List Int) (w : World) (hr0 : Kd.C (Kd.int .u8) w A0 l0.length l0) (hc0 : l0.length ≤ c0) (hr1 : Kd.C (Kd.int .u8) w A1 l1.length l1) (hc1 : l1.length ≤ c1) (h : maskref1_plus.f k l0 l1 a2 = some r) :
  Calls Try.prog 100 #[.slice A0 l0.length c0, .slice A1 l1.length c1, .int .u8 a2] w fun e w' => ∃ v0_ : Value, e = .returned (v0_) ∧ Kd.R (Kd.int .u8) 5 w' w.heap.size (fun _ => True) v0_ r ∧ Below w.heap.size w w' := by
 have HR0 := Aside0.mk hr0
 have HC0 := Aside0.mk hc0
 clear hr0 hc0
 have HR1 := Aside0.mk hr1
 have HC1 := Aside0.mk hc1
 clear hr1 hc1
 have HB := Aside0.mk (Below.refl w.heap.size w)
 have H : (maskref1_plus.l0 k l0 l1 a2 ([] : List Int) (l0.length : Int) 0) = some r := h
 clear h
 have H' := Aside0.mk H
 clear H
 go_enter Try.func100, Try.ntmps100
 go_wp2
 go_loopg [2, 7, 11] k (fun kq v2 v7 v11 w' => ∃ (x2_1 : Int) (x7_1 : List Int) (x11_1 : Int), v2 = .int .u8 x2_1 ∧ v11 = .int .i64 x11_1 ∧ Aside0 (maskref1_plus.l0 kq l0 l1 x2_1 x7_1 (l0.length : Int) x11_1 = some r) ∧ Aside0 (kq ≤ k) ∧ Aside0 (Kd.R (Kd.int .u8) 5 w' w.heap.size (fun _ => True) v7 x7_1) ∧ Aside0 (Below w.heap.size w w'))
 case atStart => exact ⟨(a2), ([] : List Int), (0), (by rfl), (by rfl), H', ⟨Nat.le_refl _⟩, ⟨by exact Kd.R_nil _ _ _ _ _⟩, ⟨by repeat (with_reducible exact HB.out)⟩⟩
 case round =>
  clear H'
  obtain ⟨x2_1, x7_1, x11_1, rfl, rfl, HA, HK1, HO_7, HB⟩ := hrel
  cases gk with
  | zero => exact absurd HA.out (by simp [maskref1_plus.l0])
  | succ k1 =>
   have H := HA.out
   clear HA
   simp only [maskref1_plus.l0] at H
   by_cases c4 : x11_1 < (l0.length : Int)
   ·rw [if_pos c4] at H
    have c4b0 : decide (x11_1 < (l0.length : Int)) = true := decide_eq_true c4
    clear c4
    by_cases c5 : 0 ≤ x11_1
    ·rw [if_pos c5] at H
     have c5b0 : decide (0 ≤ x11_1) = true := decide_eq_true c5
     clear c5
     by_cases c6 : x11_1 < (l0.length : Int)
     ·rw [if_pos c6] at H
      have c6b0 : decide (x11_1 < (l0.length : Int)) = true := decide_eq_true c6
      clear c6
      by_cases c7 : x11_1 < (l1.length : Int)
      ·rw [if_pos c7] at H
       have c7b0 : decide (x11_1 < (l1.length : Int)) = true := decide_eq_true c7
       clear c7
       replace H := Option.bind_eq_some_iff.mp H
       obtain ⟨t227, A80, H⟩ := H
       replace H : ((maskref1_XorOf.f k1 t227 x2_1).bind fun t228 => (if x7_1.length < 140737488355328 then ((maskref1_AndOf.f k1 (rd l0 x11_1) (rd l1 x11_1)).bind fun t234 => ((maskref1_XorOf.f k1 (rd l0 x11_1) (rd l1 x11_1)).bind fun t237 => ((maskref1_AndOf.f k1 x2_1 t237).bind fun t238 => ((maskref1_OrOf.f k1 t234 t238).bind fun t239 => (maskref1_plus.l0 k1 l0 l1 t239 (x7_1 ++ [t228]) (l0.length : Int) (wrap64 (x11_1 + 1))))))) else (none))) = some r := H
       have A8 := Aside0.mk A80
       clear A80
       replace H := Option.bind_eq_some_iff.mp H
       obtain ⟨t228, A90, H⟩ := H
       replace H : (if x7_1.length < 140737488355328 then ((maskref1_AndOf.f k1 (rd l0 x11_1) (rd l1 x11_1)).bind fun t234 => ((maskref1_XorOf.f k1 (rd l0 x11_1) (rd l1 x11_1)).bind fun t237 => ((maskref1_AndOf.f k1 x2_1 t237).bind fun t238 => ((maskref1_OrOf.f k1 t234 t238).bind fun t239 => (maskref1_plus.l0 k1 l0 l1 t239 (x7_1 ++ [t228]) (l0.length : Int) (wrap64 (x11_1 + 1))))))) else (none)) = some r := H
       have A9 := Aside0.mk A90
       clear A90
       by_cases c10 : x7_1.length < 140737488355328
       ·rw [if_pos c10] at H
        have LMc10 := Aside0.mk c10
        clear c10
        obtain ⟨y229, hy229⟩ : ∃ y_ : List Int, y_ = (x7_1 ++ [t228]) := ⟨_, rfl⟩
        replace H : ((maskref1_AndOf.f k1 (rd l0 x11_1) (rd l1 x11_1)).bind fun t234 => ((maskref1_XorOf.f k1 (rd l0 x11_1) (rd l1 x11_1)).bind fun t237 => ((maskref1_AndOf.f k1 x2_1 t237).bind fun t238 => ((maskref1_OrOf.f k1 t234 t238).bind fun t239 => (maskref1_plus.l0 k1 l0 l1 t239 y229 (l0.length : Int) (wrap64 (x11_1 + 1))))))) = some r := by (rw [hy229]; with_reducible exact H)
        have Ny229 := Aside0.mk hy229
        clear hy229
        replace H := Option.bind_eq_some_iff.mp H
        obtain ⟨t234, A110, H⟩ := H
        replace H : ((maskref1_XorOf.f k1 (rd l0 x11_1) (rd l1 x11_1)).bind fun t237 => ((maskref1_AndOf.f k1 x2_1 t237).bind fun t238 => ((maskref1_OrOf.f k1 t234 t238).bind fun t239 => (maskref1_plus.l0 k1 l0 l1 t239 y229 (l0.length : Int) (wrap64 (x11_1 + 1)))))) = some r := H
        have A11 := Aside0.mk A110
        clear A110
        replace H := Option.bind_eq_some_iff.mp H
        obtain ⟨t237, A120, H⟩ := H
        replace H : ((maskref1_AndOf.f k1 x2_1 t237).bind fun t238 => ((maskref1_OrOf.f k1 t234 t238).bind fun t239 => (maskref1_plus.l0 k1 l0 l1 t239 y229 (l0.length : Int) (wrap64 (x11_1 + 1))))) = some r := H
        have A12 := Aside0.mk A120
        clear A120
        replace H := Option.bind_eq_some_iff.mp H
        obtain ⟨t238, A130, H⟩ := H
        replace H : ((maskref1_OrOf.f k1 t234 t238).bind fun t239 => (maskref1_plus.l0 k1 l0 l1 t239 y229 (l0.length : Int) (wrap64 (x11_1 + 1)))) = some r := H
        have A13 := Aside0.mk A130
        clear A130
        replace H := Option.bind_eq_some_iff.mp H
        obtain ⟨t239, A140, H⟩ := H
        replace H : (maskref1_plus.l0 k1 l0 l1 t239 y229 (l0.length : Int) (wrap64 (x11_1 + 1))) = some r := H
        have A14 := Aside0.mk A140
        clear A140
        have H' := Aside0.mk H
        clear H
        try go_wp2
        have n0_ := Aside0.mk (Kd.R_drew HO_7.out)
        have n1_ := Aside0.mk (below_drew1 HB.out)
        clear HO_7
        clear HB
        have HO_7 := n0_
        have HB := n1_
        clear n0_ n1_
        have p225 : 0 ≤ (x11_1 : Int) := of_decide_eq_true (by (with_reducible assumption))
        have q225 : x11_1 < (l0.length : Int) := of_decide_eq_true (by (with_reducible assumption))
        obtain ⟨ad225, e225, hx225_0⟩ := Kd.at_int HR0.out x11_1 p225 q225
        have hw225_0 := hx225_0
        cases e225
        replace hx225_0 := (HB.out.cell (World.block_lt_of_cell? w _ hx225_0)).trans hx225_0
        replace p225 := eq_true p225
        replace q225 := eq_true q225
        have p226 : 0 ≤ (x11_1 : Int) := of_decide_eq_true (by (with_reducible assumption))
        have q226 : x11_1 < (l1.length : Int) := of_decide_eq_true (by (with_reducible assumption))
        obtain ⟨ad226, e226, hx226_0⟩ := Kd.at_int HR1.out x11_1 p226 q226
        have hw226_0 := hx226_0
        cases e226
        replace hx226_0 := (HB.out.cell (World.block_lt_of_cell? w _ hx226_0)).trans hx226_0
        replace p226 := eq_true p226
        replace q226 := eq_true q226
        refine start_ (n := 15) (S := fun w' => w'.cell? (ad225.add (x11_1).toNat) = some (.int .u8 (rd l0 x11_1)) ∧ w'.cell? (ad226.add (x11_1).toNat) = some (.int .u8 (rd l1 x11_1))) (ds := []) #[false, false, false, false, false, false, false, false, false, false, false, false, false, false, false] (by kernel_rfl) rfl rfl ⟨((HB.out.cell (World.block_lt_of_cell? w _ hw225_0)).trans hw225_0), ((HB.out.cell (World.block_lt_of_cell? w _ hw226_0)).trans hw226_0)⟩ (fun hHeld => ?_); refine with_tabW maskref1_plus.tab5 maskref1_plus.bits5 (fun HT_ HW_ => ?_)
        generalize wr.drew = w15 at HO_7 HB hx225_0 hx226_0 hHeld ⊢
        refine pure_ (i := 0) (N := some 14) (v := ?_) (a' := ?_) #[true, false, false, false, false, false, false, false, false, false, false, false, false, false, false] rfl rfl (any_of HT_.out (by kernel_rfl)) (fun _ _ _ h => h) (Or.inl ⟨by rfl, ?_⟩) ?_ ?_
        rotate_left
        ·intro w'
         go_simp
         with_reducible rfl
        rotate_left
        ·simp only [Act.put, List.setIfInBounds_toArray, List.set_cons_zero, List.set_cons_succ, i64_w, i32_w]
         rfl
        refine pure_ (i := 1) (N := some 15) (v := ?_) (a' := ?_) #[true, true, false, false, false, false, false, false, false, false, false, false, false, false, false] rfl rfl (any_of HT_.out (by kernel_rfl)) (fun _ _ _ h => h) (Or.inl ⟨by rfl, ?_⟩) ?_ ?_
        rotate_left
        ·intro w'
         go_simp
         with_reducible rfl
        rotate_left
        ·simp only [Act.put, List.setIfInBounds_toArray, List.set_cons_zero, List.set_cons_succ, i64_w, i32_w]
         rfl
        refine pure_ (i := 2) (N := some 16) (v := ?_) (a' := ?_) #[true, true, true, false, false, false, false, false, false, false, false, false, false, false, false] rfl rfl (any_of HT_.out (by kernel_rfl)) (fun _ _ _ h => h) (Or.inl ⟨by rfl, ?_⟩) ?_ ?_
        rotate_left
        ·intro w'
         go_simp
         with_reducible rfl
        rotate_left
        ·simp only [Act.put, List.setIfInBounds_toArray, List.set_cons_zero, List.set_cons_succ, i64_w, i32_w]
         rfl
        refine pure_ (i := 3) (N := some 17) (v := ?_) (a' := ?_) #[true, true, true, true, false, false, false, false, false, false, false, false, false, false, false] rfl rfl (any_of HT_.out (by kernel_rfl)) (fun _ _ _ h => h) (Or.inl ⟨by rfl, ?_⟩) ?_ ?_
        rotate_left
        ·intro w'
         go_simp
         with_reducible rfl
        rotate_left
        ·simp only [Act.put, List.setIfInBounds_toArray, List.set_cons_zero, List.set_cons_succ, i64_w, i32_w]
         rfl
        refine pure_ (i := 5) (N := some 19) (v := ?_) (a' := ?_) #[true, true, true, true, false, true, false, false, false, false, false, false, false, false, false] rfl rfl (any_of HT_.out (by kernel_rfl)) (fun _ _ _ h => h) (Or.inl ⟨by rfl, ?_⟩) ?_ ?_
        rotate_left
        ·intro w'
         go_simp
         with_reducible rfl
        rotate_left
        ·simp only [Act.put, List.setIfInBounds_toArray, List.set_cons_zero, List.set_cons_succ, i64_w, i32_w]
         rfl
        refine pure_ (i := 6) (N := some 20) (v := ?_) (a' := ?_) #[true, true, true, true, false, true, true, false, false, false, false, false, false, false, false] rfl rfl (any_of HT_.out (by kernel_rfl)) (fun _ _ _ h => h) (Or.inl ⟨by rfl, ?_⟩) ?_ ?_
        rotate_left
        ·intro w'
         go_simp
         with_reducible rfl
        rotate_left
        ·simp only [Act.put, List.setIfInBounds_toArray, List.set_cons_zero, List.set_cons_succ, i64_w, i32_w]
         rfl
        refine pure_ (i := 7) (N := some 21) (v := ?_) (a' := ?_) #[true, true, true, true, false, true, true, true, false, false, false, false, false, false, false] rfl rfl (any_of HT_.out (by kernel_rfl)) (fun _ _ _ h => h) (Or.inl ⟨by rfl, ?_⟩) ?_ ?_
        rotate_left
        ·intro w'
         go_simp
         with_reducible rfl
        rotate_left
        ·simp only [Act.put, List.setIfInBounds_toArray, List.set_cons_zero, List.set_cons_succ, i64_w, i32_w]
         rfl
        refine pure_ (i := 10) (N := some 24) (v := ?_) (a' := ?_) #[true, true, true, true, false, true, true, true, false, false, true, false, false, false, false] rfl rfl (any_of HT_.out (by kernel_rfl)) (fun _ _ _ h => h) (Or.inl ⟨by rfl, ?_⟩) ?_ ?_
        rotate_left
        ·intro w'
         go_simp
         with_reducible rfl
        rotate_left
        ·simp only [Act.put, List.setIfInBounds_toArray, List.set_cons_zero, List.set_cons_succ, i64_w, i32_w]
         rfl
        refine take_ (i := 4) (N := some 18) (v := ?_) (a' := ?_) #[true, true, true, true, true, true, true, true, false, false, true, false, false, false, false] rfl rfl (take_ofW HT_.out HW_.out (by kernel_rfl)) (fun _ _ _ h => h) (Or.inl ⟨by rfl, ?_⟩) hHeld ?_ ?_
        rotate_left
        ·rintro w' ⟨s0, s1⟩
         go_simp
         with_reducible rfl
        rotate_left
        ·simp only [Act.put, List.setIfInBounds_toArray, List.set_cons_zero, List.set_cons_succ, i64_w, i32_w]
         rfl
        refine take_ (i := 8) (N := some 22) (v := ?_) (a' := ?_) #[true, true, true, true, true, true, true, true, true, false, true, false, false, false, false] rfl rfl (take_ofW HT_.out HW_.out (by kernel_rfl)) (fun _ _ _ h => h) (Or.inl ⟨by rfl, ?_⟩) hHeld ?_ ?_
        rotate_left
        ·rintro w' ⟨s0, s1⟩
         go_simp
         with_reducible rfl
        rotate_left
        ·simp only [Act.put, List.setIfInBounds_toArray, List.set_cons_zero, List.set_cons_succ, i64_w, i32_w]
         rfl
        refine one_ (i := 9) (N := some 23) #[true, true, true, true, true, true, true, true, true, true, true, false, false, false, false] rfl rfl (one_of HT_.out (by kernel_rfl)) (by decide) (fun K hK => ?_)
        refine goes_ Try.func104 (by kernel_rfl) rfl #[.int .u8 (rd l0 x11_1), .int .u8 (rd l1 x11_1)] (by rfl) rfl rfl (by (try simp only [List.map_toArray, List.map_cons, List.map_nil]); rfl) ?_
        with_reducible refine (maskref1_XorOf.calls k1 (rd l0 x11_1) (rd l1 x11_1) t227 _ A8.out).mono ?_
        rintro e w' ⟨rfl, ⟨nd, rfl⟩⟩
        refine ⟨_, rfl, ?_⟩
        refine hK.out _ _ ⟨((HB.out.cell (World.block_lt_of_cell? w _ hw225_0)).trans hw225_0), ((HB.out.cell (World.block_lt_of_cell? w _ hw226_0)).trans hw226_0)⟩ (fun hHeld => ?_)
        clear hK K
        refine norm_ (a' := ?_) ?_ ?_
        rotate_left
        ·show Act.put _ (some 23) _ = _
         simp only [Act.put, List.setIfInBounds_toArray, List.set_cons_zero, List.set_cons_succ, i64_w, i32_w]
         rfl
        refine one_ (i := 11) (N := some 25) #[true, true, true, true, true, true, true, true, true, true, true, true, false, false, false] rfl rfl (one_of HT_.out (by kernel_rfl)) (by decide) (fun K hK => ?_)
        refine goes_ Try.func104 (by kernel_rfl) rfl #[.int .u8 t227, .int .u8 x2_1] (by rfl) rfl rfl (by (try simp only [List.map_toArray, List.map_cons, List.map_nil]); rfl) ?_
        with_reducible refine (maskref1_XorOf.calls k1 t227 x2_1 t228 _ A9.out).mono ?_
        rintro e w' ⟨rfl, ⟨nd, rfl⟩⟩
        refine ⟨_, rfl, ?_⟩
        refine hK.out _ _ ⟨((HB.out.cell (World.block_lt_of_cell? w _ hw225_0)).trans hw225_0), ((HB.out.cell (World.block_lt_of_cell? w _ hw226_0)).trans hw226_0)⟩ (fun hHeld => ?_)
        clear hK K
        refine norm_ (a' := ?_) ?_ ?_
        rotate_left
        ·show Act.put _ (some 25) _ = _
         simp only [Act.put, List.setIfInBounds_toArray, List.set_cons_zero, List.set_cons_succ, i64_w, i32_w]
         rfl
        refine one_ (i := 12) (N := some 26) #[true, true, true, true, true, true, true, true, true, true, true, true, true, false, false] rfl rfl (one_of HT_.out (by kernel_rfl)) (by decide) (fun K hK => ?_)
        refine value_ (w1 := ?_) (v := ?_) (by rfl) rfl ?_ ?_
        rotate_left 2
        ·go_simp
         constructor
         ·rfl
         ·rfl
        refine hK.out _ _ ⟨(World.cell?_alloc_lt _ _ _ (World.block_lt_of_cell? _ _ (((HB.out.cell (World.block_lt_of_cell? w _ hw225_0)).trans hw225_0)))).trans (((HB.out.cell (World.block_lt_of_cell? w _ hw225_0)).trans hw225_0)), (World.cell?_alloc_lt _ _ _ (World.block_lt_of_cell? _ _ (((HB.out.cell (World.block_lt_of_cell? w _ hw226_0)).trans hw226_0)))).trans (((HB.out.cell (World.block_lt_of_cell? w _ hw226_0)).trans hw226_0))⟩ (fun hHeld => ?_)
        clear hK K
        refine norm_ (a' := ?_) ?_ ?_
        rotate_left
        ·show Act.put _ (some 26) _ = _
         simp only [Act.put, List.setIfInBounds_toArray, List.set_cons_zero, List.set_cons_succ, i64_w, i32_w]
         rfl
        refine one_ (i := 13) (N := some 27) #[true, true, true, true, true, true, true, true, true, true, true, true, true, true, false] rfl rfl (one_of HT_.out (by kernel_rfl)) (by decide) (fun K hK => ?_)
        refine Kd.R_append_step (Kd.int .u8) (w0 := w) w.heap.size (by rfl) (.tmp 14) (.tmp 26) 90 5 (.int .u8 0) 1 rfl Try.underlying90 info5 rfl (by decide) (by omega) u7 x7_1 t228 [.int .u8 t228] (fun _ => True) (fun _ => False) rfl rfl ?aP (fun _ hk => hk.elim) ?aF ?aO ?aB ?aS ?aL ?_
        (case aP => exact rfl)
        (case aB => exact (by repeat (with_reducible first | exact HB.out | apply pw_below_drewN)))
        (case aF => exact (fun _ _ => trivial))
        (case aO => exact (by (with_reducible repeat (apply Kd.R_drewN)); exact HO_7.out))
        (case aS => exact (below_size (by repeat (with_reducible first | exact HB.out | apply pw_below_drewN))))
        (case aL => have := LMc10.out; omega)
        intro v230 w16 ho hb hg hat
        rw [← Ny229.out] at ho
        have n0_ := Aside0.mk (hb)
        have n1_ := Aside0.mk (ho)
        clear HB
        clear HO_7
        have HB := n0_
        have HO231 := n1_
        clear n0_ n1_
        clear ho hb hg hat
        refine hK.out _ _ ⟨((HB.out.cell (World.block_lt_of_cell? w _ hw225_0)).trans hw225_0), ((HB.out.cell (World.block_lt_of_cell? w _ hw226_0)).trans hw226_0)⟩ (fun hHeld => ?_)
        clear hK K
        refine norm_ (a' := ?_) ?_ ?_
        rotate_left
        ·show Act.put _ (some 27) _ = _
         simp only [Act.put, List.setIfInBounds_toArray, List.set_cons_zero, List.set_cons_succ, i64_w, i32_w]
         rfl
        refine pure_ (i := 14) (N := some 7) (v := ?_) (a' := ?_) #[true, true, true, true, true, true, true, true, true, true, true, true, true, true, true] rfl rfl (any_of HT_.out (by kernel_rfl)) (fun _ _ _ h => h) (Or.inl ⟨by rfl, ?_⟩) ?_ ?_
        rotate_left
        ·intro w'
         go_simp
         with_reducible rfl
        rotate_left
        ·simp only [Act.put, List.setIfInBounds_toArray, List.set_cons_zero, List.set_cons_succ, i64_w, i32_w]
         rfl
        refine done_ (done_of HT_.out (by kernel_rfl)) ?_
        try go_wp2
        have n0_ := Aside0.mk (Kd.R_drew HO231.out)
        have n1_ := Aside0.mk (below_drew1 HB.out)
        clear HO231
        clear HB
        have HO231 := n0_
        have HB := n1_
        clear n0_ n1_
        have p232 : 0 ≤ (x11_1 : Int) := of_decide_eq_true (by (with_reducible assumption))
        have q232 : x11_1 < (l0.length : Int) := of_decide_eq_true (by (with_reducible assumption))
        obtain ⟨ad232, e232, hx232_0⟩ := Kd.at_int HR0.out x11_1 p232 q232
        have hw232_0 := hx232_0
        obtain rfl : ad225 = ad232 := (by injection e232)
        replace hx232_0 := (HB.out.cell (World.block_lt_of_cell? w _ hx232_0)).trans hx232_0
        replace p232 := eq_true p232
        replace q232 := eq_true q232
        have p233 : 0 ≤ (x11_1 : Int) := of_decide_eq_true (by (with_reducible assumption))
        have q233 : x11_1 < (l1.length : Int) := of_decide_eq_true (by (with_reducible assumption))
        obtain ⟨ad233, e233, hx233_0⟩ := Kd.at_int HR1.out x11_1 p233 q233
        have hw233_0 := hx233_0
        obtain rfl : ad226 = ad233 := (by injection e233)
        replace hx233_0 := (HB.out.cell (World.block_lt_of_cell? w _ hx233_0)).trans hx233_0
        replace p233 := eq_true p233
        replace q233 := eq_true q233
        have p235 : 0 ≤ (x11_1 : Int) := of_decide_eq_true (by (with_reducible assumption))
        have q235 : x11_1 < (l0.length : Int) := of_decide_eq_true (by (with_reducible assumption))
        obtain ⟨ad235, e235, hx235_0⟩ := Kd.at_int HR0.out x11_1 p235 q235
        have hw235_0 := hx235_0
        obtain rfl : ad225 = ad235 := (by injection e235)
        replace hx235_0 := (HB.out.cell (World.block_lt_of_cell? w _ hx235_0)).trans hx235_0
        replace p235 := eq_true p235
        replace q235 := eq_true q235
        have p236 : 0 ≤ (x11_1 : Int) := of_decide_eq_true (by (with_reducible assumption))
        have q236 : x11_1 < (l1.length : Int) := of_decide_eq_true (by (with_reducible assumption))
        obtain ⟨ad236, e236, hx236_0⟩ := Kd.at_int HR1.out x11_1 p236 q236
        have hw236_0 := hx236_0
        obtain rfl : ad226 = ad236 := (by injection e236)
        replace hx236_0 := (HB.out.cell (World.block_lt_of_cell? w _ hx236_0)).trans hx236_0
        replace p236 := eq_true p236
        replace q236 := eq_true q236
        refine start_ (n := 22) (S := fun w' => w'.cell? (ad225.add (x11_1).toNat) = some (.int .u8 (rd l0 x11_1)) ∧ w'.cell? (ad226.add (x11_1).toNat) = some (.int .u8 (rd l1 x11_1)) ∧ w'.cell? (ad225.add (x11_1).toNat) = some (.int .u8 (rd l0 x11_1)) ∧ w'.cell? (ad226.add (x11_1).toNat) = some (.int .u8 (rd l1 x11_1))) (ds := []) #[false, false, false, false, false, false, false, false, false, false, false, false, false, false, false, false, false, false, false, false, false, false] (by kernel_rfl) rfl rfl ⟨((HB.out.cell (World.block_lt_of_cell? w _ hw232_0)).trans hw232_0), ((HB.out.cell (World.block_lt_of_cell? w _ hw233_0)).trans hw233_0), ((HB.out.cell (World.block_lt_of_cell? w _ hw235_0)).trans hw235_0), ((HB.out.cell (World.block_lt_of_cell? w _ hw236_0)).trans hw236_0)⟩ (fun hHeld => ?_); refine with_tabW maskref1_plus.tab6 maskref1_plus.bits6 (fun HT_ HW_ => ?_)
        generalize w16.drew = w17 at HO231 HB hx232_0 hx233_0 hx235_0 hx236_0 hHeld ⊢
        refine pure_ (i := 0) (N := some 28) (v := ?_) (a' := ?_) #[true, false, false, false, false, false, false, false, false, false, false, false, false, false, false, false, false, false, false, false, false, false] rfl rfl (any_of HT_.out (by kernel_rfl)) (fun _ _ _ h => h) (Or.inl ⟨by rfl, ?_⟩) ?_ ?_
        rotate_left
        ·intro w'
         go_simp
         with_reducible rfl
        rotate_left
        ·simp only [Act.put, List.setIfInBounds_toArray, List.set_cons_zero, List.set_cons_succ, i64_w, i32_w]
         rfl
        refine pure_ (i := 1) (N := some 29) (v := ?_) (a' := ?_) #[true, true, false, false, false, false, false, false, false, false, false, false, false, false, false, false, false, false, false, false, false, false] rfl rfl (any_of HT_.out (by kernel_rfl)) (fun _ _ _ h => h) (Or.inl ⟨by rfl, ?_⟩) ?_ ?_
        rotate_left
        ·intro w'
         go_simp
         with_reducible rfl
        rotate_left
        ·simp only [Act.put, List.setIfInBounds_toArray, List.set_cons_zero, List.set_cons_succ, i64_w, i32_w]
         rfl
        refine pure_ (i := 2) (N := some 30) (v := ?_) (a' := ?_) #[true, true, true, false, false, false, false, false, false, false, false, false, false, false, false, false, false, false, false, false, false, false] rfl rfl (any_of HT_.out (by kernel_rfl)) (fun _ _ _ h => h) (Or.inl ⟨by rfl, ?_⟩) ?_ ?_
        rotate_left
        ·intro w'
         go_simp
         with_reducible rfl
        rotate_left
        ·simp only [Act.put, List.setIfInBounds_toArray, List.set_cons_zero, List.set_cons_succ, i64_w, i32_w]
         rfl
        refine pure_ (i := 4) (N := some 32) (v := ?_) (a' := ?_) #[true, true, true, false, true, false, false, false, false, false, false, false, false, false, false, false, false, false, false, false, false, false] rfl rfl (any_of HT_.out (by kernel_rfl)) (fun _ _ _ h => h) (Or.inl ⟨by rfl, ?_⟩) ?_ ?_
        rotate_left
        ·intro w'
         go_simp
         with_reducible rfl
        rotate_left
        ·simp only [Act.put, List.setIfInBounds_toArray, List.set_cons_zero, List.set_cons_succ, i64_w, i32_w]
         rfl
        refine pure_ (i := 5) (N := some 33) (v := ?_) (a' := ?_) #[true, true, true, false, true, true, false, false, false, false, false, false, false, false, false, false, false, false, false, false, false, false] rfl rfl (any_of HT_.out (by kernel_rfl)) (fun _ _ _ h => h) (Or.inl ⟨by rfl, ?_⟩) ?_ ?_
        rotate_left
        ·intro w'
         go_simp
         with_reducible rfl
        rotate_left
        ·simp only [Act.put, List.setIfInBounds_toArray, List.set_cons_zero, List.set_cons_succ, i64_w, i32_w]
         rfl
        refine pure_ (i := 6) (N := some 34) (v := ?_) (a' := ?_) #[true, true, true, false, true, true, true, false, false, false, false, false, false, false, false, false, false, false, false, false, false, false] rfl rfl (any_of HT_.out (by kernel_rfl)) (fun _ _ _ h => h) (Or.inl ⟨by rfl, ?_⟩) ?_ ?_
        rotate_left
        ·intro w'
         go_simp
         with_reducible rfl
        rotate_left
        ·simp only [Act.put, List.setIfInBounds_toArray, List.set_cons_zero, List.set_cons_succ, i64_w, i32_w]
         rfl
        refine pure_ (i := 9) (N := some 37) (v := ?_) (a' := ?_) #[true, true, true, false, true, true, true, false, false, true, false, false, false, false, false, false, false, false, false, false, false, false] rfl rfl (any_of HT_.out (by kernel_rfl)) (fun _ _ _ h => h) (Or.inl ⟨by rfl, ?_⟩) ?_ ?_
        rotate_left
        ·intro w'
         go_simp
         with_reducible rfl
        rotate_left
        ·simp only [Act.put, List.setIfInBounds_toArray, List.set_cons_zero, List.set_cons_succ, i64_w, i32_w]
         rfl
        refine pure_ (i := 10) (N := some 38) (v := ?_) (a' := ?_) #[true, true, true, false, true, true, true, false, false, true, true, false, false, false, false, false, false, false, false, false, false, false] rfl rfl (any_of HT_.out (by kernel_rfl)) (fun _ _ _ h => h) (Or.inl ⟨by rfl, ?_⟩) ?_ ?_
        rotate_left
        ·intro w'
         go_simp
         with_reducible rfl
        rotate_left
        ·simp only [Act.put, List.setIfInBounds_toArray, List.set_cons_zero, List.set_cons_succ, i64_w, i32_w]
         rfl
        refine pure_ (i := 11) (N := some 39) (v := ?_) (a' := ?_) #[true, true, true, false, true, true, true, false, false, true, true, true, false, false, false, false, false, false, false, false, false, false] rfl rfl (any_of HT_.out (by kernel_rfl)) (fun _ _ _ h => h) (Or.inl ⟨by rfl, ?_⟩) ?_ ?_
        rotate_left
        ·intro w'
         go_simp
         with_reducible rfl
        rotate_left
        ·simp only [Act.put, List.setIfInBounds_toArray, List.set_cons_zero, List.set_cons_succ, i64_w, i32_w]
         rfl
        refine pure_ (i := 12) (N := some 40) (v := ?_) (a' := ?_) #[true, true, true, false, true, true, true, false, false, true, true, true, true, false, false, false, false, false, false, false, false, false] rfl rfl (any_of HT_.out (by kernel_rfl)) (fun _ _ _ h => h) (Or.inl ⟨by rfl, ?_⟩) ?_ ?_
        rotate_left
        ·intro w'
         go_simp
         with_reducible rfl
        rotate_left
        ·simp only [Act.put, List.setIfInBounds_toArray, List.set_cons_zero, List.set_cons_succ, i64_w, i32_w]
         rfl
        refine pure_ (i := 14) (N := some 42) (v := ?_) (a' := ?_) #[true, true, true, false, true, true, true, false, false, true, true, true, true, false, true, false, false, false, false, false, false, false] rfl rfl (any_of HT_.out (by kernel_rfl)) (fun _ _ _ h => h) (Or.inl ⟨by rfl, ?_⟩) ?_ ?_
        rotate_left
        ·intro w'
         go_simp
         with_reducible rfl
        rotate_left
        ·simp only [Act.put, List.setIfInBounds_toArray, List.set_cons_zero, List.set_cons_succ, i64_w, i32_w]
         rfl
        refine pure_ (i := 15) (N := some 43) (v := ?_) (a' := ?_) #[true, true, true, false, true, true, true, false, false, true, true, true, true, false, true, true, false, false, false, false, false, false] rfl rfl (any_of HT_.out (by kernel_rfl)) (fun _ _ _ h => h) (Or.inl ⟨by rfl, ?_⟩) ?_ ?_
        rotate_left
        ·intro w'
         go_simp
         with_reducible rfl
        rotate_left
        ·simp only [Act.put, List.setIfInBounds_toArray, List.set_cons_zero, List.set_cons_succ, i64_w, i32_w]
         rfl
        refine pure_ (i := 16) (N := some 44) (v := ?_) (a' := ?_) #[true, true, true, false, true, true, true, false, false, true, true, true, true, false, true, true, true, false, false, false, false, false] rfl rfl (any_of HT_.out (by kernel_rfl)) (fun _ _ _ h => h) (Or.inl ⟨by rfl, ?_⟩) ?_ ?_
        rotate_left
        ·intro w'
         go_simp
         with_reducible rfl
        rotate_left
        ·simp only [Act.put, List.setIfInBounds_toArray, List.set_cons_zero, List.set_cons_succ, i64_w, i32_w]
         rfl
        refine take_ (i := 3) (N := some 31) (v := ?_) (a' := ?_) #[true, true, true, true, true, true, true, false, false, true, true, true, true, false, true, true, true, false, false, false, false, false] rfl rfl (take_ofW HT_.out HW_.out (by kernel_rfl)) (fun _ _ _ h => h) (Or.inl ⟨by rfl, ?_⟩) hHeld ?_ ?_
        rotate_left
        ·rintro w' ⟨s0, s1, s2, s3⟩
         go_simp
         with_reducible rfl
        rotate_left
        ·simp only [Act.put, List.setIfInBounds_toArray, List.set_cons_zero, List.set_cons_succ, i64_w, i32_w]
         rfl
        refine take_ (i := 7) (N := some 35) (v := ?_) (a' := ?_) #[true, true, true, true, true, true, true, true, false, true, true, true, true, false, true, true, true, false, false, false, false, false] rfl rfl (take_ofW HT_.out HW_.out (by kernel_rfl)) (fun _ _ _ h => h) (Or.inl ⟨by rfl, ?_⟩) hHeld ?_ ?_
        rotate_left
        ·rintro w' ⟨s0, s1, s2, s3⟩
         go_simp
         with_reducible rfl
        rotate_left
        ·simp only [Act.put, List.setIfInBounds_toArray, List.set_cons_zero, List.set_cons_succ, i64_w, i32_w]
         rfl
        refine take_ (i := 13) (N := some 41) (v := ?_) (a' := ?_) #[true, true, true, true, true, true, true, true, false, true, true, true, true, true, true, true, true, false, false, false, false, false] rfl rfl (take_ofW HT_.out HW_.out (by kernel_rfl)) (fun _ _ _ h => h) (Or.inl ⟨by rfl, ?_⟩) hHeld ?_ ?_
        rotate_left
        ·rintro w' ⟨s0, s1, s2, s3⟩
         go_simp
         with_reducible rfl
        rotate_left
        ·simp only [Act.put, List.setIfInBounds_toArray, List.set_cons_zero, List.set_cons_succ, i64_w, i32_w]
         rfl
        refine take_ (i := 17) (N := some 45) (v := ?_) (a' := ?_) #[true, true, true, true, true, true, true, true, false, true, true, true, true, true, true, true, true, true, false, false, false, false] rfl rfl (take_ofW HT_.out HW_.out (by kernel_rfl)) (fun _ _ _ h => h) (Or.inl ⟨by rfl, ?_⟩) hHeld ?_ ?_
        rotate_left
        ·rintro w' ⟨s0, s1, s2, s3⟩
         go_simp
         with_reducible rfl
        rotate_left
        ·simp only [Act.put, List.setIfInBounds_toArray, List.set_cons_zero, List.set_cons_succ, i64_w, i32_w]
         rfl
        refine one_ (i := 8) (N := some 36) #[true, true, true, true, true, true, true, true, true, true, true, true, true, true, true, true, true, true, false, false, false, false] rfl rfl (one_of HT_.out (by kernel_rfl)) (by decide) (fun K hK => ?_)
        refine goes_ Try.func106 (by kernel_rfl) rfl #[.int .u8 (rd l0 x11_1), .int .u8 (rd l1 x11_1)] (by rfl) rfl rfl (by (try simp only [List.map_toArray, List.map_cons, List.map_nil]); rfl) ?_
        with_reducible refine (maskref1_AndOf.calls k1 (rd l0 x11_1) (rd l1 x11_1) t234 _ A11.out).mono ?_
        rintro e w' ⟨rfl, ⟨nd, rfl⟩⟩
        refine ⟨_, rfl, ?_⟩
        refine hK.out _ _ ⟨((HB.out.cell (World.block_lt_of_cell? w _ hw232_0)).trans hw232_0), ((HB.out.cell (World.block_lt_of_cell? w _ hw233_0)).trans hw233_0), ((HB.out.cell (World.block_lt_of_cell? w _ hw235_0)).trans hw235_0), ((HB.out.cell (World.block_lt_of_cell? w _ hw236_0)).trans hw236_0)⟩ (fun hHeld => ?_)
        clear hK K
        refine norm_ (a' := ?_) ?_ ?_
        rotate_left
        ·show Act.put _ (some 36) _ = _
         simp only [Act.put, List.setIfInBounds_toArray, List.set_cons_zero, List.set_cons_succ, i64_w, i32_w]
         rfl
        refine one_ (i := 18) (N := some 46) #[true, true, true, true, true, true, true, true, true, true, true, true, true, true, true, true, true, true, true, false, false, false] rfl rfl (one_of HT_.out (by kernel_rfl)) (by decide) (fun K hK => ?_)
        refine goes_ Try.func104 (by kernel_rfl) rfl #[.int .u8 (rd l0 x11_1), .int .u8 (rd l1 x11_1)] (by rfl) rfl rfl (by (try simp only [List.map_toArray, List.map_cons, List.map_nil]); rfl) ?_
        with_reducible refine (maskref1_XorOf.calls k1 (rd l0 x11_1) (rd l1 x11_1) t237 _ A12.out).mono ?_
        rintro e w' ⟨rfl, ⟨nd, rfl⟩⟩
        refine ⟨_, rfl, ?_⟩
        refine hK.out _ _ ⟨((HB.out.cell (World.block_lt_of_cell? w _ hw232_0)).trans hw232_0), ((HB.out.cell (World.block_lt_of_cell? w _ hw233_0)).trans hw233_0), ((HB.out.cell (World.block_lt_of_cell? w _ hw235_0)).trans hw235_0), ((HB.out.cell (World.block_lt_of_cell? w _ hw236_0)).trans hw236_0)⟩ (fun hHeld => ?_)
        clear hK K
        refine norm_ (a' := ?_) ?_ ?_
        rotate_left
        ·show Act.put _ (some 46) _ = _
         simp only [Act.put, List.setIfInBounds_toArray, List.set_cons_zero, List.set_cons_succ, i64_w, i32_w]
         rfl
        refine one_ (i := 19) (N := some 47) #[true, true, true, true, true, true, true, true, true, true, true, true, true, true, true, true, true, true, true, true, false, false] rfl rfl (one_of HT_.out (by kernel_rfl)) (by decide) (fun K hK => ?_)
        refine goes_ Try.func106 (by kernel_rfl) rfl #[.int .u8 x2_1, .int .u8 t237] (by rfl) rfl rfl (by (try simp only [List.map_toArray, List.map_cons, List.map_nil]); rfl) ?_
        with_reducible refine (maskref1_AndOf.calls k1 x2_1 t237 t238 _ A13.out).mono ?_
        rintro e w' ⟨rfl, ⟨nd, rfl⟩⟩
        refine ⟨_, rfl, ?_⟩
        refine hK.out _ _ ⟨((HB.out.cell (World.block_lt_of_cell? w _ hw232_0)).trans hw232_0), ((HB.out.cell (World.block_lt_of_cell? w _ hw233_0)).trans hw233_0), ((HB.out.cell (World.block_lt_of_cell? w _ hw235_0)).trans hw235_0), ((HB.out.cell (World.block_lt_of_cell? w _ hw236_0)).trans hw236_0)⟩ (fun hHeld => ?_)
        clear hK K
        refine norm_ (a' := ?_) ?_ ?_
        rotate_left
        ·show Act.put _ (some 47) _ = _
         simp only [Act.put, List.setIfInBounds_toArray, List.set_cons_zero, List.set_cons_succ, i64_w, i32_w]
         rfl
        refine one_ (i := 20) (N := some 48) #[true, true, true, true, true, true, true, true, true, true, true, true, true, true, true, true, true, true, true, true, true, false] rfl rfl (one_of HT_.out (by kernel_rfl)) (by decide) (fun K hK => ?_)
        refine goes_ Try.func105 (by kernel_rfl) rfl #[.int .u8 t234, .int .u8 t238] (by rfl) rfl rfl (by (try simp only [List.map_toArray, List.map_cons, List.map_nil]); rfl) ?_
        with_reducible refine (maskref1_OrOf.calls k1 t234 t238 t239 _ A14.out).mono ?_
        rintro e w' ⟨rfl, ⟨nd, rfl⟩⟩
        refine ⟨_, rfl, ?_⟩
        refine hK.out _ _ ⟨((HB.out.cell (World.block_lt_of_cell? w _ hw232_0)).trans hw232_0), ((HB.out.cell (World.block_lt_of_cell? w _ hw233_0)).trans hw233_0), ((HB.out.cell (World.block_lt_of_cell? w _ hw235_0)).trans hw235_0), ((HB.out.cell (World.block_lt_of_cell? w _ hw236_0)).trans hw236_0)⟩ (fun hHeld => ?_)
        clear hK K
        refine norm_ (a' := ?_) ?_ ?_
        rotate_left
        ·show Act.put _ (some 48) _ = _
         simp only [Act.put, List.setIfInBounds_toArray, List.set_cons_zero, List.set_cons_succ, i64_w, i32_w]
         rfl
        refine pure_ (i := 21) (N := some 2) (v := ?_) (a' := ?_) #[true, true, true, true, true, true, true, true, true, true, true, true, true, true, true, true, true, true, true, true, true, true] rfl rfl (any_of HT_.out (by kernel_rfl)) (fun _ _ _ h => h) (Or.inl ⟨by rfl, ?_⟩) ?_ ?_
        rotate_left
        ·intro w'
         go_simp
         with_reducible rfl
        rotate_left
        ·simp only [Act.put, List.setIfInBounds_toArray, List.set_cons_zero, List.set_cons_succ, i64_w, i32_w]
         rfl
        refine done_ (done_of HT_.out (by kernel_rfl)) ?_
        try go_wp2
        go_roundg k1
        case measure => have := HK1.out; omega
        case rel => exact ⟨(t239), (y229), (wrap64 (x11_1 + 1)), (by rfl), (by rfl), H', ⟨by have := HK1.out; omega⟩, ⟨by (with_reducible repeat (apply Kd.R_drewN)); exact HO231.out⟩, ⟨by repeat (with_reducible first | exact HB.out | apply pw_below_drewN)⟩⟩
       ·rw [if_neg c10] at H
        exact absurd H (by simp)
      ·rw [if_neg c7] at H
       exact absurd H (by simp)
     ·rw [if_neg c6] at H
      exact absurd H (by simp)
    ·rw [if_neg c5] at H
     exact absurd H (by simp)
   ·rw [if_neg c4] at H
    have c4b0 : decide (x11_1 < (l0.length : Int)) = false := decide_eq_false c4
    clear c4
    obtain rfl := Option.some.inj H
    go_wp2
    go_ret
    exact ⟨_, by rfl, by exact HO_7.out, by repeat (with_reducible exact HB.out)⟩
end Go.Proofs.Ytlamgdibnnmbmaa.PLex
end
section
namespace Go.Proofs.Ytlamgdibnnmbmaa.PLex
open Go.RowKit Go.Proofs.YtlamgdibnnmbmaaW.PrintWords Go.Proofs.YtlamgdibnnmbmaaW.PrintLast Go.Proofs.YtlamgdibnnmbmaaW.PrintMore
attribute [local go_sem] max2_int min2_int max_two min_two max_three min_three max_four min_four
set_option linter.unusedVariables false
set_option linter.unusedSimpArgs false
def maskref1_Count.l0 : Nat → List Int → Int → Int → Int → Option (Int)
 | 0, _, _, _, _ => none
 | k + 1, x0, x1, x5, x6 => if x6 ≥ 0 then (if 0 ≤ x6 then (if x6 < (x0.length : Int) then (if (rd x0 x6) = 49 then (maskref1_Count.l0 k x0 x1 (mn (IntKind.u64.wrap ((IntKind.u64.wrap (2 * x5)) + 1)) (IntKind.u64.wrap (x1))) (wrap64 (x6 - 1))) else (maskref1_Count.l0 k x0 x1 (mn (IntKind.u64.wrap (2 * x5)) (IntKind.u64.wrap (x1))) (wrap64 (x6 - 1)))) else (none)) else (none)) else (some (wrap64 (x5)))
def maskref1_Count.f (k : Nat) (l0 : List Int) (a1 : Int) : Option (Int) := maskref1_Count.l0 k l0 a1 0 (wrap64 ((l0.length : Int) - 1))
set_option maxHeartbeats 8000000 in
set_option maxRecDepth 100000 in
theorem maskref1_Count.calls (k : Nat) (A0 : Option Addr) (c0 : Nat) (l0 : List Int) (a1 : Int) (r : Int) (w : World) (hr0 : Kd.C (Kd.int .u8) w A0 l0.length l0) (hc0 : l0.length ≤ c0) (h : maskref1_Count.f k l0 a1 = some r) :
  Calls Try.prog 101 #[.slice A0 l0.length c0, .int .i64 a1] w fun e w' => e = .returned (.int .i64 r) ∧ Below w.heap.size w w' := by
 have HR0 := Aside0.mk hr0
 have HC0 := Aside0.mk hc0
 clear hr0 hc0
 have HB := Aside0.mk (Below.refl w.heap.size w)
 have H := h
 clear h
 unfold maskref1_Count.f at H
 have H' := Aside0.mk H
 clear H
 go_enter Try.func101, Try.ntmps101
 go_wp2
 go_loopg [5, 6] k (fun kq v5 v6 w' => ∃ (x5_1 : Int) (x6_1 : Int), v5 = .int .u64 x5_1 ∧ v6 = .int .i64 x6_1 ∧ Aside0 (maskref1_Count.l0 kq l0 a1 x5_1 x6_1 = some r) ∧ Aside0 (kq ≤ k) ∧ Aside0 (Below w.heap.size w w'))
 case atStart => exact ⟨(0), (wrap64 ((l0.length : Int) - 1)), (by rfl), (by rfl), H', ⟨Nat.le_refl _⟩, ⟨by repeat (with_reducible exact HB.out)⟩⟩
 case round =>
  clear H'
  obtain ⟨x5_1, x6_1, rfl, rfl, HA, HK1, HB⟩ := hrel
  cases gk with
  | zero => exact absurd HA.out (by simp [maskref1_Count.l0])
  | succ k1 =>
   have H := HA.out
   clear HA
   simp only [maskref1_Count.l0] at H
   replace H := iD H; rcases H with ⟨c3b0, H⟩ | ⟨c3b0, H⟩
   ·replace c3b0 : decide (0 ≤ x6_1) = true := c3b0
    replace H := iN H; obtain ⟨c4b0, H⟩ := H
    replace H := iN H; obtain ⟨c5b0, H⟩ := H
    replace H := iE H; rcases H with ⟨c6b0, c6b1, H⟩ | ⟨c6, c6b0, c6b1, H⟩
    ·obtain ⟨ji7, hji7⟩ : ∃ j_ : Int, (mn (IntKind.u64.wrap ((IntKind.u64.wrap (2 * x5_1)) + 1)) (IntKind.u64.wrap (a1))) = j_ := ⟨_, rfl⟩
     replace H : (maskref1_Count.l0 k1 l0 a1 ji7 (wrap64 (x6_1 - 1))) = some r := by (rw [hji7] at H; exact H)
     have hji7_ : (if (IntKind.u64.wrap (a1)) < (IntKind.u64.wrap ((IntKind.u64.wrap (2 * x5_1)) + 1)) then (IntKind.u64.wrap (a1)) else (IntKind.u64.wrap ((IntKind.u64.wrap (2 * x5_1)) + 1))) = ji7 := hji7
     have H' := Aside0.mk H
     clear H
     have p240 : 0 ≤ (x6_1 : Int) := of_decide_eq_true (by (with_reducible assumption))
     have q240 : x6_1 < (l0.length : Int) := of_decide_eq_true (by (with_reducible assumption))
     obtain ⟨ad240, e240, hx240_0⟩ := Kd.at_int HR0.out x6_1 p240 q240
     cases e240
     replace hx240_0 := (HB.out.cell (World.block_lt_of_cell? w _ hx240_0)).trans hx240_0
     replace p240 := eq_true p240
     replace q240 := eq_true q240
     go_wp2
     go_roundg k1
     case measure => have := HK1.out; omega
     case rel => exact ⟨(ji7), (wrap64 (x6_1 - 1)), (by rfl), (by rfl), H', ⟨by have := HK1.out; omega⟩, ⟨by repeat (with_reducible exact HB.out)⟩⟩
    ·obtain ⟨ji8, hji8⟩ : ∃ j_ : Int, (mn (IntKind.u64.wrap (2 * x5_1)) (IntKind.u64.wrap (a1))) = j_ := ⟨_, rfl⟩
     replace H : (maskref1_Count.l0 k1 l0 a1 ji8 (wrap64 (x6_1 - 1))) = some r := by (rw [hji8] at H; exact H)
     have hji8_ : (if (IntKind.u64.wrap (a1)) < (IntKind.u64.wrap (2 * x5_1)) then (IntKind.u64.wrap (a1)) else (IntKind.u64.wrap (2 * x5_1))) = ji8 := hji8
     have H' := Aside0.mk H
     clear H
     have p240 : 0 ≤ (x6_1 : Int) := of_decide_eq_true (by (with_reducible assumption))
     have q240 : x6_1 < (l0.length : Int) := of_decide_eq_true (by (with_reducible assumption))
     obtain ⟨ad240, e240, hx240_0⟩ := Kd.at_int HR0.out x6_1 p240 q240
     cases e240
     replace hx240_0 := (HB.out.cell (World.block_lt_of_cell? w _ hx240_0)).trans hx240_0
     replace p240 := eq_true p240
     replace q240 := eq_true q240
     go_wp2
     go_roundg k1
     case measure => have := HK1.out; omega
     case rel => exact ⟨(ji8), (wrap64 (x6_1 - 1)), (by rfl), (by rfl), H', ⟨by have := HK1.out; omega⟩, ⟨by repeat (with_reducible exact HB.out)⟩⟩
   ·replace c3b0 : decide (0 ≤ x6_1) = false := c3b0
    obtain rfl := Option.some.inj H
    go_wp2
    go_ret
    exact ⟨by rfl, by repeat (with_reducible exact HB.out)⟩
end Go.Proofs.Ytlamgdibnnmbmaa.PLex
end
section
namespace Go.Proofs.Ytlamgdibnnmbmaa.PLex
open Go.RowKit Go.Proofs.YtlamgdibnnmbmaaW.PrintWords Go.Proofs.YtlamgdibnnmbmaaW.PrintLast Go.Proofs.YtlamgdibnnmbmaaW.PrintMore
attribute [local go_sem] max2_int min2_int max_two min_two max_three min_three max_four min_four
set_option linter.unusedVariables false
set_option linter.unusedSimpArgs false
def maskref1_Truth.l0 : Nat → Int → List Int → Int → Int → Option (Int)
 | 0, _, _, _, _ => none
 | k + 1, x3, x6, x7, x8 => if x8 < x7 then (if 0 ≤ x8 then (if x8 < (x6.length : Int) then (if (rd x6 x8) = 49 then (some 116) else (if (rd x6 x8) = 48 then (maskref1_Truth.l0 k x3 x6 x7 (wrap64 (x8 + 1))) else (maskref1_Truth.l0 k 117 x6 x7 (wrap64 (x8 + 1))))) else (none)) else (none)) else (some x3)
def maskref1_Truth.f (k : Nat) (l0 : List Int) : Option (Int) := maskref1_Truth.l0 k 102 l0 (l0.length : Int) 0
set_option maxHeartbeats 8000000 in
set_option maxRecDepth 100000 in
theorem maskref1_Truth.calls (k : Nat) (A0 : Option Addr) (c0 : Nat) (l0 : List Int) (r : Int) (w : World) (hr0 : Kd.C (Kd.int .u8) w A0 l0.length l0) (hc0 : l0.length ≤ c0) (h : maskref1_Truth.f k l0 = some r) :
  Calls Try.prog 102 #[.slice A0 l0.length c0] w fun e w' => e = .returned (.int .u8 r) ∧ Drawn0 w w' := by
 have HR0 := Aside0.mk hr0
 have HC0 := Aside0.mk hc0
 clear hr0 hc0
 have H := h
 clear h
 unfold maskref1_Truth.f at H
 have H' := Aside0.mk H
 clear H
 go_enter Try.func102, Try.ntmps102
 go_wp2
 go_loopg [3, 8] k (fun kq v3 v8 w' => ∃ (x3_1 : Int) (x8_1 : Int), v3 = .int .u8 x3_1 ∧ v8 = .int .i64 x8_1 ∧ Aside0 (maskref1_Truth.l0 kq x3_1 l0 (l0.length : Int) x8_1 = some r) ∧ Aside0 (kq ≤ k) ∧ Drawn0 w w')
 case atStart => exact ⟨(102), (0), (by rfl), (by rfl), H', ⟨Nat.le_refl _⟩, by repeat (exact Drawn0.refl _)⟩
 case round =>
  clear H'
  try clear c1
  obtain ⟨x3_1, x8_1, rfl, rfl, HA, HK1, ⟨m1, rfl⟩⟩ := hrel
  cases gk with
  | zero => exact absurd HA.out (by simp [maskref1_Truth.l0])
  | succ k1 =>
   have H := HA.out
   clear HA
   simp only [maskref1_Truth.l0] at H
   replace H := iD H; rcases H with ⟨c2b0, H⟩ | ⟨c2b0, H⟩
   ·replace H := iN H; obtain ⟨c3b0, H⟩ := H
    replace H := iN H; obtain ⟨c4b0, H⟩ := H
    replace H := iE H; rcases H with ⟨c5b0, c5b1, H⟩ | ⟨c5, c5b0, c5b1, H⟩
    ·obtain rfl := Option.some.inj H
     have p241 : 0 ≤ (x8_1 : Int) := of_decide_eq_true (by (with_reducible assumption))
     have q241 : x8_1 < (l0.length : Int) := of_decide_eq_true (by (with_reducible assumption))
     obtain ⟨ad241, e241, hx241_0⟩ := Kd.at_int HR0.out x8_1 p241 q241
     cases e241
     replace p241 := eq_true p241
     replace q241 := eq_true q241
     go_wp2
     go_ret
     exact ⟨by rfl, by repeat (first | exact Drawn0.refl _ | apply Drawn0.step)⟩
    ·replace H := iE H; rcases H with ⟨c6b0, c6b1, H⟩ | ⟨c6, c6b0, c6b1, H⟩
     ·have H' := Aside0.mk H
      clear H
      have p241 : 0 ≤ (x8_1 : Int) := of_decide_eq_true (by (with_reducible assumption))
      have q241 : x8_1 < (l0.length : Int) := of_decide_eq_true (by (with_reducible assumption))
      obtain ⟨ad241, e241, hx241_0⟩ := Kd.at_int HR0.out x8_1 p241 q241
      cases e241
      replace p241 := eq_true p241
      replace q241 := eq_true q241
      go_wp2
      go_roundg k1
      case measure => have := HK1.out; omega
      case rel => exact ⟨(x3_1), (wrap64 (x8_1 + 1)), (by rfl), (by rfl), H', ⟨by have := HK1.out; omega⟩, by repeat (first | exact Drawn0.refl _ | apply Drawn0.step)⟩
     ·have H' := Aside0.mk H
      clear H
      have p241 : 0 ≤ (x8_1 : Int) := of_decide_eq_true (by (with_reducible assumption))
      have q241 : x8_1 < (l0.length : Int) := of_decide_eq_true (by (with_reducible assumption))
      obtain ⟨ad241, e241, hx241_0⟩ := Kd.at_int HR0.out x8_1 p241 q241
      cases e241
      replace p241 := eq_true p241
      replace q241 := eq_true q241
      go_wp2
      go_roundg k1
      case measure => have := HK1.out; omega
      case rel => exact ⟨(117), (wrap64 (x8_1 + 1)), (by rfl), (by rfl), H', ⟨by have := HK1.out; omega⟩, by repeat (first | exact Drawn0.refl _ | apply Drawn0.step)⟩
   ·obtain rfl := Option.some.inj H
    go_wp2
    go_ret
    exact ⟨by rfl, by repeat (first | exact Drawn0.refl _ | apply Drawn0.step)⟩
end Go.Proofs.Ytlamgdibnnmbmaa.PLex
end
section
namespace Go.Proofs.Ytlamgdibnnmbmaa.PLex
open Go.RowKit Go.Proofs.YtlamgdibnnmbmaaW.PrintWords Go.Proofs.YtlamgdibnnmbmaaW.PrintLast Go.Proofs.YtlamgdibnnmbmaaW.PrintMore
attribute [local go_sem] max2_int min2_int max_two min_two max_three min_three max_four min_four
set_option linter.unusedVariables false
set_option linter.unusedSimpArgs false
mutual
def maskref1_readDecimal.j0 : Nat → ByteArray → Int → Bool → Option (Int × Int × Int × Int)
 | 0, _, _, _ => none
 | k + 1, x0, x1, x18 => if x18 = true then (if x1 > 64 then (some (0, 0, 0, 2)) else (if 0 < (x0.size : Int) then ((maskref1_Fill.f k x1 (bt x0 0)).bind fun t243 => ((maskref1_B.f k t243).bind fun bt246 => (some (bt246.1, bt246.2.1, bt246.2.2, 0)))) else (none))) else ((maskref1_Fill.f k 70 48).bind fun t249 => (maskref1_readDecimal.l0 k x0 x1 t249 false (x0.size : Int) 0))
def maskref1_readDecimal.l0 : Nat → ByteArray → Int → List Int → Bool → Int → Int → Option (Int × Int × Int × Int)
 | 0, _, _, _, _, _, _ => none
 | k + 1, x0, x1, x6, x7, x29, x30 => if x30 < x29 then (if 0 ≤ x30 then (if x30 < (x0.size : Int) then (if (bt x0 x30) < 48 then (maskref1_readDecimal.j2 k x0 x1 x6 x7 x30 x29 x30 true) else (maskref1_readDecimal.j2 k x0 x1 x6 x7 x30 x29 x30 (decide ((bt x0 x30) > 57)))) else (none)) else (none)) else (if x1 > 64 then (some (0, 0, 0, 2)) else (if x7 = true then (some (0, 0, 0, 3)) else (if 0 ≤ x1 then (if x1 ≤ (x6.length : Int) then ((maskref1_Truth.f k (x6.drop (x1 : Int).toNat)).bind fun t297 => (if t297 = 116 then (some (0, 0, 0, 3)) else ((maskref1_B.f k (x6.take (x1 : Int).toNat)).bind fun bt302 => (some (bt302.1, bt302.2.1, bt302.2.2, 0))))) else (none)) else (none))))
def maskref1_readDecimal.j2 : Nat → ByteArray → Int → List Int → Bool → Int → Int → Int → Bool → Option (Int × Int × Int × Int)
 | 0, _, _, _, _, _, _, _, _ => none
 | k + 1, x0, x1, x6, x7, x8, x29, x30, x42 => if x42 = true then (some (0, 0, 0, 10)) else ((maskref1_Fill.f k 70 48).bind fun t252 => (maskref1_readDecimal.l1 k x0 x1 x6 x7 x8 t252 x29 x30 0))
def maskref1_readDecimal.l1 : Nat → ByteArray → Int → List Int → Bool → Int → List Int → Int → Int → Int → Option (Int × Int × Int × Int)
 | 0, _, _, _, _, _, _, _, _, _ => none
 | k + 1, x0, x1, x6, x7, x8, x9, x29, x30, x45 => if x45 < 4 then (if 0 ≤ x8 then (if x8 < (x0.size : Int) then (if 0 ≤ x45 then (if x45 < (x9.length : Int) then (maskref1_readDecimal.l1 k x0 x1 x6 x7 x8 (x9.set (x45 : Int).toNat ((48 + (Go.bits .and .u8 (shr .u8 (((bt x0 x8) - 48) % 256) x45) 1)) % 256)) x29 x30 (wrap64 (x45 + 1))) else (none)) else (none)) else (none)) else (none)) else ((some (([48] : List Int) : List Int)).bind fun y256 => (if 69 ≤ (x6.length : Int) then ((some (x6.take 69 : List Int)).bind fun y259 => (if y256.length + y259.length < 140737488355328 then ((some (([48, 48, 48] : List Int) : List Int)).bind fun y266 => (if 67 ≤ (x6.length : Int) then ((some (x6.take 67 : List Int)).bind fun y269 => (if y266.length + y269.length < 140737488355328 then ((maskref1_plus.f k (y256 ++ y259) (y266 ++ y269) 48).bind fun t276 => ((maskref1_plus.f k t276 x9 48).bind fun t279 => (if x7 = true then ((maskref1_Fill.f k 70 48).bind fun t287 => (maskref1_readDecimal.l0 k x0 x1 t287 true x29 (wrap64 (x30 + 1)))) else (if 64 ≤ (t279.length : Int) then ((maskref1_Count.f k (t279.drop 64) 9).bind fun t286 => (if t286 > 0 then ((maskref1_Fill.f k 70 48).bind fun t290 => (maskref1_readDecimal.l0 k x0 x1 t290 (decide (t286 > 0)) x29 (wrap64 (x30 + 1)))) else (maskref1_readDecimal.l0 k x0 x1 t279 (decide (t286 > 0)) x29 (wrap64 (x30 + 1))))) else (none))))) else (none))) else (none))) else (none))) else (none)))
end
def maskref1_readDecimal.f (k : Nat) (a0 : ByteArray) (a1 : Int) : Option (Int × Int × Int × Int) := if a0.toList = ([120] : List UInt8) then (maskref1_readDecimal.j0 k a0 a1 true) else (maskref1_readDecimal.j0 k a0 a1 (a0.toList == ([122] : List UInt8)))
set_option maxHeartbeats 8000000 in
set_option maxRecDepth 100000 in
theorem maskref1_readDecimal.calls (k : Nat) (a0 : ByteArray) (a1 : Int) (r1 : Int) (r2 : Int) (r3 : Int) (r4 : Int) (w : World) (h : maskref1_readDecimal.f k a0 a1 = some (r1, r2, r3, r4)) :
  Calls Try.prog 92 #[.string a0, .int .i64 a1] w fun e w' => e = .returned (.tuple #[.agg #[.int .i64 r1, .int .u64 r2, .int .u64 r3], .int .i64 r4]) ∧ Below w.heap.size w w' := by
 have hu24 := Try.underlying24
 have HB := Aside0.mk (Below.refl w.heap.size w)
 have H := h
 clear h
 unfold maskref1_readDecimal.f at H
 have HC3 := Aside0.mk H
 clear H
 go_enter Try.func92, Try.ntmps92
 go_upto_region 1 with ((refine boxA HB 4 #[.int .i64 0, .int .u64 0, .int .u64 0] 24 ?_; clear HB; intro gb242 w4 BK242 GE242 hg hb HB; clear hb hg))
 go_cut [18] (fun v18 wc => ∃ (kq : Nat) (x18_2 : Bool), v18 = .bool x18_2 ∧ Aside0 (maskref1_readDecimal.j0 kq a0 a1 x18_2 = some (r1, r2, r3, r4)) ∧ Aside0 (kq ≤ k) ∧ Aside0 (wc.heap[gb242]? = some (.cells #[.int .i64 0, .int .u64 0, .int .u64 0] 24 (0, 0))) ∧ Aside0 (Below w.heap.size w wc))
 case first =>
  have H := HC3.out
  clear HC3
  replace H := iE H; rcases H with ⟨c5b0, c5b1, H⟩ | ⟨c5, c5b0, c5b1, H⟩
  ·(skip)
   have H' := Aside0.mk H
   clear H
   go_wp2
   go_meet
   case rel => exact ⟨_, (true), (by rfl), H', ⟨by omega⟩, ⟨by exact BK242.out⟩, ⟨by repeat (with_reducible exact HB.out)⟩⟩
  ·(skip)
   have H' := Aside0.mk H
   clear H
   go_wp2
   go_meet
   case rel => exact ⟨_, (a0.toList == ([122] : List UInt8)), (by rfl), H', ⟨by omega⟩, ⟨by exact BK242.out⟩, ⟨by repeat (with_reducible exact HB.out)⟩⟩
 case rest =>
  clear HC3
  obtain ⟨kq, x18_2, rfl, HA, HJ2, BK242, HB⟩ := hcut
  cases kq with
  | zero => exact absurd HA.out (by simp [maskref1_readDecimal.j0])
  | succ kj2 =>
   have H := HA.out
   clear HA
   simp only [maskref1_readDecimal.j0] at H
   replace H := iB H; rcases H with ⟨rfl, H⟩ | ⟨rfl, H⟩
   ·replace H := iD H; rcases H with ⟨c7b0, H⟩ | ⟨c7b0, H⟩
    ·replace c7b0 : decide (64 < a1) = true := c7b0
     replace H := s4 H; obtain ⟨rfl, rfl, rfl, rfl⟩ := H
     obtain ⟨hcz8_0, hcz8_1, hcz8_2, hfz8_0, hfz8_1, hfz8_2⟩ := cf3 BK242
     go_wp2
     refine bodyPost_ret (results_ct rfl _ _ gb242 24 #[.int .i64 0, .int .u64 0, .int .u64 0] (0, 0) _ rfl (by refine blk_put (cs := #[.int .i64 0, .int .u64 0, .int .u64 0]) ?_ 2 _ rfl; refine blk_put (cs := #[.int .i64 0, .int .u64 0, .int .u64 0]) ?_ 1 _ rfl; refine blk_put (cs := #[.int .i64 0, .int .u64 0, .int .u64 0]) ?_ 0 _ rfl; exact BK242.out) Try.underlying24 rfl (by kernel_rfl)) rfl ?_
     exact ⟨by rfl, by repeat (with_reducible first | exact HB.out | refine below_set ?_ GE242.out)⟩
    ·replace c7b0 : decide (64 < a1) = false := c7b0
     by_cases c9 : 0 < (a0.size : Int)
     ·rw [if_pos c9] at H
      have c9b0 : decide (0 < (a0.size : Int)) = true := decide_eq_true c9
      have c9b1 : decide (0 < a0.size) = true := decide_eq_true (by omega)
      clear c9
      replace H := bN H; obtain ⟨t243, A11, H⟩ := H
      replace H := bN H; obtain ⟨⟨t246, t247, t248⟩, A12, H⟩ := H; dsimp only at H
      replace H := s4 H; obtain ⟨rfl, rfl, rfl, rfl⟩ := H
      have p10 : 0 ≤ (0 : Int) := (by omega)
      have q10 : 0 < a0.size := (by have : (0 : Int) < (a0.size : Int) := of_decide_eq_true (by (with_reducible assumption)); omega)
      have hx10 : ∀ h : 0 < a0.size, ((a0[0]'h).toNat : Int) = bt a0 0 := bt_at a0 0
      clear p10
      have qi10 : (0 < (a0.size : Int)) = True := eq_true (of_decide_eq_true (by (with_reducible assumption)))
      replace q10 := eq_true q10
      go_wp2_with (first | (refine callA (some 25) Try.func99 #[.int .i64 a1, .int .u8 (bt a0 0)] ?_; (with_reducible refine (maskref1_Fill.calls kj2 a1 (bt a0 0) t243 _ A11.out).mono ?_); rintro e w13 ⟨v244, rfl, ho0, hb⟩; refine ⟨_, rfl, ?_⟩; have HO245 := Aside0.mk (Kd.R_lower ho0 (below_size HB.out)); replace BK242 := bk1 BK242 hb; replace HB := hb1 HB hb; (try clear hb); (try clear ho0); obtain ⟨Ao14, co14, eo14⟩ := Kd.R_slice HO245.out; subst eo14) | (refine callA (some 26) Try.func79 #[.slice Ao14 t243.length co14] ?_; (with_reducible refine (maskref1_B.calls kj2 _ _ t243 t246 t247 t248 _ ?side1 ?side2 A12.out).mono ?_); (case side1 => exact (Kd.R_reads' HO245.out).2.2); (case side2 => exact (Kd.R_reads' HO245.out).2.1); rintro e w15 ⟨rfl, hb⟩; refine ⟨_, rfl, ?_⟩; replace HO245 := Kd.rb1 HO245 hb; replace BK242 := bk1 BK242 hb; replace HB := hb1 HB hb; (try clear hb); obtain ⟨hcz16_0, hcz16_1, hcz16_2, hfz16_0, hfz16_1, hfz16_2⟩ := cf3 BK242))
      refine bodyPost_ret (results_ct rfl _ _ gb242 24 #[.int .i64 t246, .int .u64 t247, .int .u64 t248] (0, 0) _ rfl (by refine blk_put (cs := #[.int .i64 t246, .int .u64 t247, .int .u64 0]) ?_ 2 _ rfl; refine blk_put (cs := #[.int .i64 t246, .int .u64 0, .int .u64 0]) ?_ 1 _ rfl; refine blk_put (cs := #[.int .i64 0, .int .u64 0, .int .u64 0]) ?_ 0 _ rfl; exact BK242.out) Try.underlying24 rfl (by kernel_rfl)) rfl ?_
      exact ⟨by rfl, by repeat (with_reducible first | exact HB.out | refine below_set ?_ GE242.out)⟩
     ·rw [if_neg c9] at H
      exact absurd H (by simp)
   ·replace H := bN H; obtain ⟨t249, A17, H⟩ := H
    have H' := Aside0.mk H
    clear H
    go_wp2_with ((refine callA (some 27) Try.func99 #[.int .i64 70, .int .u8 48] ?_; (with_reducible refine (maskref1_Fill.calls kj2 70 48 t249 _ A17.out).mono ?_); rintro e w18 ⟨v250, rfl, ho0, hb⟩; refine ⟨_, rfl, ?_⟩; have HO251 := Aside0.mk (Kd.R_lower ho0 (below_size HB.out)); replace BK242 := bk1 BK242 hb; replace HB := hb1 HB hb; (try clear hb); (try clear ho0)))
    go_loopg [6, 7, 30] kj2 (fun kq v6 v7 v30 w' => ∃ (x6_2 : List Int) (x7_2 : Bool) (x30_2 : Int) (x243000_2 : Int) (x243001_2 : Int) (x243002_2 : Int), v7 = .bool x7_2 ∧ v30 = .int .i64 x30_2 ∧ Aside0 (maskref1_readDecimal.l0 kq a0 a1 x6_2 x7_2 (a0.size : Int) x30_2 = some (r1, r2, r3, r4)) ∧ Aside0 (kq ≤ kj2) ∧ Aside0 (Kd.R (Kd.int .u8) 5 w' w.heap.size (fun _ => True) v6 x6_2) ∧ Aside0 (w'.heap[gb242]? = some (.cells #[.int .i64 x243000_2, .int .u64 x243001_2, .int .u64 x243002_2] 24 (0, 0))) ∧ Aside0 (Below w.heap.size w w'))
    case atStart => exact ⟨(t249), (false), (0), (0), (0), (0), (by rfl), (by rfl), H', ⟨Nat.le_refl _⟩, ⟨by exact HO251.out⟩, ⟨by exact BK242.out⟩, ⟨by repeat (with_reducible exact HB.out)⟩⟩
    case round =>
     clear H'
     obtain ⟨x6_2, x7_2, x30_2, x243000_2, x243001_2, x243002_2, rfl, rfl, HA, HK2, HO_6, BK242, HB⟩ := hrel
     cases gk with
     | zero => exact absurd HA.out (by simp [maskref1_readDecimal.l0])
     | succ k2 =>
      have H := HA.out
      clear HA
      simp only [maskref1_readDecimal.l0] at H
      replace H := iD H; rcases H with ⟨c19b0, H⟩ | ⟨c19b0, H⟩
      ·have HC20 := Aside0.mk H
       clear H
       go_upto_region 10 with (fail)
       go_cut [42] (fun v42 wc => ∃ (kq : Nat) (x42_19 : Bool), v42 = .bool x42_19 ∧ Aside0 (maskref1_readDecimal.j2 kq a0 a1 x6_2 x7_2 x30_2 (a0.size : Int) x30_2 x42_19 = some (r1, r2, r3, r4)) ∧ Aside0 (kq ≤ k2) ∧ Aside0 (Kd.R (Kd.int .u8) 5 wc w.heap.size (fun _ => True) u6 x6_2) ∧ Aside0 (wc.heap[gb242]? = some (.cells #[.int .i64 x243000_2, .int .u64 x243001_2, .int .u64 x243002_2] 24 (0, 0))) ∧ Aside0 (Below w.heap.size w wc))
       case first =>
        have H := HC20.out
        clear HC20
        replace H := iN H; obtain ⟨c21b0, H⟩ := H
        (skip)
        replace H := iN H; obtain ⟨c22b0, H⟩ := H
        replace H := iD H; rcases H with ⟨c24b0, H⟩ | ⟨c24b0, H⟩
        ·have H' := Aside0.mk H
         clear H
         have p23 : 0 ≤ (x30_2 : Int) := of_decide_eq_true (by (with_reducible assumption))
         have q23 : x30_2 < (a0.size : Int) := of_decide_eq_true (by (with_reducible assumption))
         have hx23 := bt_at a0 x30_2
         replace p23 := eq_true p23
         replace q23 := eq_true q23
         go_wp2
         go_meet
         case rel => exact ⟨_, (true), (by rfl), H', ⟨by have := HJ2.out; have := HK2.out; omega⟩, ⟨by exact HO_6.out⟩, ⟨by exact BK242.out⟩, ⟨by repeat (with_reducible exact HB.out)⟩⟩
        ·have H' := Aside0.mk H
         clear H
         have p23 : 0 ≤ (x30_2 : Int) := of_decide_eq_true (by (with_reducible assumption))
         have q23 : x30_2 < (a0.size : Int) := of_decide_eq_true (by (with_reducible assumption))
         have hx23 := bt_at a0 x30_2
         replace p23 := eq_true p23
         replace q23 := eq_true q23
         have p25 : 0 ≤ (x30_2 : Int) := of_decide_eq_true (by (with_reducible assumption))
         have q25 : x30_2 < (a0.size : Int) := of_decide_eq_true (by (with_reducible assumption))
         have hx25 := bt_at a0 x30_2
         replace p25 := eq_true p25
         replace q25 := eq_true q25
         go_wp2
         go_meet
         case rel => exact ⟨_, (decide ((bt a0 x30_2) > 57)), (by rfl), H', ⟨by have := HJ2.out; have := HK2.out; omega⟩, ⟨by exact HO_6.out⟩, ⟨by exact BK242.out⟩, ⟨by repeat (with_reducible exact HB.out)⟩⟩
       case rest =>
        clear HC20
        (try clear c19b0)
        obtain ⟨kq, x42_19, rfl, HA, HJ19, HO_6, BK242, HB⟩ := hcut
        cases kq with
        | zero => exact absurd HA.out (by simp [maskref1_readDecimal.j2])
        | succ kj19 =>
         have H := HA.out
         clear HA
         simp only [maskref1_readDecimal.j2] at H
         replace H := iB H; rcases H with ⟨rfl, H⟩ | ⟨rfl, H⟩
         ·replace H := s4 H; obtain ⟨rfl, rfl, rfl, rfl⟩ := H
          obtain ⟨hcz27_0, hcz27_1, hcz27_2, hfz27_0, hfz27_1, hfz27_2⟩ := cf3 BK242
          go_wp2
          refine bodyPost_ret (results_ct rfl _ _ gb242 24 #[.int .i64 0, .int .u64 0, .int .u64 0] (0, 0) _ rfl (by refine blk_put (cs := #[.int .i64 0, .int .u64 0, .int .u64 x243002_2]) ?_ 2 _ rfl; refine blk_put (cs := #[.int .i64 0, .int .u64 x243001_2, .int .u64 x243002_2]) ?_ 1 _ rfl; refine blk_put (cs := #[.int .i64 x243000_2, .int .u64 x243001_2, .int .u64 x243002_2]) ?_ 0 _ rfl; exact BK242.out) Try.underlying24 rfl (by kernel_rfl)) rfl ?_
          exact ⟨by rfl, by repeat (with_reducible first | exact HB.out | refine below_set ?_ GE242.out)⟩
         ·replace H := bN H; obtain ⟨t252, A28, H⟩ := H
          have H' := Aside0.mk H
          clear H
          go_wp2_with ((refine callA (some 44) Try.func99 #[.int .i64 70, .int .u8 48] ?_; (with_reducible refine (maskref1_Fill.calls kj19 70 48 t252 _ A28.out).mono ?_); rintro e w29 ⟨v253, rfl, ho0, hb⟩; refine ⟨_, rfl, ?_⟩; have HO254 := Aside0.mk (Kd.R_lower (Kd.R_new' ho0 (Kd.R_lt HO_6.out)) (below_size HB.out)); replace HO_6 := Aside0.mk (Kd.R_elder' HO_6.out (Kd.R_base ho0) hb); replace BK242 := bk1 BK242 hb; replace HB := hb1 HB hb; (try clear hb); (try clear ho0)))
          go_loopg [45] kj19 (fun kq v45 w' => ∃ (x9_4 : List Int) (x45_4 : Int), v45 = .int .i64 x45_4 ∧ Aside0 (maskref1_readDecimal.l1 kq a0 a1 x6_2 x7_2 x30_2 x9_4 (a0.size : Int) x30_2 x45_4 = some (r1, r2, r3, r4)) ∧ Aside0 (kq ≤ kj19) ∧ Aside0 (Kd.R (Kd.int .u8) 5 w' w.heap.size (fun k_ => some k_ ≠ (v253 : Value).ownBlock) u6 x6_2) ∧ Aside0 (Kd.R (Kd.int .u8) 5 w' w.heap.size (fun k_ => some k_ ≠ (u6 : Value).ownBlock) v253 x9_4) ∧ Aside0 (w'.heap[gb242]? = some (.cells #[.int .i64 x243000_2, .int .u64 x243001_2, .int .u64 x243002_2] 24 (0, 0))) ∧ Aside0 (Below w.heap.size w w'))
          case atStart => exact ⟨(t252), (0), (by rfl), H', ⟨Nat.le_refl _⟩, ⟨by exact Kd.R_mono HO_6.out (fun _ hk => hk.2)⟩, ⟨by exact Kd.R_mono HO254.out (fun _ hk => hk.2)⟩, ⟨by exact BK242.out⟩, ⟨by repeat (with_reducible exact HB.out)⟩⟩
          case round =>
           clear H'
           obtain ⟨x9_4, x45_4, rfl, HA, HK4, HO_6, HO_9, BK242, HB⟩ := hrel
           cases gk with
           | zero => exact absurd HA.out (by simp [maskref1_readDecimal.l1])
           | succ k4 =>
            have H := HA.out
            clear HA
            simp only [maskref1_readDecimal.l1] at H
            replace H := iD H; rcases H with ⟨c30b0, H⟩ | ⟨c30b0, H⟩
            ·replace H := iN H; obtain ⟨c31b0, H⟩ := H
             replace H := iN H; obtain ⟨c32b0, H⟩ := H
             by_cases c34 : 0 ≤ x45_4
             ·rw [if_pos c34] at H
              have c34b0 := eq_true c34
              have c34b1 : decide (0 ≤ x45_4) = true := decide_eq_true c34
              clear c34
              obtain ⟨ji35, hji35⟩ : ∃ j_ : Int, (shr .u8 (((bt a0 x30_2) - 48) % 256) x45_4) = j_ := ⟨_, rfl⟩
              replace H : (if x45_4 < (x9_4.length : Int) then (maskref1_readDecimal.l1 k4 a0 a1 x6_2 x7_2 x30_2 (x9_4.set (x45_4 : Int).toNat ((48 + (Go.bits .and .u8 (ji35) 1)) % 256)) (a0.size : Int) x30_2 (wrap64 (x45_4 + 1))) else (none)) = some (r1, r2, r3, r4) := by (rw [hji35] at H; exact H)
              have hji35_ : ((((bt a0 x30_2) - 48) % 256) / 2 ^ min x45_4.toNat 8) = ji35 := hji35
              have hji35z : x45_4 ≤ 8 → ((((bt a0 x30_2) - 48) % 256) / 2 ^ x45_4.toNat) = ji35 := shr_small hji35
              replace H := iN H; obtain ⟨c36b0, H⟩ := H
              obtain ⟨y255, hy255⟩ : ∃ y_ : List Int, y_ = (x9_4.set (x45_4 : Int).toNat ((48 + (Go.bits .and .u8 (ji35) 1)) % 256)) := ⟨_, rfl⟩
              replace H : (maskref1_readDecimal.l1 k4 a0 a1 x6_2 x7_2 x30_2 y255 (a0.size : Int) x30_2 (wrap64 (x45_4 + 1))) = some (r1, r2, r3, r4) := by (rw [hy255]; with_reducible exact H)
              have Ny255 := Aside0.mk hy255
              clear hy255
              have H' := Aside0.mk H
              clear H
              have p33 : 0 ≤ (x30_2 : Int) := of_decide_eq_true (by (with_reducible assumption))
              have q33 : x30_2 < (a0.size : Int) := of_decide_eq_true (by (with_reducible assumption))
              have hx33 := bt_at a0 x30_2
              replace p33 := eq_true p33
              replace q33 := eq_true q33
              have p37 : 0 ≤ (x45_4 : Int) := of_decide_eq_true (by (with_reducible assumption))
              have q37 : (x45_4 : Int) < ((x9_4.length : Int) : Int) := of_decide_eq_true (by (with_reducible assumption))
              obtain ⟨go37, co37, eo37, gb37, gl37, cl37, HG37⟩ := Kd.R_form HO_9.out (by omega)
              (cases eo37)
              have GB37 := Aside0.mk gb37
              have GG37 := Aside0.mk HG37
              clear gb37 gl37 HG37
              obtain ⟨hx37_0, hf37_0⟩ := Kd.R_celln 0 HO_9.out (x45_4 : Int) p37 q37
              replace p37 := eq_true p37
              replace q37 := eq_true q37
              have HP38 := Kd.R_putg HO_9.out (x45_4 : Int) ((48 + (Go.bits .and .u8 (ji35) 1)) % 256)
              go_wp2_with (((with_reducible refine gate_store (t := 5) (p := 58) rfl ?_); refine store_event (t := 5) (p := 58) (v := ?vo_w39) (w1 := (wr.setCell ⟨go37, (x45_4 : Int).toNat, none⟩ (.int .u8 ((48 + (Go.bits .and .u8 (ji35) 1)) % 256)))) ?hg ?ho ?hn ?hr ?_; (case ho => rfl); (case hg => rfl); (case hn => rfl); (case hr => (go_simp; done)); intro w39 hw; have hg : wr.grownBy w39 (some go37) := (by rw [hw]; exact HP38.2); have hp_ : Kd.R (Kd.int .u8) 5 w39 w.heap.size (fun k_ => some k_ ≠ (u6 : Value).ownBlock) (.slice (some ⟨go37, 0, none⟩) x9_4.length co37) y255 := (by rw [hw, Ny255.out]; exact HP38.1); clear HP38; replace HO_6 := Aside0.mk (Kd.R_after (v := (.slice (some ⟨go37, 0, none⟩) x9_4.length co37)) (v1 := (.slice (some ⟨go37, 0, none⟩) x9_4.length co37)) (ok := (fun _ => True)) (by exact Kd.R_mono HO_6.out (fun _ hk => ⟨trivial, hk⟩)) hg (.inl rfl)); replace BK242 := Aside0.mk (blk_grown BK242.out hg (Kd.R_ne HO_9.out BK242.out (by decide))); replace HO_9 := Aside0.mk (hp_); replace HB := Aside0.mk (by rw [hw]; exact below_set (HB.out) GB37.out : Below w.heap.size w w39); clear hg hw hp_))
              go_roundg k4
              case measure => have := HJ2.out; have := HK2.out; have := HJ19.out; have := HK4.out; omega
              case rel => exact ⟨(y255), (wrap64 (x45_4 + 1)), (by rfl), H', ⟨by have := HJ2.out; have := HK2.out; have := HJ19.out; have := HK4.out; omega⟩, ⟨by exact Kd.R_mono HO_6.out (fun _ hk => hk.2)⟩, ⟨by exact HO_9.out⟩, ⟨by exact BK242.out⟩, ⟨by repeat (with_reducible exact HB.out)⟩⟩
             ·rw [if_neg c34] at H
              exact absurd H (by simp)
            ·obtain ⟨y256, hy256⟩ : ∃ y_ : List Int, y_ = ([48] : List Int) := ⟨_, rfl⟩
             replace H : (if 69 ≤ (x6_2.length : Int) then ((some (x6_2.take 69 : List Int)).bind fun y259 => (if y256.length + y259.length < 140737488355328 then ((some (([48, 48, 48] : List Int) : List Int)).bind fun y266 => (if 67 ≤ (x6_2.length : Int) then ((some (x6_2.take 67 : List Int)).bind fun y269 => (if y266.length + y269.length < 140737488355328 then ((maskref1_plus.f k4 (y256 ++ y259) (y266 ++ y269) 48).bind fun t276 => ((maskref1_plus.f k4 t276 x9_4 48).bind fun t279 => (if x7_2 = true then ((maskref1_Fill.f k4 70 48).bind fun t287 => (maskref1_readDecimal.l0 k4 a0 a1 t287 true (a0.size : Int) (wrap64 (x30_2 + 1)))) else (if 64 ≤ (t279.length : Int) then ((maskref1_Count.f k4 (t279.drop 64) 9).bind fun t286 => (if t286 > 0 then ((maskref1_Fill.f k4 70 48).bind fun t290 => (maskref1_readDecimal.l0 k4 a0 a1 t290 (decide (t286 > 0)) (a0.size : Int) (wrap64 (x30_2 + 1)))) else (maskref1_readDecimal.l0 k4 a0 a1 t279 (decide (t286 > 0)) (a0.size : Int) (wrap64 (x30_2 + 1))))) else (none))))) else (none))) else (none))) else (none))) else (none)) = some (r1, r2, r3, r4) := by (have H2_ := (Option.bind_some _ _).symm.trans H; rw [hy256]; with_reducible exact H2_)
             have Ny256 := Aside0.mk hy256
             clear hy256
             by_cases c40 : 69 ≤ (x6_2.length : Int)
             ·rw [if_pos c40] at H
              have c40b0 := eq_true c40
              have c40b1 : decide (69 ≤ (x6_2.length : Int)) = true := decide_eq_true c40
              clear c40
              obtain ⟨y259, hy259⟩ : ∃ y_ : List Int, y_ = (x6_2.take 69) := ⟨_, rfl⟩
              replace H : (if y256.length + y259.length < 140737488355328 then ((some (([48, 48, 48] : List Int) : List Int)).bind fun y266 => (if 67 ≤ (x6_2.length : Int) then ((some (x6_2.take 67 : List Int)).bind fun y269 => (if y266.length + y269.length < 140737488355328 then ((maskref1_plus.f k4 (y256 ++ y259) (y266 ++ y269) 48).bind fun t276 => ((maskref1_plus.f k4 t276 x9_4 48).bind fun t279 => (if x7_2 = true then ((maskref1_Fill.f k4 70 48).bind fun t287 => (maskref1_readDecimal.l0 k4 a0 a1 t287 true (a0.size : Int) (wrap64 (x30_2 + 1)))) else (if 64 ≤ (t279.length : Int) then ((maskref1_Count.f k4 (t279.drop 64) 9).bind fun t286 => (if t286 > 0 then ((maskref1_Fill.f k4 70 48).bind fun t290 => (maskref1_readDecimal.l0 k4 a0 a1 t290 (decide (t286 > 0)) (a0.size : Int) (wrap64 (x30_2 + 1)))) else (maskref1_readDecimal.l0 k4 a0 a1 t279 (decide (t286 > 0)) (a0.size : Int) (wrap64 (x30_2 + 1))))) else (none))))) else (none))) else (none))) else (none)) = some (r1, r2, r3, r4) := by (have H2_ := (Option.bind_some _ _).symm.trans H; rw [hy259]; with_reducible exact H2_)
              have Ny259 := Aside0.mk hy259
              clear hy259
              by_cases c41 : y256.length + y259.length < 140737488355328
              ·rw [if_pos c41] at H
               have LMc41 := Aside0.mk c41
               clear c41
               obtain ⟨y263, hy263⟩ : ∃ y_ : List Int, y_ = (y256 ++ y259) := ⟨_, rfl⟩
               replace H : ((some (([48, 48, 48] : List Int) : List Int)).bind fun y266 => (if 67 ≤ (x6_2.length : Int) then ((some (x6_2.take 67 : List Int)).bind fun y269 => (if y266.length + y269.length < 140737488355328 then ((maskref1_plus.f k4 y263 (y266 ++ y269) 48).bind fun t276 => ((maskref1_plus.f k4 t276 x9_4 48).bind fun t279 => (if x7_2 = true then ((maskref1_Fill.f k4 70 48).bind fun t287 => (maskref1_readDecimal.l0 k4 a0 a1 t287 true (a0.size : Int) (wrap64 (x30_2 + 1)))) else (if 64 ≤ (t279.length : Int) then ((maskref1_Count.f k4 (t279.drop 64) 9).bind fun t286 => (if t286 > 0 then ((maskref1_Fill.f k4 70 48).bind fun t290 => (maskref1_readDecimal.l0 k4 a0 a1 t290 (decide (t286 > 0)) (a0.size : Int) (wrap64 (x30_2 + 1)))) else (maskref1_readDecimal.l0 k4 a0 a1 t279 (decide (t286 > 0)) (a0.size : Int) (wrap64 (x30_2 + 1))))) else (none))))) else (none))) else (none))) = some (r1, r2, r3, r4) := by (rw [hy263]; with_reducible exact H)
               have Ny263 := Aside0.mk hy263
               clear hy263
               obtain ⟨y266, hy266⟩ : ∃ y_ : List Int, y_ = ([48, 48, 48] : List Int) := ⟨_, rfl⟩
               replace H : (if 67 ≤ (x6_2.length : Int) then ((some (x6_2.take 67 : List Int)).bind fun y269 => (if y266.length + y269.length < 140737488355328 then ((maskref1_plus.f k4 y263 (y266 ++ y269) 48).bind fun t276 => ((maskref1_plus.f k4 t276 x9_4 48).bind fun t279 => (if x7_2 = true then ((maskref1_Fill.f k4 70 48).bind fun t287 => (maskref1_readDecimal.l0 k4 a0 a1 t287 true (a0.size : Int) (wrap64 (x30_2 + 1)))) else (if 64 ≤ (t279.length : Int) then ((maskref1_Count.f k4 (t279.drop 64) 9).bind fun t286 => (if t286 > 0 then ((maskref1_Fill.f k4 70 48).bind fun t290 => (maskref1_readDecimal.l0 k4 a0 a1 t290 (decide (t286 > 0)) (a0.size : Int) (wrap64 (x30_2 + 1)))) else (maskref1_readDecimal.l0 k4 a0 a1 t279 (decide (t286 > 0)) (a0.size : Int) (wrap64 (x30_2 + 1))))) else (none))))) else (none))) else (none)) = some (r1, r2, r3, r4) := by (have H2_ := (Option.bind_some _ _).symm.trans H; rw [hy266]; with_reducible exact H2_)
               have Ny266 := Aside0.mk hy266
               clear hy266
               by_cases c42 : 67 ≤ (x6_2.length : Int)
               ·rw [if_pos c42] at H
                have c42b0 := eq_true c42
                have c42b1 : decide (67 ≤ (x6_2.length : Int)) = true := decide_eq_true c42
                clear c42
                obtain ⟨y269, hy269⟩ : ∃ y_ : List Int, y_ = (x6_2.take 67) := ⟨_, rfl⟩
                replace H : (if y266.length + y269.length < 140737488355328 then ((maskref1_plus.f k4 y263 (y266 ++ y269) 48).bind fun t276 => ((maskref1_plus.f k4 t276 x9_4 48).bind fun t279 => (if x7_2 = true then ((maskref1_Fill.f k4 70 48).bind fun t287 => (maskref1_readDecimal.l0 k4 a0 a1 t287 true (a0.size : Int) (wrap64 (x30_2 + 1)))) else (if 64 ≤ (t279.length : Int) then ((maskref1_Count.f k4 (t279.drop 64) 9).bind fun t286 => (if t286 > 0 then ((maskref1_Fill.f k4 70 48).bind fun t290 => (maskref1_readDecimal.l0 k4 a0 a1 t290 (decide (t286 > 0)) (a0.size : Int) (wrap64 (x30_2 + 1)))) else (maskref1_readDecimal.l0 k4 a0 a1 t279 (decide (t286 > 0)) (a0.size : Int) (wrap64 (x30_2 + 1))))) else (none))))) else (none)) = some (r1, r2, r3, r4) := by (have H2_ := (Option.bind_some _ _).symm.trans H; rw [hy269]; with_reducible exact H2_)
                have Ny269 := Aside0.mk hy269
                clear hy269
                by_cases c43 : y266.length + y269.length < 140737488355328
                ·rw [if_pos c43] at H
                 have LMc43 := Aside0.mk c43
                 clear c43
                 obtain ⟨y273, hy273⟩ : ∃ y_ : List Int, y_ = (y266 ++ y269) := ⟨_, rfl⟩
                 replace H : ((maskref1_plus.f k4 y263 y273 48).bind fun t276 => ((maskref1_plus.f k4 t276 x9_4 48).bind fun t279 => (if x7_2 = true then ((maskref1_Fill.f k4 70 48).bind fun t287 => (maskref1_readDecimal.l0 k4 a0 a1 t287 true (a0.size : Int) (wrap64 (x30_2 + 1)))) else (if 64 ≤ (t279.length : Int) then ((maskref1_Count.f k4 (t279.drop 64) 9).bind fun t286 => (if t286 > 0 then ((maskref1_Fill.f k4 70 48).bind fun t290 => (maskref1_readDecimal.l0 k4 a0 a1 t290 (decide (t286 > 0)) (a0.size : Int) (wrap64 (x30_2 + 1)))) else (maskref1_readDecimal.l0 k4 a0 a1 t279 (decide (t286 > 0)) (a0.size : Int) (wrap64 (x30_2 + 1))))) else (none))))) = some (r1, r2, r3, r4) := by (rw [hy273]; with_reducible exact H)
                 have Ny273 := Aside0.mk hy273
                 clear hy273
                 replace H := bN H; obtain ⟨t276, A44, H⟩ := H
                 replace H := bN H; obtain ⟨t279, A45, H⟩ := H
                 replace H := iB H; rcases H with ⟨rfl, H⟩ | ⟨rfl, H⟩
                 ·replace H := bN H; obtain ⟨t287, A47, H⟩ := H
                  have H' := Aside0.mk H
                  clear H
                  go_wp2_with (first | ((with_reducible refine gate_dst (N := 60) rfl ?_); refine Kd.R_lit (Kd.int .u8) _ 5 ?hg (N := 60) ?hd (xs := ([48] : List Int)) (inner := [.int .u8 48]) (ok := fun _ => True) (okp := fun _ => True) ?hr ?hp (fun _ hk => hk) trivial (Below.refl _ _) (Nat.le_refl _) (by simp) ?_; (case hd => rfl); (case hg => rfl); (case hr => (go_simp; done)); (case hp => exact (Reps.one (show Kd.M (Kd.int .u8) _ _ _ 48 [.int .u8 48] from rfl) (Reps.none _ _))); intro v257 w48 ho49 hb hg_ hnew_; clear hg_ hnew_; (rw [← Ny256.out] at ho49); have HO258 := Aside0.mk (Kd.R_lower (Kd.R_new' (Kd.R_new' ho49 (Kd.R_lt HO_6.out)) (Kd.R_lt HO_9.out)) (below_size HB.out)); replace HO_6 := Aside0.mk (Kd.R_elder' HO_6.out (Kd.R_base ho49) hb); replace HO_9 := Aside0.mk (Kd.R_elder' HO_9.out (Kd.R_base ho49) hb); replace BK242 := bk1 BK242 hb; replace HB := hb1 HB hb; clear hb ho49; obtain ⟨Ao51, co51, eo51⟩ := Kd.R_slice HO_6.out; subst eo51; have q50 : (69 : Int) ≤ ((x6_2.length : Int) : Int) := of_decide_eq_true (by (with_reducible assumption)); obtain ⟨i050, hi050, _, hsz50, _⟩ := info_parts info5; have hroom50 : x6_2.length ≤ co51 := (Kd.R_reads' HO_6.out).2.1; have hC50 : Kd.C (Kd.int .u8) _ Ao51 x6_2.length x6_2 := (Kd.R_reads' HO_6.out).2.2; have hcut50 := cut_to (P := Try.prog) 90 5 .i64 Try.underlying90 hi050 Ao51 x6_2.length co51 69 (by omega) q50 hroom50; have hr50 := Kd.C_take (m := 69) hC50 (by omega); have hy50 : y259.length = (69 : Int).toNat := (by rw [Ny259.out, List.length_take]; omega); rw [← Ny259.out] at hr50; rw [← hy50] at hcut50; have HR262 := Aside0.mk hr50; have HC262 := Aside0.mk (show y259.length ≤ co51 from by omega); clear hr50 hC50 hroom50 hi050 hsz50; have KY50 := Aside0.mk hy50; clear hy50; have KL50 := Aside0.mk (show 69 ≤ x6_2.length from by omega); replace q50 := eq_true q50) | ((with_reducible refine gate_builtin (b := .append) (xs := #[.tmp 60, .tmp 62]) rfl ?_); at_builtin; refine Kd.R_append_rows (Kd.int .u8) (w0 := w) w.heap.size rfl (.tmp 60) (.tmp 62) 90 5 (.int .u8 0) 1 rfl Try.underlying90 info5 rfl (by decide) (by omega) v257 y256 y259 _ _ _ (fun k_ => some k_ ≠ (.slice Ao51 x6_2.length co51 : Value).ownBlock ∧ some k_ ≠ (v253 : Value).ownBlock) (fun _ => False) rfl rfl ?aO ?aR (fun _ _ h => h) (fun _ h => h.elim) ?aF ?aB ?aS ?aL ?_; (case aR => repeat (exact (by repeat (exact HR262.out)))); (case aB => exact HB.out); (case aF => exact (fun k_ hk => ⟨Kd.fresh' (Kd.R_lt HO_6.out) k_ hk, Kd.fresh' (Kd.R_lt HO_9.out) k_ hk⟩)); (case aO => exact (by exact Kd.R_mono HO258.out (fun _ hk => ⟨hk.1.2, hk.2⟩))); (case aS => exact (below_size HB.out)); (case aL => have := LMc41.out; omega); intro v264 w52 ho hb hg hat; rw [← Ny263.out] at ho; replace HO_9 := Aside0.mk (Kd.R_after (ok := (fun k_ => some k_ ≠ (.slice Ao51 x6_2.length co51 : Value).ownBlock)) HO_9.out hg hat); replace BK242 := Aside0.mk (blk_grown BK242.out hg (Kd.R_ne HO258.out BK242.out (by decide))); replace HB := Aside0.mk (hb); replace HR262 := Aside0.mk ((show Kd.C (Kd.int .u8) w52 Ao51 y259.length y259 from by rw [Ny259.out]; exact Kd.C_take (m := 69) ((Kd.R_reads' (Kd.R_after (ok := (fun k_ => some k_ ≠ (v253 : Value).ownBlock)) HO_6.out hg hat)).2.2) KL50.out)); replace HO_6 := Aside0.mk (Kd.R_after (ok := (fun k_ => some k_ ≠ (v253 : Value).ownBlock)) HO_6.out hg hat); have HO265 := Aside0.mk (ho); clear HO258; clear ho hb hg hat) | ((with_reducible refine gate_dst (N := 64) rfl ?_); refine Kd.R_lit (Kd.int .u8) _ 5 ?hg (N := 64) ?hd (xs := ([48, 48, 48] : List Int)) (inner := [.int .u8 48, .int .u8 48, .int .u8 48]) (ok := fun _ => True) (okp := fun _ => True) ?hr ?hp (fun _ hk => hk) trivial (Below.refl _ _) (Nat.le_refl _) (by simp) ?_; (case hd => rfl); (case hg => rfl); (case hr => (go_simp; done)); (case hp => exact (Reps.one (show Kd.M (Kd.int .u8) _ _ _ 48 [.int .u8 48] from rfl) (Reps.one (show Kd.M (Kd.int .u8) _ _ _ 48 [.int .u8 48] from rfl) (Reps.one (show Kd.M (Kd.int .u8) _ _ _ 48 [.int .u8 48] from rfl) (Reps.none _ _))))); intro v267 w53 ho54 hb hg_ hnew_; clear hg_ hnew_; (rw [← Ny266.out] at ho54); have HO268 := Aside0.mk (Kd.R_lower (Kd.R_new' (Kd.R_new' (Kd.R_new' ho54 (Kd.R_lt HO_6.out)) (Kd.R_lt HO_9.out)) (Kd.R_lt HO265.out)) (below_size HB.out)); replace HO_6 := Aside0.mk (Kd.R_elder' HO_6.out (Kd.R_base ho54) hb); replace HO_9 := Aside0.mk (Kd.R_elder' HO_9.out (Kd.R_base ho54) hb); replace HO265 := Aside0.mk (Kd.R_elder' HO265.out (Kd.R_base ho54) hb); replace BK242 := bk1 BK242 hb; replace HR262 := Aside0.mk (Kd.C_below HR262.out hb); replace HB := hb1 HB hb; clear hb ho54; have q55 : (67 : Int) ≤ ((x6_2.length : Int) : Int) := of_decide_eq_true (by (with_reducible assumption)); obtain ⟨i055, hi055, _, hsz55, _⟩ := info_parts info5; have hroom55 : x6_2.length ≤ co51 := (Kd.R_reads' HO_6.out).2.1; have hC55 : Kd.C (Kd.int .u8) _ Ao51 x6_2.length x6_2 := (Kd.R_reads' HO_6.out).2.2; have hcut55 := cut_to (P := Try.prog) 90 5 .i64 Try.underlying90 hi055 Ao51 x6_2.length co51 67 (by omega) q55 hroom55; have hr55 := Kd.C_take (m := 67) hC55 (by omega); have hy55 : y269.length = (67 : Int).toNat := (by rw [Ny269.out, List.length_take]; omega); rw [← Ny269.out] at hr55; rw [← hy55] at hcut55; have HR272 := Aside0.mk hr55; have HC272 := Aside0.mk (show y269.length ≤ co51 from by omega); clear hr55 hC55 hroom55 hi055 hsz55; have KY55 := Aside0.mk hy55; clear hy55; have KL55 := Aside0.mk (show 67 ≤ x6_2.length from by omega); replace q55 := eq_true q55) | ((with_reducible refine gate_builtin (b := .append) (xs := #[.tmp 64, .tmp 66]) rfl ?_); at_builtin; refine Kd.R_append_rows (Kd.int .u8) (w0 := w) w.heap.size rfl (.tmp 64) (.tmp 66) 90 5 (.int .u8 0) 1 rfl Try.underlying90 info5 rfl (by decide) (by omega) v267 y266 y269 _ _ _ (fun k_ => some k_ ≠ (.slice Ao51 x6_2.length co51 : Value).ownBlock ∧ some k_ ≠ (v253 : Value).ownBlock ∧ some k_ ≠ (v264 : Value).ownBlock) (fun _ => False) rfl rfl ?aO ?aR (fun _ _ h => h) (fun _ h => h.elim) ?aF ?aB ?aS ?aL ?_; (case aR => repeat (exact (by repeat (exact HR272.out)))); (case aB => exact HB.out); (case aF => exact (fun k_ hk => ⟨Kd.fresh' (Kd.R_lt HO_6.out) k_ hk, Kd.fresh' (Kd.R_lt HO_9.out) k_ hk, Kd.fresh' (Kd.R_lt HO265.out) k_ hk⟩)); (case aO => exact (by exact Kd.R_mono HO268.out (fun _ hk => ⟨hk.1.1.2, ⟨hk.1.2, hk.2⟩⟩))); (case aS => exact (below_size HB.out)); (case aL => have := LMc43.out; omega); intro v274 w56 ho hb hg hat; rw [← Ny273.out] at ho; replace HO_9 := Aside0.mk (Kd.R_after (ok := (fun k_ => some k_ ≠ (.slice Ao51 x6_2.length co51 : Value).ownBlock ∧ some k_ ≠ (v264 : Value).ownBlock)) HO_9.out hg hat); replace BK242 := Aside0.mk (blk_grown BK242.out hg (Kd.R_ne HO268.out BK242.out (by decide))); replace HO265 := Aside0.mk (Kd.R_after (ok := (fun k_ => some k_ ≠ (.slice Ao51 x6_2.length co51 : Value).ownBlock ∧ some k_ ≠ (v253 : Value).ownBlock)) HO265.out hg hat); replace HB := Aside0.mk (hb); replace HR262 := Aside0.mk ((show Kd.C (Kd.int .u8) w56 Ao51 y259.length y259 from by rw [Ny259.out]; exact Kd.C_take (m := 69) ((Kd.R_reads' (Kd.R_after (ok := (fun k_ => some k_ ≠ (v253 : Value).ownBlock ∧ some k_ ≠ (v264 : Value).ownBlock)) HO_6.out hg hat)).2.2) KL50.out)); replace HR272 := Aside0.mk ((show Kd.C (Kd.int .u8) w56 Ao51 y269.length y269 from by rw [Ny269.out]; exact Kd.C_take (m := 67) ((Kd.R_reads' (Kd.R_after (ok := (fun k_ => some k_ ≠ (v253 : Value).ownBlock ∧ some k_ ≠ (v264 : Value).ownBlock)) HO_6.out hg hat)).2.2) KL55.out)); replace HO_6 := Aside0.mk (Kd.R_after (ok := (fun k_ => some k_ ≠ (v253 : Value).ownBlock ∧ some k_ ≠ (v264 : Value).ownBlock)) HO_6.out hg hat); have HO275 := Aside0.mk (ho); clear HO268; clear ho hb hg hat; obtain ⟨Ao57, co57, eo57⟩ := Kd.R_slice HO265.out; subst eo57; obtain ⟨Ao58, co58, eo58⟩ := Kd.R_slice HO275.out; subst eo58) | (refine callA (some 70) Try.func100 #[.slice Ao57 y263.length co57, .slice Ao58 y273.length co58, .int .u8 48] ?_; (with_reducible refine (maskref1_plus.calls k4 _ _ y263 _ _ y273 48 t276 _ ?side1 ?side2 ?side3 ?side4 A44.out).mono ?_); (case side1 => exact (Kd.R_reads' HO265.out).2.2); (case side2 => exact (Kd.R_reads' HO265.out).2.1); (case side3 => exact (Kd.R_reads' HO275.out).2.2); (case side4 => exact (Kd.R_reads' HO275.out).2.1); rintro e w59 ⟨v277, rfl, ho0, hb⟩; refine ⟨_, rfl, ?_⟩; have HO278 := Aside0.mk (Kd.R_lower (Kd.R_new' (Kd.R_new' (Kd.R_new' (Kd.R_new' ho0 (Kd.R_lt HO_6.out)) (Kd.R_lt HO_9.out)) (Kd.R_lt HO265.out)) (Kd.R_lt HO275.out)) (below_size HB.out)); replace HO_6 := Aside0.mk (Kd.R_elder' HO_6.out (Kd.R_base ho0) hb); replace HO_9 := Aside0.mk (Kd.R_elder' HO_9.out (Kd.R_base ho0) hb); replace HO265 := Aside0.mk (Kd.R_elder' HO265.out (Kd.R_base ho0) hb); replace HO275 := Aside0.mk (Kd.R_elder' HO275.out (Kd.R_base ho0) hb); replace BK242 := bk1 BK242 hb; replace HR262 := Aside0.mk (Kd.C_below HR262.out hb); replace HR272 := Aside0.mk (Kd.C_below HR272.out hb); replace HB := hb1 HB hb; (try clear hb); (try clear ho0); obtain ⟨Ao60, co60, eo60⟩ := Kd.R_slice HO278.out; subst eo60; obtain ⟨Ao61, co61, eo61⟩ := Kd.R_slice HO_9.out; subst eo61) | (refine callA (some 72) Try.func100 #[.slice Ao60 t276.length co60, .slice Ao61 x9_4.length co61, .int .u8 48] ?_; (with_reducible refine (maskref1_plus.calls k4 _ _ t276 _ _ x9_4 48 t279 _ ?side1 ?side2 ?side3 ?side4 A45.out).mono ?_); (case side1 => exact (Kd.R_reads' HO278.out).2.2); (case side2 => exact (Kd.R_reads' HO278.out).2.1); (case side3 => exact (Kd.R_reads' HO_9.out).2.2); (case side4 => exact (Kd.R_reads' HO_9.out).2.1); rintro e w62 ⟨v280, rfl, ho0, hb⟩; refine ⟨_, rfl, ?_⟩; have HO281 := Aside0.mk (Kd.R_lower (Kd.R_new' (Kd.R_new' (Kd.R_new' (Kd.R_new' (Kd.R_new' ho0 (Kd.R_lt HO_6.out)) (Kd.R_lt HO_9.out)) (Kd.R_lt HO265.out)) (Kd.R_lt HO275.out)) (Kd.R_lt HO278.out)) (below_size HB.out)); replace HO_6 := Aside0.mk (Kd.R_elder' HO_6.out (Kd.R_base ho0) hb); replace HO_9 := Aside0.mk (Kd.R_elder' HO_9.out (Kd.R_base ho0) hb); replace HO265 := Aside0.mk (Kd.R_elder' HO265.out (Kd.R_base ho0) hb); replace HO275 := Aside0.mk (Kd.R_elder' HO275.out (Kd.R_base ho0) hb); replace HO278 := Aside0.mk (Kd.R_elder' HO278.out (Kd.R_base ho0) hb); replace BK242 := bk1 BK242 hb; replace HR262 := Aside0.mk (Kd.C_below HR262.out hb); replace HR272 := Aside0.mk (Kd.C_below HR272.out hb); replace HB := hb1 HB hb; (try clear hb); (try clear ho0)) | (refine callA (some 81) Try.func99 #[.int .i64 70, .int .u8 48] ?_; (with_reducible refine (maskref1_Fill.calls k4 70 48 t287 _ A47.out).mono ?_); rintro e w63 ⟨v288, rfl, ho0, hb⟩; refine ⟨_, rfl, ?_⟩; have HO289 := Aside0.mk (Kd.R_lower (Kd.R_new' (Kd.R_new' (Kd.R_new' (Kd.R_new' (Kd.R_new' (Kd.R_new' ho0 (Kd.R_lt HO_6.out)) (Kd.R_lt HO_9.out)) (Kd.R_lt HO265.out)) (Kd.R_lt HO275.out)) (Kd.R_lt HO278.out)) (Kd.R_lt HO281.out)) (below_size HB.out)); replace HO_6 := Aside0.mk (Kd.R_elder' HO_6.out (Kd.R_base ho0) hb); replace HO_9 := Aside0.mk (Kd.R_elder' HO_9.out (Kd.R_base ho0) hb); replace HO265 := Aside0.mk (Kd.R_elder' HO265.out (Kd.R_base ho0) hb); replace HO275 := Aside0.mk (Kd.R_elder' HO275.out (Kd.R_base ho0) hb); replace HO278 := Aside0.mk (Kd.R_elder' HO278.out (Kd.R_base ho0) hb); replace HO281 := Aside0.mk (Kd.R_elder' HO281.out (Kd.R_base ho0) hb); replace BK242 := bk1 BK242 hb; replace HR262 := Aside0.mk (Kd.C_below HR262.out hb); replace HR272 := Aside0.mk (Kd.C_below HR272.out hb); replace HB := hb1 HB hb; (try clear hb); (try clear ho0)))
                  go_roundg k4
                  case measure => have := HJ2.out; have := HK2.out; have := HJ19.out; have := HK4.out; omega
                  case rel => exact ⟨(t287), (true), (wrap64 (x30_2 + 1)), (x243000_2), (x243001_2), (x243002_2), (by rfl), (by rfl), H', ⟨by have := HJ2.out; have := HK2.out; have := HJ19.out; have := HK4.out; omega⟩, ⟨by exact Kd.R_mono HO289.out (fun _ hk => trivial)⟩, ⟨by exact BK242.out⟩, ⟨by repeat (with_reducible exact HB.out)⟩⟩
                 ·by_cases c64 : 64 ≤ (t279.length : Int)
                  ·rw [if_pos c64] at H
                   have c64b0 := eq_true c64
                   have c64b1 : decide (64 ≤ (t279.length : Int)) = true := decide_eq_true c64
                   clear c64
                   obtain ⟨y282, hy282⟩ : ∃ y_ : List Int, y_ = (t279.drop 64) := ⟨_, rfl⟩
                   replace H : ((maskref1_Count.f k4 y282 9).bind fun t286 => (if t286 > 0 then ((maskref1_Fill.f k4 70 48).bind fun t290 => (maskref1_readDecimal.l0 k4 a0 a1 t290 (decide (t286 > 0)) (a0.size : Int) (wrap64 (x30_2 + 1)))) else (maskref1_readDecimal.l0 k4 a0 a1 t279 (decide (t286 > 0)) (a0.size : Int) (wrap64 (x30_2 + 1))))) = some (r1, r2, r3, r4) := by (rw [hy282]; with_reducible exact H)
                   have Ny282 := Aside0.mk hy282
                   clear hy282
                   replace H := bN H; obtain ⟨t286, A65, H⟩ := H
                   replace H := iD H; rcases H with ⟨c66b0, H⟩ | ⟨c66b0, H⟩
                   ·replace c66b0 : decide (0 < t286) = true := c66b0
                    replace H := bN H; obtain ⟨t290, A67, H⟩ := H
                    have H' := Aside0.mk H
                    clear H
                    go_wp2_with (first | ((with_reducible refine gate_dst (N := 60) rfl ?_); refine Kd.R_lit (Kd.int .u8) _ 5 ?hg (N := 60) ?hd (xs := ([48] : List Int)) (inner := [.int .u8 48]) (ok := fun _ => True) (okp := fun _ => True) ?hr ?hp (fun _ hk => hk) trivial (Below.refl _ _) (Nat.le_refl _) (by simp) ?_; (case hd => rfl); (case hg => rfl); (case hr => (go_simp; done)); (case hp => exact (Reps.one (show Kd.M (Kd.int .u8) _ _ _ 48 [.int .u8 48] from rfl) (Reps.none _ _))); intro v257 w68 ho69 hb hg_ hnew_; clear hg_ hnew_; (rw [← Ny256.out] at ho69); have HO258 := Aside0.mk (Kd.R_lower (Kd.R_new' (Kd.R_new' ho69 (Kd.R_lt HO_6.out)) (Kd.R_lt HO_9.out)) (below_size HB.out)); replace HO_6 := Aside0.mk (Kd.R_elder' HO_6.out (Kd.R_base ho69) hb); replace HO_9 := Aside0.mk (Kd.R_elder' HO_9.out (Kd.R_base ho69) hb); replace BK242 := bk1 BK242 hb; replace HB := hb1 HB hb; clear hb ho69; obtain ⟨Ao71, co71, eo71⟩ := Kd.R_slice HO_6.out; subst eo71; have q70 : (69 : Int) ≤ ((x6_2.length : Int) : Int) := of_decide_eq_true (by (with_reducible assumption)); obtain ⟨i070, hi070, _, hsz70, _⟩ := info_parts info5; have hroom70 : x6_2.length ≤ co71 := (Kd.R_reads' HO_6.out).2.1; have hC70 : Kd.C (Kd.int .u8) _ Ao71 x6_2.length x6_2 := (Kd.R_reads' HO_6.out).2.2; have hcut70 := cut_to (P := Try.prog) 90 5 .i64 Try.underlying90 hi070 Ao71 x6_2.length co71 69 (by omega) q70 hroom70; have hr70 := Kd.C_take (m := 69) hC70 (by omega); have hy70 : y259.length = (69 : Int).toNat := (by rw [Ny259.out, List.length_take]; omega); rw [← Ny259.out] at hr70; rw [← hy70] at hcut70; have HR262 := Aside0.mk hr70; have HC262 := Aside0.mk (show y259.length ≤ co71 from by omega); clear hr70 hC70 hroom70 hi070 hsz70; have KY70 := Aside0.mk hy70; clear hy70; have KL70 := Aside0.mk (show 69 ≤ x6_2.length from by omega); replace q70 := eq_true q70) | ((with_reducible refine gate_builtin (b := .append) (xs := #[.tmp 60, .tmp 62]) rfl ?_); at_builtin; refine Kd.R_append_rows (Kd.int .u8) (w0 := w) w.heap.size rfl (.tmp 60) (.tmp 62) 90 5 (.int .u8 0) 1 rfl Try.underlying90 info5 rfl (by decide) (by omega) v257 y256 y259 _ _ _ (fun k_ => some k_ ≠ (.slice Ao71 x6_2.length co71 : Value).ownBlock ∧ some k_ ≠ (v253 : Value).ownBlock) (fun _ => False) rfl rfl ?aO ?aR (fun _ _ h => h) (fun _ h => h.elim) ?aF ?aB ?aS ?aL ?_; (case aR => repeat (exact (by repeat (exact HR262.out)))); (case aB => exact HB.out); (case aF => exact (fun k_ hk => ⟨Kd.fresh' (Kd.R_lt HO_6.out) k_ hk, Kd.fresh' (Kd.R_lt HO_9.out) k_ hk⟩)); (case aO => exact (by exact Kd.R_mono HO258.out (fun _ hk => ⟨hk.1.2, hk.2⟩))); (case aS => exact (below_size HB.out)); (case aL => have := LMc41.out; omega); intro v264 w72 ho hb hg hat; rw [← Ny263.out] at ho; replace HO_9 := Aside0.mk (Kd.R_after (ok := (fun k_ => some k_ ≠ (.slice Ao71 x6_2.length co71 : Value).ownBlock)) HO_9.out hg hat); replace BK242 := Aside0.mk (blk_grown BK242.out hg (Kd.R_ne HO258.out BK242.out (by decide))); replace HB := Aside0.mk (hb); replace HR262 := Aside0.mk ((show Kd.C (Kd.int .u8) w72 Ao71 y259.length y259 from by rw [Ny259.out]; exact Kd.C_take (m := 69) ((Kd.R_reads' (Kd.R_after (ok := (fun k_ => some k_ ≠ (v253 : Value).ownBlock)) HO_6.out hg hat)).2.2) KL70.out)); replace HO_6 := Aside0.mk (Kd.R_after (ok := (fun k_ => some k_ ≠ (v253 : Value).ownBlock)) HO_6.out hg hat); have HO265 := Aside0.mk (ho); clear HO258; clear ho hb hg hat) | ((with_reducible refine gate_dst (N := 64) rfl ?_); refine Kd.R_lit (Kd.int .u8) _ 5 ?hg (N := 64) ?hd (xs := ([48, 48, 48] : List Int)) (inner := [.int .u8 48, .int .u8 48, .int .u8 48]) (ok := fun _ => True) (okp := fun _ => True) ?hr ?hp (fun _ hk => hk) trivial (Below.refl _ _) (Nat.le_refl _) (by simp) ?_; (case hd => rfl); (case hg => rfl); (case hr => (go_simp; done)); (case hp => exact (Reps.one (show Kd.M (Kd.int .u8) _ _ _ 48 [.int .u8 48] from rfl) (Reps.one (show Kd.M (Kd.int .u8) _ _ _ 48 [.int .u8 48] from rfl) (Reps.one (show Kd.M (Kd.int .u8) _ _ _ 48 [.int .u8 48] from rfl) (Reps.none _ _))))); intro v267 w73 ho74 hb hg_ hnew_; clear hg_ hnew_; (rw [← Ny266.out] at ho74); have HO268 := Aside0.mk (Kd.R_lower (Kd.R_new' (Kd.R_new' (Kd.R_new' ho74 (Kd.R_lt HO_6.out)) (Kd.R_lt HO_9.out)) (Kd.R_lt HO265.out)) (below_size HB.out)); replace HO_6 := Aside0.mk (Kd.R_elder' HO_6.out (Kd.R_base ho74) hb); replace HO_9 := Aside0.mk (Kd.R_elder' HO_9.out (Kd.R_base ho74) hb); replace HO265 := Aside0.mk (Kd.R_elder' HO265.out (Kd.R_base ho74) hb); replace BK242 := bk1 BK242 hb; replace HR262 := Aside0.mk (Kd.C_below HR262.out hb); replace HB := hb1 HB hb; clear hb ho74; have q75 : (67 : Int) ≤ ((x6_2.length : Int) : Int) := of_decide_eq_true (by (with_reducible assumption)); obtain ⟨i075, hi075, _, hsz75, _⟩ := info_parts info5; have hroom75 : x6_2.length ≤ co71 := (Kd.R_reads' HO_6.out).2.1; have hC75 : Kd.C (Kd.int .u8) _ Ao71 x6_2.length x6_2 := (Kd.R_reads' HO_6.out).2.2; have hcut75 := cut_to (P := Try.prog) 90 5 .i64 Try.underlying90 hi075 Ao71 x6_2.length co71 67 (by omega) q75 hroom75; have hr75 := Kd.C_take (m := 67) hC75 (by omega); have hy75 : y269.length = (67 : Int).toNat := (by rw [Ny269.out, List.length_take]; omega); rw [← Ny269.out] at hr75; rw [← hy75] at hcut75; have HR272 := Aside0.mk hr75; have HC272 := Aside0.mk (show y269.length ≤ co71 from by omega); clear hr75 hC75 hroom75 hi075 hsz75; have KY75 := Aside0.mk hy75; clear hy75; have KL75 := Aside0.mk (show 67 ≤ x6_2.length from by omega); replace q75 := eq_true q75) | ((with_reducible refine gate_builtin (b := .append) (xs := #[.tmp 64, .tmp 66]) rfl ?_); at_builtin; refine Kd.R_append_rows (Kd.int .u8) (w0 := w) w.heap.size rfl (.tmp 64) (.tmp 66) 90 5 (.int .u8 0) 1 rfl Try.underlying90 info5 rfl (by decide) (by omega) v267 y266 y269 _ _ _ (fun k_ => some k_ ≠ (.slice Ao71 x6_2.length co71 : Value).ownBlock ∧ some k_ ≠ (v253 : Value).ownBlock ∧ some k_ ≠ (v264 : Value).ownBlock) (fun _ => False) rfl rfl ?aO ?aR (fun _ _ h => h) (fun _ h => h.elim) ?aF ?aB ?aS ?aL ?_; (case aR => repeat (exact (by repeat (exact HR272.out)))); (case aB => exact HB.out); (case aF => exact (fun k_ hk => ⟨Kd.fresh' (Kd.R_lt HO_6.out) k_ hk, Kd.fresh' (Kd.R_lt HO_9.out) k_ hk, Kd.fresh' (Kd.R_lt HO265.out) k_ hk⟩)); (case aO => exact (by exact Kd.R_mono HO268.out (fun _ hk => ⟨hk.1.1.2, ⟨hk.1.2, hk.2⟩⟩))); (case aS => exact (below_size HB.out)); (case aL => have := LMc43.out; omega); intro v274 w76 ho hb hg hat; rw [← Ny273.out] at ho; replace HO_9 := Aside0.mk (Kd.R_after (ok := (fun k_ => some k_ ≠ (.slice Ao71 x6_2.length co71 : Value).ownBlock ∧ some k_ ≠ (v264 : Value).ownBlock)) HO_9.out hg hat); replace BK242 := Aside0.mk (blk_grown BK242.out hg (Kd.R_ne HO268.out BK242.out (by decide))); replace HO265 := Aside0.mk (Kd.R_after (ok := (fun k_ => some k_ ≠ (.slice Ao71 x6_2.length co71 : Value).ownBlock ∧ some k_ ≠ (v253 : Value).ownBlock)) HO265.out hg hat); replace HB := Aside0.mk (hb); replace HR262 := Aside0.mk ((show Kd.C (Kd.int .u8) w76 Ao71 y259.length y259 from by rw [Ny259.out]; exact Kd.C_take (m := 69) ((Kd.R_reads' (Kd.R_after (ok := (fun k_ => some k_ ≠ (v253 : Value).ownBlock ∧ some k_ ≠ (v264 : Value).ownBlock)) HO_6.out hg hat)).2.2) KL70.out)); replace HR272 := Aside0.mk ((show Kd.C (Kd.int .u8) w76 Ao71 y269.length y269 from by rw [Ny269.out]; exact Kd.C_take (m := 67) ((Kd.R_reads' (Kd.R_after (ok := (fun k_ => some k_ ≠ (v253 : Value).ownBlock ∧ some k_ ≠ (v264 : Value).ownBlock)) HO_6.out hg hat)).2.2) KL75.out)); replace HO_6 := Aside0.mk (Kd.R_after (ok := (fun k_ => some k_ ≠ (v253 : Value).ownBlock ∧ some k_ ≠ (v264 : Value).ownBlock)) HO_6.out hg hat); have HO275 := Aside0.mk (ho); clear HO268; clear ho hb hg hat; obtain ⟨Ao77, co77, eo77⟩ := Kd.R_slice HO265.out; subst eo77; obtain ⟨Ao78, co78, eo78⟩ := Kd.R_slice HO275.out; subst eo78) | (refine callA (some 70) Try.func100 #[.slice Ao77 y263.length co77, .slice Ao78 y273.length co78, .int .u8 48] ?_; (with_reducible refine (maskref1_plus.calls k4 _ _ y263 _ _ y273 48 t276 _ ?side1 ?side2 ?side3 ?side4 A44.out).mono ?_); (case side1 => exact (Kd.R_reads' HO265.out).2.2); (case side2 => exact (Kd.R_reads' HO265.out).2.1); (case side3 => exact (Kd.R_reads' HO275.out).2.2); (case side4 => exact (Kd.R_reads' HO275.out).2.1); rintro e w79 ⟨v277, rfl, ho0, hb⟩; refine ⟨_, rfl, ?_⟩; have HO278 := Aside0.mk (Kd.R_lower (Kd.R_new' (Kd.R_new' (Kd.R_new' (Kd.R_new' ho0 (Kd.R_lt HO_6.out)) (Kd.R_lt HO_9.out)) (Kd.R_lt HO265.out)) (Kd.R_lt HO275.out)) (below_size HB.out)); replace HO_6 := Aside0.mk (Kd.R_elder' HO_6.out (Kd.R_base ho0) hb); replace HO_9 := Aside0.mk (Kd.R_elder' HO_9.out (Kd.R_base ho0) hb); replace HO265 := Aside0.mk (Kd.R_elder' HO265.out (Kd.R_base ho0) hb); replace HO275 := Aside0.mk (Kd.R_elder' HO275.out (Kd.R_base ho0) hb); replace BK242 := bk1 BK242 hb; replace HR262 := Aside0.mk (Kd.C_below HR262.out hb); replace HR272 := Aside0.mk (Kd.C_below HR272.out hb); replace HB := hb1 HB hb; (try clear hb); (try clear ho0); obtain ⟨Ao80, co80, eo80⟩ := Kd.R_slice HO278.out; subst eo80; obtain ⟨Ao81, co81, eo81⟩ := Kd.R_slice HO_9.out; subst eo81) | (refine callA (some 72) Try.func100 #[.slice Ao80 t276.length co80, .slice Ao81 x9_4.length co81, .int .u8 48] ?_; (with_reducible refine (maskref1_plus.calls k4 _ _ t276 _ _ x9_4 48 t279 _ ?side1 ?side2 ?side3 ?side4 A45.out).mono ?_); (case side1 => exact (Kd.R_reads' HO278.out).2.2); (case side2 => exact (Kd.R_reads' HO278.out).2.1); (case side3 => exact (Kd.R_reads' HO_9.out).2.2); (case side4 => exact (Kd.R_reads' HO_9.out).2.1); rintro e w82 ⟨v280, rfl, ho0, hb⟩; refine ⟨_, rfl, ?_⟩; have HO281 := Aside0.mk (Kd.R_lower (Kd.R_new' (Kd.R_new' (Kd.R_new' (Kd.R_new' (Kd.R_new' ho0 (Kd.R_lt HO_6.out)) (Kd.R_lt HO_9.out)) (Kd.R_lt HO265.out)) (Kd.R_lt HO275.out)) (Kd.R_lt HO278.out)) (below_size HB.out)); replace HO_6 := Aside0.mk (Kd.R_elder' HO_6.out (Kd.R_base ho0) hb); replace HO_9 := Aside0.mk (Kd.R_elder' HO_9.out (Kd.R_base ho0) hb); replace HO265 := Aside0.mk (Kd.R_elder' HO265.out (Kd.R_base ho0) hb); replace HO275 := Aside0.mk (Kd.R_elder' HO275.out (Kd.R_base ho0) hb); replace HO278 := Aside0.mk (Kd.R_elder' HO278.out (Kd.R_base ho0) hb); replace BK242 := bk1 BK242 hb; replace HR262 := Aside0.mk (Kd.C_below HR262.out hb); replace HR272 := Aside0.mk (Kd.C_below HR272.out hb); replace HB := hb1 HB hb; (try clear hb); (try clear ho0); obtain ⟨Ao84, co84, eo84⟩ := Kd.R_slice HO281.out; subst eo84; have q83 : (64 : Int) ≤ ((t279.length : Int) : Int) := of_decide_eq_true (by (with_reducible assumption)); obtain ⟨i083, hi083, _, hsz83, _⟩ := info_parts info5; have hroom83 : t279.length ≤ co84 := (Kd.R_reads' HO281.out).2.1; have hC83 : Kd.C (Kd.int .u8) _ Ao84 t279.length t279 := (Kd.R_reads' HO281.out).2.2; have hcut83 := cut_from (P := Try.prog) 90 5 .i64 Try.underlying90 hi083 1 hsz83 Ao84 t279.length co84 64 (by omega) q83; have hr83 := Kd.C_drop (m := (64 : Int).toNat) (c := co84) hC83 (by omega) hroom83; obtain ⟨A83, hA83⟩ : ∃ A1, A1 = (if co84 = (64 : Int).toNat then Ao84 else (Ao84 : Option Addr).map (·.add ((64 : Int).toNat * 1))) := ⟨_, rfl⟩; obtain ⟨c83, hc83⟩ : ∃ c1, c1 = co84 - (64 : Int).toNat := ⟨_, rfl⟩; have hy83 : y282.length = t279.length - (64 : Int).toNat := (by rw [Ny282.out, List.length_drop] <;> omega); rw [show (t279).drop (64 : Int).toNat = y282 from Ny282.out.symm] at hr83; replace hr83 : Kd.C (Kd.int .u8) _ A83 y282.length y282 := (by rw [hA83]; exact hr83); rw [← hy83, ← hA83, ← hc83] at hcut83; have HR285 := Aside0.mk hr83; have HC285 := Aside0.mk (show y282.length ≤ c83 from by rw [hy83, hc83]; exact Nat.sub_le_sub_right hroom83 _); clear hr83 hC83 hroom83 hi083 hsz83 hc83; have KY83 := Aside0.mk hy83; have KA83 := Aside0.mk hA83; clear hy83 hA83; have KL83 := Aside0.mk (show 64 ≤ t279.length from by omega); replace q83 := eq_true q83) | (go_at_call 101; (with_reducible refine (maskref1_Count.calls k4 _ _ y282 9 t286 _ ?side1 ?side2 A65.out).mono ?_); (case side1 => exact HR285.out); (case side2 => exact HC285.out); rintro e w85 ⟨rfl, hb⟩; replace HO_6 := Kd.rb1 HO_6 hb; replace HO_9 := Kd.rb1 HO_9 hb; replace HO265 := Kd.rb1 HO265 hb; replace HO275 := Kd.rb1 HO275 hb; replace HO278 := Kd.rb1 HO278 hb; replace HO281 := Kd.rb1 HO281 hb; replace BK242 := bk1 BK242 hb; replace HR262 := Aside0.mk (Kd.C_below HR262.out hb); replace HR272 := Aside0.mk (Kd.C_below HR272.out hb); replace HR285 := Aside0.mk (Kd.C_below HR285.out hb); replace HB := hb1 HB hb; (try clear hb)) | (refine callA (some 81) Try.func99 #[.int .i64 70, .int .u8 48] ?_; (with_reducible refine (maskref1_Fill.calls k4 70 48 t290 _ A67.out).mono ?_); rintro e w86 ⟨v291, rfl, ho0, hb⟩; refine ⟨_, rfl, ?_⟩; have HO292 := Aside0.mk (Kd.R_lower (Kd.R_new' (Kd.R_new' (Kd.R_new' (Kd.R_new' (Kd.R_new' (Kd.R_new' ho0 (Kd.R_lt HO_6.out)) (Kd.R_lt HO_9.out)) (Kd.R_lt HO265.out)) (Kd.R_lt HO275.out)) (Kd.R_lt HO278.out)) (Kd.R_lt HO281.out)) (below_size HB.out)); replace HO_6 := Aside0.mk (Kd.R_elder' HO_6.out (Kd.R_base ho0) hb); replace HO_9 := Aside0.mk (Kd.R_elder' HO_9.out (Kd.R_base ho0) hb); replace HO265 := Aside0.mk (Kd.R_elder' HO265.out (Kd.R_base ho0) hb); replace HO275 := Aside0.mk (Kd.R_elder' HO275.out (Kd.R_base ho0) hb); replace HO278 := Aside0.mk (Kd.R_elder' HO278.out (Kd.R_base ho0) hb); replace HO281 := Aside0.mk (Kd.R_elder' HO281.out (Kd.R_base ho0) hb); replace BK242 := bk1 BK242 hb; replace HR262 := Aside0.mk (Kd.C_below HR262.out hb); replace HR272 := Aside0.mk (Kd.C_below HR272.out hb); replace HR285 := Aside0.mk (Kd.C_below HR285.out hb); replace HB := hb1 HB hb; (try clear hb); (try clear ho0)))
                    go_roundg k4
                    case measure => have := HJ2.out; have := HK2.out; have := HJ19.out; have := HK4.out; omega
                    case rel => exact ⟨(t290), (decide (t286 > 0)), (wrap64 (x30_2 + 1)), (x243000_2), (x243001_2), (x243002_2), (by (simp [*]; done)), (by rfl), H', ⟨by have := HJ2.out; have := HK2.out; have := HJ19.out; have := HK4.out; omega⟩, ⟨by exact Kd.R_mono HO292.out (fun _ hk => trivial)⟩, ⟨by exact BK242.out⟩, ⟨by repeat (with_reducible exact HB.out)⟩⟩
                   ·replace c66b0 : decide (0 < t286) = false := c66b0
                    have H' := Aside0.mk H
                    clear H
                    go_wp2_with (first | ((with_reducible refine gate_dst (N := 60) rfl ?_); refine Kd.R_lit (Kd.int .u8) _ 5 ?hg (N := 60) ?hd (xs := ([48] : List Int)) (inner := [.int .u8 48]) (ok := fun _ => True) (okp := fun _ => True) ?hr ?hp (fun _ hk => hk) trivial (Below.refl _ _) (Nat.le_refl _) (by simp) ?_; (case hd => rfl); (case hg => rfl); (case hr => (go_simp; done)); (case hp => exact (Reps.one (show Kd.M (Kd.int .u8) _ _ _ 48 [.int .u8 48] from rfl) (Reps.none _ _))); intro v257 w87 ho88 hb hg_ hnew_; clear hg_ hnew_; (rw [← Ny256.out] at ho88); have HO258 := Aside0.mk (Kd.R_lower (Kd.R_new' (Kd.R_new' ho88 (Kd.R_lt HO_6.out)) (Kd.R_lt HO_9.out)) (below_size HB.out)); replace HO_6 := Aside0.mk (Kd.R_elder' HO_6.out (Kd.R_base ho88) hb); replace HO_9 := Aside0.mk (Kd.R_elder' HO_9.out (Kd.R_base ho88) hb); replace BK242 := bk1 BK242 hb; replace HB := hb1 HB hb; clear hb ho88; obtain ⟨Ao90, co90, eo90⟩ := Kd.R_slice HO_6.out; subst eo90; have q89 : (69 : Int) ≤ ((x6_2.length : Int) : Int) := of_decide_eq_true (by (with_reducible assumption)); obtain ⟨i089, hi089, _, hsz89, _⟩ := info_parts info5; have hroom89 : x6_2.length ≤ co90 := (Kd.R_reads' HO_6.out).2.1; have hC89 : Kd.C (Kd.int .u8) _ Ao90 x6_2.length x6_2 := (Kd.R_reads' HO_6.out).2.2; have hcut89 := cut_to (P := Try.prog) 90 5 .i64 Try.underlying90 hi089 Ao90 x6_2.length co90 69 (by omega) q89 hroom89; have hr89 := Kd.C_take (m := 69) hC89 (by omega); have hy89 : y259.length = (69 : Int).toNat := (by rw [Ny259.out, List.length_take]; omega); rw [← Ny259.out] at hr89; rw [← hy89] at hcut89; have HR262 := Aside0.mk hr89; have HC262 := Aside0.mk (show y259.length ≤ co90 from by omega); clear hr89 hC89 hroom89 hi089 hsz89; have KY89 := Aside0.mk hy89; clear hy89; have KL89 := Aside0.mk (show 69 ≤ x6_2.length from by omega); replace q89 := eq_true q89) | ((with_reducible refine gate_builtin (b := .append) (xs := #[.tmp 60, .tmp 62]) rfl ?_); at_builtin; refine Kd.R_append_rows (Kd.int .u8) (w0 := w) w.heap.size rfl (.tmp 60) (.tmp 62) 90 5 (.int .u8 0) 1 rfl Try.underlying90 info5 rfl (by decide) (by omega) v257 y256 y259 _ _ _ (fun k_ => some k_ ≠ (.slice Ao90 x6_2.length co90 : Value).ownBlock ∧ some k_ ≠ (v253 : Value).ownBlock) (fun _ => False) rfl rfl ?aO ?aR (fun _ _ h => h) (fun _ h => h.elim) ?aF ?aB ?aS ?aL ?_; (case aR => repeat (exact (by repeat (exact HR262.out)))); (case aB => exact HB.out); (case aF => exact (fun k_ hk => ⟨Kd.fresh' (Kd.R_lt HO_6.out) k_ hk, Kd.fresh' (Kd.R_lt HO_9.out) k_ hk⟩)); (case aO => exact (by exact Kd.R_mono HO258.out (fun _ hk => ⟨hk.1.2, hk.2⟩))); (case aS => exact (below_size HB.out)); (case aL => have := LMc41.out; omega); intro v264 w91 ho hb hg hat; rw [← Ny263.out] at ho; replace HO_9 := Aside0.mk (Kd.R_after (ok := (fun k_ => some k_ ≠ (.slice Ao90 x6_2.length co90 : Value).ownBlock)) HO_9.out hg hat); replace BK242 := Aside0.mk (blk_grown BK242.out hg (Kd.R_ne HO258.out BK242.out (by decide))); replace HB := Aside0.mk (hb); replace HR262 := Aside0.mk ((show Kd.C (Kd.int .u8) w91 Ao90 y259.length y259 from by rw [Ny259.out]; exact Kd.C_take (m := 69) ((Kd.R_reads' (Kd.R_after (ok := (fun k_ => some k_ ≠ (v253 : Value).ownBlock)) HO_6.out hg hat)).2.2) KL89.out)); replace HO_6 := Aside0.mk (Kd.R_after (ok := (fun k_ => some k_ ≠ (v253 : Value).ownBlock)) HO_6.out hg hat); have HO265 := Aside0.mk (ho); clear HO258; clear ho hb hg hat) | ((with_reducible refine gate_dst (N := 64) rfl ?_); refine Kd.R_lit (Kd.int .u8) _ 5 ?hg (N := 64) ?hd (xs := ([48, 48, 48] : List Int)) (inner := [.int .u8 48, .int .u8 48, .int .u8 48]) (ok := fun _ => True) (okp := fun _ => True) ?hr ?hp (fun _ hk => hk) trivial (Below.refl _ _) (Nat.le_refl _) (by simp) ?_; (case hd => rfl); (case hg => rfl); (case hr => (go_simp; done)); (case hp => exact (Reps.one (show Kd.M (Kd.int .u8) _ _ _ 48 [.int .u8 48] from rfl) (Reps.one (show Kd.M (Kd.int .u8) _ _ _ 48 [.int .u8 48] from rfl) (Reps.one (show Kd.M (Kd.int .u8) _ _ _ 48 [.int .u8 48] from rfl) (Reps.none _ _))))); intro v267 w92 ho93 hb hg_ hnew_; clear hg_ hnew_; (rw [← Ny266.out] at ho93); have HO268 := Aside0.mk (Kd.R_lower (Kd.R_new' (Kd.R_new' (Kd.R_new' ho93 (Kd.R_lt HO_6.out)) (Kd.R_lt HO_9.out)) (Kd.R_lt HO265.out)) (below_size HB.out)); replace HO_6 := Aside0.mk (Kd.R_elder' HO_6.out (Kd.R_base ho93) hb); replace HO_9 := Aside0.mk (Kd.R_elder' HO_9.out (Kd.R_base ho93) hb); replace HO265 := Aside0.mk (Kd.R_elder' HO265.out (Kd.R_base ho93) hb); replace BK242 := bk1 BK242 hb; replace HR262 := Aside0.mk (Kd.C_below HR262.out hb); replace HB := hb1 HB hb; clear hb ho93; have q94 : (67 : Int) ≤ ((x6_2.length : Int) : Int) := of_decide_eq_true (by (with_reducible assumption)); obtain ⟨i094, hi094, _, hsz94, _⟩ := info_parts info5; have hroom94 : x6_2.length ≤ co90 := (Kd.R_reads' HO_6.out).2.1; have hC94 : Kd.C (Kd.int .u8) _ Ao90 x6_2.length x6_2 := (Kd.R_reads' HO_6.out).2.2; have hcut94 := cut_to (P := Try.prog) 90 5 .i64 Try.underlying90 hi094 Ao90 x6_2.length co90 67 (by omega) q94 hroom94; have hr94 := Kd.C_take (m := 67) hC94 (by omega); have hy94 : y269.length = (67 : Int).toNat := (by rw [Ny269.out, List.length_take]; omega); rw [← Ny269.out] at hr94; rw [← hy94] at hcut94; have HR272 := Aside0.mk hr94; have HC272 := Aside0.mk (show y269.length ≤ co90 from by omega); clear hr94 hC94 hroom94 hi094 hsz94; have KY94 := Aside0.mk hy94; clear hy94; have KL94 := Aside0.mk (show 67 ≤ x6_2.length from by omega); replace q94 := eq_true q94) | ((with_reducible refine gate_builtin (b := .append) (xs := #[.tmp 64, .tmp 66]) rfl ?_); at_builtin; refine Kd.R_append_rows (Kd.int .u8) (w0 := w) w.heap.size rfl (.tmp 64) (.tmp 66) 90 5 (.int .u8 0) 1 rfl Try.underlying90 info5 rfl (by decide) (by omega) v267 y266 y269 _ _ _ (fun k_ => some k_ ≠ (.slice Ao90 x6_2.length co90 : Value).ownBlock ∧ some k_ ≠ (v253 : Value).ownBlock ∧ some k_ ≠ (v264 : Value).ownBlock) (fun _ => False) rfl rfl ?aO ?aR (fun _ _ h => h) (fun _ h => h.elim) ?aF ?aB ?aS ?aL ?_; (case aR => repeat (exact (by repeat (exact HR272.out)))); (case aB => exact HB.out); (case aF => exact (fun k_ hk => ⟨Kd.fresh' (Kd.R_lt HO_6.out) k_ hk, Kd.fresh' (Kd.R_lt HO_9.out) k_ hk, Kd.fresh' (Kd.R_lt HO265.out) k_ hk⟩)); (case aO => exact (by exact Kd.R_mono HO268.out (fun _ hk => ⟨hk.1.1.2, ⟨hk.1.2, hk.2⟩⟩))); (case aS => exact (below_size HB.out)); (case aL => have := LMc43.out; omega); intro v274 w95 ho hb hg hat; rw [← Ny273.out] at ho; replace HO_9 := Aside0.mk (Kd.R_after (ok := (fun k_ => some k_ ≠ (.slice Ao90 x6_2.length co90 : Value).ownBlock ∧ some k_ ≠ (v264 : Value).ownBlock)) HO_9.out hg hat); replace BK242 := Aside0.mk (blk_grown BK242.out hg (Kd.R_ne HO268.out BK242.out (by decide))); replace HO265 := Aside0.mk (Kd.R_after (ok := (fun k_ => some k_ ≠ (.slice Ao90 x6_2.length co90 : Value).ownBlock ∧ some k_ ≠ (v253 : Value).ownBlock)) HO265.out hg hat); replace HB := Aside0.mk (hb); replace HR262 := Aside0.mk ((show Kd.C (Kd.int .u8) w95 Ao90 y259.length y259 from by rw [Ny259.out]; exact Kd.C_take (m := 69) ((Kd.R_reads' (Kd.R_after (ok := (fun k_ => some k_ ≠ (v253 : Value).ownBlock ∧ some k_ ≠ (v264 : Value).ownBlock)) HO_6.out hg hat)).2.2) KL89.out)); replace HR272 := Aside0.mk ((show Kd.C (Kd.int .u8) w95 Ao90 y269.length y269 from by rw [Ny269.out]; exact Kd.C_take (m := 67) ((Kd.R_reads' (Kd.R_after (ok := (fun k_ => some k_ ≠ (v253 : Value).ownBlock ∧ some k_ ≠ (v264 : Value).ownBlock)) HO_6.out hg hat)).2.2) KL94.out)); replace HO_6 := Aside0.mk (Kd.R_after (ok := (fun k_ => some k_ ≠ (v253 : Value).ownBlock ∧ some k_ ≠ (v264 : Value).ownBlock)) HO_6.out hg hat); have HO275 := Aside0.mk (ho); clear HO268; clear ho hb hg hat; obtain ⟨Ao96, co96, eo96⟩ := Kd.R_slice HO265.out; subst eo96; obtain ⟨Ao97, co97, eo97⟩ := Kd.R_slice HO275.out; subst eo97) | (refine callA (some 70) Try.func100 #[.slice Ao96 y263.length co96, .slice Ao97 y273.length co97, .int .u8 48] ?_; (with_reducible refine (maskref1_plus.calls k4 _ _ y263 _ _ y273 48 t276 _ ?side1 ?side2 ?side3 ?side4 A44.out).mono ?_); (case side1 => exact (Kd.R_reads' HO265.out).2.2); (case side2 => exact (Kd.R_reads' HO265.out).2.1); (case side3 => exact (Kd.R_reads' HO275.out).2.2); (case side4 => exact (Kd.R_reads' HO275.out).2.1); rintro e w98 ⟨v277, rfl, ho0, hb⟩; refine ⟨_, rfl, ?_⟩; have HO278 := Aside0.mk (Kd.R_lower (Kd.R_new' (Kd.R_new' (Kd.R_new' (Kd.R_new' ho0 (Kd.R_lt HO_6.out)) (Kd.R_lt HO_9.out)) (Kd.R_lt HO265.out)) (Kd.R_lt HO275.out)) (below_size HB.out)); replace HO_6 := Aside0.mk (Kd.R_elder' HO_6.out (Kd.R_base ho0) hb); replace HO_9 := Aside0.mk (Kd.R_elder' HO_9.out (Kd.R_base ho0) hb); replace HO265 := Aside0.mk (Kd.R_elder' HO265.out (Kd.R_base ho0) hb); replace HO275 := Aside0.mk (Kd.R_elder' HO275.out (Kd.R_base ho0) hb); replace BK242 := bk1 BK242 hb; replace HR262 := Aside0.mk (Kd.C_below HR262.out hb); replace HR272 := Aside0.mk (Kd.C_below HR272.out hb); replace HB := hb1 HB hb; (try clear hb); (try clear ho0); obtain ⟨Ao99, co99, eo99⟩ := Kd.R_slice HO278.out; subst eo99; obtain ⟨Ao100, co100, eo100⟩ := Kd.R_slice HO_9.out; subst eo100) | (refine callA (some 72) Try.func100 #[.slice Ao99 t276.length co99, .slice Ao100 x9_4.length co100, .int .u8 48] ?_; (with_reducible refine (maskref1_plus.calls k4 _ _ t276 _ _ x9_4 48 t279 _ ?side1 ?side2 ?side3 ?side4 A45.out).mono ?_); (case side1 => exact (Kd.R_reads' HO278.out).2.2); (case side2 => exact (Kd.R_reads' HO278.out).2.1); (case side3 => exact (Kd.R_reads' HO_9.out).2.2); (case side4 => exact (Kd.R_reads' HO_9.out).2.1); rintro e w101 ⟨v280, rfl, ho0, hb⟩; refine ⟨_, rfl, ?_⟩; have HO281 := Aside0.mk (Kd.R_lower (Kd.R_new' (Kd.R_new' (Kd.R_new' (Kd.R_new' (Kd.R_new' ho0 (Kd.R_lt HO_6.out)) (Kd.R_lt HO_9.out)) (Kd.R_lt HO265.out)) (Kd.R_lt HO275.out)) (Kd.R_lt HO278.out)) (below_size HB.out)); replace HO_6 := Aside0.mk (Kd.R_elder' HO_6.out (Kd.R_base ho0) hb); replace HO_9 := Aside0.mk (Kd.R_elder' HO_9.out (Kd.R_base ho0) hb); replace HO265 := Aside0.mk (Kd.R_elder' HO265.out (Kd.R_base ho0) hb); replace HO275 := Aside0.mk (Kd.R_elder' HO275.out (Kd.R_base ho0) hb); replace HO278 := Aside0.mk (Kd.R_elder' HO278.out (Kd.R_base ho0) hb); replace BK242 := bk1 BK242 hb; replace HR262 := Aside0.mk (Kd.C_below HR262.out hb); replace HR272 := Aside0.mk (Kd.C_below HR272.out hb); replace HB := hb1 HB hb; (try clear hb); (try clear ho0); obtain ⟨Ao103, co103, eo103⟩ := Kd.R_slice HO281.out; subst eo103; have q102 : (64 : Int) ≤ ((t279.length : Int) : Int) := of_decide_eq_true (by (with_reducible assumption)); obtain ⟨i0102, hi0102, _, hsz102, _⟩ := info_parts info5; have hroom102 : t279.length ≤ co103 := (Kd.R_reads' HO281.out).2.1; have hC102 : Kd.C (Kd.int .u8) _ Ao103 t279.length t279 := (Kd.R_reads' HO281.out).2.2; have hcut102 := cut_from (P := Try.prog) 90 5 .i64 Try.underlying90 hi0102 1 hsz102 Ao103 t279.length co103 64 (by omega) q102; have hr102 := Kd.C_drop (m := (64 : Int).toNat) (c := co103) hC102 (by omega) hroom102; obtain ⟨A102, hA102⟩ : ∃ A1, A1 = (if co103 = (64 : Int).toNat then Ao103 else (Ao103 : Option Addr).map (·.add ((64 : Int).toNat * 1))) := ⟨_, rfl⟩; obtain ⟨c102, hc102⟩ : ∃ c1, c1 = co103 - (64 : Int).toNat := ⟨_, rfl⟩; have hy102 : y282.length = t279.length - (64 : Int).toNat := (by rw [Ny282.out, List.length_drop] <;> omega); rw [show (t279).drop (64 : Int).toNat = y282 from Ny282.out.symm] at hr102; replace hr102 : Kd.C (Kd.int .u8) _ A102 y282.length y282 := (by rw [hA102]; exact hr102); rw [← hy102, ← hA102, ← hc102] at hcut102; have HR285 := Aside0.mk hr102; have HC285 := Aside0.mk (show y282.length ≤ c102 from by rw [hy102, hc102]; exact Nat.sub_le_sub_right hroom102 _); clear hr102 hC102 hroom102 hi0102 hsz102 hc102; have KY102 := Aside0.mk hy102; have KA102 := Aside0.mk hA102; clear hy102 hA102; have KL102 := Aside0.mk (show 64 ≤ t279.length from by omega); replace q102 := eq_true q102) | (go_at_call 101; (with_reducible refine (maskref1_Count.calls k4 _ _ y282 9 t286 _ ?side1 ?side2 A65.out).mono ?_); (case side1 => exact HR285.out); (case side2 => exact HC285.out); rintro e w104 ⟨rfl, hb⟩; replace HO_6 := Kd.rb1 HO_6 hb; replace HO_9 := Kd.rb1 HO_9 hb; replace HO265 := Kd.rb1 HO265 hb; replace HO275 := Kd.rb1 HO275 hb; replace HO278 := Kd.rb1 HO278 hb; replace HO281 := Kd.rb1 HO281 hb; replace BK242 := bk1 BK242 hb; replace HR262 := Aside0.mk (Kd.C_below HR262.out hb); replace HR272 := Aside0.mk (Kd.C_below HR272.out hb); replace HR285 := Aside0.mk (Kd.C_below HR285.out hb); replace HB := hb1 HB hb; (try clear hb)))
                    go_roundg k4
                    case measure => have := HJ2.out; have := HK2.out; have := HJ19.out; have := HK4.out; omega
                    case rel => exact ⟨(t279), (decide (t286 > 0)), (wrap64 (x30_2 + 1)), (x243000_2), (x243001_2), (x243002_2), (by (simp [*]; done)), (by rfl), H', ⟨by have := HJ2.out; have := HK2.out; have := HJ19.out; have := HK4.out; omega⟩, ⟨by exact Kd.R_mono HO281.out (fun _ hk => trivial)⟩, ⟨by exact BK242.out⟩, ⟨by repeat (with_reducible exact HB.out)⟩⟩
                  ·rw [if_neg c64] at H
                   exact absurd H (by simp)
                ·rw [if_neg c43] at H
                 exact absurd H (by simp)
               ·rw [if_neg c42] at H
                exact absurd H (by simp)
              ·rw [if_neg c41] at H
               exact absurd H (by simp)
             ·rw [if_neg c40] at H
              exact absurd H (by simp)
      ·replace H := iD H; rcases H with ⟨c105b0, H⟩ | ⟨c105b0, H⟩
       ·replace c105b0 : decide (64 < a1) = true := c105b0
        replace H := s4 H; obtain ⟨rfl, rfl, rfl, rfl⟩ := H
        obtain ⟨hcz106_0, hcz106_1, hcz106_2, hfz106_0, hfz106_1, hfz106_2⟩ := cf3 BK242
        go_wp2
        refine bodyPost_ret (results_ct rfl _ _ gb242 24 #[.int .i64 0, .int .u64 0, .int .u64 0] (0, 0) _ rfl (by refine blk_put (cs := #[.int .i64 0, .int .u64 0, .int .u64 x243002_2]) ?_ 2 _ rfl; refine blk_put (cs := #[.int .i64 0, .int .u64 x243001_2, .int .u64 x243002_2]) ?_ 1 _ rfl; refine blk_put (cs := #[.int .i64 x243000_2, .int .u64 x243001_2, .int .u64 x243002_2]) ?_ 0 _ rfl; exact BK242.out) Try.underlying24 rfl (by kernel_rfl)) rfl ?_
        exact ⟨by rfl, by repeat (with_reducible first | exact HB.out | refine below_set ?_ GE242.out)⟩
       ·replace c105b0 : decide (64 < a1) = false := c105b0
        replace H := iB H; rcases H with ⟨rfl, H⟩ | ⟨rfl, H⟩
        ·replace H := s4 H; obtain ⟨rfl, rfl, rfl, rfl⟩ := H
         obtain ⟨hcz108_0, hcz108_1, hcz108_2, hfz108_0, hfz108_1, hfz108_2⟩ := cf3 BK242
         go_wp2
         refine bodyPost_ret (results_ct rfl _ _ gb242 24 #[.int .i64 0, .int .u64 0, .int .u64 0] (0, 0) _ rfl (by refine blk_put (cs := #[.int .i64 0, .int .u64 0, .int .u64 x243002_2]) ?_ 2 _ rfl; refine blk_put (cs := #[.int .i64 0, .int .u64 x243001_2, .int .u64 x243002_2]) ?_ 1 _ rfl; refine blk_put (cs := #[.int .i64 x243000_2, .int .u64 x243001_2, .int .u64 x243002_2]) ?_ 0 _ rfl; exact BK242.out) Try.underlying24 rfl (by kernel_rfl)) rfl ?_
         exact ⟨by rfl, by repeat (with_reducible first | exact HB.out | refine below_set ?_ GE242.out)⟩
        ·by_cases c109 : 0 ≤ a1
         ·rw [if_pos c109] at H
          have c109b0 := eq_true c109
          have c109b1 : decide (0 ≤ a1) = true := decide_eq_true c109
          clear c109
          by_cases c110 : a1 ≤ (x6_2.length : Int)
          ·rw [if_pos c110] at H
           have c110b0 := eq_true c110
           have c110b1 : decide (a1 ≤ (x6_2.length : Int)) = true := decide_eq_true c110
           clear c110
           obtain ⟨y293, hy293⟩ : ∃ y_ : List Int, y_ = (x6_2.drop (a1 : Int).toNat) := ⟨_, rfl⟩
           replace H : ((maskref1_Truth.f k2 y293).bind fun t297 => (if t297 = 116 then (some (0, 0, 0, 3)) else ((maskref1_B.f k2 (x6_2.take (a1 : Int).toNat)).bind fun bt302 => (some (bt302.1, bt302.2.1, bt302.2.2, 0))))) = some (r1, r2, r3, r4) := by (rw [hy293]; with_reducible exact H)
           have Ny293 := Aside0.mk hy293
           clear hy293
           replace H := bN H; obtain ⟨t297, A111, H⟩ := H
           replace H := iE H; rcases H with ⟨c112b0, c112b1, H⟩ | ⟨c112, c112b0, c112b1, H⟩
           ·replace H := s4 H; obtain ⟨rfl, rfl, rfl, rfl⟩ := H
            obtain ⟨Ao114, co114, eo114⟩ := Kd.R_slice HO_6.out
            subst eo114
            have q113 : (a1 : Int) ≤ ((x6_2.length : Int) : Int) := of_decide_eq_true (by (with_reducible assumption))
            obtain ⟨i0113, hi0113, _, hsz113, _⟩ := info_parts info5
            have hroom113 : x6_2.length ≤ co114 := (Kd.R_reads' HO_6.out).2.1
            have hC113 : Kd.C (Kd.int .u8) _ Ao114 x6_2.length x6_2 := (Kd.R_reads' HO_6.out).2.2
            have q0113 : (0 : Int) ≤ (a1 : Int) := of_decide_eq_true (by (with_reducible assumption))
            have hcut113 := cut_from (P := Try.prog) 90 5 .i64 Try.underlying90 hi0113 1 hsz113 Ao114 x6_2.length co114 a1 q0113 q113
            have hr113 := Kd.C_drop (m := (a1 : Int).toNat) (c := co114) hC113 (by omega) hroom113
            obtain ⟨A113, hA113⟩ : ∃ A1, A1 = (if co114 = (a1 : Int).toNat then Ao114 else (Ao114 : Option Addr).map (·.add ((a1 : Int).toNat * 1))) := ⟨_, rfl⟩
            obtain ⟨c113, hc113⟩ : ∃ c1, c1 = co114 - (a1 : Int).toNat := ⟨_, rfl⟩
            have hy113 : y293.length = x6_2.length - (a1 : Int).toNat := (by rw [Ny293.out, List.length_drop] <;> omega)
            rw [show (x6_2).drop (a1 : Int).toNat = y293 from Ny293.out.symm] at hr113
            replace hr113 : Kd.C (Kd.int .u8) _ A113 y293.length y293 := (by rw [hA113]; exact hr113)
            rw [← hy113, ← hA113, ← hc113] at hcut113
            have HR296 := Aside0.mk hr113
            have HC296 := Aside0.mk (show y293.length ≤ c113 from by rw [hy113, hc113]; exact Nat.sub_le_sub_right hroom113 _)
            clear hr113 hC113 hroom113 hi0113 hsz113 hc113
            have KY113 := Aside0.mk hy113
            have KA113 := Aside0.mk hA113
            clear hy113 hA113
            have KL113 := Aside0.mk (show (a1 : Int).toNat ≤ x6_2.length from by omega)
            replace q113 := eq_true q113
            go_wp2_with ((go_at_call 102; (with_reducible refine (maskref1_Truth.calls k2 _ _ y293 t297 _ ?side1 ?side2 A111.out).mono ?_); (case side1 => exact HR296.out); (case side2 => exact HC296.out); rintro e w' ⟨rfl, ⟨nd, rfl⟩⟩; (try (rw [drewN_self wr]; generalize hq_ : World.drewN wr _ = wr; have n0_ : Aside0 (Kd.R (Kd.int .u8) 5 wr w.heap.size (fun _ => True) (.slice Ao114 x6_2.length co114) x6_2) := ⟨by rw [← hq_]; exact (by (with_reducible repeat (apply Kd.R_drewN)); exact HO_6.out)⟩; have n1_ : Aside0 (wr.heap[gb242]? = some (.cells #[.int .i64 x243000_2, .int .u64 x243001_2, .int .u64 x243002_2] 24 (0, 0))) := ⟨by rw [← hq_]; exact (by (with_reducible repeat (refine blk_drewN ?_ _)); exact BK242.out)⟩; have n2_ : Aside0 (Below w.heap.size w wr) := ⟨by rw [← hq_]; exact (by repeat (with_reducible first | exact HB.out | apply pw_below_drewN))⟩; have n3_ : Aside0 (Kd.C (Kd.int .u8) wr A113 y293.length y293) := ⟨by rw [← hq_]; exact (by repeat (first | (with_reducible exact HR296.out) | (with_reducible refine Kd.C_drewN ?_ _)))⟩; clear HO_6 BK242 HB HR296 hq_; have HO_6 := n0_; have BK242 := n1_; have HB := n2_; have HR296 := n3_; clear n0_ n1_ n2_ n3_)); obtain ⟨hcz115_0, hcz115_1, hcz115_2, hfz115_0, hfz115_1, hfz115_2⟩ := cf3 BK242))
            refine bodyPost_ret (results_ct rfl _ _ gb242 24 #[.int .i64 0, .int .u64 0, .int .u64 0] (0, 0) _ rfl (by refine blk_put (cs := #[.int .i64 0, .int .u64 0, .int .u64 x243002_2]) ?_ 2 _ rfl; refine blk_put (cs := #[.int .i64 0, .int .u64 x243001_2, .int .u64 x243002_2]) ?_ 1 _ rfl; refine blk_put (cs := #[.int .i64 x243000_2, .int .u64 x243001_2, .int .u64 x243002_2]) ?_ 0 _ rfl; exact BK242.out) Try.underlying24 rfl (by kernel_rfl)) rfl ?_
            exact ⟨by rfl, by repeat (with_reducible first | exact HB.out | refine below_set ?_ GE242.out)⟩
           ·have c116b0 := eq_true (of_decide_eq_true (by (with_reducible assumption)) : 0 ≤ a1)
            have c117b0 := eq_true (of_decide_eq_true (by (with_reducible assumption)) : a1 ≤ (x6_2.length : Int))
            obtain ⟨y298, hy298⟩ : ∃ y_ : List Int, y_ = (x6_2.take (a1 : Int).toNat) := ⟨_, rfl⟩
            replace H : ((maskref1_B.f k2 y298).bind fun bt302 => (some (bt302.1, bt302.2.1, bt302.2.2, 0))) = some (r1, r2, r3, r4) := by (rw [hy298]; with_reducible exact H)
            have Ny298 := Aside0.mk hy298
            clear hy298
            replace H := bN H; obtain ⟨⟨t302, t303, t304⟩, A118, H⟩ := H; dsimp only at H
            replace H := s4 H; obtain ⟨rfl, rfl, rfl, rfl⟩ := H
            obtain ⟨Ao120, co120, eo120⟩ := Kd.R_slice HO_6.out
            subst eo120
            have q119 : (a1 : Int) ≤ ((x6_2.length : Int) : Int) := of_decide_eq_true (by (with_reducible assumption))
            obtain ⟨i0119, hi0119, _, hsz119, _⟩ := info_parts info5
            have hroom119 : x6_2.length ≤ co120 := (Kd.R_reads' HO_6.out).2.1
            have hC119 : Kd.C (Kd.int .u8) _ Ao120 x6_2.length x6_2 := (Kd.R_reads' HO_6.out).2.2
            have q0119 : (0 : Int) ≤ (a1 : Int) := of_decide_eq_true (by (with_reducible assumption))
            have hcut119 := cut_from (P := Try.prog) 90 5 .i64 Try.underlying90 hi0119 1 hsz119 Ao120 x6_2.length co120 a1 q0119 q119
            have hr119 := Kd.C_drop (m := (a1 : Int).toNat) (c := co120) hC119 (by omega) hroom119
            obtain ⟨A119, hA119⟩ : ∃ A1, A1 = (if co120 = (a1 : Int).toNat then Ao120 else (Ao120 : Option Addr).map (·.add ((a1 : Int).toNat * 1))) := ⟨_, rfl⟩
            obtain ⟨c119, hc119⟩ : ∃ c1, c1 = co120 - (a1 : Int).toNat := ⟨_, rfl⟩
            have hy119 : y293.length = x6_2.length - (a1 : Int).toNat := (by rw [Ny293.out, List.length_drop] <;> omega)
            rw [show (x6_2).drop (a1 : Int).toNat = y293 from Ny293.out.symm] at hr119
            replace hr119 : Kd.C (Kd.int .u8) _ A119 y293.length y293 := (by rw [hA119]; exact hr119)
            rw [← hy119, ← hA119, ← hc119] at hcut119
            have HR296 := Aside0.mk hr119
            have HC296 := Aside0.mk (show y293.length ≤ c119 from by rw [hy119, hc119]; exact Nat.sub_le_sub_right hroom119 _)
            clear hr119 hC119 hroom119 hi0119 hsz119 hc119
            have KY119 := Aside0.mk hy119
            have KA119 := Aside0.mk hA119
            clear hy119 hA119
            have KL119 := Aside0.mk (show (a1 : Int).toNat ≤ x6_2.length from by omega)
            replace q119 := eq_true q119
            go_wp2_with (first | (go_at_call 102; (with_reducible refine (maskref1_Truth.calls k2 _ _ y293 t297 _ ?side1 ?side2 A111.out).mono ?_); (case side1 => exact HR296.out); (case side2 => exact HC296.out); rintro e w' ⟨rfl, ⟨nd, rfl⟩⟩; (try (rw [drewN_self wr]; generalize hq_ : World.drewN wr _ = wr; have n0_ : Aside0 (Kd.R (Kd.int .u8) 5 wr w.heap.size (fun _ => True) (.slice Ao120 x6_2.length co120) x6_2) := ⟨by rw [← hq_]; exact (by (with_reducible repeat (apply Kd.R_drewN)); exact HO_6.out)⟩; have n1_ : Aside0 (wr.heap[gb242]? = some (.cells #[.int .i64 x243000_2, .int .u64 x243001_2, .int .u64 x243002_2] 24 (0, 0))) := ⟨by rw [← hq_]; exact (by (with_reducible repeat (refine blk_drewN ?_ _)); exact BK242.out)⟩; have n2_ : Aside0 (Below w.heap.size w wr) := ⟨by rw [← hq_]; exact (by repeat (with_reducible first | exact HB.out | apply pw_below_drewN))⟩; have n3_ : Aside0 (Kd.C (Kd.int .u8) wr A119 y293.length y293) := ⟨by rw [← hq_]; exact (by repeat (first | (with_reducible exact HR296.out) | (with_reducible refine Kd.C_drewN ?_ _)))⟩; clear HO_6 BK242 HB HR296 hq_; have HO_6 := n0_; have BK242 := n1_; have HB := n2_; have HR296 := n3_; clear n0_ n1_ n2_ n3_)); have q121 : (a1 : Int) ≤ ((x6_2.length : Int) : Int) := of_decide_eq_true (by (with_reducible assumption)); obtain ⟨i0121, hi0121, _, hsz121, _⟩ := info_parts info5; have hroom121 : x6_2.length ≤ co120 := (Kd.R_reads' HO_6.out).2.1; have hC121 : Kd.C (Kd.int .u8) _ Ao120 x6_2.length x6_2 := (Kd.R_reads' HO_6.out).2.2; have hcut121 := cut_to (P := Try.prog) 90 5 .i64 Try.underlying90 hi0121 Ao120 x6_2.length co120 a1 (of_decide_eq_true (by (with_reducible assumption))) q121 hroom121; have hr121 := Kd.C_take (m := (a1 : Int).toNat) hC121 (by omega); have hy121 : y298.length = (a1 : Int).toNat := (by rw [Ny298.out, List.length_take]; omega); rw [← Ny298.out] at hr121; rw [← hy121] at hcut121; have HR301 := Aside0.mk hr121; have HC301 := Aside0.mk (show y298.length ≤ co120 from by omega); clear hr121 hC121 hroom121 hi0121 hsz121; have KY121 := Aside0.mk hy121; clear hy121; have KL121 := Aside0.mk (show (a1 : Int).toNat ≤ x6_2.length from by omega); replace q121 := eq_true q121) | (refine callA (some 98) Try.func79 #[.slice Ao120 y298.length co120] ?_; (with_reducible refine (maskref1_B.calls k2 _ _ y298 t302 t303 t304 _ ?side1 ?side2 A118.out).mono ?_); (case side1 => exact HR301.out); (case side2 => exact HC301.out); rintro e w122 ⟨rfl, hb⟩; refine ⟨_, rfl, ?_⟩; replace HO_6 := Kd.rb1 HO_6 hb; replace BK242 := bk1 BK242 hb; replace HR296 := Aside0.mk (Kd.C_below HR296.out hb); replace HR301 := Aside0.mk (Kd.C_below HR301.out hb); replace HB := hb1 HB hb; (try clear hb); obtain ⟨hcz123_0, hcz123_1, hcz123_2, hfz123_0, hfz123_1, hfz123_2⟩ := cf3 BK242))
            refine bodyPost_ret (results_ct rfl _ _ gb242 24 #[.int .i64 t302, .int .u64 t303, .int .u64 t304] (0, 0) _ rfl (by refine blk_put (cs := #[.int .i64 t302, .int .u64 t303, .int .u64 x243002_2]) ?_ 2 _ rfl; refine blk_put (cs := #[.int .i64 t302, .int .u64 x243001_2, .int .u64 x243002_2]) ?_ 1 _ rfl; refine blk_put (cs := #[.int .i64 x243000_2, .int .u64 x243001_2, .int .u64 x243002_2]) ?_ 0 _ rfl; exact BK242.out) Try.underlying24 rfl (by kernel_rfl)) rfl ?_
            exact ⟨by rfl, by repeat (with_reducible first | exact HB.out | refine below_set ?_ GE242.out)⟩
          ·rw [if_neg c110] at H
           exact absurd H (by simp)
         ·rw [if_neg c109] at H
          exact absurd H (by simp)
end Go.Proofs.Ytlamgdibnnmbmaa.PLex
end
section
namespace Go.Proofs.Ytlamgdibnnmbmaa.PLex
open Go.RowKit Go.Proofs.YtlamgdibnnmbmaaW.PrintWords Go.Proofs.YtlamgdibnnmbmaaW.PrintLast Go.Proofs.YtlamgdibnnmbmaaW.PrintMore
attribute [local go_sem] max2_int min2_int max_two min_two max_three min_three max_four min_four
set_option linter.unusedVariables false
set_option linter.unusedSimpArgs false
mutual
def maskref1_readDigits.l0 : Nat → ByteArray → Int → Int → List Int → Int → Int → Option (Int × Int × Int × Int)
 | 0, _, _, _, _, _, _ => none
 | k + 1, x0, x1, x2, x8, x9, x10 => if x10 ≥ 0 then (if 0 ≤ x2 then (maskref1_readDigits.l1 k x0 x1 x2 x8 x9 x10 (-1) (shl .i64 1 x2) 0) else (none)) else (if x1 > 64 then (some (0, 0, 0, 2)) else (if 0 < (x0.size : Int) then (if (bt x0 0) = 120 then (maskref1_readDigits.j4 k x0 x1 x8 x9 48 true) else (maskref1_readDigits.j4 k x0 x1 x8 x9 48 ((bt x0 0) == 122))) else (none)))
def maskref1_readDigits.l1 : Nat → ByteArray → Int → Int → List Int → Int → Int → Int → Int → Int → Option (Int × Int × Int × Int)
 | 0, _, _, _, _, _, _, _, _, _ => none
 | k + 1, x0, x1, x2, x8, x9, x10, x11, x24, x25 => if x25 < x24 then (if 0 ≤ x25 then (if x25 < 16 then (if 0 ≤ x10 then (if x10 < (x0.size : Int) then (if (bt (⟨#[48, 49, 50, 51, 52, 53, 54, 55, 56, 57, 97, 98, 99, 100, 101, 102]⟩ : ByteArray) x25) = (bt x0 x10) then (maskref1_readDigits.l1 k x0 x1 x2 x8 x9 x10 x25 x24 (wrap64 (x25 + 1))) else (maskref1_readDigits.l1 k x0 x1 x2 x8 x9 x10 x11 x24 (wrap64 (x25 + 1)))) else (none)) else (none)) else (none)) else (none)) else (if 0 ≤ x10 then (if x10 < (x0.size : Int) then (if (bt x0 x10) = 120 then (maskref1_readDigits.j2 k x0 x1 x2 x8 x9 x10 x11 true) else (maskref1_readDigits.j2 k x0 x1 x2 x8 x9 x10 x11 ((bt x0 x10) == 122))) else (none)) else (none))
def maskref1_readDigits.j2 : Nat → ByteArray → Int → Int → List Int → Int → Int → Int → Bool → Option (Int × Int × Int × Int)
 | 0, _, _, _, _, _, _, _, _ => none
 | k + 1, x0, x1, x2, x8, x9, x10, x11, x45 => if x45 = true then (if (x8.length : Int) < x1 then (if (wrap64 ((x8.length : Int) + x2)) > x1 then (if 0 ≤ x10 then (if x10 < (x0.size : Int) then ((maskref1_Fill.f k x2 (bt x0 x10)).bind fun t306 => (if x8.length + t306.length < 140737488355328 then (maskref1_readDigits.l0 k x0 x1 x2 (x8 ++ t306) (wrap64 ((wrap64 ((x8.length : Int) + x2)) - x1)) (wrap64 (x10 - 1))) else (none))) else (none)) else (none)) else (if 0 ≤ x10 then (if x10 < (x0.size : Int) then ((maskref1_Fill.f k x2 (bt x0 x10)).bind fun t312 => (if x8.length + t312.length < 140737488355328 then (maskref1_readDigits.l0 k x0 x1 x2 (x8 ++ t312) x9 (wrap64 (x10 - 1))) else (none))) else (none)) else (none))) else (if 0 ≤ x10 then (if x10 < (x0.size : Int) then ((maskref1_Fill.f k x2 (bt x0 x10)).bind fun t318 => (if x8.length + t318.length < 140737488355328 then (maskref1_readDigits.l0 k x0 x1 x2 (x8 ++ t318) x9 (wrap64 (x10 - 1))) else (none))) else (none)) else (none))) else (if x11 < 0 then (some (0, 0, 0, 10)) else (maskref1_readDigits.l2 k x0 x1 x2 x8 x9 x10 x11 x2 0))
def maskref1_readDigits.l2 : Nat → ByteArray → Int → Int → List Int → Int → Int → Int → Int → Int → Option (Int × Int × Int × Int)
 | 0, _, _, _, _, _, _, _, _, _ => none
 | k + 1, x0, x1, x2, x8, x9, x10, x11, x74, x75 => if x75 < x74 then (if 0 ≤ x75 then (if x8.length < 140737488355328 then (maskref1_readDigits.l2 k x0 x1 x2 (x8 ++ [(wrap64 (48 + (Go.bits .and .i64 (shr .i64 x11 x75) 1))) % 256]) x9 x10 x11 x74 (wrap64 (x75 + 1))) else (none)) else (none)) else (maskref1_readDigits.l0 k x0 x1 x2 x8 x9 (wrap64 (x10 - 1)))
def maskref1_readDigits.j4 : Nat → ByteArray → Int → List Int → Int → Int → Bool → Option (Int × Int × Int × Int)
 | 0, _, _, _, _, _, _ => none
 | k + 1, x0, x1, x8, x9, x14, x98 => if x98 = true then (if 0 < (x0.size : Int) then (maskref1_readDigits.j5 k x1 x8 x9 (bt x0 0)) else (none)) else (maskref1_readDigits.j5 k x1 x8 x9 x14)
def maskref1_readDigits.j5 : Nat → Int → List Int → Int → Int → Option (Int × Int × Int × Int)
 | 0, _, _, _, _ => none
 | k + 1, x1, x8, x9, x14 => maskref1_readDigits.l3 k x1 x8 x9 x14
def maskref1_readDigits.l3 : Nat → Int → List Int → Int → Int → Option (Int × Int × Int × Int)
 | 0, _, _, _, _ => none
 | k + 1, x1, x8, x9, x14 => if (x8.length : Int) < x1 then (if x8.length < 140737488355328 then (maskref1_readDigits.l3 k x1 (x8 ++ [x14]) x9 x14) else (none)) else (maskref1_readDigits.l4 k x1 x8 (wrap64 (x1 + x9)))
def maskref1_readDigits.l4 : Nat → Int → List Int → Int → Option (Int × Int × Int × Int)
 | 0, _, _, _ => none
 | k + 1, x1, x8, x15 => if x15 < (x8.length : Int) then (if 0 ≤ x15 then (if (rd x8 x15) = 48 then (maskref1_readDigits.l4 k x1 x8 (wrap64 (x15 + 1))) else (some (0, 0, 0, 3))) else (none)) else (if 0 ≤ x1 then (if x1 ≤ (x8.length : Int) then ((maskref1_B.f k (x8.take (x1 : Int).toNat)).bind fun bt334 => (some (bt334.1, bt334.2.1, bt334.2.2, 0))) else (none)) else (none))
end
def maskref1_readDigits.f (k : Nat) (a0 : ByteArray) (a1 : Int) (a2 : Int) : Option (Int × Int × Int × Int) := maskref1_readDigits.l0 k a0 a1 a2 ([] : List Int) 0 (wrap64 ((a0.size : Int) - 1))
set_option maxHeartbeats 8000000 in
set_option maxRecDepth 100000 in
theorem maskref1_readDigits.calls (k : Nat) (a0 : ByteArray) (a1 : Int) (a2 : Int) (r1 : Int) (r2 : Int) (r3 : Int) (r4 : Int) (w : World) (h : maskref1_readDigits.f k a0 a1 a2 = some (r1, r2, r3, r4)) :
  Calls Try.prog 93 #[.string a0, .int .i64 a1, .int .i64 a2] w fun e w' => e = .returned (.tuple #[.agg #[.int .i64 r1, .int .u64 r2, .int .u64 r3], .int .i64 r4]) ∧ Below w.heap.size w w' := by
 have hu24 := Try.underlying24
 have HB := Aside0.mk (Below.refl w.heap.size w)
 have H := h
 clear h
 unfold maskref1_readDigits.f at H
 have H' := Aside0.mk H
 clear H
 go_enter Try.func93, Try.ntmps93
 go_wp2_with (((with_reducible refine gate_dst (N := 6) rfl ?_); (try (refine gate_guard (by rfl) ?_; dsimp only)); refine boxA HB 6 #[.int .i64 0, .int .u64 0, .int .u64 0] 24 ?_; clear HB; intro gb305 w4 BK305 GE305 hg hb HB; clear hb hg))
 go_loopg [8, 9, 10] k (fun kq v8 v9 v10 w' => ∃ (x8_1 : List Int) (x9_1 : Int) (x10_1 : Int) (x306000_1 : Int) (x306001_1 : Int) (x306002_1 : Int), v9 = .int .i64 x9_1 ∧ v10 = .int .i64 x10_1 ∧ Aside0 (maskref1_readDigits.l0 kq a0 a1 a2 x8_1 x9_1 x10_1 = some (r1, r2, r3, r4)) ∧ Aside0 (kq ≤ k) ∧ Aside0 (Kd.R (Kd.int .u8) 5 w' w.heap.size (fun _ => True) v8 x8_1) ∧ Aside0 (w'.heap[gb305]? = some (.cells #[.int .i64 x306000_1, .int .u64 x306001_1, .int .u64 x306002_1] 24 (0, 0))) ∧ Aside0 (Below w.heap.size w w'))
 case atStart => exact ⟨([] : List Int), (0), (wrap64 ((a0.size : Int) - 1)), (0), (0), (0), (by rfl), (by rfl), H', ⟨Nat.le_refl _⟩, ⟨by exact Kd.R_nil _ _ _ _ _⟩, ⟨by exact BK305.out⟩, ⟨by repeat (with_reducible exact HB.out)⟩⟩
 case round =>
  clear H'
  try clear p2
  obtain ⟨x8_1, x9_1, x10_1, x306000_1, x306001_1, x306002_1, rfl, rfl, HA, HK1, HO_8, BK305, HB⟩ := hrel
  cases gk with
  | zero => exact absurd HA.out (by simp [maskref1_readDigits.l0])
  | succ k1 =>
   have H := HA.out
   clear HA
   simp only [maskref1_readDigits.l0] at H
   replace H := iD H; rcases H with ⟨c5b0, H⟩ | ⟨c5b0, H⟩
   ·replace c5b0 : decide (0 ≤ x10_1) = true := c5b0
    by_cases c6 : 0 ≤ a2
    ·rw [if_pos c6] at H
     have c6b0 := eq_true c6
     have c6b1 : decide (0 ≤ a2) = true := decide_eq_true c6
     clear c6
     obtain ⟨ji7, hji7⟩ : ∃ j_ : Int, (shl .i64 1 a2) = j_ := ⟨_, rfl⟩
     replace H : (maskref1_readDigits.l1 k1 a0 a1 a2 x8_1 x9_1 x10_1 (-1) ji7 0) = some (r1, r2, r3, r4) := by (rw [hji7] at H; exact H)
     have hji7_ : (IntKind.i64.wrap (1 * 2 ^ min a2.toNat 64)) = ji7 := hji7
     have hji7z : a2 ≤ 64 → (IntKind.i64.wrap (1 * 2 ^ a2.toNat)) = ji7 := shl_small hji7
     have hji7u : (IntKind.i64.wrap (2 ^ min a2.toNat 64)) = ji7 := by have h_ := hji7_; rw [Int.one_mul] at h_; exact h_
     have hji7v : a2 ≤ 64 → (IntKind.i64.wrap (2 ^ a2.toNat)) = ji7 := fun hle_ => by have h_ := hji7z hle_; rw [Int.one_mul] at h_; exact h_
     have hji7y : (wrap64 (1 * 2 ^ min a2.toNat 64)) = ji7 := (i64_w _).symm.trans hji7_
     have hji7x : a2 ≤ 64 → (wrap64 (1 * 2 ^ a2.toNat)) = ji7 := fun h_ => (i64_w _).symm.trans (hji7z h_)
     have H' := Aside0.mk H
     clear H
     go_wp2
     go_loopg [11, 25] k1 (fun kq v11 v25 w' => ∃ (x11_2 : Int) (x25_2 : Int), v11 = .int .i64 x11_2 ∧ v25 = .int .i64 x25_2 ∧ Aside0 (maskref1_readDigits.l1 kq a0 a1 a2 x8_1 x9_1 x10_1 x11_2 ji7 x25_2 = some (r1, r2, r3, r4)) ∧ Aside0 (kq ≤ k1) ∧ Aside0 (Kd.R (Kd.int .u8) 5 w' w.heap.size (fun _ => True) u8 x8_1) ∧ Aside0 (w'.heap[gb305]? = some (.cells #[.int .i64 x306000_1, .int .u64 x306001_1, .int .u64 x306002_1] 24 (0, 0))) ∧ Aside0 (Below w.heap.size w w'))
     case atStart => exact ⟨(-1), (0), (by rfl), (by rfl), H', ⟨Nat.le_refl _⟩, ⟨by exact HO_8.out⟩, ⟨by exact BK305.out⟩, ⟨by repeat (with_reducible exact HB.out)⟩⟩
     case round =>
      clear H'
      (try clear c5b0); (try clear c6b0); (try clear c6b1)
      obtain ⟨x11_2, x25_2, rfl, rfl, HA, HK2, HO_8, BK305, HB⟩ := hrel
      cases gk with
      | zero => exact absurd HA.out (by simp [maskref1_readDigits.l1])
      | succ k2 =>
       have H := HA.out
       clear HA
       simp only [maskref1_readDigits.l1] at H
       replace H := iD H; rcases H with ⟨c8b0, H⟩ | ⟨c8b0, H⟩
       ·replace H := iN H; obtain ⟨c9b0, H⟩ := H
        replace H := iN H; obtain ⟨c10b0, H⟩ := H
        replace H := iN H; obtain ⟨c12b0, H⟩ := H
        replace H := iN H; obtain ⟨c13b0, H⟩ := H
        replace H := iE H; rcases H with ⟨c15b0, c15b1, H⟩ | ⟨c15, c15b0, c15b1, H⟩
        ·have H' := Aside0.mk H
         clear H
         have p11 : 0 ≤ (x25_2 : Int) := of_decide_eq_true (by (with_reducible assumption))
         have q11 : x25_2 < (16 : Int) := of_decide_eq_true (by (with_reducible assumption))
         have hx11 := bt_at (⟨#[48, 49, 50, 51, 52, 53, 54, 55, 56, 57, 97, 98, 99, 100, 101, 102]⟩ : ByteArray) x25_2
         replace p11 := eq_true p11
         replace q11 := eq_true q11
         have p14 : 0 ≤ (x10_1 : Int) := of_decide_eq_true (by (with_reducible assumption))
         have q14 : x10_1 < (a0.size : Int) := of_decide_eq_true (by (with_reducible assumption))
         have hx14 := bt_at a0 x10_1
         replace p14 := eq_true p14
         replace q14 := eq_true q14
         go_wp2
         repeat (go_quiet (fail); try go_wp2)
         go_roundg k2
         case measure => have := HK1.out; have := HK2.out; omega
         case rel => exact ⟨(x25_2), (wrap64 (x25_2 + 1)), (by rfl), (by rfl), H', ⟨by have := HK1.out; have := HK2.out; omega⟩, ⟨by (with_reducible repeat (apply Kd.R_drewN)); exact HO_8.out⟩, ⟨by (with_reducible repeat (refine blk_drewN ?_ _)); exact BK305.out⟩, ⟨by repeat (with_reducible first | exact HB.out | apply pw_below_drewN)⟩⟩
        ·have H' := Aside0.mk H
         clear H
         have p11 : 0 ≤ (x25_2 : Int) := of_decide_eq_true (by (with_reducible assumption))
         have q11 : x25_2 < (16 : Int) := of_decide_eq_true (by (with_reducible assumption))
         have hx11 := bt_at (⟨#[48, 49, 50, 51, 52, 53, 54, 55, 56, 57, 97, 98, 99, 100, 101, 102]⟩ : ByteArray) x25_2
         replace p11 := eq_true p11
         replace q11 := eq_true q11
         have p14 : 0 ≤ (x10_1 : Int) := of_decide_eq_true (by (with_reducible assumption))
         have q14 : x10_1 < (a0.size : Int) := of_decide_eq_true (by (with_reducible assumption))
         have hx14 := bt_at a0 x10_1
         replace p14 := eq_true p14
         replace q14 := eq_true q14
         go_wp2
         repeat (go_quiet (fail); try go_wp2)
         go_roundg k2
         case measure => have := HK1.out; have := HK2.out; omega
         case rel => exact ⟨(x11_2), (wrap64 (x25_2 + 1)), (by rfl), (by rfl), H', ⟨by have := HK1.out; have := HK2.out; omega⟩, ⟨by (with_reducible repeat (apply Kd.R_drewN)); exact HO_8.out⟩, ⟨by (with_reducible repeat (refine blk_drewN ?_ _)); exact BK305.out⟩, ⟨by repeat (with_reducible first | exact HB.out | apply pw_below_drewN)⟩⟩
       ·have HC16 := Aside0.mk H
        clear H
        go_upto_region 13 with (fail)
        go_cut [45] (fun v45 wc => ∃ (kq : Nat) (x45_15 : Bool), v45 = .bool x45_15 ∧ Aside0 (maskref1_readDigits.j2 kq a0 a1 a2 x8_1 x9_1 x10_1 x11_2 x45_15 = some (r1, r2, r3, r4)) ∧ Aside0 (kq ≤ k2) ∧ Aside0 (Kd.R (Kd.int .u8) 5 wc w.heap.size (fun _ => True) u8 x8_1) ∧ Aside0 (wc.heap[gb305]? = some (.cells #[.int .i64 x306000_1, .int .u64 x306001_1, .int .u64 x306002_1] 24 (0, 0))) ∧ Aside0 (Below w.heap.size w wc))
        case first =>
         have H := HC16.out
         clear HC16
         replace H := iN H; obtain ⟨c17b0, H⟩ := H
         (skip)
         replace H := iN H; obtain ⟨c18b0, H⟩ := H
         replace H := iE H; rcases H with ⟨c20b0, c20b1, H⟩ | ⟨c20, c20b0, c20b1, H⟩
         ·have H' := Aside0.mk H
          clear H
          have p19 : 0 ≤ (x10_1 : Int) := of_decide_eq_true (by (with_reducible assumption))
          have q19 : x10_1 < (a0.size : Int) := of_decide_eq_true (by (with_reducible assumption))
          have hx19 := bt_at a0 x10_1
          replace p19 := eq_true p19
          replace q19 := eq_true q19
          go_wp2
          go_meet
          case rel => exact ⟨_, (true), (by rfl), H', ⟨by have := HK1.out; have := HK2.out; omega⟩, ⟨by exact HO_8.out⟩, ⟨by exact BK305.out⟩, ⟨by repeat (with_reducible exact HB.out)⟩⟩
         ·have H' := Aside0.mk H
          clear H
          have p19 : 0 ≤ (x10_1 : Int) := of_decide_eq_true (by (with_reducible assumption))
          have q19 : x10_1 < (a0.size : Int) := of_decide_eq_true (by (with_reducible assumption))
          have hx19 := bt_at a0 x10_1
          replace p19 := eq_true p19
          replace q19 := eq_true q19
          have p21 : 0 ≤ (x10_1 : Int) := of_decide_eq_true (by (with_reducible assumption))
          have q21 : x10_1 < (a0.size : Int) := of_decide_eq_true (by (with_reducible assumption))
          have hx21 := bt_at a0 x10_1
          replace p21 := eq_true p21
          replace q21 := eq_true q21
          go_wp2
          go_meet
          case rel => exact ⟨_, ((bt a0 x10_1) == 122), (by rfl), H', ⟨by have := HK1.out; have := HK2.out; omega⟩, ⟨by exact HO_8.out⟩, ⟨by exact BK305.out⟩, ⟨by repeat (with_reducible exact HB.out)⟩⟩
        case rest =>
         clear HC16
         (try clear c8b0)
         obtain ⟨kq, x45_15, rfl, HA, HJ15, HO_8, BK305, HB⟩ := hcut
         cases kq with
         | zero => exact absurd HA.out (by simp [maskref1_readDigits.j2])
         | succ kj15 =>
          have H := HA.out
          clear HA
          simp only [maskref1_readDigits.j2] at H
          replace H := iB H; rcases H with ⟨rfl, H⟩ | ⟨rfl, H⟩
          ·replace H := iD H; rcases H with ⟨c23b0, H⟩ | ⟨c23b0, H⟩
           ·replace H := iD H; rcases H with ⟨c24b0, H⟩ | ⟨c24b0, H⟩
            ·replace c24b0 : decide (a1 < (wrap64 ((x8_1.length : Int) + a2))) = true := c24b0
             replace H := iN H; obtain ⟨c25b0, H⟩ := H
             replace H := iN H; obtain ⟨c26b0, H⟩ := H
             replace H := bN H; obtain ⟨t306, A28, H⟩ := H
             by_cases c29 : x8_1.length + t306.length < 140737488355328
             ·rw [if_pos c29] at H
              have LMc29 := Aside0.mk c29
              clear c29
              obtain ⟨y309, hy309⟩ : ∃ y_ : List Int, y_ = (x8_1 ++ t306) := ⟨_, rfl⟩
              replace H : (maskref1_readDigits.l0 kj15 a0 a1 a2 y309 (wrap64 ((wrap64 ((x8_1.length : Int) + a2)) - a1)) (wrap64 (x10_1 - 1))) = some (r1, r2, r3, r4) := by (rw [hy309]; with_reducible exact H)
              have Ny309 := Aside0.mk hy309
              clear hy309
              have H' := Aside0.mk H
              clear H
              obtain ⟨Ao30, co30, eo30⟩ := Kd.R_slice HO_8.out
              subst eo30
              have p27 : 0 ≤ (x10_1 : Int) := of_decide_eq_true (by (with_reducible assumption))
              have q27 : x10_1 < (a0.size : Int) := of_decide_eq_true (by (with_reducible assumption))
              have hx27 := bt_at a0 x10_1
              replace p27 := eq_true p27
              replace q27 := eq_true q27
              go_wp2_with (first | (go_at_call 99; (with_reducible refine (maskref1_Fill.calls kj15 a2 (bt a0 x10_1) t306 _ A28.out).mono ?_); rintro e w31 ⟨v307, rfl, ho0, hb⟩; have HO308 := Aside0.mk (Kd.R_lower (Kd.R_new' ho0 (Kd.R_lt HO_8.out)) (below_size HB.out)); replace HO_8 := Aside0.mk (Kd.R_elder' HO_8.out (Kd.R_base ho0) hb); replace BK305 := bk1 BK305 hb; replace HB := hb1 HB hb; (try clear hb); (try clear ho0); obtain ⟨Ao33, co33, eo33⟩ := Kd.R_slice HO308.out; subst eo33) | ((with_reducible refine gate_builtin (b := .append) (xs := #[.tmp 64, .tmp 69]) rfl ?_); (try (refine gate_guard (by rfl) ?_; dsimp only)); at_builtin; refine Kd.R_append_rows (Kd.int .u8) (w0 := w) w.heap.size rfl (.tmp 64) (.tmp 69) 90 5 (.int .u8 0) 1 rfl Try.underlying90 info5 rfl (by decide) (by omega) (.slice Ao30 x8_1.length co30) x8_1 t306 _ _ _ (fun k_ => some k_ ≠ (.slice Ao33 t306.length co33 : Value).ownBlock) (fun _ => False) rfl rfl ?aO ?aR (fun _ _ h => h) (fun _ h => h.elim) ?aF ?aB ?aS ?aL ?_; (case aR => repeat (exact (Kd.R_reads' HO308.out).2.2)); (case aB => exact HB.out); (case aF => exact (fun k_ hk => Kd.fresh' (Kd.R_lt HO308.out) k_ hk)); (case aO => exact (by exact Kd.R_mono HO_8.out (fun _ hk => hk.2))); (case aS => exact (below_size HB.out)); (case aL => have := LMc29.out; omega); intro v310 w32 ho hb hg hat; rw [← Ny309.out] at ho; replace BK305 := Aside0.mk (blk_grown BK305.out hg (Kd.R_ne HO_8.out BK305.out (by decide))); replace HO308 := Aside0.mk (Kd.R_after (ok := (fun _ => True)) HO308.out hg hat); replace HB := Aside0.mk (hb); have HO311 := Aside0.mk (ho); clear HO_8; clear ho hb hg hat))
              go_roundg kj15
              case measure => have := HK1.out; have := HK2.out; have := HJ15.out; omega
              case rel => exact ⟨(y309), (wrap64 ((wrap64 ((x8_1.length : Int) + a2)) - a1)), (wrap64 (x10_1 - 1)), (x306000_1), (x306001_1), (x306002_1), (by rfl), (by rfl), H', ⟨by have := HK1.out; have := HK2.out; have := HJ15.out; omega⟩, ⟨by exact Kd.R_mono HO311.out (fun _ hk => trivial)⟩, ⟨by exact BK305.out⟩, ⟨by repeat (with_reducible exact HB.out)⟩⟩
             ·rw [if_neg c29] at H
              exact absurd H (by simp)
            ·replace c24b0 : decide (a1 < (wrap64 ((x8_1.length : Int) + a2))) = false := c24b0
             replace H := iN H; obtain ⟨c34b0, H⟩ := H
             replace H := iN H; obtain ⟨c35b0, H⟩ := H
             replace H := bN H; obtain ⟨t312, A37, H⟩ := H
             by_cases c38 : x8_1.length + t312.length < 140737488355328
             ·rw [if_pos c38] at H
              have LMc38 := Aside0.mk c38
              clear c38
              obtain ⟨y315, hy315⟩ : ∃ y_ : List Int, y_ = (x8_1 ++ t312) := ⟨_, rfl⟩
              replace H : (maskref1_readDigits.l0 kj15 a0 a1 a2 y315 x9_1 (wrap64 (x10_1 - 1))) = some (r1, r2, r3, r4) := by (rw [hy315]; with_reducible exact H)
              have Ny315 := Aside0.mk hy315
              clear hy315
              have H' := Aside0.mk H
              clear H
              obtain ⟨Ao39, co39, eo39⟩ := Kd.R_slice HO_8.out
              subst eo39
              have p36 : 0 ≤ (x10_1 : Int) := of_decide_eq_true (by (with_reducible assumption))
              have q36 : x10_1 < (a0.size : Int) := of_decide_eq_true (by (with_reducible assumption))
              have hx36 := bt_at a0 x10_1
              replace p36 := eq_true p36
              replace q36 := eq_true q36
              go_wp2_with (first | (go_at_call 99; (with_reducible refine (maskref1_Fill.calls kj15 a2 (bt a0 x10_1) t312 _ A37.out).mono ?_); rintro e w40 ⟨v313, rfl, ho0, hb⟩; have HO314 := Aside0.mk (Kd.R_lower (Kd.R_new' ho0 (Kd.R_lt HO_8.out)) (below_size HB.out)); replace HO_8 := Aside0.mk (Kd.R_elder' HO_8.out (Kd.R_base ho0) hb); replace BK305 := bk1 BK305 hb; replace HB := hb1 HB hb; (try clear hb); (try clear ho0); obtain ⟨Ao42, co42, eo42⟩ := Kd.R_slice HO314.out; subst eo42) | ((with_reducible refine gate_builtin (b := .append) (xs := #[.tmp 64, .tmp 69]) rfl ?_); (try (refine gate_guard (by rfl) ?_; dsimp only)); at_builtin; refine Kd.R_append_rows (Kd.int .u8) (w0 := w) w.heap.size rfl (.tmp 64) (.tmp 69) 90 5 (.int .u8 0) 1 rfl Try.underlying90 info5 rfl (by decide) (by omega) (.slice Ao39 x8_1.length co39) x8_1 t312 _ _ _ (fun k_ => some k_ ≠ (.slice Ao42 t312.length co42 : Value).ownBlock) (fun _ => False) rfl rfl ?aO ?aR (fun _ _ h => h) (fun _ h => h.elim) ?aF ?aB ?aS ?aL ?_; (case aR => repeat (exact (Kd.R_reads' HO314.out).2.2)); (case aB => exact HB.out); (case aF => exact (fun k_ hk => Kd.fresh' (Kd.R_lt HO314.out) k_ hk)); (case aO => exact (by exact Kd.R_mono HO_8.out (fun _ hk => hk.2))); (case aS => exact (below_size HB.out)); (case aL => have := LMc38.out; omega); intro v316 w41 ho hb hg hat; rw [← Ny315.out] at ho; replace BK305 := Aside0.mk (blk_grown BK305.out hg (Kd.R_ne HO_8.out BK305.out (by decide))); replace HO314 := Aside0.mk (Kd.R_after (ok := (fun _ => True)) HO314.out hg hat); replace HB := Aside0.mk (hb); have HO317 := Aside0.mk (ho); clear HO_8; clear ho hb hg hat))
              go_roundg kj15
              case measure => have := HK1.out; have := HK2.out; have := HJ15.out; omega
              case rel => exact ⟨(y315), (x9_1), (wrap64 (x10_1 - 1)), (x306000_1), (x306001_1), (x306002_1), (by rfl), (by rfl), H', ⟨by have := HK1.out; have := HK2.out; have := HJ15.out; omega⟩, ⟨by exact Kd.R_mono HO317.out (fun _ hk => trivial)⟩, ⟨by exact BK305.out⟩, ⟨by repeat (with_reducible exact HB.out)⟩⟩
             ·rw [if_neg c38] at H
              exact absurd H (by simp)
           ·replace H := iN H; obtain ⟨c43b0, H⟩ := H
            replace H := iN H; obtain ⟨c44b0, H⟩ := H
            replace H := bN H; obtain ⟨t318, A46, H⟩ := H
            by_cases c47 : x8_1.length + t318.length < 140737488355328
            ·rw [if_pos c47] at H
             have LMc47 := Aside0.mk c47
             clear c47
             obtain ⟨y321, hy321⟩ : ∃ y_ : List Int, y_ = (x8_1 ++ t318) := ⟨_, rfl⟩
             replace H : (maskref1_readDigits.l0 kj15 a0 a1 a2 y321 x9_1 (wrap64 (x10_1 - 1))) = some (r1, r2, r3, r4) := by (rw [hy321]; with_reducible exact H)
             have Ny321 := Aside0.mk hy321
             clear hy321
             have H' := Aside0.mk H
             clear H
             obtain ⟨Ao48, co48, eo48⟩ := Kd.R_slice HO_8.out
             subst eo48
             have p45 : 0 ≤ (x10_1 : Int) := of_decide_eq_true (by (with_reducible assumption))
             have q45 : x10_1 < (a0.size : Int) := of_decide_eq_true (by (with_reducible assumption))
             have hx45 := bt_at a0 x10_1
             replace p45 := eq_true p45
             replace q45 := eq_true q45
             go_wp2_with (first | (go_at_call 99; (with_reducible refine (maskref1_Fill.calls kj15 a2 (bt a0 x10_1) t318 _ A46.out).mono ?_); rintro e w49 ⟨v319, rfl, ho0, hb⟩; have HO320 := Aside0.mk (Kd.R_lower (Kd.R_new' ho0 (Kd.R_lt HO_8.out)) (below_size HB.out)); replace HO_8 := Aside0.mk (Kd.R_elder' HO_8.out (Kd.R_base ho0) hb); replace BK305 := bk1 BK305 hb; replace HB := hb1 HB hb; (try clear hb); (try clear ho0); obtain ⟨Ao51, co51, eo51⟩ := Kd.R_slice HO320.out; subst eo51) | ((with_reducible refine gate_builtin (b := .append) (xs := #[.tmp 64, .tmp 69]) rfl ?_); (try (refine gate_guard (by rfl) ?_; dsimp only)); at_builtin; refine Kd.R_append_rows (Kd.int .u8) (w0 := w) w.heap.size rfl (.tmp 64) (.tmp 69) 90 5 (.int .u8 0) 1 rfl Try.underlying90 info5 rfl (by decide) (by omega) (.slice Ao48 x8_1.length co48) x8_1 t318 _ _ _ (fun k_ => some k_ ≠ (.slice Ao51 t318.length co51 : Value).ownBlock) (fun _ => False) rfl rfl ?aO ?aR (fun _ _ h => h) (fun _ h => h.elim) ?aF ?aB ?aS ?aL ?_; (case aR => repeat (exact (Kd.R_reads' HO320.out).2.2)); (case aB => exact HB.out); (case aF => exact (fun k_ hk => Kd.fresh' (Kd.R_lt HO320.out) k_ hk)); (case aO => exact (by exact Kd.R_mono HO_8.out (fun _ hk => hk.2))); (case aS => exact (below_size HB.out)); (case aL => have := LMc47.out; omega); intro v322 w50 ho hb hg hat; rw [← Ny321.out] at ho; replace BK305 := Aside0.mk (blk_grown BK305.out hg (Kd.R_ne HO_8.out BK305.out (by decide))); replace HO320 := Aside0.mk (Kd.R_after (ok := (fun _ => True)) HO320.out hg hat); replace HB := Aside0.mk (hb); have HO323 := Aside0.mk (ho); clear HO_8; clear ho hb hg hat))
             go_roundg kj15
             case measure => have := HK1.out; have := HK2.out; have := HJ15.out; omega
             case rel => exact ⟨(y321), (x9_1), (wrap64 (x10_1 - 1)), (x306000_1), (x306001_1), (x306002_1), (by rfl), (by rfl), H', ⟨by have := HK1.out; have := HK2.out; have := HJ15.out; omega⟩, ⟨by exact Kd.R_mono HO323.out (fun _ hk => trivial)⟩, ⟨by exact BK305.out⟩, ⟨by repeat (with_reducible exact HB.out)⟩⟩
            ·rw [if_neg c47] at H
             exact absurd H (by simp)
          ·replace H := iD H; rcases H with ⟨c52b0, H⟩ | ⟨c52b0, H⟩
           ·replace H := s4 H; obtain ⟨rfl, rfl, rfl, rfl⟩ := H
            obtain ⟨hcz53_0, hcz53_1, hcz53_2, hfz53_0, hfz53_1, hfz53_2⟩ := cf3 BK305
            go_wp2
            refine bodyPost_ret (results_ct rfl _ _ gb305 24 #[.int .i64 0, .int .u64 0, .int .u64 0] (0, 0) _ rfl (by refine blk_put (cs := #[.int .i64 0, .int .u64 0, .int .u64 x306002_1]) ?_ 2 _ rfl; refine blk_put (cs := #[.int .i64 0, .int .u64 x306001_1, .int .u64 x306002_1]) ?_ 1 _ rfl; refine blk_put (cs := #[.int .i64 x306000_1, .int .u64 x306001_1, .int .u64 x306002_1]) ?_ 0 _ rfl; exact BK305.out) Try.underlying24 rfl (by kernel_rfl)) rfl ?_
            exact ⟨by rfl, by repeat (with_reducible first | exact HB.out | refine below_set ?_ GE305.out)⟩
           ·have H' := Aside0.mk H
            clear H
            go_wp2
            go_loopg [8, 75] kj15 (fun kq v8 v75 w' => ∃ (x8_4 : List Int) (x75_4 : Int), v75 = .int .i64 x75_4 ∧ Aside0 (maskref1_readDigits.l2 kq a0 a1 a2 x8_4 x9_1 x10_1 x11_2 a2 x75_4 = some (r1, r2, r3, r4)) ∧ Aside0 (kq ≤ kj15) ∧ Aside0 (Kd.R (Kd.int .u8) 5 w' w.heap.size (fun _ => True) v8 x8_4) ∧ Aside0 (w'.heap[gb305]? = some (.cells #[.int .i64 x306000_1, .int .u64 x306001_1, .int .u64 x306002_1] 24 (0, 0))) ∧ Aside0 (Below w.heap.size w w'))
            case atStart => exact ⟨(x8_1), (0), (by rfl), H', ⟨Nat.le_refl _⟩, ⟨by exact HO_8.out⟩, ⟨by exact BK305.out⟩, ⟨by repeat (with_reducible exact HB.out)⟩⟩
            case round =>
             clear H'
             (try clear c52b0)
             obtain ⟨x8_4, x75_4, rfl, HA, HK4, HO_8, BK305, HB⟩ := hrel
             cases gk with
             | zero => exact absurd HA.out (by simp [maskref1_readDigits.l2])
             | succ k4 =>
              have H := HA.out
              clear HA
              simp only [maskref1_readDigits.l2] at H
              replace H := iD H; rcases H with ⟨c54b0, H⟩ | ⟨c54b0, H⟩
              ·by_cases c55 : 0 ≤ x75_4
               ·rw [if_pos c55] at H
                have c55b0 := eq_true c55
                have c55b1 : decide (0 ≤ x75_4) = true := decide_eq_true c55
                clear c55
                obtain ⟨ji56, hji56⟩ : ∃ j_ : Int, (shr .i64 x11_2 x75_4) = j_ := ⟨_, rfl⟩
                replace H : (if x8_4.length < 140737488355328 then (maskref1_readDigits.l2 k4 a0 a1 a2 (x8_4 ++ [(wrap64 (48 + (Go.bits .and .i64 (ji56) 1))) % 256]) x9_1 x10_1 x11_2 a2 (wrap64 (x75_4 + 1))) else (none)) = some (r1, r2, r3, r4) := by (rw [hji56] at H; exact H)
                have hji56_ : (x11_2 / 2 ^ min x75_4.toNat 64) = ji56 := hji56
                have hji56z : x75_4 ≤ 64 → (x11_2 / 2 ^ x75_4.toNat) = ji56 := shr_small hji56
                by_cases c57 : x8_4.length < 140737488355328
                ·rw [if_pos c57] at H
                 have LMc57 := Aside0.mk c57
                 clear c57
                 obtain ⟨y324, hy324⟩ : ∃ y_ : List Int, y_ = (x8_4 ++ [(wrap64 (48 + (Go.bits .and .i64 (ji56) 1))) % 256]) := ⟨_, rfl⟩
                 replace H : (maskref1_readDigits.l2 k4 a0 a1 a2 y324 x9_1 x10_1 x11_2 a2 (wrap64 (x75_4 + 1))) = some (r1, r2, r3, r4) := by (rw [hy324]; with_reducible exact H)
                 have Ny324 := Aside0.mk hy324
                 clear hy324
                 have H' := Aside0.mk H
                 clear H
                 go_wp2_with (((with_reducible refine gate_builtin (b := .append) (xs := #[.tmp 78, .tmp 85]) rfl ?_); (try (refine gate_guard (by rfl) ?_; dsimp only)); at_builtin; refine Kd.R_append (Kd.int .u8) (w0 := w) w.heap.size rfl (.tmp 78) (.tmp 85) 90 5 (.int .u8 0) 1 rfl Try.underlying90 info5 rfl (by decide) (by omega) u8 x8_4 ((wrap64 (48 + (Go.bits .and .i64 (ji56) 1))) % 256) [.int .u8 ((wrap64 (48 + (Go.bits .and .i64 (ji56) 1))) % 256)] (fun _ => True) (fun _ => False) rfl rfl ?aP (fun _ hk => hk.elim) ?aF ?aO ?aB ?aS ?aL ?_; (case aP => exact rfl); (case aB => exact HB.out); (case aF => exact (fun _ _ => trivial)); (case aO => exact HO_8.out); (case aS => exact (below_size HB.out)); (case aL => have := LMc57.out; omega); intro v325 w58 ho hb hg hat; rw [← Ny324.out] at ho; replace BK305 := Aside0.mk (blk_grown BK305.out hg (Kd.R_ne HO_8.out BK305.out (by decide))); replace HB := Aside0.mk (hb); have HO326 := Aside0.mk (ho); clear HO_8; clear ho hb hg hat))
                 go_roundg k4
                 case measure => have := HK1.out; have := HK2.out; have := HJ15.out; have := HK4.out; omega
                 case rel => exact ⟨(y324), (wrap64 (x75_4 + 1)), (by rfl), H', ⟨by have := HK1.out; have := HK2.out; have := HJ15.out; have := HK4.out; omega⟩, ⟨by exact HO326.out⟩, ⟨by exact BK305.out⟩, ⟨by repeat (with_reducible exact HB.out)⟩⟩
                ·rw [if_neg c57] at H
                 exact absurd H (by simp)
               ·rw [if_neg c55] at H
                exact absurd H (by simp)
              ·have H' := Aside0.mk H
               clear H
               go_wp2
               go_roundg k4
               case measure => have := HK1.out; have := HK2.out; have := HJ15.out; have := HK4.out; omega
               case rel => exact ⟨(x8_4), (x9_1), (wrap64 (x10_1 - 1)), (x306000_1), (x306001_1), (x306002_1), (by rfl), (by rfl), H', ⟨by have := HK1.out; have := HK2.out; have := HJ15.out; have := HK4.out; omega⟩, ⟨by exact HO_8.out⟩, ⟨by exact BK305.out⟩, ⟨by repeat (with_reducible exact HB.out)⟩⟩
    ·rw [if_neg c6] at H
     exact absurd H (by simp)
   ·replace c5b0 : decide (0 ≤ x10_1) = false := c5b0
    replace H := iD H; rcases H with ⟨c59b0, H⟩ | ⟨c59b0, H⟩
    ·replace c59b0 : decide (64 < a1) = true := c59b0
     replace H := s4 H; obtain ⟨rfl, rfl, rfl, rfl⟩ := H
     obtain ⟨hcz60_0, hcz60_1, hcz60_2, hfz60_0, hfz60_1, hfz60_2⟩ := cf3 BK305
     go_wp2
     refine bodyPost_ret (results_ct rfl _ _ gb305 24 #[.int .i64 0, .int .u64 0, .int .u64 0] (0, 0) _ rfl (by refine blk_put (cs := #[.int .i64 0, .int .u64 0, .int .u64 x306002_1]) ?_ 2 _ rfl; refine blk_put (cs := #[.int .i64 0, .int .u64 x306001_1, .int .u64 x306002_1]) ?_ 1 _ rfl; refine blk_put (cs := #[.int .i64 x306000_1, .int .u64 x306001_1, .int .u64 x306002_1]) ?_ 0 _ rfl; exact BK305.out) Try.underlying24 rfl (by kernel_rfl)) rfl ?_
     exact ⟨by rfl, by repeat (with_reducible first | exact HB.out | refine below_set ?_ GE305.out)⟩
    ·replace c59b0 : decide (64 < a1) = false := c59b0
     have HC61 := Aside0.mk H
     clear H
     go_upto_region 27 with (fail)
     go_cut [98] (fun v98 wc => ∃ (kq : Nat) (x98_60 : Bool), v98 = .bool x98_60 ∧ Aside0 (maskref1_readDigits.j4 kq a0 a1 x8_1 x9_1 48 x98_60 = some (r1, r2, r3, r4)) ∧ Aside0 (kq ≤ k1) ∧ Aside0 (Kd.R (Kd.int .u8) 5 wc w.heap.size (fun _ => True) u8 x8_1) ∧ Aside0 (wc.heap[gb305]? = some (.cells #[.int .i64 x306000_1, .int .u64 x306001_1, .int .u64 x306002_1] 24 (0, 0))) ∧ Aside0 (Below w.heap.size w wc))
     case first =>
      have H := HC61.out
      clear HC61
      by_cases c62 : 0 < (a0.size : Int)
      ·rw [if_pos c62] at H
       have c62b0 : decide (0 < (a0.size : Int)) = true := decide_eq_true c62
       have c62b1 : decide (0 < a0.size) = true := decide_eq_true (by omega)
       clear c62
       (skip)
       replace H := iE H; rcases H with ⟨c64b0, c64b1, H⟩ | ⟨c64, c64b0, c64b1, H⟩
       ·have H' := Aside0.mk H
        clear H
        have p63 : 0 ≤ (0 : Int) := (by omega)
        have q63 : 0 < a0.size := (by have : (0 : Int) < (a0.size : Int) := of_decide_eq_true (by (with_reducible assumption)); omega)
        have hx63 : ∀ h : 0 < a0.size, ((a0[0]'h).toNat : Int) = bt a0 0 := bt_at a0 0
        clear p63
        have qi63 : (0 < (a0.size : Int)) = True := eq_true (of_decide_eq_true (by (with_reducible assumption)))
        replace q63 := eq_true q63
        go_wp2
        go_meet
        case rel => exact ⟨_, (true), (by rfl), H', ⟨by have := HK1.out; omega⟩, ⟨by exact HO_8.out⟩, ⟨by exact BK305.out⟩, ⟨by repeat (with_reducible exact HB.out)⟩⟩
       ·have H' := Aside0.mk H
        clear H
        have p63 : 0 ≤ (0 : Int) := (by omega)
        have q63 : 0 < a0.size := (by have : (0 : Int) < (a0.size : Int) := of_decide_eq_true (by (with_reducible assumption)); omega)
        have hx63 : ∀ h : 0 < a0.size, ((a0[0]'h).toNat : Int) = bt a0 0 := bt_at a0 0
        clear p63
        have qi63 : (0 < (a0.size : Int)) = True := eq_true (of_decide_eq_true (by (with_reducible assumption)))
        replace q63 := eq_true q63
        have p65 : 0 ≤ (0 : Int) := (by omega)
        have q65 : 0 < a0.size := (by have : (0 : Int) < (a0.size : Int) := of_decide_eq_true (by (with_reducible assumption)); omega)
        have hx65 : ∀ h : 0 < a0.size, ((a0[0]'h).toNat : Int) = bt a0 0 := bt_at a0 0
        clear p65
        have qi65 : (0 < (a0.size : Int)) = True := eq_true (of_decide_eq_true (by (with_reducible assumption)))
        replace q65 := eq_true q65
        go_wp2
        go_meet
        case rel => exact ⟨_, ((bt a0 0) == 122), (by rfl), H', ⟨by have := HK1.out; omega⟩, ⟨by exact HO_8.out⟩, ⟨by exact BK305.out⟩, ⟨by repeat (with_reducible exact HB.out)⟩⟩
      ·rw [if_neg c62] at H
       exact absurd H (by simp)
     case rest =>
      clear HC61
      (try clear c5b0); (try clear c59b0)
      obtain ⟨kq, x98_60, rfl, HA, HJ60, HO_8, BK305, HB⟩ := hcut
      cases kq with
      | zero => exact absurd HA.out (by simp [maskref1_readDigits.j4])
      | succ kj60 =>
       have H := HA.out
       clear HA
       simp only [maskref1_readDigits.j4] at H
       have HC66 := Aside0.mk H
       clear H
       go_upto_if 98 with (fail)
       go_cut [14] (fun v14 wc => ∃ (kq : Nat) (x14_65 : Int), v14 = .int .u8 x14_65 ∧ Aside0 (maskref1_readDigits.j5 kq a1 x8_1 x9_1 x14_65 = some (r1, r2, r3, r4)) ∧ Aside0 (kq ≤ kj60) ∧ Aside0 (Kd.R (Kd.int .u8) 5 wc w.heap.size (fun _ => True) u8 x8_1) ∧ Aside0 (wc.heap[gb305]? = some (.cells #[.int .i64 x306000_1, .int .u64 x306001_1, .int .u64 x306002_1] 24 (0, 0))) ∧ Aside0 (Below w.heap.size w wc))
       case first =>
        have H := HC66.out
        clear HC66
        replace H := iB H; rcases H with ⟨rfl, H⟩ | ⟨rfl, H⟩
        ·by_cases c68 : 0 < (a0.size : Int)
         ·rw [if_pos c68] at H
          have c68b0 : decide (0 < (a0.size : Int)) = true := decide_eq_true c68
          have c68b1 : decide (0 < a0.size) = true := decide_eq_true (by omega)
          clear c68
          (skip)
          have H' := Aside0.mk H
          clear H
          have p69 : 0 ≤ (0 : Int) := (by omega)
          have q69 : 0 < a0.size := (by have : (0 : Int) < (a0.size : Int) := of_decide_eq_true (by (with_reducible assumption)); omega)
          have hx69 : ∀ h : 0 < a0.size, ((a0[0]'h).toNat : Int) = bt a0 0 := bt_at a0 0
          clear p69
          have qi69 : (0 < (a0.size : Int)) = True := eq_true (of_decide_eq_true (by (with_reducible assumption)))
          replace q69 := eq_true q69
          go_wp2
          go_meet
          case rel => exact ⟨_, (bt a0 0), (by rfl), H', ⟨by have := HK1.out; have := HJ60.out; omega⟩, ⟨by exact HO_8.out⟩, ⟨by exact BK305.out⟩, ⟨by repeat (with_reducible exact HB.out)⟩⟩
         ·rw [if_neg c68] at H
          exact absurd H (by simp)
        ·have H' := Aside0.mk H
         clear H
         go_wp2
         go_meet
         case rel => exact ⟨_, (48), (by rfl), H', ⟨by have := HK1.out; have := HJ60.out; omega⟩, ⟨by exact HO_8.out⟩, ⟨by exact BK305.out⟩, ⟨by repeat (with_reducible exact HB.out)⟩⟩
       case rest =>
        clear HC66
        obtain ⟨kq, x14_65, rfl, HA, HJ65, HO_8, BK305, HB⟩ := hcut
        cases kq with
        | zero => exact absurd HA.out (by simp [maskref1_readDigits.j5])
        | succ kj65 =>
         have H := HA.out
         clear HA
         simp only [maskref1_readDigits.j5] at H
         have H' := Aside0.mk H
         clear H
         go_wp2
         go_loopg [8] kj65 (fun kq v8 w' => ∃ (x8_4 : List Int), Aside0 (maskref1_readDigits.l3 kq a1 x8_4 x9_1 x14_65 = some (r1, r2, r3, r4)) ∧ Aside0 (kq ≤ kj65) ∧ Aside0 (Kd.R (Kd.int .u8) 5 w' w.heap.size (fun _ => True) v8 x8_4) ∧ Aside0 (w'.heap[gb305]? = some (.cells #[.int .i64 x306000_1, .int .u64 x306001_1, .int .u64 x306002_1] 24 (0, 0))) ∧ Aside0 (Below w.heap.size w w'))
         case atStart => exact ⟨(x8_1), H', ⟨Nat.le_refl _⟩, ⟨by exact HO_8.out⟩, ⟨by exact BK305.out⟩, ⟨by repeat (with_reducible exact HB.out)⟩⟩
         case round =>
          clear H'
          obtain ⟨x8_4, HA, HK4, HO_8, BK305, HB⟩ := hrel
          cases gk with
          | zero => exact absurd HA.out (by simp [maskref1_readDigits.l3])
          | succ k4 =>
           have H := HA.out
           clear HA
           simp only [maskref1_readDigits.l3] at H
           replace H := iD H; rcases H with ⟨c70b0, H⟩ | ⟨c70b0, H⟩
           ·by_cases c71 : x8_4.length < 140737488355328
            ·rw [if_pos c71] at H
             have LMc71 := Aside0.mk c71
             clear c71
             obtain ⟨y327, hy327⟩ : ∃ y_ : List Int, y_ = (x8_4 ++ [x14_65]) := ⟨_, rfl⟩
             replace H : (maskref1_readDigits.l3 k4 a1 y327 x9_1 x14_65) = some (r1, r2, r3, r4) := by (rw [hy327]; with_reducible exact H)
             have Ny327 := Aside0.mk hy327
             clear hy327
             have H' := Aside0.mk H
             clear H
             obtain ⟨Ao72, co72, eo72⟩ := Kd.R_slice HO_8.out
             subst eo72
             go_wp2_with (((with_reducible refine gate_builtin (b := .append) (xs := #[.tmp 105, .tmp 107]) rfl ?_); (try (refine gate_guard (by rfl) ?_; dsimp only)); at_builtin; refine Kd.R_append (Kd.int .u8) (w0 := w) w.heap.size rfl (.tmp 105) (.tmp 107) 90 5 (.int .u8 0) 1 rfl Try.underlying90 info5 rfl (by decide) (by omega) (.slice Ao72 x8_4.length co72) x8_4 x14_65 [.int .u8 x14_65] (fun _ => True) (fun _ => False) rfl rfl ?aP (fun _ hk => hk.elim) ?aF ?aO ?aB ?aS ?aL ?_; (case aP => exact rfl); (case aB => exact HB.out); (case aF => exact (fun _ _ => trivial)); (case aO => exact HO_8.out); (case aS => exact (below_size HB.out)); (case aL => have := LMc71.out; omega); intro v328 w73 ho hb hg hat; rw [← Ny327.out] at ho; replace BK305 := Aside0.mk (blk_grown BK305.out hg (Kd.R_ne HO_8.out BK305.out (by decide))); replace HB := Aside0.mk (hb); have HO329 := Aside0.mk (ho); clear HO_8; clear ho hb hg hat))
             go_roundg k4
             case measure => have := HK1.out; have := HJ60.out; have := HJ65.out; have := HK4.out; omega
             case rel => exact ⟨(y327), H', ⟨by have := HK1.out; have := HJ60.out; have := HJ65.out; have := HK4.out; omega⟩, ⟨by exact HO329.out⟩, ⟨by exact BK305.out⟩, ⟨by repeat (with_reducible exact HB.out)⟩⟩
            ·rw [if_neg c71] at H
             exact absurd H (by simp)
           ·have H' := Aside0.mk H
            clear H
            obtain ⟨Ao74, co74, eo74⟩ := Kd.R_slice HO_8.out
            subst eo74
            go_wp2
            go_loopg [15] k4 (fun kq v15 w' => ∃ (x15_5 : Int) (x306000_5 : Int) (x306001_5 : Int) (x306002_5 : Int), v15 = .int .i64 x15_5 ∧ Aside0 (maskref1_readDigits.l4 kq a1 x8_4 x15_5 = some (r1, r2, r3, r4)) ∧ Aside0 (kq ≤ k4) ∧ Aside0 (Kd.R (Kd.int .u8) 5 w' w.heap.size (fun _ => True) (.slice Ao74 x8_4.length co74) x8_4) ∧ Aside0 (w'.heap[gb305]? = some (.cells #[.int .i64 x306000_5, .int .u64 x306001_5, .int .u64 x306002_5] 24 (0, 0))) ∧ Aside0 (Below w.heap.size w w'))
            case atStart => exact ⟨(wrap64 (a1 + x9_1)), (x306000_1), (x306001_1), (x306002_1), (by rfl), H', ⟨Nat.le_refl _⟩, ⟨by exact HO_8.out⟩, ⟨by exact BK305.out⟩, ⟨by repeat (with_reducible exact HB.out)⟩⟩
            case round =>
             clear H'
             (try clear c70b0)
             obtain ⟨x15_5, x306000_5, x306001_5, x306002_5, rfl, HA, HK5, HO_8, BK305, HB⟩ := hrel
             cases gk with
             | zero => exact absurd HA.out (by simp [maskref1_readDigits.l4])
             | succ k5 =>
              have H := HA.out
              clear HA
              simp only [maskref1_readDigits.l4] at H
              replace H := iD H; rcases H with ⟨c75b0, H⟩ | ⟨c75b0, H⟩
              ·replace H := iN H; obtain ⟨c76b0, H⟩ := H
               replace H := iE H; rcases H with ⟨c77b0, c77b1, H⟩ | ⟨c77, c77b0, c77b1, H⟩
               ·have H' := Aside0.mk H
                clear H
                have p337 : 0 ≤ (x15_5 : Int) := of_decide_eq_true (by (with_reducible assumption))
                have q337 : x15_5 < (x8_4.length : Int) := of_decide_eq_true (by (with_reducible assumption))
                obtain ⟨ad337, e337, hx337_0⟩ := Kd.at_int (Kd.R_reads' HO_8.out).2.2 x15_5 p337 q337
                cases e337
                replace p337 := eq_true p337
                replace q337 := eq_true q337
                go_wp2
                go_roundg k5
                case measure => have := HK1.out; have := HJ60.out; have := HJ65.out; have := HK4.out; have := HK5.out; omega
                case rel => exact ⟨(wrap64 (x15_5 + 1)), (x306000_5), (x306001_5), (x306002_5), (by rfl), H', ⟨by have := HK1.out; have := HJ60.out; have := HJ65.out; have := HK4.out; have := HK5.out; omega⟩, ⟨by exact HO_8.out⟩, ⟨by exact BK305.out⟩, ⟨by repeat (with_reducible exact HB.out)⟩⟩
               ·replace H := s4 H; obtain ⟨rfl, rfl, rfl, rfl⟩ := H
                have p337 : 0 ≤ (x15_5 : Int) := of_decide_eq_true (by (with_reducible assumption))
                have q337 : x15_5 < (x8_4.length : Int) := of_decide_eq_true (by (with_reducible assumption))
                obtain ⟨ad337, e337, hx337_0⟩ := Kd.at_int (Kd.R_reads' HO_8.out).2.2 x15_5 p337 q337
                cases e337
                replace p337 := eq_true p337
                replace q337 := eq_true q337
                obtain ⟨hcz78_0, hcz78_1, hcz78_2, hfz78_0, hfz78_1, hfz78_2⟩ := cf3 BK305
                go_wp2
                refine bodyPost_ret (results_ct rfl _ _ gb305 24 #[.int .i64 0, .int .u64 0, .int .u64 0] (0, 0) _ rfl (by refine blk_put (cs := #[.int .i64 0, .int .u64 0, .int .u64 x306002_5]) ?_ 2 _ rfl; refine blk_put (cs := #[.int .i64 0, .int .u64 x306001_5, .int .u64 x306002_5]) ?_ 1 _ rfl; refine blk_put (cs := #[.int .i64 x306000_5, .int .u64 x306001_5, .int .u64 x306002_5]) ?_ 0 _ rfl; exact BK305.out) Try.underlying24 rfl (by kernel_rfl)) rfl ?_
                exact ⟨by rfl, by repeat (with_reducible first | exact HB.out | refine below_set ?_ GE305.out)⟩
              ·by_cases c79 : 0 ≤ a1
               ·rw [if_pos c79] at H
                have c79b0 := eq_true c79
                have c79b1 : decide (0 ≤ a1) = true := decide_eq_true c79
                clear c79
                by_cases c80 : a1 ≤ (x8_4.length : Int)
                ·rw [if_pos c80] at H
                 have c80b0 := eq_true c80
                 have c80b1 : decide (a1 ≤ (x8_4.length : Int)) = true := decide_eq_true c80
                 clear c80
                 obtain ⟨y330, hy330⟩ : ∃ y_ : List Int, y_ = (x8_4.take (a1 : Int).toNat) := ⟨_, rfl⟩
                 replace H : ((maskref1_B.f k5 y330).bind fun bt334 => (some (bt334.1, bt334.2.1, bt334.2.2, 0))) = some (r1, r2, r3, r4) := by (rw [hy330]; with_reducible exact H)
                 have Ny330 := Aside0.mk hy330
                 clear hy330
                 replace H := bN H; obtain ⟨⟨t334, t335, t336⟩, A81, H⟩ := H; dsimp only at H
                 replace H := s4 H; obtain ⟨rfl, rfl, rfl, rfl⟩ := H
                 have q82 : (a1 : Int) ≤ ((x8_4.length : Int) : Int) := of_decide_eq_true (by (with_reducible assumption))
                 obtain ⟨i082, hi082, _, hsz82, _⟩ := info_parts info5
                 have hroom82 : x8_4.length ≤ co74 := (Kd.R_reads' HO_8.out).2.1
                 have hC82 : Kd.C (Kd.int .u8) _ Ao74 x8_4.length x8_4 := (Kd.R_reads' HO_8.out).2.2
                 have hcut82 := cut_to (P := Try.prog) 90 5 .i64 Try.underlying90 hi082 Ao74 x8_4.length co74 a1 (of_decide_eq_true (by (with_reducible assumption))) q82 hroom82
                 have hr82 := Kd.C_take (m := (a1 : Int).toNat) hC82 (by omega)
                 have hy82 : y330.length = (a1 : Int).toNat := (by rw [Ny330.out, List.length_take]; omega)
                 rw [← Ny330.out] at hr82
                 rw [← hy82] at hcut82
                 have HR333 := Aside0.mk hr82
                 have HC333 := Aside0.mk (show y330.length ≤ co74 from by omega)
                 clear hr82 hC82 hroom82 hi082 hsz82
                 have KY82 := Aside0.mk hy82
                 clear hy82
                 have KL82 := Aside0.mk (show (a1 : Int).toNat ≤ x8_4.length from by omega)
                 replace q82 := eq_true q82
                 go_wp2_with ((go_at_call 79; (with_reducible refine (maskref1_B.calls k5 _ _ y330 t334 t335 t336 _ ?side1 ?side2 A81.out).mono ?_); (case side1 => exact HR333.out); (case side2 => exact HC333.out); rintro e w83 ⟨rfl, hb⟩; replace HO_8 := Kd.rb1 HO_8 hb; replace BK305 := bk1 BK305 hb; replace HR333 := Aside0.mk (Kd.C_below HR333.out hb); replace HB := hb1 HB hb; (try clear hb); obtain ⟨hcz84_0, hcz84_1, hcz84_2, hfz84_0, hfz84_1, hfz84_2⟩ := cf3 BK305))
                 refine bodyPost_ret (results_ct rfl _ _ gb305 24 #[.int .i64 t334, .int .u64 t335, .int .u64 t336] (0, 0) _ rfl (by refine blk_put (cs := #[.int .i64 t334, .int .u64 t335, .int .u64 x306002_5]) ?_ 2 _ rfl; refine blk_put (cs := #[.int .i64 t334, .int .u64 x306001_5, .int .u64 x306002_5]) ?_ 1 _ rfl; refine blk_put (cs := #[.int .i64 x306000_5, .int .u64 x306001_5, .int .u64 x306002_5]) ?_ 0 _ rfl; exact BK305.out) Try.underlying24 rfl (by kernel_rfl)) rfl ?_
                 exact ⟨by rfl, by repeat (with_reducible first | exact HB.out | refine below_set ?_ GE305.out)⟩
                ·rw [if_neg c80] at H
                 exact absurd H (by simp)
               ·rw [if_neg c79] at H
                exact absurd H (by simp)
end Go.Proofs.Ytlamgdibnnmbmaa.PLex
end
