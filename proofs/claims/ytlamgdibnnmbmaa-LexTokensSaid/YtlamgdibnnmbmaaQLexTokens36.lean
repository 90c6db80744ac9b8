/- Part 37 of the proof of LexTokensSaid: The law LexTokens: for all arguments it returns true; each argument reads behind the call as it read before. Out of the plain theorem of YtlamgdibnnmbmaaLtA and the printed contract. -/
import Derived.Test.YtlamgdibnnmbmaaQLexTokens13
import Derived.Test.YtlamgdibnnmbmaaQLexTokens35
import Derived.Test.YtlamgdibnnmbmaaQLexTokens15
import Derived.Test.YtlamgdibnnmbmaaQLexTokens34
import Derived.Test.YtlamgdibnnmbmaaQLexTokens12
import Derived.Laws.BitsAllLaws
import Derived.Test.YtlamgdibnnmbmaaQLexTokens25
import Derived.Test.YtlamgdibnnmbmaaQLexTokens32
import Derived.Laws.BitsLemmas
import Derived.Lib.Bytes
import Derived.OpenShut
import Derived.Test.YtlamgdibnnmbmaaQLexTokens33
section
namespace Go.Proofs.Ytlamgdibnnmbmaa.PLex
open Go.RowKit Go.Proofs.YtlamgdibnnmbmaaW.PrintWords Go.Proofs.YtlamgdibnnmbmaaW.PrintLast Go.Proofs.YtlamgdibnnmbmaaW.PrintMore
attribute [local go_sem] max2_int min2_int max_two min_two max_three min_three max_four min_four
set_option linter.unusedVariables false
set_option linter.unusedSimpArgs false
attribute [local go_sem high] eqA51
theorem nil_empty {l : List UInt8} : (l == ([] : List UInt8)) = l.isEmpty := by cases l <;> rfl
def masklaw1_scanned.f (k : Nat)  : Option (Bool) := (lex_Tokens.f k (⟨#[97, 60, 61, 56, 39, 115, 100, 53, 59]⟩ : ByteArray)).bind fun bt101 => (if bt101.2.2.2 = 0 then (if (bt101.1.length : Int) = 5 then (if 0 < (bt101.1.length : Int) then (if ((rd_T51 bt101.1 0).f3).toList = ([97] : List UInt8) then (if 1 < (bt101.1.length : Int) then (if ((rd_T51 bt101.1 1).f3).toList = ([60, 61] : List UInt8) then (if 2 < (bt101.1.length : Int) then (if (((rd_T51 bt101.1 2).f0) == 3 && (((rd_T51 bt101.1 2).f1) == 1 && (((rd_T51 bt101.1 2).f2) == 4 && ((((rd_T51 bt101.1 2).f3).toList) == ([] : List UInt8) && (!((rd_T51 bt101.1 2).f4) && ((((rd_T51 bt101.1 2).f5.f0) == 8 && (((rd_T51 bt101.1 2).f5.f1) == 5 && (((rd_T51 bt101.1 2).f5.f2) == 0))) && (((rd_T51 bt101.1 2).f6)))))))) = true then (if 4 < (bt101.1.length : Int) then (some (((rd_T51 bt101.1 4).f0) == 0)) else (none)) else (some false)) else (none)) else (some false)) else (none)) else (some false)) else (none)) else (some false)) else (some false))
theorem masklaw1_scanned.mono : ∀ k, LeO (masklaw1_scanned.f k ) (masklaw1_scanned.f (k + 1) ) := by
 intro  k
 unfold masklaw1_scanned.f
 repeat' first | with_reducible exact lex_Tokens.mono _ _ | with_reducible exact LeO.refl _ | with_reducible exact LeO.none _ | with_reducible refine LeO.ite ?_ ?_ | with_reducible refine LeO.bind ?_ (fun _ => ?_)
set_option maxHeartbeats 8000000 in
set_option maxRecDepth 100000 in
theorem masklaw1_scanned.calls (k : Nat)  (r : Bool) (w : World) (h : masklaw1_scanned.f k  = some r) (hG : Glob w) :
  Calls Try.prog 19 #[] w fun e w' => e = .returned (.bool r) ∧ Below w.heap.size w w' := by
 have HG := Aside0.mk hG
 clear hG
 have hu51 := Try.underlying51
 have hu24 := Try.underlying24
 have HB := Aside0.mk (Below.refl w.heap.size w)
 have H := h
 clear h
 unfold masklaw1_scanned.f at H
 replace H := bN H; obtain ⟨⟨t101, t102, t103, t104⟩, A1, H⟩ := H; dsimp only at H
 replace H := iE H; rcases H with ⟨c2b0, c2b1, H⟩ | ⟨c2, c2b0, c2b1, H⟩
 ·replace H := iE H; rcases H with ⟨c3b0, c3b1, H⟩ | ⟨c3, c3b0, c3b1, H⟩
  ·by_cases c4 : 0 < (t101.length : Int)
   ·rw [if_pos c4] at H
    have c4b0 : decide (0 < (t101.length : Int)) = true := decide_eq_true c4
    have c4b1 : decide (0 < t101.length) = true := decide_eq_true (by omega)
    clear c4
    replace H := iE H; rcases H with ⟨c5b0, c5b1, H⟩ | ⟨c5, c5b0, c5b1, H⟩
    ·by_cases c6 : 1 < (t101.length : Int)
     ·rw [if_pos c6] at H
      have c6b0 : decide (1 < (t101.length : Int)) = true := decide_eq_true c6
      have c6b1 : decide (1 < t101.length) = true := decide_eq_true (by omega)
      clear c6
      replace H := iE H; rcases H with ⟨c7b0, c7b1, H⟩ | ⟨c7, c7b0, c7b1, H⟩
      ·by_cases c8 : 2 < (t101.length : Int)
       ·rw [if_pos c8] at H
        have c8b0 : decide (2 < (t101.length : Int)) = true := decide_eq_true c8
        have c8b1 : decide (2 < t101.length) = true := decide_eq_true (by omega)
        clear c8
        by_cases c9 : (((rd_T51 t101 2).f0) == 3 && (((rd_T51 t101 2).f1) == 1 && (((rd_T51 t101 2).f2) == 4 && ((((rd_T51 t101 2).f3).toList) == ([] : List UInt8) && (!((rd_T51 t101 2).f4) && ((((rd_T51 t101 2).f5.f0) == 8 && (((rd_T51 t101 2).f5.f1) == 5 && (((rd_T51 t101 2).f5.f2) == 0))) && ((rd_T51 t101 2).f6))))))) = true
        ·rw [if_pos c9] at H
         have c9b3 : (((rd_T51 t101 2).f0) == 3 && (((rd_T51 t101 2).f1) == 1 && (((rd_T51 t101 2).f2) == 4 && ((((rd_T51 t101 2).f3).toList).isEmpty && (!((rd_T51 t101 2).f4) && ((((rd_T51 t101 2).f5.f0) == 8 && (((rd_T51 t101 2).f5.f1) == 5 && (((rd_T51 t101 2).f5.f2) == 0))) && ((rd_T51 t101 2).f6))))))) = true := by rw [← nil_empty]; exact c9
         have c9b0 : (((rd_T51 t101 2).f0) == 3 && (((rd_T51 t101 2).f1) == 1 && (((rd_T51 t101 2).f2) == 4 && ((((rd_T51 t101 2).f3).toList) == ([] : List UInt8) && (!((rd_T51 t101 2).f4) && ((((rd_T51 t101 2).f5.f0) == 8 && (((rd_T51 t101 2).f5.f1) == 5 && (((rd_T51 t101 2).f5.f2) == 0))) && ((rd_T51 t101 2).f6))))))) = true := c9
         (try (have c9b1 : decide (((rd_T51 t101 2).f0) = 3 && (((rd_T51 t101 2).f1) == 1 && (((rd_T51 t101 2).f2) == 4 && ((((rd_T51 t101 2).f3).toList) == ([] : List UInt8) && (!((rd_T51 t101 2).f4) && ((((rd_T51 t101 2).f5.f0) == 8 && (((rd_T51 t101 2).f5.f1) == 5 && (((rd_T51 t101 2).f5.f2) == 0))) && ((rd_T51 t101 2).f6))))))) = true := by simpa using c9))
         (try (have c9b2 : (((rd_T51 t101 2).f0) == 3 && (((rd_T51 t101 2).f1) == 1 && (((rd_T51 t101 2).f2) == 4 && ((((rd_T51 t101 2).f3).toList) == ([] : List UInt8) && (!((rd_T51 t101 2).f4) && ((((rd_T51 t101 2).f5.f0) == 8 && (((rd_T51 t101 2).f5.f1) == 5 && (((rd_T51 t101 2).f5.f2) == 0))) && ((rd_T51 t101 2).f6))))))) = true := by simpa using c9))
         clear c9
         by_cases c10 : 4 < (t101.length : Int)
         ·rw [if_pos c10] at H
          have c10b0 : decide (4 < (t101.length : Int)) = true := decide_eq_true c10
          have c10b1 : decide (4 < t101.length) = true := decide_eq_true (by omega)
          clear c10
          obtain rfl := Option.some.inj H
          go_enter Try.func19, Try.ntmps19
          go_wp2_with ((refine callA (some 6) Try.func20 #[.string (⟨#[97, 60, 61, 56, 39, 115, 100, 53, 59]⟩ : ByteArray)] ?_; (with_reducible refine (lex_Tokens.calls k (⟨#[97, 60, 61, 56, 39, 115, 100, 53, 59]⟩ : ByteArray) t101 t102 t103 t104 _ A1.out ?side90).mono ?_); (case side90 => exact HG.out.below HB.out); rintro e w11 ⟨v105, rfl, ho0, hb⟩; refine ⟨_, rfl, ?_⟩; have HO106 := Aside0.mk (Kd.R_lower ho0 (below_size HB.out)); replace HB := hb1 HB hb; (try clear hb); (try clear ho0); obtain ⟨Ao12, co12, eo12⟩ := Kd.R_slice HO106.out; subst eo12; have p107 : 0 ≤ (0 : Int) := (by omega); have q107 : 0 < (t101.length : Int) := of_decide_eq_true (by (with_reducible assumption)); obtain ⟨ad107, e107, hx107_0, hx107_1, hx107_2, hx107_3, hx107_4, hx107_5, hx107_6, hx107_7, hx107_8⟩ := at_T51 (Kd.R_reads' HO106.out).2.2 0 p107 q107; cases e107; have qi107 : (0 < t101.length) = True := eq_true (by omega); (try rw [show (0 : Int).toNat = 0 from rfl] at hx107_0); (try rw [show 0 * 9 = 0 from rfl] at hx107_0); (try rw [Addr.add_zero'] at hx107_0); (try rw [show (0 : Int).toNat = 0 from rfl] at hx107_1); (try rw [show 0 * 9 = 0 from rfl] at hx107_1); (try rw [Addr.add_zero'] at hx107_1); (try rw [show (0 : Int).toNat = 0 from rfl] at hx107_2); (try rw [show 0 * 9 = 0 from rfl] at hx107_2); (try rw [Addr.add_zero'] at hx107_2); (try rw [show (0 : Int).toNat = 0 from rfl] at hx107_3); (try rw [show 0 * 9 = 0 from rfl] at hx107_3); (try rw [Addr.add_zero'] at hx107_3); (try rw [show (0 : Int).toNat = 0 from rfl] at hx107_4); (try rw [show 0 * 9 = 0 from rfl] at hx107_4); (try rw [Addr.add_zero'] at hx107_4); (try rw [show (0 : Int).toNat = 0 from rfl] at hx107_5); (try rw [show 0 * 9 = 0 from rfl] at hx107_5); (try rw [Addr.add_zero'] at hx107_5); (try rw [show (0 : Int).toNat = 0 from rfl] at hx107_6); (try rw [show 0 * 9 = 0 from rfl] at hx107_6); (try rw [Addr.add_zero'] at hx107_6); (try rw [show (0 : Int).toNat = 0 from rfl] at hx107_7); (try rw [show 0 * 9 = 0 from rfl] at hx107_7); (try rw [Addr.add_zero'] at hx107_7); (try rw [show (0 : Int).toNat = 0 from rfl] at hx107_8); (try rw [show 0 * 9 = 0 from rfl] at hx107_8); (try rw [Addr.add_zero'] at hx107_8); replace p107 := eq_true p107; replace q107 := eq_true q107; have p108 : 0 ≤ (1 : Int) := (by omega); have q108 : 1 < (t101.length : Int) := of_decide_eq_true (by (with_reducible assumption)); obtain ⟨ad108, e108, hx108_0, hx108_1, hx108_2, hx108_3, hx108_4, hx108_5, hx108_6, hx108_7, hx108_8⟩ := at_T51 (Kd.R_reads' HO106.out).2.2 1 p108 q108; obtain rfl : ad107 = ad108 := (by injection e108); (try simp only [show (1 : Int).toNat = 1 from rfl, Nat.reduceMul, Nat.reduceEqDiff, Go.Addr.add, ↓reduceIte] at hx108_0); (try simp only [show (1 : Int).toNat = 1 from rfl, Nat.reduceMul, Nat.reduceEqDiff, Go.Addr.add, ↓reduceIte] at hx108_1); (try simp only [show (1 : Int).toNat = 1 from rfl, Nat.reduceMul, Nat.reduceEqDiff, Go.Addr.add, ↓reduceIte] at hx108_2); (try simp only [show (1 : Int).toNat = 1 from rfl, Nat.reduceMul, Nat.reduceEqDiff, Go.Addr.add, ↓reduceIte] at hx108_3); (try simp only [show (1 : Int).toNat = 1 from rfl, Nat.reduceMul, Nat.reduceEqDiff, Go.Addr.add, ↓reduceIte] at hx108_4); (try simp only [show (1 : Int).toNat = 1 from rfl, Nat.reduceMul, Nat.reduceEqDiff, Go.Addr.add, ↓reduceIte] at hx108_5); (try simp only [show (1 : Int).toNat = 1 from rfl, Nat.reduceMul, Nat.reduceEqDiff, Go.Addr.add, ↓reduceIte] at hx108_6); (try simp only [show (1 : Int).toNat = 1 from rfl, Nat.reduceMul, Nat.reduceEqDiff, Go.Addr.add, ↓reduceIte] at hx108_7); (try simp only [show (1 : Int).toNat = 1 from rfl, Nat.reduceMul, Nat.reduceEqDiff, Go.Addr.add, ↓reduceIte] at hx108_8); have qi108 : (1 < t101.length) = True := eq_true (by omega); replace p108 := eq_true p108; replace q108 := eq_true q108; have p109 : 0 ≤ (2 : Int) := (by omega); have q109 : 2 < (t101.length : Int) := of_decide_eq_true (by (with_reducible assumption)); obtain ⟨ad109, e109, hx109_0, hx109_1, hx109_2, hx109_3, hx109_4, hx109_5, hx109_6, hx109_7, hx109_8⟩ := at_T51 (Kd.R_reads' HO106.out).2.2 2 p109 q109; obtain rfl : ad107 = ad109 := (by injection e109); (try simp only [show (2 : Int).toNat = 2 from rfl, Nat.reduceMul, Nat.reduceEqDiff, Go.Addr.add, ↓reduceIte] at hx109_0); (try simp only [show (2 : Int).toNat = 2 from rfl, Nat.reduceMul, Nat.reduceEqDiff, Go.Addr.add, ↓reduceIte] at hx109_1); (try simp only [show (2 : Int).toNat = 2 from rfl, Nat.reduceMul, Nat.reduceEqDiff, Go.Addr.add, ↓reduceIte] at hx109_2); (try simp only [show (2 : Int).toNat = 2 from rfl, Nat.reduceMul, Nat.reduceEqDiff, Go.Addr.add, ↓reduceIte] at hx109_3); (try simp only [show (2 : Int).toNat = 2 from rfl, Nat.reduceMul, Nat.reduceEqDiff, Go.Addr.add, ↓reduceIte] at hx109_4); (try simp only [show (2 : Int).toNat = 2 from rfl, Nat.reduceMul, Nat.reduceEqDiff, Go.Addr.add, ↓reduceIte] at hx109_5); (try simp only [show (2 : Int).toNat = 2 from rfl, Nat.reduceMul, Nat.reduceEqDiff, Go.Addr.add, ↓reduceIte] at hx109_6); (try simp only [show (2 : Int).toNat = 2 from rfl, Nat.reduceMul, Nat.reduceEqDiff, Go.Addr.add, ↓reduceIte] at hx109_7); (try simp only [show (2 : Int).toNat = 2 from rfl, Nat.reduceMul, Nat.reduceEqDiff, Go.Addr.add, ↓reduceIte] at hx109_8); have qi109 : (2 < t101.length) = True := eq_true (by omega); replace p109 := eq_true p109; replace q109 := eq_true q109; have p110 : 0 ≤ (4 : Int) := (by omega); have q110 : 4 < (t101.length : Int) := of_decide_eq_true (by (with_reducible assumption)); obtain ⟨ad110, e110, hx110_0, hx110_1, hx110_2, hx110_3, hx110_4, hx110_5, hx110_6, hx110_7, hx110_8⟩ := at_T51 (Kd.R_reads' HO106.out).2.2 4 p110 q110; obtain rfl : ad107 = ad110 := (by injection e110); (try simp only [show (4 : Int).toNat = 4 from rfl, Nat.reduceMul, Nat.reduceEqDiff, Go.Addr.add, ↓reduceIte] at hx110_0); (try simp only [show (4 : Int).toNat = 4 from rfl, Nat.reduceMul, Nat.reduceEqDiff, Go.Addr.add, ↓reduceIte] at hx110_1); (try simp only [show (4 : Int).toNat = 4 from rfl, Nat.reduceMul, Nat.reduceEqDiff, Go.Addr.add, ↓reduceIte] at hx110_2); (try simp only [show (4 : Int).toNat = 4 from rfl, Nat.reduceMul, Nat.reduceEqDiff, Go.Addr.add, ↓reduceIte] at hx110_3); (try simp only [show (4 : Int).toNat = 4 from rfl, Nat.reduceMul, Nat.reduceEqDiff, Go.Addr.add, ↓reduceIte] at hx110_4); (try simp only [show (4 : Int).toNat = 4 from rfl, Nat.reduceMul, Nat.reduceEqDiff, Go.Addr.add, ↓reduceIte] at hx110_5); (try simp only [show (4 : Int).toNat = 4 from rfl, Nat.reduceMul, Nat.reduceEqDiff, Go.Addr.add, ↓reduceIte] at hx110_6); (try simp only [show (4 : Int).toNat = 4 from rfl, Nat.reduceMul, Nat.reduceEqDiff, Go.Addr.add, ↓reduceIte] at hx110_7); (try simp only [show (4 : Int).toNat = 4 from rfl, Nat.reduceMul, Nat.reduceEqDiff, Go.Addr.add, ↓reduceIte] at hx110_8); have qi110 : (4 < t101.length) = True := eq_true (by omega); replace p110 := eq_true p110; replace q110 := eq_true q110))
          go_ret
          exact ⟨by rfl, by repeat (with_reducible exact HB.out)⟩
         ·rw [if_neg c10] at H
          exact absurd H (by simp)
        ·rw [if_neg c9] at H
         have c9b3 : (((rd_T51 t101 2).f0) == 3 && (((rd_T51 t101 2).f1) == 1 && (((rd_T51 t101 2).f2) == 4 && ((((rd_T51 t101 2).f3).toList).isEmpty && (!((rd_T51 t101 2).f4) && ((((rd_T51 t101 2).f5.f0) == 8 && (((rd_T51 t101 2).f5.f1) == 5 && (((rd_T51 t101 2).f5.f2) == 0))) && ((rd_T51 t101 2).f6))))))) = false := by rw [← nil_empty]; exact Bool.eq_false_iff.2 c9
         have c9b0 : (((rd_T51 t101 2).f0) == 3 && (((rd_T51 t101 2).f1) == 1 && (((rd_T51 t101 2).f2) == 4 && ((((rd_T51 t101 2).f3).toList) == ([] : List UInt8) && (!((rd_T51 t101 2).f4) && ((((rd_T51 t101 2).f5.f0) == 8 && (((rd_T51 t101 2).f5.f1) == 5 && (((rd_T51 t101 2).f5.f2) == 0))) && ((rd_T51 t101 2).f6))))))) = false := by simpa using c9
         (try (have c9b1 : decide (((rd_T51 t101 2).f0) = 3 && (((rd_T51 t101 2).f1) == 1 && (((rd_T51 t101 2).f2) == 4 && ((((rd_T51 t101 2).f3).toList) == ([] : List UInt8) && (!((rd_T51 t101 2).f4) && ((((rd_T51 t101 2).f5.f0) == 8 && (((rd_T51 t101 2).f5.f1) == 5 && (((rd_T51 t101 2).f5.f2) == 0))) && ((rd_T51 t101 2).f6))))))) = false := by simpa using c9))
         (try (have c9b2 : (((rd_T51 t101 2).f0) == 3 && (((rd_T51 t101 2).f1) == 1 && (((rd_T51 t101 2).f2) == 4 && ((((rd_T51 t101 2).f3).toList) == ([] : List UInt8) && (!((rd_T51 t101 2).f4) && ((((rd_T51 t101 2).f5.f0) == 8 && (((rd_T51 t101 2).f5.f1) == 5 && (((rd_T51 t101 2).f5.f2) == 0))) && ((rd_T51 t101 2).f6))))))) = false := by simpa using c9))
         (try (have c9b3 : ¬ (((rd_T51 t101 2).f0) = 3 && (((rd_T51 t101 2).f1) == 1 && (((rd_T51 t101 2).f2) == 4 && ((((rd_T51 t101 2).f3).toList) == ([] : List UInt8) && (!((rd_T51 t101 2).f4) && ((((rd_T51 t101 2).f5.f0) == 8 && (((rd_T51 t101 2).f5.f1) == 5 && (((rd_T51 t101 2).f5.f2) == 0))) && ((rd_T51 t101 2).f6))))))) := by simpa using c9))
         clear c9
         obtain rfl := Option.some.inj H
         go_enter Try.func19, Try.ntmps19
         go_wp2_with ((refine callA (some 6) Try.func20 #[.string (⟨#[97, 60, 61, 56, 39, 115, 100, 53, 59]⟩ : ByteArray)] ?_; (with_reducible refine (lex_Tokens.calls k (⟨#[97, 60, 61, 56, 39, 115, 100, 53, 59]⟩ : ByteArray) t101 t102 t103 t104 _ A1.out ?side90).mono ?_); (case side90 => exact HG.out.below HB.out); rintro e w13 ⟨v105, rfl, ho0, hb⟩; refine ⟨_, rfl, ?_⟩; have HO106 := Aside0.mk (Kd.R_lower ho0 (below_size HB.out)); replace HB := hb1 HB hb; (try clear hb); (try clear ho0); obtain ⟨Ao14, co14, eo14⟩ := Kd.R_slice HO106.out; subst eo14; have p107 : 0 ≤ (0 : Int) := (by omega); have q107 : 0 < (t101.length : Int) := of_decide_eq_true (by (with_reducible assumption)); obtain ⟨ad107, e107, hx107_0, hx107_1, hx107_2, hx107_3, hx107_4, hx107_5, hx107_6, hx107_7, hx107_8⟩ := at_T51 (Kd.R_reads' HO106.out).2.2 0 p107 q107; cases e107; have qi107 : (0 < t101.length) = True := eq_true (by omega); (try rw [show (0 : Int).toNat = 0 from rfl] at hx107_0); (try rw [show 0 * 9 = 0 from rfl] at hx107_0); (try rw [Addr.add_zero'] at hx107_0); (try rw [show (0 : Int).toNat = 0 from rfl] at hx107_1); (try rw [show 0 * 9 = 0 from rfl] at hx107_1); (try rw [Addr.add_zero'] at hx107_1); (try rw [show (0 : Int).toNat = 0 from rfl] at hx107_2); (try rw [show 0 * 9 = 0 from rfl] at hx107_2); (try rw [Addr.add_zero'] at hx107_2); (try rw [show (0 : Int).toNat = 0 from rfl] at hx107_3); (try rw [show 0 * 9 = 0 from rfl] at hx107_3); (try rw [Addr.add_zero'] at hx107_3); (try rw [show (0 : Int).toNat = 0 from rfl] at hx107_4); (try rw [show 0 * 9 = 0 from rfl] at hx107_4); (try rw [Addr.add_zero'] at hx107_4); (try rw [show (0 : Int).toNat = 0 from rfl] at hx107_5); (try rw [show 0 * 9 = 0 from rfl] at hx107_5); (try rw [Addr.add_zero'] at hx107_5); (try rw [show (0 : Int).toNat = 0 from rfl] at hx107_6); (try rw [show 0 * 9 = 0 from rfl] at hx107_6); (try rw [Addr.add_zero'] at hx107_6); (try rw [show (0 : Int).toNat = 0 from rfl] at hx107_7); (try rw [show 0 * 9 = 0 from rfl] at hx107_7); (try rw [Addr.add_zero'] at hx107_7); (try rw [show (0 : Int).toNat = 0 from rfl] at hx107_8); (try rw [show 0 * 9 = 0 from rfl] at hx107_8); (try rw [Addr.add_zero'] at hx107_8); replace p107 := eq_true p107; replace q107 := eq_true q107; have p108 : 0 ≤ (1 : Int) := (by omega); have q108 : 1 < (t101.length : Int) := of_decide_eq_true (by (with_reducible assumption)); obtain ⟨ad108, e108, hx108_0, hx108_1, hx108_2, hx108_3, hx108_4, hx108_5, hx108_6, hx108_7, hx108_8⟩ := at_T51 (Kd.R_reads' HO106.out).2.2 1 p108 q108; obtain rfl : ad107 = ad108 := (by injection e108); (try simp only [show (1 : Int).toNat = 1 from rfl, Nat.reduceMul, Nat.reduceEqDiff, Go.Addr.add, ↓reduceIte] at hx108_0); (try simp only [show (1 : Int).toNat = 1 from rfl, Nat.reduceMul, Nat.reduceEqDiff, Go.Addr.add, ↓reduceIte] at hx108_1); (try simp only [show (1 : Int).toNat = 1 from rfl, Nat.reduceMul, Nat.reduceEqDiff, Go.Addr.add, ↓reduceIte] at hx108_2); (try simp only [show (1 : Int).toNat = 1 from rfl, Nat.reduceMul, Nat.reduceEqDiff, Go.Addr.add, ↓reduceIte] at hx108_3); (try simp only [show (1 : Int).toNat = 1 from rfl, Nat.reduceMul, Nat.reduceEqDiff, Go.Addr.add, ↓reduceIte] at hx108_4); (try simp only [show (1 : Int).toNat = 1 from rfl, Nat.reduceMul, Nat.reduceEqDiff, Go.Addr.add, ↓reduceIte] at hx108_5); (try simp only [show (1 : Int).toNat = 1 from rfl, Nat.reduceMul, Nat.reduceEqDiff, Go.Addr.add, ↓reduceIte] at hx108_6); (try simp only [show (1 : Int).toNat = 1 from rfl, Nat.reduceMul, Nat.reduceEqDiff, Go.Addr.add, ↓reduceIte] at hx108_7); (try simp only [show (1 : Int).toNat = 1 from rfl, Nat.reduceMul, Nat.reduceEqDiff, Go.Addr.add, ↓reduceIte] at hx108_8); have qi108 : (1 < t101.length) = True := eq_true (by omega); replace p108 := eq_true p108; replace q108 := eq_true q108; have p109 : 0 ≤ (2 : Int) := (by omega); have q109 : 2 < (t101.length : Int) := of_decide_eq_true (by (with_reducible assumption)); obtain ⟨ad109, e109, hx109_0, hx109_1, hx109_2, hx109_3, hx109_4, hx109_5, hx109_6, hx109_7, hx109_8⟩ := at_T51 (Kd.R_reads' HO106.out).2.2 2 p109 q109; obtain rfl : ad107 = ad109 := (by injection e109); (try simp only [show (2 : Int).toNat = 2 from rfl, Nat.reduceMul, Nat.reduceEqDiff, Go.Addr.add, ↓reduceIte] at hx109_0); (try simp only [show (2 : Int).toNat = 2 from rfl, Nat.reduceMul, Nat.reduceEqDiff, Go.Addr.add, ↓reduceIte] at hx109_1); (try simp only [show (2 : Int).toNat = 2 from rfl, Nat.reduceMul, Nat.reduceEqDiff, Go.Addr.add, ↓reduceIte] at hx109_2); (try simp only [show (2 : Int).toNat = 2 from rfl, Nat.reduceMul, Nat.reduceEqDiff, Go.Addr.add, ↓reduceIte] at hx109_3); (try simp only [show (2 : Int).toNat = 2 from rfl, Nat.reduceMul, Nat.reduceEqDiff, Go.Addr.add, ↓reduceIte] at hx109_4); (try simp only [show (2 : Int).toNat = 2 from rfl, Nat.reduceMul, Nat.reduceEqDiff, Go.Addr.add, ↓reduceIte] at hx109_5); (try simp only [show (2 : Int).toNat = 2 from rfl, Nat.reduceMul, Nat.reduceEqDiff, Go.Addr.add, ↓reduceIte] at hx109_6); (try simp only [show (2 : Int).toNat = 2 from rfl, Nat.reduceMul, Nat.reduceEqDiff, Go.Addr.add, ↓reduceIte] at hx109_7); (try simp only [show (2 : Int).toNat = 2 from rfl, Nat.reduceMul, Nat.reduceEqDiff, Go.Addr.add, ↓reduceIte] at hx109_8); have qi109 : (2 < t101.length) = True := eq_true (by omega); replace p109 := eq_true p109; replace q109 := eq_true q109))
         go_ret
         exact ⟨by rfl, by repeat (with_reducible exact HB.out)⟩
       ·rw [if_neg c8] at H
        exact absurd H (by simp)
      ·obtain rfl := Option.some.inj H
       go_enter Try.func19, Try.ntmps19
       go_wp2_with ((refine callA (some 6) Try.func20 #[.string (⟨#[97, 60, 61, 56, 39, 115, 100, 53, 59]⟩ : ByteArray)] ?_; (with_reducible refine (lex_Tokens.calls k (⟨#[97, 60, 61, 56, 39, 115, 100, 53, 59]⟩ : ByteArray) t101 t102 t103 t104 _ A1.out ?side90).mono ?_); (case side90 => exact HG.out.below HB.out); rintro e w15 ⟨v105, rfl, ho0, hb⟩; refine ⟨_, rfl, ?_⟩; have HO106 := Aside0.mk (Kd.R_lower ho0 (below_size HB.out)); replace HB := hb1 HB hb; (try clear hb); (try clear ho0); obtain ⟨Ao16, co16, eo16⟩ := Kd.R_slice HO106.out; subst eo16; have p107 : 0 ≤ (0 : Int) := (by omega); have q107 : 0 < (t101.length : Int) := of_decide_eq_true (by (with_reducible assumption)); obtain ⟨ad107, e107, hx107_0, hx107_1, hx107_2, hx107_3, hx107_4, hx107_5, hx107_6, hx107_7, hx107_8⟩ := at_T51 (Kd.R_reads' HO106.out).2.2 0 p107 q107; cases e107; have qi107 : (0 < t101.length) = True := eq_true (by omega); (try rw [show (0 : Int).toNat = 0 from rfl] at hx107_0); (try rw [show 0 * 9 = 0 from rfl] at hx107_0); (try rw [Addr.add_zero'] at hx107_0); (try rw [show (0 : Int).toNat = 0 from rfl] at hx107_1); (try rw [show 0 * 9 = 0 from rfl] at hx107_1); (try rw [Addr.add_zero'] at hx107_1); (try rw [show (0 : Int).toNat = 0 from rfl] at hx107_2); (try rw [show 0 * 9 = 0 from rfl] at hx107_2); (try rw [Addr.add_zero'] at hx107_2); (try rw [show (0 : Int).toNat = 0 from rfl] at hx107_3); (try rw [show 0 * 9 = 0 from rfl] at hx107_3); (try rw [Addr.add_zero'] at hx107_3); (try rw [show (0 : Int).toNat = 0 from rfl] at hx107_4); (try rw [show 0 * 9 = 0 from rfl] at hx107_4); (try rw [Addr.add_zero'] at hx107_4); (try rw [show (0 : Int).toNat = 0 from rfl] at hx107_5); (try rw [show 0 * 9 = 0 from rfl] at hx107_5); (try rw [Addr.add_zero'] at hx107_5); (try rw [show (0 : Int).toNat = 0 from rfl] at hx107_6); (try rw [show 0 * 9 = 0 from rfl] at hx107_6); (try rw [Addr.add_zero'] at hx107_6); (try rw [show (0 : Int).toNat = 0 from rfl] at hx107_7); (try rw [show 0 * 9 = 0 from rfl] at hx107_7); (try rw [Addr.add_zero'] at hx107_7); (try rw [show (0 : Int).toNat = 0 from rfl] at hx107_8); (try rw [show 0 * 9 = 0 from rfl] at hx107_8); (try rw [Addr.add_zero'] at hx107_8); replace p107 := eq_true p107; replace q107 := eq_true q107; have p108 : 0 ≤ (1 : Int) := (by omega); have q108 : 1 < (t101.length : Int) := of_decide_eq_true (by (with_reducible assumption)); obtain ⟨ad108, e108, hx108_0, hx108_1, hx108_2, hx108_3, hx108_4, hx108_5, hx108_6, hx108_7, hx108_8⟩ := at_T51 (Kd.R_reads' HO106.out).2.2 1 p108 q108; obtain rfl : ad107 = ad108 := (by injection e108); (try simp only [show (1 : Int).toNat = 1 from rfl, Nat.reduceMul, Nat.reduceEqDiff, Go.Addr.add, ↓reduceIte] at hx108_0); (try simp only [show (1 : Int).toNat = 1 from rfl, Nat.reduceMul, Nat.reduceEqDiff, Go.Addr.add, ↓reduceIte] at hx108_1); (try simp only [show (1 : Int).toNat = 1 from rfl, Nat.reduceMul, Nat.reduceEqDiff, Go.Addr.add, ↓reduceIte] at hx108_2); (try simp only [show (1 : Int).toNat = 1 from rfl, Nat.reduceMul, Nat.reduceEqDiff, Go.Addr.add, ↓reduceIte] at hx108_3); (try simp only [show (1 : Int).toNat = 1 from rfl, Nat.reduceMul, Nat.reduceEqDiff, Go.Addr.add, ↓reduceIte] at hx108_4); (try simp only [show (1 : Int).toNat = 1 from rfl, Nat.reduceMul, Nat.reduceEqDiff, Go.Addr.add, ↓reduceIte] at hx108_5); (try simp only [show (1 : Int).toNat = 1 from rfl, Nat.reduceMul, Nat.reduceEqDiff, Go.Addr.add, ↓reduceIte] at hx108_6); (try simp only [show (1 : Int).toNat = 1 from rfl, Nat.reduceMul, Nat.reduceEqDiff, Go.Addr.add, ↓reduceIte] at hx108_7); (try simp only [show (1 : Int).toNat = 1 from rfl, Nat.reduceMul, Nat.reduceEqDiff, Go.Addr.add, ↓reduceIte] at hx108_8); have qi108 : (1 < t101.length) = True := eq_true (by omega); replace p108 := eq_true p108; replace q108 := eq_true q108))
       go_ret
       exact ⟨by rfl, by repeat (with_reducible exact HB.out)⟩
     ·rw [if_neg c6] at H
      exact absurd H (by simp)
    ·obtain rfl := Option.some.inj H
     go_enter Try.func19, Try.ntmps19
     go_wp2_with ((refine callA (some 6) Try.func20 #[.string (⟨#[97, 60, 61, 56, 39, 115, 100, 53, 59]⟩ : ByteArray)] ?_; (with_reducible refine (lex_Tokens.calls k (⟨#[97, 60, 61, 56, 39, 115, 100, 53, 59]⟩ : ByteArray) t101 t102 t103 t104 _ A1.out ?side90).mono ?_); (case side90 => exact HG.out.below HB.out); rintro e w17 ⟨v105, rfl, ho0, hb⟩; refine ⟨_, rfl, ?_⟩; have HO106 := Aside0.mk (Kd.R_lower ho0 (below_size HB.out)); replace HB := hb1 HB hb; (try clear hb); (try clear ho0); obtain ⟨Ao18, co18, eo18⟩ := Kd.R_slice HO106.out; subst eo18; have p107 : 0 ≤ (0 : Int) := (by omega); have q107 : 0 < (t101.length : Int) := of_decide_eq_true (by (with_reducible assumption)); obtain ⟨ad107, e107, hx107_0, hx107_1, hx107_2, hx107_3, hx107_4, hx107_5, hx107_6, hx107_7, hx107_8⟩ := at_T51 (Kd.R_reads' HO106.out).2.2 0 p107 q107; cases e107; have qi107 : (0 < t101.length) = True := eq_true (by omega); (try rw [show (0 : Int).toNat = 0 from rfl] at hx107_0); (try rw [show 0 * 9 = 0 from rfl] at hx107_0); (try rw [Addr.add_zero'] at hx107_0); (try rw [show (0 : Int).toNat = 0 from rfl] at hx107_1); (try rw [show 0 * 9 = 0 from rfl] at hx107_1); (try rw [Addr.add_zero'] at hx107_1); (try rw [show (0 : Int).toNat = 0 from rfl] at hx107_2); (try rw [show 0 * 9 = 0 from rfl] at hx107_2); (try rw [Addr.add_zero'] at hx107_2); (try rw [show (0 : Int).toNat = 0 from rfl] at hx107_3); (try rw [show 0 * 9 = 0 from rfl] at hx107_3); (try rw [Addr.add_zero'] at hx107_3); (try rw [show (0 : Int).toNat = 0 from rfl] at hx107_4); (try rw [show 0 * 9 = 0 from rfl] at hx107_4); (try rw [Addr.add_zero'] at hx107_4); (try rw [show (0 : Int).toNat = 0 from rfl] at hx107_5); (try rw [show 0 * 9 = 0 from rfl] at hx107_5); (try rw [Addr.add_zero'] at hx107_5); (try rw [show (0 : Int).toNat = 0 from rfl] at hx107_6); (try rw [show 0 * 9 = 0 from rfl] at hx107_6); (try rw [Addr.add_zero'] at hx107_6); (try rw [show (0 : Int).toNat = 0 from rfl] at hx107_7); (try rw [show 0 * 9 = 0 from rfl] at hx107_7); (try rw [Addr.add_zero'] at hx107_7); (try rw [show (0 : Int).toNat = 0 from rfl] at hx107_8); (try rw [show 0 * 9 = 0 from rfl] at hx107_8); (try rw [Addr.add_zero'] at hx107_8); replace p107 := eq_true p107; replace q107 := eq_true q107))
     go_ret
     exact ⟨by rfl, by repeat (with_reducible exact HB.out)⟩
   ·rw [if_neg c4] at H
    exact absurd H (by simp)
  ·obtain rfl := Option.some.inj H
   go_enter Try.func19, Try.ntmps19
   go_wp2_with ((refine callA (some 6) Try.func20 #[.string (⟨#[97, 60, 61, 56, 39, 115, 100, 53, 59]⟩ : ByteArray)] ?_; (with_reducible refine (lex_Tokens.calls k (⟨#[97, 60, 61, 56, 39, 115, 100, 53, 59]⟩ : ByteArray) t101 t102 t103 t104 _ A1.out ?side90).mono ?_); (case side90 => exact HG.out.below HB.out); rintro e w19 ⟨v105, rfl, ho0, hb⟩; refine ⟨_, rfl, ?_⟩; have HO106 := Aside0.mk (Kd.R_lower ho0 (below_size HB.out)); replace HB := hb1 HB hb; (try clear hb); (try clear ho0); obtain ⟨Ao20, co20, eo20⟩ := Kd.R_slice HO106.out; subst eo20))
   go_ret
   exact ⟨by rfl, by repeat (with_reducible exact HB.out)⟩
 ·obtain rfl := Option.some.inj H
  go_enter Try.func19, Try.ntmps19
  go_wp2_with ((refine callA (some 6) Try.func20 #[.string (⟨#[97, 60, 61, 56, 39, 115, 100, 53, 59]⟩ : ByteArray)] ?_; (with_reducible refine (lex_Tokens.calls k (⟨#[97, 60, 61, 56, 39, 115, 100, 53, 59]⟩ : ByteArray) t101 t102 t103 t104 _ A1.out ?side90).mono ?_); (case side90 => exact HG.out.below HB.out); rintro e w21 ⟨v105, rfl, ho0, hb⟩; refine ⟨_, rfl, ?_⟩; have HO106 := Aside0.mk (Kd.R_lower ho0 (below_size HB.out)); replace HB := hb1 HB hb; (try clear hb); (try clear ho0)))
  go_ret
  exact ⟨by rfl, by repeat (with_reducible exact HB.out)⟩
end Go.Proofs.Ytlamgdibnnmbmaa.PLex
end
section
namespace Go.Proofs.Ytlamgdibnnmbmaa.PLex
open Go.RowKit Go.Proofs.YtlamgdibnnmbmaaW.PrintWords Go.Proofs.YtlamgdibnnmbmaaW.PrintLast Go.Proofs.YtlamgdibnnmbmaaW.PrintMore
attribute [local go_sem] max2_int min2_int max_two min_two max_three min_three max_four min_four
set_option linter.unusedVariables false
set_option linter.unusedSimpArgs false
attribute [local go_sem high] eqA51
def lex_Token.l0 : Nat → List (S51) → List (S51) → Int → Int → Option (Bool)
 | 0, _, _, _, _ => none
 | k + 1, x0, x1, x12, x13 => if x13 < x12 then (if 0 ≤ x13 then (if x13 < (x0.length : Int) then (if x13 < (x1.length : Int) then (if (!(((rd_T51 x0 x13).f0) == ((rd_T51 x1 x13).f0)) || (!(((rd_T51 x0 x13).f1) == ((rd_T51 x1 x13).f1)) || (!(((rd_T51 x0 x13).f2) == ((rd_T51 x1 x13).f2)) || (!((((rd_T51 x0 x13).f3).toList) == (((rd_T51 x1 x13).f3).toList)) || (!(((rd_T51 x0 x13).f4) == ((rd_T51 x1 x13).f4)) || ((!(((rd_T51 x0 x13).f5.f0) == ((rd_T51 x1 x13).f5.f0)) || (!(((rd_T51 x0 x13).f5.f1) == ((rd_T51 x1 x13).f5.f1)) || (!(((rd_T51 x0 x13).f5.f2) == ((rd_T51 x1 x13).f5.f2))))) || (!(((rd_T51 x0 x13).f6) == ((rd_T51 x1 x13).f6))))))))) = true then (some false) else (lex_Token.l0 k x0 x1 x12 (wrap64 (x13 + 1)))) else (none)) else (none)) else (none)) else (some true)
def lex_Token.f (k : Nat) (l0 : List (S51)) (l1 : List (S51)) : Option (Bool) := if (l0.length : Int) = (l1.length : Int) then (lex_Token.l0 k l0 l1 (l0.length : Int) 0) else (some false)
theorem lex_Token.mono_l : ∀ k, (∀ y0 y1 y2 y3, LeO (lex_Token.l0 k y0 y1 y2 y3) (lex_Token.l0 (k + 1) y0 y1 y2 y3))
 | 0 => fun _ _ _ _ r h => by simp [lex_Token.l0] at h
 | k + 1 => by
  have ih0 := lex_Token.mono_l k
  ·intro y0 y1 y2 y3
   unfold lex_Token.l0
   repeat' first
   | (with_reducible exact ih0 _ _ _ _)
   | (with_reducible exact LeO.refl _)
   | (with_reducible exact LeO.none _)
   | (with_reducible refine LeO.ite ?_ ?_)
   | (with_reducible refine LeO.bind ?_ (fun _ => ?_))
   | exact ih0 _ _ _ _
   | exact LeO.none _
   | refine LeO.ite ?_ ?_
   | refine LeO.bind ?_ (fun _ => ?_)
theorem lex_Token.mono : ∀ a0 a1 k, LeO (lex_Token.f k a0 a1) (lex_Token.f (k + 1) a0 a1) := by
 intro a0 a1 k
 have ih0 := lex_Token.mono_l k
 unfold lex_Token.f
 repeat' first
   | (with_reducible exact ih0 _ _ _ _)
   | (with_reducible exact LeO.refl _)
   | (with_reducible exact LeO.none _)
   | (with_reducible refine LeO.ite ?_ ?_)
   | (with_reducible refine LeO.bind ?_ (fun _ => ?_))
   | exact ih0 _ _ _ _
   | exact LeO.none _
   | refine LeO.ite ?_ ?_
   | refine LeO.bind ?_ (fun _ => ?_)
set_option maxHeartbeats 8000000 in
set_option maxRecDepth 100000 in
theorem lex_Token.calls (k : Nat) (A0 : Option Addr) (c0 : Nat) (l0 : List (S51)) (A1 : Option Addr) (c1 : Nat) (l1 : List (S51)) (r : Bool) (w : World) (hr0 : Kd.C k51 w A0 l0.length l0) (hc0 : l0.length ≤ c0) (hr1 : Kd.C k51 w A1 l1.length l1) (hc1 : l1.length ≤ c1) (h : lex_Token.f k l0 l1 = some r) :
  Calls Try.prog 22 #[.slice A0 l0.length c0, .slice A1 l1.length c1] w fun e w' => e = .returned (.bool r) ∧ Drawn0 w w' := by
 have hu51 := Try.underlying51
 have HR0 := Aside0.mk hr0
 have HC0 := Aside0.mk hc0
 clear hr0 hc0
 have HR1 := Aside0.mk hr1
 have HC1 := Aside0.mk hc1
 clear hr1 hc1
 have H : (if (l0.length : Int) = (l1.length : Int) then (lex_Token.l0 k l0 l1 (l0.length : Int) 0) else (some false)) = some r := h
 clear h
 by_cases c3 : (l0.length : Int) = (l1.length : Int)
 ·rw [if_pos c3] at H
  have c3b0 : ((l0.length : Int) == (l1.length : Int)) = true := beq_iff_eq.mpr c3
  have c3b1 : ((l0.length : Int) != (l1.length : Int)) = false := bne_eq_false_iff_eq.mpr c3
  have c3b2 : (l0.length == l1.length) = true := by first | simpa using c3 | (simp at c3 ⊢; omega)
  clear c3
  have H' := Aside0.mk H
  clear H
  go_enter Try.func22, Try.ntmps22
  go_wp2
  repeat (go_quiet (fail); try go_wp2)
  go_loopg [13] k (fun kq v13 w' => ∃ (x13_1 : Int), v13 = .int .i64 x13_1 ∧ Aside0 (lex_Token.l0 kq l0 l1 (l0.length : Int) x13_1 = some r) ∧ Aside0 (kq ≤ k) ∧ Drawn0 w w')
  case atStart => exact ⟨(0), (by first | rfl | (simp; done) | (simp [*]; done)), H', ⟨Nat.le_refl _⟩, by repeat (first | exact Drawn0.refl _ | apply Drawn0.step)⟩
  case round =>
   clear H'
   (try clear c1); (try clear c2); (try clear p2); (try clear c3); (try clear c3b0); (try clear c3b1); (try clear c3b2)
   obtain ⟨x13_1, rfl, HA, HK1, ⟨m1, rfl⟩⟩ := hrel
   cases gk with
   | zero => exact absurd HA.out (by simp [lex_Token.l0])
   | succ k1 =>
    have H := HA.out
    clear HA
    simp only [lex_Token.l0] at H
    by_cases c4 : x13_1 < (l0.length : Int)
    ·rw [if_pos c4] at H
     have c4b0 : decide (x13_1 < (l0.length : Int)) = true := decide_eq_true c4
     clear c4
     by_cases c5 : 0 ≤ x13_1
     ·rw [if_pos c5] at H
      have c5b0 : decide (0 ≤ x13_1) = true := decide_eq_true c5
      clear c5
      by_cases c6 : x13_1 < (l0.length : Int)
      ·rw [if_pos c6] at H
       have c6b0 : decide (x13_1 < (l0.length : Int)) = true := decide_eq_true c6
       clear c6
       by_cases c7 : x13_1 < (l1.length : Int)
       ·rw [if_pos c7] at H
        have c7b0 : decide (x13_1 < (l1.length : Int)) = true := decide_eq_true c7
        clear c7
        by_cases c8 : (!(((rd_T51 l0 x13_1).f0) == ((rd_T51 l1 x13_1).f0)) || (!(((rd_T51 l0 x13_1).f1) == ((rd_T51 l1 x13_1).f1)) || (!(((rd_T51 l0 x13_1).f2) == ((rd_T51 l1 x13_1).f2)) || (!((((rd_T51 l0 x13_1).f3).toList) == (((rd_T51 l1 x13_1).f3).toList)) || (!(((rd_T51 l0 x13_1).f4) == ((rd_T51 l1 x13_1).f4)) || ((!(((rd_T51 l0 x13_1).f5.f0) == ((rd_T51 l1 x13_1).f5.f0)) || (!(((rd_T51 l0 x13_1).f5.f1) == ((rd_T51 l1 x13_1).f5.f1)) || (!(((rd_T51 l0 x13_1).f5.f2) == ((rd_T51 l1 x13_1).f5.f2))))) || (!(((rd_T51 l0 x13_1).f6) == ((rd_T51 l1 x13_1).f6))))))))) = true
        ·rw [if_pos c8] at H
         have c8b0 : (!(((rd_T51 l0 x13_1).f0) == ((rd_T51 l1 x13_1).f0)) || (!(((rd_T51 l0 x13_1).f1) == ((rd_T51 l1 x13_1).f1)) || (!(((rd_T51 l0 x13_1).f2) == ((rd_T51 l1 x13_1).f2)) || (!((((rd_T51 l0 x13_1).f3).toList) == (((rd_T51 l1 x13_1).f3).toList)) || (!(((rd_T51 l0 x13_1).f4) == ((rd_T51 l1 x13_1).f4)) || ((!(((rd_T51 l0 x13_1).f5.f0) == ((rd_T51 l1 x13_1).f5.f0)) || (!(((rd_T51 l0 x13_1).f5.f1) == ((rd_T51 l1 x13_1).f5.f1)) || (!(((rd_T51 l0 x13_1).f5.f2) == ((rd_T51 l1 x13_1).f5.f2))))) || (!(((rd_T51 l0 x13_1).f6) == ((rd_T51 l1 x13_1).f6))))))))) = true := c8
         clear c8
         obtain rfl := Option.some.inj H
         have p111 : 0 ≤ (x13_1 : Int) := of_decide_eq_true (by first | (with_reducible assumption) | assumption)
         have q111 : x13_1 < (l0.length : Int) := of_decide_eq_true (by first | (with_reducible assumption) | assumption)
         obtain ⟨ad111, e111, hx111_0, hx111_1, hx111_2, hx111_3, hx111_4, hx111_5, hx111_6, hx111_7, hx111_8⟩ := at_T51 HR0.out x13_1 p111 q111
         cases e111
         replace p111 := eq_true p111
         replace q111 := eq_true q111
         have p112 : 0 ≤ (x13_1 : Int) := of_decide_eq_true (by first | (with_reducible assumption) | assumption)
         have q112 : x13_1 < (l1.length : Int) := of_decide_eq_true (by first | (with_reducible assumption) | assumption)
         obtain ⟨ad112, e112, hx112_0, hx112_1, hx112_2, hx112_3, hx112_4, hx112_5, hx112_6, hx112_7, hx112_8⟩ := at_T51 HR1.out x13_1 p112 q112
         cases e112
         replace p112 := eq_true p112
         replace q112 := eq_true q112
         go_wp2
         repeat (go_quiet (fail); try go_wp2)
         go_ret
         exact ⟨by first | rfl | (simp; done) | (simp [*]; done), by repeat (first | exact Drawn0.refl _ | apply Drawn0.step)⟩
        ·rw [if_neg c8] at H
         have c8b0 : (!(((rd_T51 l0 x13_1).f0) == ((rd_T51 l1 x13_1).f0)) || (!(((rd_T51 l0 x13_1).f1) == ((rd_T51 l1 x13_1).f1)) || (!(((rd_T51 l0 x13_1).f2) == ((rd_T51 l1 x13_1).f2)) || (!((((rd_T51 l0 x13_1).f3).toList) == (((rd_T51 l1 x13_1).f3).toList)) || (!(((rd_T51 l0 x13_1).f4) == ((rd_T51 l1 x13_1).f4)) || ((!(((rd_T51 l0 x13_1).f5.f0) == ((rd_T51 l1 x13_1).f5.f0)) || (!(((rd_T51 l0 x13_1).f5.f1) == ((rd_T51 l1 x13_1).f5.f1)) || (!(((rd_T51 l0 x13_1).f5.f2) == ((rd_T51 l1 x13_1).f5.f2))))) || (!(((rd_T51 l0 x13_1).f6) == ((rd_T51 l1 x13_1).f6))))))))) = false := by simpa using c8
         clear c8
         have H' := Aside0.mk H
         clear H
         have p111 : 0 ≤ (x13_1 : Int) := of_decide_eq_true (by first | (with_reducible assumption) | assumption)
         have q111 : x13_1 < (l0.length : Int) := of_decide_eq_true (by first | (with_reducible assumption) | assumption)
         obtain ⟨ad111, e111, hx111_0, hx111_1, hx111_2, hx111_3, hx111_4, hx111_5, hx111_6, hx111_7, hx111_8⟩ := at_T51 HR0.out x13_1 p111 q111
         cases e111
         replace p111 := eq_true p111
         replace q111 := eq_true q111
         have p112 : 0 ≤ (x13_1 : Int) := of_decide_eq_true (by first | (with_reducible assumption) | assumption)
         have q112 : x13_1 < (l1.length : Int) := of_decide_eq_true (by first | (with_reducible assumption) | assumption)
         obtain ⟨ad112, e112, hx112_0, hx112_1, hx112_2, hx112_3, hx112_4, hx112_5, hx112_6, hx112_7, hx112_8⟩ := at_T51 HR1.out x13_1 p112 q112
         cases e112
         replace p112 := eq_true p112
         replace q112 := eq_true q112
         go_wp2
         repeat (go_quiet (fail); try go_wp2)
         go_roundg k1
         case measure => have := HK1.out; omega
         case rel => exact ⟨(wrap64 (x13_1 + 1)), (by first | rfl | (simp; done) | (simp [*]; done)), H', ⟨by have := HK1.out; omega⟩, by repeat (first | exact Drawn0.refl _ | apply Drawn0.step)⟩
       ·rw [if_neg c7] at H
        exact absurd H (by simp)
      ·rw [if_neg c6] at H
       exact absurd H (by simp)
     ·rw [if_neg c5] at H
      exact absurd H (by simp)
    ·rw [if_neg c4] at H
     have c4b0 : decide (x13_1 < (l0.length : Int)) = false := decide_eq_false c4
     clear c4
     obtain rfl := Option.some.inj H
     go_wp2
     repeat (go_quiet (fail); try go_wp2)
     go_ret
     exact ⟨by first | rfl | (simp; done) | (simp [*]; done), by repeat (first | exact Drawn0.refl _ | apply Drawn0.step)⟩
 ·rw [if_neg c3] at H
  have c3b0 : ((l0.length : Int) == (l1.length : Int)) = false := beq_eq_false_iff_ne.mpr c3
  have c3b1 : ((l0.length : Int) != (l1.length : Int)) = true := bne_iff_ne.mpr c3
  have c3b2 : (l0.length == l1.length) = false := by first | simpa using c3 | (simp at c3 ⊢; omega)
  obtain rfl := Option.some.inj H
  go_enter Try.func22, Try.ntmps22
  go_wp2
  repeat (go_quiet (fail); try go_wp2)
  go_ret
  exact ⟨by first | rfl | (simp; done) | (simp [*]; done), by repeat (first | exact Drawn0.refl _ | apply Drawn0.step)⟩
end Go.Proofs.Ytlamgdibnnmbmaa.PLex
end
section
namespace Go.Proofs.Ytlamgdibnnmbmaa.PLex
open Go.RowKit Go.Proofs.YtlamgdibnnmbmaaW.PrintWords Go.Proofs.YtlamgdibnnmbmaaW.PrintLast Go.Proofs.YtlamgdibnnmbmaaW.PrintMore
attribute [local go_sem] max2_int min2_int max_two min_two max_three min_three max_four min_four
set_option linter.unusedVariables false
set_option linter.unusedSimpArgs false
def masklaw1_LexTokens.j0 : Nat → ByteArray → Bool → Option (Bool)
 | 0, _, _ => none
 | k + 1, x0, x22 => if x22 = true then ((masklaw1_scanned.f k).bind fun t114 => (some t114)) else ((lex_Tokens.f k x0).bind fun bt115 => ((maskref1_Tokens.f k x0).bind fun bt121 => (if bt115.2.2.2 = bt121.2.2.2 then (if bt115.2.1 = bt121.2.1 then (if bt115.2.2.1 = bt121.2.2.1 then ((lex_Token.f k bt115.1 bt121.1).bind fun t127 => (some t127)) else (some false)) else (some false)) else (some false))))
def masklaw1_LexTokens.f (k : Nat) (a0 : ByteArray) : Option (Bool) := (masklaw1_scanned.f k).bind fun t113 => (if t113 = true then (if (a0.size : Int) > 2000 then (masklaw1_LexTokens.j0 k a0 (decide ((a0.size : Int) ≤ 16000))) else (masklaw1_LexTokens.j0 k a0 false)) else (masklaw1_LexTokens.j0 k a0 true))
set_option maxHeartbeats 8000000 in
set_option maxRecDepth 100000 in
theorem masklaw1_LexTokens.calls (k : Nat) (a0 : ByteArray) (r : Bool) (w : World) (h : masklaw1_LexTokens.f k a0 = some r) (hG : Glob w) :
  Calls Try.prog 6 #[.string a0] w fun e w' => e = .returned (.bool r) ∧ Below w.heap.size w w' := by
 have HG := Aside0.mk hG
 clear hG
 have HB := Aside0.mk (Below.refl w.heap.size w)
 have H : ((masklaw1_scanned.f k).bind fun t113 => (if t113 = true then (if (a0.size : Int) > 2000 then (masklaw1_LexTokens.j0 k a0 (decide ((a0.size : Int) ≤ 16000))) else (masklaw1_LexTokens.j0 k a0 false)) else (masklaw1_LexTokens.j0 k a0 true))) = some r := h
 clear h
 have HC2 := Aside0.mk H
 clear H
 go_enter Try.func6, Try.ntmps6
 go_upto_region 1 with (fail)
 go_cut [22] (fun v22 wc => ∃ (kq : Nat) (x22_1 : Bool), v22 = .bool x22_1 ∧ Aside0 (masklaw1_LexTokens.j0 kq a0 x22_1 = some r) ∧ Aside0 (kq ≤ k) ∧ Aside0 (Below w.heap.size w wc))
 case first =>
  have H := HC2.out
  clear HC2
  replace H := Option.bind_eq_some_iff.mp H
  obtain ⟨t113, A30, H⟩ := H
  replace H : (if t113 = true then (if (a0.size : Int) > 2000 then (masklaw1_LexTokens.j0 k a0 (decide ((a0.size : Int) ≤ 16000))) else (masklaw1_LexTokens.j0 k a0 false)) else (masklaw1_LexTokens.j0 k a0 true)) = some r := H
  have A3 := Aside0.mk A30
  clear A30
  by_cases c4 : t113 = true
  ·subst c4
   have H1 : (if (a0.size : Int) > 2000 then (masklaw1_LexTokens.j0 k a0 (decide ((a0.size : Int) ≤ 16000))) else (masklaw1_LexTokens.j0 k a0 false)) = some r := by rw [if_pos rfl] at H; exact H
   clear H
   have H := H1
   clear H1
   by_cases c5 : (a0.size : Int) > 2000
   ·rw [if_pos c5] at H
    have c5b0 : decide (2000 < (a0.size : Int)) = true := decide_eq_true c5
    have c5b1 : decide (2000 < a0.size) = true := decide_eq_true (by omega)
    clear c5
    (first | rw [c5b0] | (simp only [i64_w, i32_w]; rw [c5b0]) | skip)
    have H' := Aside0.mk H
    clear H
    go_wp2_with (first | ((with_reducible refine gate_callee (f := 19) rfl ?_); refine goesL_ (some 11) rfl rfl Try.func19 (by kernel_rfl) rfl #[] rfl (by (try simp only [List.map_toArray, List.map_cons, List.map_nil]); first | done | rfl | (simp only [List.length_drop, List.length_take]; rfl)) ?_; (with_reducible refine (masklaw1_scanned.calls k  true _ A3.out ?side90).mono ?_); (case side90 => first | exact HG.out.below HB.out | exact HG.out | exact HG.out.below (HB.out.drew) | exact HG.out.below (by repeat (first | exact HB.out | apply Below.drew))); rintro e w6 ⟨rfl, hb⟩; refine ⟨_, rfl, ?_⟩; have n0_ := Aside0.mk (below_step (by repeat (first | (with_reducible first | exact HB.out | apply below_alloc | apply pw_below_drewN | apply below_drew1) | exact HB.out)) hb); clear HB; have HB := n0_; clear n0_; (try clear hb); (try clear hb2); (try clear hk); (try clear hi)))
    go_meet
    case rel => exact ⟨_, (decide ((a0.size : Int) ≤ 16000)), (by first | rfl | (simp; done) | (simp [*]; done)), H', ⟨by first | omega | exact Nat.le_refl _⟩, ⟨by repeat (first | (with_reducible first | exact HB.out | apply below_alloc | apply pw_below_drewN | apply below_drew1) | exact HB.out)⟩⟩
   ·rw [if_neg c5] at H
    have c5b0 : decide (2000 < (a0.size : Int)) = false := decide_eq_false c5
    have c5b1 : decide (2000 < a0.size) = false := decide_eq_false (by omega)
    clear c5
    (first | rw [c5b0] | (simp only [i64_w, i32_w]; rw [c5b0]) | skip)
    have H' := Aside0.mk H
    clear H
    go_wp2_with (first | ((with_reducible refine gate_callee (f := 19) rfl ?_); refine goesL_ (some 11) rfl rfl Try.func19 (by kernel_rfl) rfl #[] rfl (by (try simp only [List.map_toArray, List.map_cons, List.map_nil]); first | done | rfl | (simp only [List.length_drop, List.length_take]; rfl)) ?_; (with_reducible refine (masklaw1_scanned.calls k  true _ A3.out ?side90).mono ?_); (case side90 => first | exact HG.out.below HB.out | exact HG.out | exact HG.out.below (HB.out.drew) | exact HG.out.below (by repeat (first | exact HB.out | apply Below.drew))); rintro e w7 ⟨rfl, hb⟩; refine ⟨_, rfl, ?_⟩; have n0_ := Aside0.mk (below_step (by repeat (first | (with_reducible first | exact HB.out | apply below_alloc | apply pw_below_drewN | apply below_drew1) | exact HB.out)) hb); clear HB; have HB := n0_; clear n0_; (try clear hb); (try clear hb2); (try clear hk); (try clear hi)))
    go_meet
    case rel => exact ⟨_, (false), (by first | rfl | (simp; done) | (simp [*]; done)), H', ⟨by first | omega | exact Nat.le_refl _⟩, ⟨by repeat (first | (with_reducible first | exact HB.out | apply below_alloc | apply pw_below_drewN | apply below_drew1) | exact HB.out)⟩⟩
  ·replace c4 := Bool.eq_false_iff.mpr c4
   subst c4
   have H1 : (masklaw1_LexTokens.j0 k a0 true) = some r := by rw [if_neg (show ¬ (false = true) by decide)] at H; exact H
   clear H
   have H := H1
   clear H1
   have H' := Aside0.mk H
   clear H
   go_wp2_with (first | ((with_reducible refine gate_callee (f := 19) rfl ?_); refine goesL_ (some 11) rfl rfl Try.func19 (by kernel_rfl) rfl #[] rfl (by (try simp only [List.map_toArray, List.map_cons, List.map_nil]); first | done | rfl | (simp only [List.length_drop, List.length_take]; rfl)) ?_; (with_reducible refine (masklaw1_scanned.calls k  false _ A3.out ?side90).mono ?_); (case side90 => first | exact HG.out.below HB.out | exact HG.out | exact HG.out.below (HB.out.drew) | exact HG.out.below (by repeat (first | exact HB.out | apply Below.drew))); rintro e w8 ⟨rfl, hb⟩; refine ⟨_, rfl, ?_⟩; have n0_ := Aside0.mk (below_step (by repeat (first | (with_reducible first | exact HB.out | apply below_alloc | apply pw_below_drewN | apply below_drew1) | exact HB.out)) hb); clear HB; have HB := n0_; clear n0_; (try clear hb); (try clear hb2); (try clear hk); (try clear hi)))
   go_meet
   case rel => exact ⟨_, (true), (by first | rfl | (simp; done) | (simp [*]; done)), H', ⟨by first | omega | exact Nat.le_refl _⟩, ⟨by repeat (first | (with_reducible first | exact HB.out | apply below_alloc | apply pw_below_drewN | apply below_drew1) | exact HB.out)⟩⟩
 case rest =>
  clear HC2
  (try clear c1); (try clear p2); (try clear c4); (try clear c5); (try clear c5b0); (try clear c5b1); (try clear c6)
  obtain ⟨kq, x22_1, rfl, HA, HJ1, HB⟩ := hcut
  cases kq with
  | zero => exact absurd HA.out (by simp [masklaw1_LexTokens.j0])
  | succ kj1 =>
   have H := HA.out
   clear HA
   simp only [masklaw1_LexTokens.j0] at H
   by_cases c9 : x22_1 = true
   ·subst c9
    have H1 : ((masklaw1_scanned.f kj1).bind fun t114 => (some t114)) = some r := by rw [if_pos rfl] at H; exact H
    clear H
    have H := H1
    clear H1
    replace H := Option.bind_eq_some_iff.mp H
    obtain ⟨t114, A100, H⟩ := H
    replace H : (some t114) = some r := H
    have A10 := Aside0.mk A100
    clear A100
    obtain rfl := Option.some.inj H
    go_wp2_with (first | ((with_reducible refine gate_callee (f := 19) rfl ?_); refine goesL_ (some 23) rfl rfl Try.func19 (by kernel_rfl) rfl #[] rfl (by (try simp only [List.map_toArray, List.map_cons, List.map_nil]); first | done | rfl | (simp only [List.length_drop, List.length_take]; rfl)) ?_; (with_reducible refine (masklaw1_scanned.calls kj1  t114 _ A10.out ?side90).mono ?_); (case side90 => first | exact HG.out.below HB.out | exact HG.out | exact HG.out.below (HB.out.drew) | exact HG.out.below (by repeat (first | exact HB.out | apply Below.drew))); rintro e w11 ⟨rfl, hb⟩; refine ⟨_, rfl, ?_⟩; have n0_ := Aside0.mk (below_step (by repeat (first | (with_reducible first | exact HB.out | apply below_alloc | apply pw_below_drewN | apply below_drew1) | exact HB.out)) hb); clear HB; have HB := n0_; clear n0_; (try clear hb); (try clear hb2); (try clear hk); (try clear hi)))
    go_ret
    exact ⟨by first | rfl | (simp [errW_none, errW_some] <;> rfl) | (simp [*, errW_none, errW_some] <;> rfl), by repeat (first | (with_reducible first | exact HB.out | apply below_alloc | apply pw_below_drewN | apply below_drew1) | exact HB.out)⟩
   ·replace c9 := Bool.eq_false_iff.mpr c9
    subst c9
    have H1 : ((lex_Tokens.f kj1 a0).bind fun bt115 => ((maskref1_Tokens.f kj1 a0).bind fun bt121 => (if bt115.2.2.2 = bt121.2.2.2 then (if bt115.2.1 = bt121.2.1 then (if bt115.2.2.1 = bt121.2.2.1 then ((lex_Token.f kj1 bt115.1 bt121.1).bind fun t127 => (some t127)) else (some false)) else (some false)) else (some false)))) = some r := by rw [if_neg (show ¬ (false = true) by decide)] at H; exact H
    clear H
    have H := H1
    clear H1
    replace H := Option.bind_eq_some_iff.mp H
    obtain ⟨⟨t115, t116, t117, t118⟩, A120, H⟩ := H
    replace H : ((maskref1_Tokens.f kj1 a0).bind fun bt121 => (if t118 = bt121.2.2.2 then (if t116 = bt121.2.1 then (if t117 = bt121.2.2.1 then ((lex_Token.f kj1 t115 bt121.1).bind fun t127 => (some t127)) else (some false)) else (some false)) else (some false))) = some r := H
    have A12 := Aside0.mk A120
    clear A120
    replace H := Option.bind_eq_some_iff.mp H
    obtain ⟨⟨t121, t122, t123, t124⟩, A130, H⟩ := H
    replace H : (if t118 = t124 then (if t116 = t122 then (if t117 = t123 then ((lex_Token.f kj1 t115 t121).bind fun t127 => (some t127)) else (some false)) else (some false)) else (some false)) = some r := H
    have A13 := Aside0.mk A130
    clear A130
    by_cases c14 : t118 = t124
    ·rw [if_pos c14] at H
     have c14b0 : (t118 == t124) = true := beq_iff_eq.mpr c14
     have c14b1 : (t118 != t124) = false := bne_eq_false_iff_eq.mpr c14
     clear c14
     by_cases c15 : t116 = t122
     ·rw [if_pos c15] at H
      have c15b0 : (t116 == t122) = true := beq_iff_eq.mpr c15
      have c15b1 : (t116 != t122) = false := bne_eq_false_iff_eq.mpr c15
      clear c15
      by_cases c16 : t117 = t123
      ·rw [if_pos c16] at H
       have c16b0 : (t117 == t123) = true := beq_iff_eq.mpr c16
       have c16b1 : (t117 != t123) = false := bne_eq_false_iff_eq.mpr c16
       clear c16
       replace H := Option.bind_eq_some_iff.mp H
       obtain ⟨t127, A170, H⟩ := H
       replace H : (some t127) = some r := H
       have A17 := Aside0.mk A170
       clear A170
       obtain rfl := Option.some.inj H
       go_wp2_with (first | ((with_reducible refine gate_callee (f := 20) rfl ?_); refine goesL_ (some 26) rfl rfl Try.func20 (by kernel_rfl) rfl #[.string a0] rfl (by (try simp only [List.map_toArray, List.map_cons, List.map_nil]); first | done | rfl | (simp only [List.length_drop, List.length_take]; rfl)) ?_; (with_reducible refine (lex_Tokens.calls kj1 a0 t115 t116 t117 t118 _ A12.out ?side90).mono ?_); (case side90 => first | exact HG.out.below HB.out | exact HG.out | exact HG.out.below (HB.out.drew) | exact HG.out.below (by repeat (first | exact HB.out | apply Below.drew))); rintro e w18 ⟨v119, rfl, ho0, hb⟩; refine ⟨_, rfl, ?_⟩; have n0_ := Aside0.mk (Kd.R_lower ho0 (below_size (by repeat (first | (with_reducible first | exact HB.out | apply below_alloc | apply pw_below_drewN | apply below_drew1) | exact HB.out)))); have n1_ := Aside0.mk (below_step (by repeat (first | (with_reducible first | exact HB.out | apply below_alloc | apply pw_below_drewN | apply below_drew1) | exact HB.out)) hb); clear HB; have HO120 := n0_; have HB := n1_; clear n0_ n1_; (try clear hb); (try clear hb2); (try clear hk); (try clear hi); (try clear ho0)) | ((with_reducible refine gate_callee (f := 21) rfl ?_); refine goesL_ (some 33) rfl rfl Try.func21 (by kernel_rfl) rfl #[.string a0] rfl (by (try simp only [List.map_toArray, List.map_cons, List.map_nil]); first | done | rfl | (simp only [List.length_drop, List.length_take]; rfl)) ?_; (with_reducible refine (maskref1_Tokens.calls kj1 a0 t121 t122 t123 t124 _ A13.out).mono ?_); rintro e w19 ⟨v125, rfl, ho0, hb⟩; refine ⟨_, rfl, ?_⟩; have n0_ := Aside0.mk (Kd.R_elder' (by (with_reducible repeat (first | apply Kd.R_alloc | apply Kd.R_drewN | apply Kd.R_drew)); exact HO120.out) (Kd.R_base ho0) hb); have n1_ := Aside0.mk (Kd.R_lower (Kd.R_new' ho0 (Kd.R_lt (by (with_reducible repeat (first | apply Kd.R_alloc | apply Kd.R_drewN | apply Kd.R_drew)); exact HO120.out))) (below_size (by repeat (first | (with_reducible first | exact HB.out | apply below_alloc | apply pw_below_drewN | apply below_drew1) | exact HB.out)))); have n2_ := Aside0.mk (below_step (by repeat (first | (with_reducible first | exact HB.out | apply below_alloc | apply pw_below_drewN | apply below_drew1) | exact HB.out)) hb); clear HO120; clear HB; have HO120 := n0_; have HO126 := n1_; have HB := n2_; clear n0_ n1_ n2_; (try clear hb); (try clear hb2); (try clear hk); (try clear hi); (try clear ho0); obtain ⟨Ao20, co20, eo20⟩ := Kd.R_slice HO120.out; subst eo20; obtain ⟨Ao21, co21, eo21⟩ := Kd.R_slice HO126.out; subst eo21) | (go_at_call 22; (with_reducible refine (lex_Token.calls kj1 _ _ t115 _ _ t121 t127 _ ?side1 ?side2 ?side3 ?side4 A17.out).mono ?_); (case side1 => repeat (first | exact (Kd.R_reads' HO120.out).2.2 | (with_reducible refine Kd.C_alloc ?_ _) | (with_reducible refine Kd.C_drewN ?_ _) | (with_reducible refine Kd.C_drew ?_))); (case side2 => exact (Kd.R_reads' HO120.out).2.1); (case side3 => repeat (first | exact (Kd.R_reads' HO126.out).2.2 | (with_reducible refine Kd.C_alloc ?_ _) | (with_reducible refine Kd.C_drewN ?_ _) | (with_reducible refine Kd.C_drew ?_))); (case side4 => exact (Kd.R_reads' HO126.out).2.1); rintro e w' ⟨rfl, ⟨nd, rfl⟩⟩))
       go_ret
       exact ⟨by first | rfl | (simp [errW_none, errW_some] <;> rfl) | (simp [*, errW_none, errW_some] <;> rfl), by repeat (first | (with_reducible first | exact HB.out | apply below_alloc | apply pw_below_drewN | apply below_drew1) | exact HB.out)⟩
      ·rw [if_neg c16] at H
       have c16b0 : (t117 == t123) = false := beq_eq_false_iff_ne.mpr c16
       have c16b1 : (t117 != t123) = true := bne_iff_ne.mpr c16
       obtain rfl := Option.some.inj H
       go_wp2_with (first | ((with_reducible refine gate_callee (f := 20) rfl ?_); refine goesL_ (some 26) rfl rfl Try.func20 (by kernel_rfl) rfl #[.string a0] rfl (by (try simp only [List.map_toArray, List.map_cons, List.map_nil]); first | done | rfl | (simp only [List.length_drop, List.length_take]; rfl)) ?_; (with_reducible refine (lex_Tokens.calls kj1 a0 t115 t116 t117 t118 _ A12.out ?side90).mono ?_); (case side90 => first | exact HG.out.below HB.out | exact HG.out | exact HG.out.below (HB.out.drew) | exact HG.out.below (by repeat (first | exact HB.out | apply Below.drew))); rintro e w22 ⟨v119, rfl, ho0, hb⟩; refine ⟨_, rfl, ?_⟩; have n0_ := Aside0.mk (Kd.R_lower ho0 (below_size (by repeat (first | (with_reducible first | exact HB.out | apply below_alloc | apply pw_below_drewN | apply below_drew1) | exact HB.out)))); have n1_ := Aside0.mk (below_step (by repeat (first | (with_reducible first | exact HB.out | apply below_alloc | apply pw_below_drewN | apply below_drew1) | exact HB.out)) hb); clear HB; have HO120 := n0_; have HB := n1_; clear n0_ n1_; (try clear hb); (try clear hb2); (try clear hk); (try clear hi); (try clear ho0)) | ((with_reducible refine gate_callee (f := 21) rfl ?_); refine goesL_ (some 33) rfl rfl Try.func21 (by kernel_rfl) rfl #[.string a0] rfl (by (try simp only [List.map_toArray, List.map_cons, List.map_nil]); first | done | rfl | (simp only [List.length_drop, List.length_take]; rfl)) ?_; (with_reducible refine (maskref1_Tokens.calls kj1 a0 t121 t122 t123 t124 _ A13.out).mono ?_); rintro e w23 ⟨v125, rfl, ho0, hb⟩; refine ⟨_, rfl, ?_⟩; have n0_ := Aside0.mk (Kd.R_elder' (by (with_reducible repeat (first | apply Kd.R_alloc | apply Kd.R_drewN | apply Kd.R_drew)); exact HO120.out) (Kd.R_base ho0) hb); have n1_ := Aside0.mk (Kd.R_lower (Kd.R_new' ho0 (Kd.R_lt (by (with_reducible repeat (first | apply Kd.R_alloc | apply Kd.R_drewN | apply Kd.R_drew)); exact HO120.out))) (below_size (by repeat (first | (with_reducible first | exact HB.out | apply below_alloc | apply pw_below_drewN | apply below_drew1) | exact HB.out)))); have n2_ := Aside0.mk (below_step (by repeat (first | (with_reducible first | exact HB.out | apply below_alloc | apply pw_below_drewN | apply below_drew1) | exact HB.out)) hb); clear HO120; clear HB; have HO120 := n0_; have HO126 := n1_; have HB := n2_; clear n0_ n1_ n2_; (try clear hb); (try clear hb2); (try clear hk); (try clear hi); (try clear ho0)))
       go_ret
       exact ⟨by first | rfl | (simp [errW_none, errW_some] <;> rfl) | (simp [*, errW_none, errW_some] <;> rfl), by repeat (first | (with_reducible first | exact HB.out | apply below_alloc | apply pw_below_drewN | apply below_drew1) | exact HB.out)⟩
     ·rw [if_neg c15] at H
      have c15b0 : (t116 == t122) = false := beq_eq_false_iff_ne.mpr c15
      have c15b1 : (t116 != t122) = true := bne_iff_ne.mpr c15
      obtain rfl := Option.some.inj H
      go_wp2_with (first | ((with_reducible refine gate_callee (f := 20) rfl ?_); refine goesL_ (some 26) rfl rfl Try.func20 (by kernel_rfl) rfl #[.string a0] rfl (by (try simp only [List.map_toArray, List.map_cons, List.map_nil]); first | done | rfl | (simp only [List.length_drop, List.length_take]; rfl)) ?_; (with_reducible refine (lex_Tokens.calls kj1 a0 t115 t116 t117 t118 _ A12.out ?side90).mono ?_); (case side90 => first | exact HG.out.below HB.out | exact HG.out | exact HG.out.below (HB.out.drew) | exact HG.out.below (by repeat (first | exact HB.out | apply Below.drew))); rintro e w24 ⟨v119, rfl, ho0, hb⟩; refine ⟨_, rfl, ?_⟩; have n0_ := Aside0.mk (Kd.R_lower ho0 (below_size (by repeat (first | (with_reducible first | exact HB.out | apply below_alloc | apply pw_below_drewN | apply below_drew1) | exact HB.out)))); have n1_ := Aside0.mk (below_step (by repeat (first | (with_reducible first | exact HB.out | apply below_alloc | apply pw_below_drewN | apply below_drew1) | exact HB.out)) hb); clear HB; have HO120 := n0_; have HB := n1_; clear n0_ n1_; (try clear hb); (try clear hb2); (try clear hk); (try clear hi); (try clear ho0)) | ((with_reducible refine gate_callee (f := 21) rfl ?_); refine goesL_ (some 33) rfl rfl Try.func21 (by kernel_rfl) rfl #[.string a0] rfl (by (try simp only [List.map_toArray, List.map_cons, List.map_nil]); first | done | rfl | (simp only [List.length_drop, List.length_take]; rfl)) ?_; (with_reducible refine (maskref1_Tokens.calls kj1 a0 t121 t122 t123 t124 _ A13.out).mono ?_); rintro e w25 ⟨v125, rfl, ho0, hb⟩; refine ⟨_, rfl, ?_⟩; have n0_ := Aside0.mk (Kd.R_elder' (by (with_reducible repeat (first | apply Kd.R_alloc | apply Kd.R_drewN | apply Kd.R_drew)); exact HO120.out) (Kd.R_base ho0) hb); have n1_ := Aside0.mk (Kd.R_lower (Kd.R_new' ho0 (Kd.R_lt (by (with_reducible repeat (first | apply Kd.R_alloc | apply Kd.R_drewN | apply Kd.R_drew)); exact HO120.out))) (below_size (by repeat (first | (with_reducible first | exact HB.out | apply below_alloc | apply pw_below_drewN | apply below_drew1) | exact HB.out)))); have n2_ := Aside0.mk (below_step (by repeat (first | (with_reducible first | exact HB.out | apply below_alloc | apply pw_below_drewN | apply below_drew1) | exact HB.out)) hb); clear HO120; clear HB; have HO120 := n0_; have HO126 := n1_; have HB := n2_; clear n0_ n1_ n2_; (try clear hb); (try clear hb2); (try clear hk); (try clear hi); (try clear ho0)))
      go_ret
      exact ⟨by first | rfl | (simp [errW_none, errW_some] <;> rfl) | (simp [*, errW_none, errW_some] <;> rfl), by repeat (first | (with_reducible first | exact HB.out | apply below_alloc | apply pw_below_drewN | apply below_drew1) | exact HB.out)⟩
    ·rw [if_neg c14] at H
     have c14b0 : (t118 == t124) = false := beq_eq_false_iff_ne.mpr c14
     have c14b1 : (t118 != t124) = true := bne_iff_ne.mpr c14
     obtain rfl := Option.some.inj H
     go_wp2_with (first | ((with_reducible refine gate_callee (f := 20) rfl ?_); refine goesL_ (some 26) rfl rfl Try.func20 (by kernel_rfl) rfl #[.string a0] rfl (by (try simp only [List.map_toArray, List.map_cons, List.map_nil]); first | done | rfl | (simp only [List.length_drop, List.length_take]; rfl)) ?_; (with_reducible refine (lex_Tokens.calls kj1 a0 t115 t116 t117 t118 _ A12.out ?side90).mono ?_); (case side90 => first | exact HG.out.below HB.out | exact HG.out | exact HG.out.below (HB.out.drew) | exact HG.out.below (by repeat (first | exact HB.out | apply Below.drew))); rintro e w26 ⟨v119, rfl, ho0, hb⟩; refine ⟨_, rfl, ?_⟩; have n0_ := Aside0.mk (Kd.R_lower ho0 (below_size (by repeat (first | (with_reducible first | exact HB.out | apply below_alloc | apply pw_below_drewN | apply below_drew1) | exact HB.out)))); have n1_ := Aside0.mk (below_step (by repeat (first | (with_reducible first | exact HB.out | apply below_alloc | apply pw_below_drewN | apply below_drew1) | exact HB.out)) hb); clear HB; have HO120 := n0_; have HB := n1_; clear n0_ n1_; (try clear hb); (try clear hb2); (try clear hk); (try clear hi); (try clear ho0)) | ((with_reducible refine gate_callee (f := 21) rfl ?_); refine goesL_ (some 33) rfl rfl Try.func21 (by kernel_rfl) rfl #[.string a0] rfl (by (try simp only [List.map_toArray, List.map_cons, List.map_nil]); first | done | rfl | (simp only [List.length_drop, List.length_take]; rfl)) ?_; (with_reducible refine (maskref1_Tokens.calls kj1 a0 t121 t122 t123 t124 _ A13.out).mono ?_); rintro e w27 ⟨v125, rfl, ho0, hb⟩; refine ⟨_, rfl, ?_⟩; have n0_ := Aside0.mk (Kd.R_elder' (by (with_reducible repeat (first | apply Kd.R_alloc | apply Kd.R_drewN | apply Kd.R_drew)); exact HO120.out) (Kd.R_base ho0) hb); have n1_ := Aside0.mk (Kd.R_lower (Kd.R_new' ho0 (Kd.R_lt (by (with_reducible repeat (first | apply Kd.R_alloc | apply Kd.R_drewN | apply Kd.R_drew)); exact HO120.out))) (below_size (by repeat (first | (with_reducible first | exact HB.out | apply below_alloc | apply pw_below_drewN | apply below_drew1) | exact HB.out)))); have n2_ := Aside0.mk (below_step (by repeat (first | (with_reducible first | exact HB.out | apply below_alloc | apply pw_below_drewN | apply below_drew1) | exact HB.out)) hb); clear HO120; clear HB; have HO120 := n0_; have HO126 := n1_; have HB := n2_; clear n0_ n1_ n2_; (try clear hb); (try clear hb2); (try clear hk); (try clear hi); (try clear ho0)))
     go_ret
     exact ⟨by first | rfl | (simp [errW_none, errW_some] <;> rfl) | (simp [*, errW_none, errW_some] <;> rfl), by repeat (first | (with_reducible first | exact HB.out | apply below_alloc | apply pw_below_drewN | apply below_drew1) | exact HB.out)⟩
end Go.Proofs.Ytlamgdibnnmbmaa.PLex
end
section
namespace Go.Proofs.Ytlamgdibnnmbmaa.Bz
open Go.RowKit Go.Proofs.YtlamgdibnnmbmaaW.PrintWords Go.Proofs.YtlamgdibnnmbmaaW.PrintLast Go.Proofs.YtlamgdibnnmbmaaW.PrintMore
set_option linter.unusedVariables false
set_option linter.unusedSimpArgs false
theorem wrap_u64_nat (n : Nat) (h : n < 18446744073709551616) : IntKind.u64.wrap (n : Int) = (n : Int) := by
  rw [IntKind.wrap_u64]; omega
theorem and_n (a b : Nat) (ha : a < 2 ^ 64) (hb : b < 2 ^ 64) : Go.bits .and .u64 (a : Int) (b : Int) = ((a &&& b : Nat) : Int) := u64_and_nat a b ha hb
theorem or_n (a b : Nat) (ha : a < 2 ^ 64) (hb : b < 2 ^ 64) : Go.bits .or .u64 (a : Int) (b : Int) = ((a ||| b : Nat) : Int) := u64_or_nat a b ha hb
def andn (a b : Nat) : Nat := a &&& (18446744073709551615 - b)
theorem andNot_n (a b : Nat) (ha : a < 2 ^ 64) (hb : b < 2 ^ 64) : Go.bits .andNot .u64 (a : Int) (b : Int) = ((andn a b : Nat) : Int) := u64_andNot_nat a b ha hb
theorem testBit_andn (a b i : Nat) (ha : a < 2 ^ 64) (hb : b < 2 ^ 64) : (andn a b).testBit i = (a.testBit i && !b.testBit i) := by
  unfold andn
  rw [Nat.testBit_and, show 18446744073709551615 - b = 2 ^ 64 - (b + 1) from by omega, Nat.testBit_two_pow_sub_succ hb]
  by_cases hi : i < 64
  · simp [hi]
  · rw [Nat.testBit_lt_two_pow (Nat.lt_of_lt_of_le ha (Nat.pow_le_pow_right (by decide) (by omega)))]; simp
theorem and_lt {a b n : Nat} (ha : a < 2 ^ n) : a &&& b < 2 ^ n := Nat.lt_of_le_of_lt Nat.and_le_left ha
theorem and_lt' {a b n : Nat} (hb : b < 2 ^ n) : a &&& b < 2 ^ n := Nat.lt_of_le_of_lt Nat.and_le_right hb
theorem or_lt {a b n : Nat} (ha : a < 2 ^ n) (hb : b < 2 ^ n) : a ||| b < 2 ^ n := Nat.or_lt_two_pow ha hb
theorem andn_lt {a b n : Nat} (ha : a < 2 ^ n) : andn a b < 2 ^ n := and_lt ha
theorem shl_n (a i : Nat) : shl .u64 (a : Int) (i : Int) = ((a <<< i % 2 ^ 64 : Nat) : Int) := by
  unfold shl
  rw [IntKind.wrap_u64, Nat.shiftLeft_eq, Int.toNat_natCast, show IntKind.u64.bits = 64 from rfl]
  by_cases h : i ≤ 64
  · rw [Nat.min_eq_left h, Int.natCast_emod, Int.natCast_mul, Int.natCast_pow]; rfl
  · rw [Nat.min_eq_right (by omega)]
    have h1 : a * 2 ^ i % 2 ^ 64 = 0 := by
      rw [show i = 64 + (i - 64) from by omega, Nat.pow_add, Nat.mul_left_comm]
      exact Nat.mul_mod_right _ _
    rw [h1]
    have h2 : (a : Int) * 18446744073709551616 % 18446744073709551616 = 0 := by omega
    exact h2
theorem shr_n (a i : Nat) (ha : a < 2 ^ 64) : shr .u64 (a : Int) (i : Int) = ((a >>> i : Nat) : Int) := by
  unfold shr
  rw [Nat.shiftRight_eq_div_pow, Int.toNat_natCast, show IntKind.u64.bits = 64 from rfl]
  by_cases h : i ≤ 64
  · rw [Nat.min_eq_left h]; push_cast; rfl
  · rw [Nat.min_eq_right (by omega)]
    have h1 : a / 2 ^ i = 0 := Nat.div_eq_of_lt (Nat.lt_of_lt_of_le ha (Nat.pow_le_pow_right (by decide) (by omega)))
    rw [h1]
    have h2 : (a : Int) / 2 ^ 64 = 0 := by omega
    exact h2
theorem testBit_one (i : Nat) : (1 : Nat).testBit i = decide (i = 0) := by
  cases i with
  | zero => rfl
  | succ n => rw [Nat.testBit_succ]; simp
theorem testBit_shl (a i j : Nat) : (a <<< i % 2 ^ 64).testBit j = (decide (j < 64) && (decide (i ≤ j) && a.testBit (j - i))) := by
  rw [Nat.testBit_mod_two_pow, Nat.testBit_shiftLeft]
theorem bitof (a i : Nat) (ha : a < 2 ^ 64) : Go.bits .and .u64 (shr .u64 (a : Int) (i : Int)) 1 = if a.testBit i then 1 else 0 := by
  rw [shr_n a i ha, show (1 : Int) = ((1 : Nat) : Int) from rfl, and_n _ _ (Nat.lt_of_le_of_lt (Nat.shiftRight_le a i) ha) (by decide), Nat.and_one_is_mod, Nat.testBit_eq_decide_div_mod_eq, Nat.shiftRight_eq_div_pow]
  by_cases h : a / 2 ^ i % 2 = 1
  · simp [h]
  · have h0 : a / 2 ^ i % 2 = 0 := by omega
    simp [h0]
theorem one_shl (i : Nat) : shl .u64 1 (i : Int) = ((1 <<< i % 2 ^ 64 : Nat) : Int) := shl_n 1 i
theorem one_shl_lt (i : Nat) : 1 <<< i % 2 ^ 64 < 2 ^ 64 := Nat.mod_lt _ (by decide)
def msk (w : Nat) : Nat := 2 ^ min w 64 - 1
theorem msk_lt (w : Nat) : msk w < 2 ^ 64 := by
  unfold msk
  have : 2 ^ min w 64 ≤ 2 ^ 64 := Nat.pow_le_pow_right (by decide) (Nat.min_le_right _ _)
  have : 0 < 2 ^ min w 64 := Nat.pos_of_ne_zero (by simp)
  omega
theorem testBit_msk (w i : Nat) : (msk w).testBit i = decide (i < w ∧ i < 64) := by
  unfold msk
  rw [Nat.testBit_two_pow_sub_one]
  congr 1
  exact propext Nat.lt_min
theorem msk_lt' {w : Nat} (h : w ≤ 64) : msk w < 2 ^ w := by
  unfold msk
  rw [Nat.min_eq_left h]
  have : 0 < 2 ^ w := Nat.pos_of_ne_zero (by simp)
  omega
theorem lt_of_bits {v w : Nat} (h : ∀ i, w ≤ i → v.testBit i = false) : v < 2 ^ w := Nat.lt_pow_two_of_testBit v (fun i hi => h i hi)
theorem bit_out {v w i : Nat} (h : v < 2 ^ w) (hi : w ≤ i) : v.testBit i = false := Nat.testBit_lt_two_pow (Nat.lt_of_lt_of_le h (Nat.pow_le_pow_right (by decide) hi))
theorem lt64 {v w : Nat} (h : v < 2 ^ w) (hw : w ≤ 64) : v < 2 ^ 64 := Nat.lt_of_lt_of_le h (Nat.pow_le_pow_right (by decide) hw)
def one (c : Int) : Bool := c == 49 || c == 120
def unk (c : Int) : Bool := c == 120 || c == 122
def stb (v x : Bool) : Int := if x then (if v then 120 else 122) else (if v then 49 else 48)
def st (v x i : Nat) : Int := stb (v.testBit i) (x.testBit i)
def isSt (c : Int) : Prop := c = 48 ∨ c = 49 ∨ c = 120 ∨ c = 122
theorem stb_is (v x : Bool) : isSt (stb v x) := by cases v <;> cases x <;> simp [stb, isSt]
theorem one_stb (v x : Bool) : one (stb v x) = v := by cases v <;> cases x <;> simp [stb, one]
theorem unk_stb (v x : Bool) : unk (stb v x) = x := by cases v <;> cases x <;> simp [stb, unk]
def vs (w v x : Nat) : List Int := (List.range w).map (st v x)
theorem vs_length (w v x : Nat) : (vs w v x).length = w := by simp [vs]
theorem vs_getD (w v x i : Nat) (h : i < w) : (vs w v x).getD i 0 = st v x i := by simp [vs, List.getD_eq_getElem?_getD, h]
theorem vs_get (w v x i : Nat) (h : i < w) : (vs w v x)[i]'(by simp [vs, h]) = st v x i := by simp [vs]
theorem vs_succ (w v x : Nat) : vs (w + 1) v x = vs w v x ++ [st v x w] := by simp [vs, List.range_succ]
theorem rd_vs (w v x i : Nat) (h : i < w) : rd (vs w v x) (i : Int) = st v x i := by unfold rd; rw [Int.toNat_natCast]; exact vs_getD w v x i h
def num (f : Int → Bool) (l : List Int) : Nat := (List.range l.length).foldl (fun a i => if f (l.getD i 0) then a ||| 1 <<< i else a) 0
theorem num_go (f : Int → Bool) (l : List Int) (n : Nat) : ∀ i, ((List.range n).foldl (fun a i => if f (l.getD i 0) then a ||| 1 <<< i else a) 0).testBit i = (decide (i < n) && f (l.getD i 0)) := by
  induction n with
  | zero => intro i; simp
  | succ n ih =>
    intro i
    rw [List.range_succ, List.foldl_append]
    simp only [List.foldl_cons, List.foldl_nil]
    by_cases hf : f (l.getD n 0) = true
    · rw [if_pos hf, Nat.testBit_or, ih, Nat.testBit_shiftLeft]
      by_cases h : i = n
      · subst h; rw [hf]; simp
      · by_cases h2 : i < n
        · have h3 : ¬ n ≤ i := by omega
          have h4 : i < n + 1 := by omega
          simp [h2, h3, h4]
        · have h3 : n ≤ i := by omega
          have h4 : ¬ i < n + 1 := by omega
          have h5 : i - n ≠ 0 := by omega
          simp [h2, h3, h4, testBit_one, h5]
    · rw [if_neg hf, ih]
      by_cases h : i = n
      · subst h; rw [Bool.not_eq_true] at hf; rw [hf]; simp
      · by_cases h2 : i < n
        · have h4 : i < n + 1 := by omega
          simp [h2, h4]
        · have h4 : ¬ i < n + 1 := by omega
          simp [h2, h4]
theorem testBit_num (f : Int → Bool) (l : List Int) (i : Nat) : (num f l).testBit i = (decide (i < l.length) && f (l.getD i 0)) := num_go f l l.length i
theorem num_one_vs {w v x : Nat} (hv : v < 2 ^ w) : num one (vs w v x) = v := by
  apply Nat.eq_of_testBit_eq
  intro i
  rw [testBit_num, vs_length]
  by_cases hi : i < w
  · rw [vs_getD _ _ _ _ hi]; simp [hi, st, one_stb]
  · rw [bit_out hv (by omega)]; simp [hi]
theorem num_unk_vs {w v x : Nat} (hx : x < 2 ^ w) : num unk (vs w v x) = x := by
  apply Nat.eq_of_testBit_eq
  intro i
  rw [testBit_num, vs_length]
  by_cases hi : i < w
  · rw [vs_getD _ _ _ _ hi]; simp [hi, st, unk_stb]
  · rw [bit_out hx (by omega)]; simp [hi]
theorem num_eq {l : List Int} {v x : Nat} (hv : v < 2 ^ l.length) (hx : x < 2 ^ l.length) (h : ∀ i, i < l.length → l.getD i 0 = st v x i) : num one l = v ∧ num unk l = x := by
  have e : l = vs l.length v x := by
    apply List.ext_getElem
    · simp [vs]
    · intro i h1 h2
      rw [vs_get _ _ _ i h1]
      have := h i h1
      rwa [List.getD_eq_getElem?_getD, List.getElem?_eq_getElem h1, Option.getD_some] at this
  constructor
  · rw [e]; exact num_one_vs hv
  · rw [e]; exact num_unk_vs hx
end Go.Proofs.Ytlamgdibnnmbmaa.Bz
end
section
namespace Go.Proofs.YtlamgdibnnmbmaaW.PrintWords
set_option linter.unusedVariables false
section
variable {α β : Type} {f g : Nat → Option α} {r : α} {c : Prop} [Decidable c]
theorem Ev.pos (h : c) (k : Ev f r) : Ev (fun n => if c then f n else g n) r := Ev.congr (fun n => if_pos h) k
theorem Ev.neg (h : ¬ c) (k : Ev g r) : Ev (fun n => if c then f n else g n) r := Ev.congr (fun n => if_neg h) k
theorem Ev.val {o : Option α} (h : o = some r) : Ev (fun _ => o) r := Ev.congr (fun _ => h) (Ev.now r)
theorem Ev.bnd {o : Option α} {F : Nat → α → Option β} {b : β} (h : o = some r) (k : Ev (fun n => F n r) b) : Ev (fun n => o.bind (F n)) b := Ev.congr (fun n => by rw [h]; rfl) k
theorem Ev.eq {s : α} (k : Ev f s) (h : s = r) : Ev f r := h ▸ k
end
end Go.Proofs.YtlamgdibnnmbmaaW.PrintWords
namespace Go.Proofs.Ytlamgdibnnmbmaa.PLex
open Go.RowKit Go.Proofs.YtlamgdibnnmbmaaW.PrintWords Go.Proofs.YtlamgdibnnmbmaaW.PrintLast Go.Proofs.YtlamgdibnnmbmaaW.PrintMore Go.Proofs.Ytlamgdibnnmbmaa.Bz
set_option linter.unusedVariables false
set_option linter.unusedSimpArgs false
theorem bzw64 {n : Int} (h : -9223372036854775808 ≤ n ∧ n ≤ 9223372036854775807) : wrap64 n = n := by unfold wrap64; omega
theorem mask_is (w : Nat) : bits_mask.f (w : Int) = some ((msk w : Nat) : Int) := by
  unfold bits_mask.f
  by_cases h : 64 ≤ w
  · rw [if_pos (by omega)]
    unfold msk
    rw [Nat.min_eq_right h]; rfl
  · rw [if_neg (by omega), if_pos (by omega), one_shl, IntKind.wrap_u64]
    unfold msk
    rw [Nat.min_eq_left (by omega), Nat.one_shiftLeft, Nat.mod_eq_of_lt (Nat.pow_lt_pow_right (by decide) (by omega))]
    have h1 : 2 ^ w < 2 ^ 64 := Nat.pow_lt_pow_right (by decide) (by omega)
    have h2 : 0 < 2 ^ w := Nat.pos_of_ne_zero (by simp)
    generalize 2 ^ w = q at h1 h2
    congr 1
    omega
def okB (W : Int) (v x : Nat) : Bool := decide (1 ≤ W ∧ W ≤ 64 ∧ v < 2 ^ W.toNat ∧ x < 2 ^ W.toNat)
theorem okB_nat {W : Int} {v x : Nat} (h : okB W v x = true) : ∃ w : Nat, W = (w : Int) ∧ 1 ≤ w ∧ w ≤ 64 ∧ v < 2 ^ w ∧ x < 2 ^ w := by
  unfold okB at h
  have h := of_decide_eq_true h
  exact ⟨W.toNat, by omega, by omega, by omega, h.2.2⟩
theorem Check_ev (W : Int) (v x : Nat) (hv : v < 2 ^ 64) (hx : x < 2 ^ 64) : Ev (fun k => bits_Check.f k W (v : Int) (x : Int)) (if W < 1 ∨ W > 64 then 2 else if okB W v x = true then 0 else 4) := by
  unfold bits_Check.f
  by_cases h1 : W < 1
  · refine Ev.pos h1 (Ev.step (fun k => by rw [bits_Check.j0]) (Ev.pos rfl ((Ev.now 2).eq ?_)))
    rw [if_pos (.inl h1)]
  · refine Ev.neg h1 (Ev.step (fun k => by rw [bits_Check.j0]) ?_)
    by_cases h2 : W > 64
    · refine Ev.pos (by simpa using h2) ((Ev.now 2).eq ?_)
      rw [if_pos (.inr h2)]
    · refine Ev.neg (by simpa using h2) ?_
      obtain ⟨w, rfl⟩ := Int.eq_ofNat_of_zero_le (show 0 ≤ W by omega)
      refine Ev.bnd (mask_is w) ?_
      rw [or_n v x hv hx, andNot_n _ _ (or_lt hv hx) (msk_lt w), if_neg (show ¬ ((w : Int) < 1 ∨ (w : Int) > 64) by omega)]
      have key : andn (v ||| x) (msk w) = 0 ↔ okB (w : Int) v x = true := by
        unfold okB
        rw [decide_eq_true_iff, Int.toNat_natCast]
        constructor
        · intro h
          have hb : ∀ i, w ≤ i → v.testBit i = false ∧ x.testBit i = false := by
            intro i hi
            have := congrArg (fun n => Nat.testBit n i) h
            simp only [testBit_andn _ _ i (or_lt hv hx) (msk_lt w), Nat.testBit_or, testBit_msk, Nat.zero_testBit] at this
            have hn : ¬ (i < w ∧ i < 64) := by omega
            simpa [hn] using this
          exact ⟨by omega, by omega, lt_of_bits fun i hi => (hb i hi).1, lt_of_bits fun i hi => (hb i hi).2⟩
        · rintro ⟨_, h64, h3, h4⟩
          apply Nat.eq_of_testBit_eq
          intro i
          rw [testBit_andn _ _ i (or_lt hv hx) (msk_lt w), Nat.testBit_or, testBit_msk, Nat.zero_testBit]
          by_cases hi : i < w
          · have : i < w ∧ i < 64 := by omega
            simp [this]
          · rw [bit_out h3 (by omega), bit_out h4 (by omega)]; simp
      by_cases h3 : andn (v ||| x) (msk w) = 0
      · rw [if_pos (key.1 h3)]
        exact Ev.pos (by omega) (Ev.now 0)
      · rw [if_neg (fun h => h3 (key.2 h))]
        exact Ev.neg (by omega) (Ev.now 4)
structure BV where
  W : Int
  v : Nat
  x : Nat
def BV.s (b : BV) : S24 := ⟨b.W, (b.v : Int), (b.x : Int)⟩
def BV.u (b : BV) : Prop := b.v < 2 ^ 64 ∧ b.x < 2 ^ 64
def BV.ok (b : BV) : Bool := okB b.W b.v b.x
theorem valid_l0 (l : List BV) (hl : ∀ b ∈ l, b.u) (hm : l.length ≤ 9223372036854775807) (d : Nat) : ∀ i : Nat, i + d = l.length → Ev (fun k => bits_valid.l0 k (l.map BV.s) ((l.map BV.s).length : Int) (i : Int)) ((l.drop i).all BV.ok) := by
  induction d with
  | zero =>
    intro i hi
    refine Ev.step (fun k => by rw [bits_valid.l0]) ?_
    refine Ev.neg (by rw [List.length_map]; omega) ((Ev.now true).eq ?_)
    rw [List.drop_eq_nil_of_le (by omega)]; rfl
  | succ d ih =>
    intro i hi
    have hlt : i < l.length := by omega
    refine Ev.step (fun k => by rw [bits_valid.l0]) ?_
    refine Ev.pos (by rw [List.length_map]; omega) (Ev.pos (by omega) (Ev.pos (by rw [List.length_map]; omega) ?_))
    have hr : rd_T24 (l.map BV.s) (i : Int) = (l[i]).s := by
      unfold rd_T24
      rw [Int.toNat_natCast, List.getD_eq_getElem?_getD, List.getElem?_map, List.getElem?_eq_getElem hlt]; rfl
    rw [hr, List.drop_eq_getElem_cons hlt, List.all_cons]
    have hu := hl _ (List.getElem_mem hlt)
    generalize l[i] = b at hu
    refine Ev.bind (Check_ev b.W b.v b.x hu.1 hu.2) ?_
    by_cases h1 : b.ok = true
    · obtain ⟨w, hw, h2, h3, _⟩ := okB_nat h1
      rw [if_neg (by omega), if_pos (show okB b.W b.v b.x = true from h1), h1, Bool.true_and, bzw64 (by omega)]
      exact Ev.pos rfl (ih (i + 1) (by omega))
    · rw [Bool.not_eq_true] at h1
      rw [h1, Bool.false_and]
      refine Ev.neg ?_ (Ev.now false)
      split
      · decide
      · rw [if_neg (by unfold BV.ok at h1; rw [h1]; decide)]; decide
theorem valid_ev (l : List BV) (hl : ∀ b ∈ l, b.u) (hm : l.length ≤ 9223372036854775807) : Ev (fun k => bits_valid.f k (l.map BV.s)) (l.all BV.ok) := by
  unfold bits_valid.f
  exact (valid_l0 l hl hm l.length 0 (by omega)).eq (by simp)
theorem valid1 {W : Int} {v x : Nat} (hv : v < 2 ^ 64) (hx : x < 2 ^ 64) : Ev (fun k => bits_valid.f k ([(⟨W, (v : Int), (x : Int)⟩ : S24)] : List S24)) (okB W v x) :=
  (valid_ev [⟨W, v, x⟩] (by intro b hb; simp only [List.mem_singleton] at hb; subst hb; exact ⟨hv, hx⟩) (by simp)).eq (by simp [BV.ok])
theorem valid2 {W : Int} {v x : Nat} (hv : v < 2 ^ 64) (hx : x < 2 ^ 64) {W' : Int} {v' x' : Nat} (hv' : v' < 2 ^ 64) (hx' : x' < 2 ^ 64) :
    Ev (fun k => bits_valid.f k ([(⟨W, (v : Int), (x : Int)⟩ : S24), (⟨W', (v' : Int), (x' : Int)⟩ : S24)] : List S24)) (okB W v x && okB W' v' x') :=
  (valid_ev [⟨W, v, x⟩, ⟨W', v', x'⟩] (by intro b hb; simp only [List.mem_cons, List.not_mem_nil, or_false] at hb; rcases hb with rfl | rfl <;> first | exact ⟨hv, hx⟩ | exact ⟨hv', hx'⟩) (by simp)).eq (by simp [BV.ok])
def acc (f : Int → Bool) (l : List Int) (n : Nat) : Nat := (List.range n).foldl (fun a i => if f (l.getD i 0) then a ||| 1 <<< i else a) 0
theorem acc_succ (f : Int → Bool) (l : List Int) (n : Nat) : acc f l (n + 1) = if f (l.getD n 0) then acc f l n ||| 1 <<< n else acc f l n := by
  unfold acc; rw [List.range_succ, List.foldl_append]; rfl
theorem acc_lt (f : Int → Bool) (l : List Int) (n : Nat) : acc f l n < 2 ^ n := lt_of_bits fun i hi => by
  unfold acc
  rw [num_go]
  have h : ¬ i < n := by omega
  simp [h]
theorem acc_or (f : Int → Bool) (l : List Int) (n : Nat) (hn : n < 64) (h : f (l.getD n 0) = true) : Go.bits .or .u64 ((acc f l n : Nat) : Int) (shl .u64 1 (n : Int)) = ((acc f l (n + 1) : Nat) : Int) := by
  rw [one_shl, or_n _ _ (lt64 (acc_lt f l n) (by omega)) (one_shl_lt n), acc_succ, if_pos h, Nat.mod_eq_of_lt (by rw [Nat.one_shiftLeft]; exact Nat.pow_lt_pow_right (by decide) hn)]
theorem B_l0 (l : List Int) (W : Int) (hl : l.length ≤ 64) (d : Nat) : ∀ i : Nat, i + d = l.length → Ev (fun k => maskref1_B.l0 k l (l.length : Int) (i : Int) W ((acc one l i : Nat) : Int) ((acc unk l i : Nat) : Int)) (W, ((num one l : Nat) : Int), ((num unk l : Nat) : Int)) := by
  induction d with
  | zero =>
    intro i hi
    obtain rfl : i = l.length := by omega
    refine Ev.step (fun k => by rw [maskref1_B.l0]) ?_
    exact Ev.neg (by omega) (Ev.now _)
  | succ d ih =>
    intro i hi
    have ih := ih (i + 1) (by omega)
    refine Ev.step (fun k => by rw [maskref1_B.l0]) ?_
    refine Ev.pos (by omega) (Ev.pos (by omega) (Ev.pos (by omega) ?_))
    have hr : rd l (i : Int) = l.getD i 0 := by unfold rd; rw [Int.toNat_natCast]
    rw [hr]
    have hw1 : wrap64 ((i : Int) + 1) = ((i + 1 : Nat) : Int) := bzw64 (by omega)
    have hone : ∀ c : Int, one c = (c == 49 || c == 120) := fun _ => rfl
    have hunk : ∀ c : Int, unk c = (c == 120 || c == 122) := fun _ => rfl
    have j2 : Ev (fun k => maskref1_B.j2 k (i : Int) (l.getD i 0) l (l.length : Int) (i : Int) (one (l.getD i 0)) W ((acc one l i : Nat) : Int) ((acc unk l i : Nat) : Int)) (W, ((num one l : Nat) : Int), ((num unk l : Nat) : Int)) := by
      have j3 : Ev (fun k => maskref1_B.j3 k (i : Int) (l.getD i 0) l (l.length : Int) (i : Int) W ((acc one l (i + 1) : Nat) : Int) ((acc unk l i : Nat) : Int)) (W, ((num one l : Nat) : Int), ((num unk l : Nat) : Int)) := by
        refine Ev.step (fun k => by rw [maskref1_B.j3]) ?_
        rw [hw1]
        by_cases h1 : l.getD i 0 = 120
        · refine Ev.pos h1 (Ev.pos (by omega) ?_)
          rw [acc_or unk l i (by omega) (by rw [h1]; rfl)]; exact ih
        · refine Ev.neg h1 ?_
          by_cases h2 : l.getD i 0 = 122
          · refine Ev.pos h2 (Ev.pos (by omega) ?_)
            rw [acc_or unk l i (by omega) (by rw [h2]; rfl)]; exact ih
          · refine Ev.neg h2 ?_
            have e : acc unk l (i + 1) = acc unk l i := by rw [acc_succ, if_neg]; rw [hunk, beq_eq_false_iff_ne.mpr h1, beq_eq_false_iff_ne.mpr h2]; decide
            rw [e] at ih; exact ih
      refine Ev.step (fun k => by rw [maskref1_B.j2]) ?_
      cases h : one (l.getD i 0) with
      | true => refine Ev.pos rfl (Ev.pos (by omega) ?_); rw [acc_or one l i (by omega) h]; exact j3
      | false =>
        refine Ev.neg (by decide) ?_
        have e : acc one l (i + 1) = acc one l i := by rw [acc_succ, h]; rfl
        rw [e] at j3; exact j3
    by_cases h1 : l.getD i 0 = 49
    · refine Ev.pos h1 ?_
      rwa [show one (l.getD i 0) = true by rw [h1]; rfl] at j2
    · refine Ev.neg h1 ?_
      rwa [show one (l.getD i 0) = (l.getD i 0 == 120) by rw [hone, beq_eq_false_iff_ne.mpr h1, Bool.false_or]] at j2
theorem B_ev {l : List Int} (h1 : 1 ≤ l.length) (h2 : l.length ≤ 64) : Ev (fun k => maskref1_B.f k l) ((l.length : Int), ((num one l : Nat) : Int), ((num unk l : Nat) : Int)) := by
  unfold maskref1_B.f
  refine Ev.neg (by omega) (Ev.step (fun k => by rw [maskref1_B.j0]) (Ev.neg (by simp; omega) ?_))
  exact B_l0 l _ h2 l.length 0 (by omega)
theorem B_is {l : List Int} {w v x : Nat} (h1 : 1 ≤ w) (h2 : w ≤ 64) (hl : l.length = w) (hv : v < 2 ^ w) (hx : x < 2 ^ w) (h : ∀ i, i < w → l.getD i 0 = st v x i) : Ev (fun k => maskref1_B.f k l) ((w : Int), (v : Int), (x : Int)) := by
  subst hl
  obtain ⟨e1, e2⟩ := num_eq hv hx h
  have := B_ev h1 h2
  rwa [e1, e2] at this
end Go.Proofs.Ytlamgdibnnmbmaa.PLex
end
section
namespace Go.Proofs.Ytlamgdibnnmbmaa.PLex
open Go.RowKit Go.Proofs.YtlamgdibnnmbmaaW.PrintWords Go.Proofs.YtlamgdibnnmbmaaW.PrintLast Go.Proofs.YtlamgdibnnmbmaaW.PrintMore Go.Proofs.Ytlamgdibnnmbmaa.Bz
set_option linter.unusedVariables false
set_option linter.unusedSimpArgs false
theorem zero_iff {N w : Nat} (hN : N < 2 ^ w) : N = 0 ↔ ∀ i, i < w → N.testBit i = false := by
  constructor
  · rintro rfl i _; exact Nat.zero_testBit i
  · intro h
    apply Nat.eq_of_testBit_eq
    intro i
    rw [Nat.zero_testBit]
    by_cases hi : i < w
    · exact h i hi
    · exact bit_out hN (by omega)
theorem rd_nat (l : List Int) (i : Nat) : rd l (i : Int) = l.getD i 0 := by unfold rd; rw [Int.toNat_natCast]
open Classical in
noncomputable def truS (v x : Nat) : Int := if ∃ i, v.testBit i = true ∧ x.testBit i = false then 116 else if x = 0 then 102 else 117
end Go.Proofs.Ytlamgdibnnmbmaa.PLex
end
section
namespace Go.Proofs.Ytlamgdibnnmbmaa.PLex
open Go.RowKit Go.Proofs.YtlamgdibnnmbmaaW.PrintWords Go.Proofs.YtlamgdibnnmbmaaW.PrintLast Go.Proofs.YtlamgdibnnmbmaaW.PrintMore Go.Proofs.Ytlamgdibnnmbmaa.Bz
set_option linter.unusedVariables false
set_option linter.unusedSimpArgs false
structure Two (w va xa vb xb : Nat) : Prop where
  w1 : 1 ≤ w
  bzw64 : w ≤ 64
  va : va < 2 ^ w
  xa : xa < 2 ^ w
  vb : vb < 2 ^ w
  xb : xb < 2 ^ w
theorem okB_of {w v x : Nat} (h1 : 1 ≤ w) (h2 : w ≤ 64) (hv : v < 2 ^ w) (hx : x < 2 ^ w) : okB (w : Int) v x = true := by
  unfold okB; rw [decide_eq_true_iff, Int.toNat_natCast]; exact ⟨by omega, by omega, hv, hx⟩
structure Gives (g : Nat → Option (Int × Int × Int)) (w : Nat) (f : Nat → Int) (V X : Nat) : Prop where
  ev : Ev g ((w : Int), (V : Int), (X : Int))
  v : V < 2 ^ w
  x : X < 2 ^ w
  st : ∀ i, i < w → st V X i = f i
theorem Gives.B {g : Nat → Option (Int × Int × Int)} {w : Nat} {f : Nat → Int} {V X : Nat} (h : Gives g w f V X) (h1 : 1 ≤ w) (h2 : w ≤ 64) {l : List Int} (hl : l.length = w) (hf : ∀ i, i < w → l.getD i 0 = f i) :
    Ev (fun k => maskref1_B.f k l) ((w : Int), (V : Int), (X : Int)) := B_is h1 h2 hl h.v h.x fun i hi => (hf i hi).trans (h.st i hi).symm
end Go.Proofs.Ytlamgdibnnmbmaa.PLex
end
section
namespace Go.Proofs.Ytlamgdibnnmbmaa.PLex
open Go.RowKit Go.Proofs.YtlamgdibnnmbmaaW.PrintWords Go.Proofs.YtlamgdibnnmbmaaW.PrintLast Go.Proofs.YtlamgdibnnmbmaaW.PrintMore Go.Proofs.Ytlamgdibnnmbmaa.Bz
set_option linter.unusedVariables false
set_option linter.unusedSimpArgs false
theorem Fill_l0 (c : Int) (n : Nat) (hn : n ≤ 1000) (d : Nat) : ∀ i : Nat, i + d = n → Ev (fun k => maskref1_Fill.l0 k c (List.replicate i c) (n : Int) (i : Int)) (List.replicate n c) := by
  induction d with
  | zero =>
    intro i hi
    obtain rfl : i = n := by omega
    exact Ev.step (fun k => by rw [maskref1_Fill.l0]) (Ev.neg (by omega) (Ev.now _))
  | succ d ih =>
    intro i hi
    have ih := ih (i + 1) (by omega)
    rw [List.replicate_succ'] at ih
    refine Ev.step (fun k => by rw [maskref1_Fill.l0]) (Ev.pos (by omega) (Ev.pos (by rw [List.length_replicate]; omega) ?_))
    rw [bzw64 (by omega)]
    exact ih
theorem Fill_ev (c : Int) (n : Nat) (hn : n ≤ 1000) : Ev (fun k => maskref1_Fill.f k (n : Int) c) (List.replicate n c) := by
  unfold maskref1_Fill.f
  exact Fill_l0 c n hn n 0 (by omega)
def kb (b : Bool) : Int := if b then 49 else 48
theorem st_kb (v i : Nat) : st v 0 i = kb (v.testBit i) := by unfold st stb kb; rw [Nat.zero_testBit]; rfl
def notS (a : Int) : Int := if a = 48 then 49 else if a = 49 then 48 else 120
def andS (a b : Int) : Int := if a = 48 ∨ b = 48 then 48 else if a = 49 ∧ b = 49 then 49 else 120
def orS (a b : Int) : Int := notS (andS (notS a) (notS b))
def xorS (a b : Int) : Int := orS (andS a (notS b)) (andS (notS a) b)
theorem NotOf_is (a : Int) : maskref1_NotOf.f a = some (notS a) := by
  unfold maskref1_NotOf.f notS
  split
  · rfl
  · split <;> rfl
theorem AndOf_ev (a b : Int) : Ev (fun k => maskref1_AndOf.f k a b) (andS a b) := by
  unfold maskref1_AndOf.f
  by_cases h : a = 48
  · exact Ev.pos h (Ev.step (fun k => by rw [maskref1_AndOf.j0]) (Ev.pos rfl ((Ev.now _).eq (by simp [andS, h]))))
  · refine Ev.neg h (Ev.step (fun k => by rw [maskref1_AndOf.j0]) ?_)
    by_cases h2 : b = 48
    · exact Ev.pos (by simp [h2]) ((Ev.now _).eq (by simp [andS, h2]))
    · refine Ev.neg (by simp [h2]) ?_
      by_cases h3 : a = 49
      · refine Ev.pos h3 ?_
        by_cases h4 : b = 49
        · exact Ev.pos h4 ((Ev.now _).eq (by simp [andS, h3, h4]))
        · exact Ev.neg h4 ((Ev.now _).eq (by simp [andS, h2, h3, h4]))
      · exact Ev.neg h3 ((Ev.now _).eq (by simp [andS, h, h2, h3]))
theorem OrOf_ev (a b : Int) : Ev (fun k => maskref1_OrOf.f k a b) (orS a b) := by
  unfold maskref1_OrOf.f
  exact Ev.bnd (NotOf_is a) (Ev.bnd (NotOf_is b) (Ev.bind (AndOf_ev _ _) (Ev.bnd (NotOf_is _) (Ev.now _))))
theorem XorOf_ev (a b : Int) : Ev (fun k => maskref1_XorOf.f k a b) (xorS a b) := by
  unfold maskref1_XorOf.f
  exact Ev.bnd (NotOf_is b) (Ev.bind (AndOf_ev _ _) (Ev.bnd (NotOf_is a) (Ev.bind (AndOf_ev _ _) (Ev.bind (OrOf_ev _ _) (Ev.now _)))))
theorem andS_kb (a b : Bool) : andS (kb a) (kb b) = kb (a && b) := by cases a <;> cases b <;> rfl
theorem orS_kb (a b : Bool) : orS (kb a) (kb b) = kb (a || b) := by cases a <;> cases b <;> rfl
theorem xorS_kb (a b : Bool) : xorS (kb a) (kb b) = kb (a ^^ b) := by cases a <;> cases b <;> rfl
theorem mn_nat (a b : Nat) : mn (a : Int) (b : Int) = ((min a b : Nat) : Int) := by unfold mn; split <;> omega
theorem Count_l0 (w v lim : Nat) (hv : v < 2 ^ w) (hw : w ≤ 64) (hl : lim ≤ 1000) : ∀ i : Nat, i ≤ w → Ev (fun k => maskref1_Count.l0 k (vs w v 0) (lim : Int) ((min (v >>> i) lim : Nat) : Int) ((i : Int) - 1)) ((min v lim : Nat) : Int) := by
  intro i
  induction i with
  | zero =>
    intro hi
    refine Ev.step (fun k => by rw [maskref1_Count.l0]) (Ev.neg (by omega) ((Ev.now _).eq ?_))
    rw [Nat.shiftRight_zero]
    exact bzw64 (by omega)
  | succ i ih =>
    intro hi
    have ih := ih (by omega)
    have e1 : ((i + 1 : Nat) : Int) - 1 = (i : Int) := by omega
    rw [e1]
    refine Ev.step (fun k => by rw [maskref1_Count.l0]) (Ev.pos (by omega) (Ev.pos (by omega) (Ev.pos (by rw [vs_length]; omega) ?_)))
    rw [rd_vs _ _ _ _ (by omega), bzw64 (by omega), st_kb, wrap_u64_nat lim (by omega)]
    have hq : v >>> i = 2 * (v >>> (i + 1)) + (if v.testBit i then 1 else 0) := by
      rw [Nat.testBit_eq_decide_div_mod_eq, Nat.shiftRight_eq_div_pow, Nat.shiftRight_eq_div_pow, Nat.pow_succ, ← Nat.div_div_eq_div_mul]
      simp only [decide_eq_true_eq]
      split <;> omega
    have h2 : IntKind.u64.wrap (2 * ((min (v >>> (i + 1)) lim : Nat) : Int)) = ((2 * min (v >>> (i + 1)) lim : Nat) : Int) := by
      have := wrap_u64_nat (2 * min (v >>> (i + 1)) lim) (by omega)
      simpa using this
    rw [h2]
    rw [hq] at ih
    cases hb : v.testBit i with
    | true =>
      refine Ev.pos (by unfold kb; rfl) ?_
      have h3 : IntKind.u64.wrap (((2 * min (v >>> (i + 1)) lim : Nat) : Int) + 1) = ((2 * min (v >>> (i + 1)) lim + 1 : Nat) : Int) := by
        have := wrap_u64_nat (2 * min (v >>> (i + 1)) lim + 1) (by omega)
        simpa using this
      rw [h3, mn_nat]
      rw [hb, if_pos rfl] at ih
      rw [show min (2 * min (v >>> (i + 1)) lim + 1) lim = min (2 * (v >>> (i + 1)) + 1) lim by omega]
      exact ih
    | false =>
      refine Ev.neg (by unfold kb; decide) ?_
      rw [mn_nat]
      rw [hb, if_neg (by decide), Nat.add_zero] at ih
      rw [show min (2 * min (v >>> (i + 1)) lim) lim = min (2 * (v >>> (i + 1))) lim by omega]
      exact ih
theorem Count_ev {w v lim : Nat} (hv : v < 2 ^ w) (hw : w ≤ 64) (hl : lim ≤ 1000) : Ev (fun k => maskref1_Count.f k (vs w v 0) (lim : Int)) ((min v lim : Nat) : Int) := by
  unfold maskref1_Count.f
  rw [vs_length, bzw64 (by omega)]
  have h := Count_l0 w v lim hv hw hl w (Nat.le_refl _)
  rw [Nat.shiftRight_eq_div_pow, Nat.div_eq_of_lt hv, Nat.zero_min] at h
  exact h
def sgn (w v : Nat) : Int := if v.testBit (w - 1) then (v : Int) - 2 ^ w else v
theorem top_bit {w v : Nat} (h1 : 1 ≤ w) (hv : v < 2 ^ w) : v.testBit (w - 1) = decide (2 ^ (w - 1) ≤ v) := by
  rw [Nat.testBit_eq_decide_div_mod_eq, decide_eq_decide]
  have hp : 2 ^ w = 2 * 2 ^ (w - 1) := by rw [← Nat.pow_succ']; congr 1; omega
  have h0 : 0 < 2 ^ (w - 1) := Nat.pos_of_ne_zero (by simp)
  generalize 2 ^ (w - 1) = q at *
  rw [hp] at hv
  have hd : v / q < 2 := Nat.div_lt_of_lt_mul (by omega)
  constructor
  · intro h
    have h2 : v / q = 1 := by generalize v / q = r at h hd; omega
    have := Nat.div_mul_le_self v q
    rw [h2] at this; omega
  · intro h
    have h2 : 1 ≤ v / q := (Nat.le_div_iff_mul_le h0).2 (by omega)
    omega
end Go.Proofs.Ytlamgdibnnmbmaa.PLex
end
section
namespace Go.Proofs.Ytlamgdibnnmbmaa.PLex
open Go.RowKit Go.Proofs.YtlamgdibnnmbmaaW.PrintWords Go.Proofs.YtlamgdibnnmbmaaW.PrintLast Go.Proofs.YtlamgdibnnmbmaaW.PrintMore Go.Proofs.Ytlamgdibnnmbmaa.Bz
set_option linter.unusedVariables false
set_option linter.unusedSimpArgs false
set_option linter.unusedSectionVars false
theorem Bit_j0_none (i : Int) (W v x : Int) : Ev (fun k => bits_Bit.j0 k i true W v x) 0 := by
  refine Ev.step (fun k => by rw [bits_Bit.j0]) ?_
  exact Ev.pos rfl (Ev.now _)
def bitS (w v x : Nat) (i : Int) : Int := if 0 ≤ i ∧ i < (w : Int) then st v x i.toNat else 0
theorem Bit_ev {w v x : Nat} (h1 : 1 ≤ w) (h2 : w ≤ 64) (hv : v < 2 ^ w) (hx : x < 2 ^ w) (i : Int) : Ev (fun k => bits_Bit.f k (w : Int) (v : Int) (x : Int) i) (bitS w v x i) := by
  have hv6 := lt64 hv h2
  have hx6 := lt64 hx h2
  have hok : okB (w : Int) v x = true := by
    unfold okB; rw [decide_eq_true_iff, Int.toNat_natCast]; exact ⟨by omega, by omega, hv, hx⟩
  unfold bits_Bit.f bitS
  refine Ev.bind (valid1 hv6 hx6) ?_
  rw [hok]
  refine Ev.pos rfl ?_
  by_cases a : i < 0
  · rw [if_neg (by omega)]
    exact Ev.pos a (Bit_j0_none _ _ _ _)
  · refine Ev.neg a ?_
    by_cases b : i ≥ (w : Int)
    · rw [if_neg (by omega), decide_eq_true b]
      exact Bit_j0_none _ _ _ _
    · rw [if_pos (by omega), decide_eq_false b]
      obtain ⟨n, rfl⟩ := Int.eq_ofNat_of_zero_le (show 0 ≤ i by omega)
      refine Ev.step (fun k => by rw [bits_Bit.j0]) ?_
      refine Ev.neg (by decide) (Ev.pos (by omega) ?_)
      rw [bitof v n hv6, bitof x n hx6, Int.toNat_natCast]
      unfold st stb
      cases v.testBit n <;> cases x.testBit n
      · have e : Go.bits .or .u64 (if false = true then 1 else 0) (IntKind.u64.wrap ((if false = true then 1 else 0) * 2)) = 0 := by decide
        rw [e]; exact Ev.pos (by decide) (Ev.pos (by decide) ((Ev.now _).eq rfl))
      · have e : Go.bits .or .u64 (if false = true then 1 else 0) (IntKind.u64.wrap ((if true = true then 1 else 0) * 2)) = 2 := by decide
        rw [e]; exact Ev.pos (by decide) (Ev.pos (by decide) ((Ev.now _).eq rfl))
      · have e : Go.bits .or .u64 (if true = true then 1 else 0) (IntKind.u64.wrap ((if false = true then 1 else 0) * 2)) = 1 := by decide
        rw [e]; exact Ev.pos (by decide) (Ev.pos (by decide) ((Ev.now _).eq rfl))
      · have e : Go.bits .or .u64 (if true = true then 1 else 0) (IntKind.u64.wrap ((if true = true then 1 else 0) * 2)) = 3 := by decide
        rw [e]; exact Ev.pos (by decide) (Ev.pos (by decide) ((Ev.now _).eq rfl))
def allS (w : Nat) (c : Int) : Int × Int × Int := if c = 48 then ((w : Int), 0, 0) else if c = 49 then ((w : Int), ((msk w : Nat) : Int), 0) else if c = 120 then ((w : Int), ((msk w : Nat) : Int), ((msk w : Nat) : Int)) else if c = 122 then ((w : Int), 0, ((msk w : Nat) : Int)) else (0, 0, 0)
theorem All_is {w : Nat} (h1 : 1 ≤ w) (h2 : w ≤ 64) (c : Int) : Ev (fun k => bits_All.f k (w : Int) c) (allS w c) := by
  unfold bits_All.f allS
  refine Ev.neg (by omega) ?_
  rw [decide_eq_false (show ¬ ((w : Int) > 64) by omega)]
  refine Ev.step (fun k => by rw [bits_All.j0]) ?_
  refine Ev.neg (by decide) (Ev.bnd (mask_is w) ?_)
  by_cases a1 : c = 48
  · exact Ev.pos a1 ((Ev.now _).eq (by rw [if_pos a1]))
  refine Ev.neg a1 ?_
  by_cases a2 : c = 49
  · exact Ev.pos a2 ((Ev.now _).eq (by rw [if_neg a1, if_pos a2]))
  refine Ev.neg a2 ?_
  by_cases a3 : c = 120
  · exact Ev.pos a3 ((Ev.now _).eq (by rw [if_neg a1, if_neg a2, if_pos a3]))
  refine Ev.neg a3 ?_
  by_cases a4 : c = 122
  · exact Ev.pos a4 ((Ev.now _).eq (by rw [if_neg a1, if_neg a2, if_neg a3, if_pos a4]))
  · exact Ev.neg a4 ((Ev.now _).eq (by rw [if_neg a1, if_neg a2, if_neg a3, if_neg a4]))
theorem i64_and1 (n : Int) : Go.bits .and .i64 n 1 = n % 2 := by
  have h1 : (BitVec.ofInt 64 1).toNat = 2 ^ 1 - 1 := by decide
  have key : (BitVec.ofInt 64 n &&& BitVec.ofInt 64 1).toNat = (n % ((2 ^ 64 : Nat) : Int)).toNat % 2 ^ 1 := by
    rw [BitVec.toNat_and, BitVec.toNat_ofInt, h1, Nat.and_two_pow_sub_one_eq_mod]
  show IntKind.i64.wrap ((BitVec.ofInt 64 n &&& BitVec.ofInt 64 1).toNat : Nat) = n % 2
  rw [key, IntKind.wrap_i64]
  omega
theorem sgn_bit {w v k : Nat} (h1 : 1 ≤ w) (hv : v < 2 ^ w) (hk : k < 64) : Go.bits .and .i64 (shr .i64 (sgn w v) (k : Int)) 1 = if v.testBit (min k (w - 1)) then 1 else 0 := by
  rw [i64_and1]
  unfold shr
  rw [Int.toNat_natCast, show min k IntKind.i64.bits = k from Nat.min_eq_left (Nat.le_of_lt hk)]
  have hn : ∀ j, ((v : Int) / 2 ^ j) % 2 = if v.testBit j then 1 else 0 := by
    intro j
    have e : ((v : Int) / 2 ^ j) = ((v / 2 ^ j : Nat) : Int) := by push_cast; rfl
    rw [e, Nat.testBit_eq_decide_div_mod_eq]
    by_cases h : v / 2 ^ j % 2 = 1
    · rw [decide_eq_true h, if_pos rfl]; omega
    · rw [decide_eq_false h, if_neg (by decide)]; omega
  unfold sgn
  cases ht : v.testBit (w - 1) with
  | false =>
    rw [if_neg (by decide), hn]
    rcases Nat.lt_or_ge k w with h | h
    · rw [Nat.min_eq_left (by omega)]
    · rw [Nat.min_eq_right (by omega), ht, bit_out hv h]
  | true =>
    rw [if_pos rfl]
    rcases Nat.lt_or_ge k w with h | h
    · rw [Nat.min_eq_left (by omega), ← hn k]
      obtain ⟨d, rfl⟩ : ∃ d, w = k + (d + 1) := ⟨w - k - 1, by omega⟩
      have e : (v : Int) - 2 ^ (k + (d + 1)) = (v : Int) + 2 ^ k * (-(2 * 2 ^ d)) := by
        rw [Int.pow_add, Int.pow_succ, Int.mul_neg, Int.mul_comm ((2 : Int) ^ d) 2]; omega
      rw [e, Int.add_mul_ediv_left _ _ (Int.pow_ne_zero (by decide))]
      generalize (v : Int) / 2 ^ k = a
      generalize (2 : Int) ^ d = b
      omega
    · rw [Nat.min_eq_right (by omega), ht, if_pos rfl]
      have hp : (2 : Int) ^ w ≤ 2 ^ k := by
        have := Nat.pow_le_pow_right (show 0 < 2 by decide) h
        have e1 : (2 : Int) ^ w = ((2 ^ w : Nat) : Int) := by push_cast; rfl
        have e2 : (2 : Int) ^ k = ((2 ^ k : Nat) : Int) := by push_cast; rfl
        rw [e1, e2]; omega
      have hvw : (v : Int) < 2 ^ w := by
        have e1 : (2 : Int) ^ w = ((2 ^ w : Nat) : Int) := by push_cast; rfl
        rw [e1]; omega
      have hq : ((v : Int) - 2 ^ w) / 2 ^ k = -1 := by
        have hb : (0 : Int) < 2 ^ k := Int.pow_pos (by decide)
        have q1 : -1 ≤ ((v : Int) - 2 ^ w) / 2 ^ k := (Int.le_ediv_iff_mul_le hb).2 (by omega)
        have q2 : ((v : Int) - 2 ^ w) / 2 ^ k < 0 := (Int.ediv_lt_iff_lt_mul hb).2 (by omega)
        omega
      rw [hq]; rfl
end Go.Proofs.Ytlamgdibnnmbmaa.PLex
end
section
namespace Go.Proofs.Ytlamgdibnnmbmaa.PLex
open Go.RowKit Go.Proofs.YtlamgdibnnmbmaaW.PrintWords Go.Proofs.YtlamgdibnnmbmaaW.PrintLast Go.Proofs.YtlamgdibnnmbmaaW.PrintMore Go.Proofs.Ytlamgdibnnmbmaa.Bz
set_option linter.unusedVariables false
set_option linter.unusedSimpArgs false
def BV.w (b : BV) : Nat := b.W.toNat
def cs (l : List BV) : List Int := (l.reverse.map fun b => vs b.w b.v b.x).flatten
end Go.Proofs.Ytlamgdibnnmbmaa.PLex
end
section
namespace Go.Proofs.Ytlamgdibnnmbmaa.PLex
open Go.RowKit Go.Proofs.YtlamgdibnnmbmaaW.PrintWords Go.Proofs.YtlamgdibnnmbmaaW.PrintLast Go.Proofs.YtlamgdibnnmbmaaW.PrintMore Go.Proofs.Ytlamgdibnnmbmaa.Bz
set_option linter.unusedVariables false
set_option linter.unusedSimpArgs false
theorem bit_msk {w i : Nat} (hi : i < w) (hw : w ≤ 64) : (msk w).testBit i = true := by rw [testBit_msk]; simp; exact ⟨hi, by omega⟩
theorem msk_is {w : Nat} (hw : w ≤ 64) : msk w = 2 ^ w - 1 := by unfold msk; rw [Nat.min_eq_left hw]
def putS (v x vp xp wp : Nat) (at_ : Int) (i : Nat) : Int := if at_ ≤ i ∧ (i : Int) < at_ + wp then st vp xp ((i : Int) - at_).toNat else st v x i
theorem put_bits {a m p i : Nat} (ha : a < 2 ^ 64) (hm : m < 2 ^ 64) : (andn a m ||| p &&& m).testBit i = if m.testBit i then p.testBit i else a.testBit i := by
  rw [Nat.testBit_or, Nat.testBit_and, testBit_andn _ _ _ ha hm]
  cases m.testBit i <;> simp
theorem Put_gives {wb v x wp vp xp : Nat} (b1 : 1 ≤ wb) (b2 : wb ≤ 64) (hv : v < 2 ^ wb) (hx : x < 2 ^ wb) (p1 : 1 ≤ wp) (p2 : wp ≤ 64) (hvp : vp < 2 ^ wp) (hxp : xp < 2 ^ wp) (at_ : Int) :
    ∃ V X, Gives (fun k => bits_Put.f k (wb : Int) (v : Int) (x : Int) at_ (wp : Int) (vp : Int) (xp : Int)) wb (putS v x vp xp wp at_) V X := by
  have v6 := lt64 hv b2
  have x6 := lt64 hx b2
  have vp6 := lt64 hvp p2
  have xp6 := lt64 hxp p2
  have hal : Ev (fun k => bits_valid.f k ([(⟨(wb : Int), (v : Int), (x : Int)⟩ : S24), (⟨(wp : Int), (vp : Int), (xp : Int)⟩ : S24)] : List S24)) true := (valid2 v6 x6 vp6 xp6).eq (by rw [okB_of b1 b2 hv hx, okB_of p1 p2 hvp hxp]; rfl)
  have hn : wrap64 (-(wp : Int)) = -(wp : Int) := bzw64 (by omega)
  have m6 := msk_lt wb
  have mp6 := msk_lt wp
  by_cases h : at_ ≤ -(wp : Int) ∨ at_ ≥ (wb : Int)
  · refine ⟨v, x, ?_, hv, hx, ?_⟩
    · have key : Ev (fun k => bits_Put.j0 k at_ true (wb : Int) (v : Int) (x : Int) (wp : Int) (vp : Int) (xp : Int)) ((wb : Int), (v : Int), (x : Int)) :=
        Ev.step (fun k => by rw [bits_Put.j0]) (Ev.pos rfl (Ev.bind hal (Ev.pos rfl (Ev.now _))))
      unfold bits_Put.f
      refine Ev.bind hal (Ev.pos rfl ?_)
      rw [hn]
      by_cases h1 : at_ ≤ -(wp : Int)
      · exact Ev.pos h1 key
      · refine Ev.neg h1 ?_
        rw [decide_eq_true (show at_ ≥ (wb : Int) by omega)]
        exact key
    · intro i hi
      unfold putS
      rw [if_neg (by omega)]
  · have enter : ∀ r : Int × Int × Int, Ev (fun k => bits_Put.j0 k at_ false (wb : Int) (v : Int) (x : Int) (wp : Int) (vp : Int) (xp : Int)) r → Ev (fun k => bits_Put.f k (wb : Int) (v : Int) (x : Int) at_ (wp : Int) (vp : Int) (xp : Int)) r := by
      intro r hr
      unfold bits_Put.f
      refine Ev.bind hal (Ev.pos rfl ?_)
      rw [hn]
      refine Ev.neg (by omega) ?_
      rw [decide_eq_false (by omega)]
      exact hr
    by_cases hneg : at_ < 0
    · obtain ⟨s, rfl⟩ : ∃ s : Nat, at_ = -(s : Int) := ⟨(-at_).toNat, by omega⟩
      have hs : wrap64 (-(-(s : Int))) = (s : Int) := by rw [Int.neg_neg]; exact bzw64 (by omega)
      have M6 : msk wp >>> s &&& msk wb < 2 ^ 64 := and_lt' m6
      have Mw : msk wp >>> s &&& msk wb < 2 ^ wb := and_lt' (msk_lt' b2)
      refine ⟨andn v (msk wp >>> s &&& msk wb) ||| vp >>> s &&& (msk wp >>> s &&& msk wb), andn x (msk wp >>> s &&& msk wb) ||| xp >>> s &&& (msk wp >>> s &&& msk wb), enter _ ?_, or_lt (andn_lt hv) (and_lt' Mw), or_lt (andn_lt hx) (and_lt' Mw), ?_⟩
      · refine Ev.step (fun k => by rw [bits_Put.j0]) (Ev.neg (by decide) (Ev.bnd (mask_is wp) (Ev.pos hneg ?_)))
        rw [hs]
        refine Ev.pos (by omega) (Ev.bnd (mask_is wb) ((Ev.now _).eq ?_))
        have q1 : msk wp >>> s < 2 ^ 64 := Nat.lt_of_le_of_lt (Nat.shiftRight_le _ _) mp6
        have q2 : vp >>> s < 2 ^ 64 := Nat.lt_of_le_of_lt (Nat.shiftRight_le _ _) vp6
        have q3 : xp >>> s < 2 ^ 64 := Nat.lt_of_le_of_lt (Nat.shiftRight_le _ _) xp6
        rw [shr_n _ _ mp6, shr_n _ _ vp6, shr_n _ _ xp6, and_n _ _ q1 m6, andNot_n _ _ v6 M6, andNot_n _ _ x6 M6, and_n _ _ q2 M6, and_n _ _ q3 M6, or_n _ _ (andn_lt v6) (and_lt q2), or_n _ _ (andn_lt x6) (and_lt q3)]
      · intro i hi
        unfold putS st
        rw [put_bits v6 M6, put_bits x6 M6, Nat.testBit_and, bit_msk hi b2, Bool.and_true, Nat.testBit_shiftRight, Nat.testBit_shiftRight, Nat.testBit_shiftRight, testBit_msk]
        by_cases hin : s + i < wp
        · have e : ((i : Int) - -(s : Int)).toNat = s + i := by omega
          have h64 : s + i < 64 := by omega
          rw [if_pos (show -(s : Int) ≤ (i : Int) ∧ (i : Int) < -(s : Int) + (wp : Int) by omega), e]
          simp [hin, h64]
        · rw [if_neg (show ¬ (-(s : Int) ≤ (i : Int) ∧ (i : Int) < -(s : Int) + (wp : Int)) by omega)]
          simp [hin]
    · obtain ⟨s, rfl⟩ := Int.eq_ofNat_of_zero_le (show 0 ≤ at_ by omega)
      have M6 : msk wp <<< s % 2 ^ 64 &&& msk wb < 2 ^ 64 := and_lt' m6
      have Mw : msk wp <<< s % 2 ^ 64 &&& msk wb < 2 ^ wb := and_lt' (msk_lt' b2)
      refine ⟨andn v (msk wp <<< s % 2 ^ 64 &&& msk wb) ||| (vp <<< s % 2 ^ 64) &&& (msk wp <<< s % 2 ^ 64 &&& msk wb), andn x (msk wp <<< s % 2 ^ 64 &&& msk wb) ||| (xp <<< s % 2 ^ 64) &&& (msk wp <<< s % 2 ^ 64 &&& msk wb), enter _ ?_, or_lt (andn_lt hv) (and_lt' Mw), or_lt (andn_lt hx) (and_lt' Mw), ?_⟩
      · refine Ev.step (fun k => by rw [bits_Put.j0]) (Ev.neg (by decide) (Ev.bnd (mask_is wp) (Ev.neg hneg ?_)))
        refine Ev.pos (by omega) ?_
        refine Ev.bnd (mask_is wb) ((Ev.now _).eq ?_)
        have q1 : msk wp <<< s % 2 ^ 64 < 2 ^ 64 := Nat.mod_lt _ (by decide)
        have q2 : vp <<< s % 2 ^ 64 < 2 ^ 64 := Nat.mod_lt _ (by decide)
        have q3 : xp <<< s % 2 ^ 64 < 2 ^ 64 := Nat.mod_lt _ (by decide)
        rw [shl_n, shl_n, shl_n, and_n _ _ q1 m6, andNot_n _ _ v6 M6, andNot_n _ _ x6 M6, and_n _ _ q2 M6, and_n _ _ q3 M6, or_n _ _ (andn_lt v6) (and_lt q2), or_n _ _ (andn_lt x6) (and_lt q3)]
      · intro i hi
        have h64 : i < 64 := by omega
        unfold putS st
        rw [put_bits v6 M6, put_bits x6 M6, Nat.testBit_and, bit_msk hi b2, Bool.and_true, testBit_shl, testBit_shl, testBit_shl, testBit_msk]
        by_cases hin : s ≤ i ∧ i < s + wp
        · have e : ((i : Int) - (s : Int)).toNat = i - s := by omega
          have h2 : i - s < wp := by omega
          have h3 : i - s < 64 := by omega
          rw [if_pos (show (s : Int) ≤ (i : Int) ∧ (i : Int) < (s : Int) + (wp : Int) by omega), e]
          simp [hin.1, h64, h2, h3]
        · rw [if_neg (show ¬ ((s : Int) ≤ (i : Int) ∧ (i : Int) < (s : Int) + (wp : Int)) by omega)]
          by_cases h5 : s ≤ i
          · have h6 : ¬ i - s < wp := by omega
            simp [h6]
          · simp [h5]
end Go.Proofs.Ytlamgdibnnmbmaa.PLex
end
section
namespace Go.Proofs.Ytlamgdibnnmbmaa.PLex
open Go.RowKit Go.Proofs.YtlamgdibnnmbmaaW.PrintWords Go.Proofs.YtlamgdibnnmbmaaW.PrintLast Go.Proofs.YtlamgdibnnmbmaaW.PrintMore Go.Proofs.Ytlamgdibnnmbmaa.Bz
set_option linter.unusedVariables false
set_option linter.unusedSimpArgs false
structure Any2 (w v x wn vn xn : Nat) : Prop where
  b1 : 1 ≤ w
  b2 : w ≤ 64
  v : v < 2 ^ w
  x : x < 2 ^ w
  n1 : 1 ≤ wn
  n2 : wn ≤ 64
  vn : vn < 2 ^ wn
  xn : xn < 2 ^ wn
end Go.Proofs.Ytlamgdibnnmbmaa.PLex
end
section
namespace Go.Proofs.Ytlamgdibnnmbmaa.PLex
open Go.RowKit Go.Proofs.YtlamgdibnnmbmaaW.PrintWords Go.Proofs.YtlamgdibnnmbmaaW.PrintLast Go.Proofs.YtlamgdibnnmbmaaW.PrintMore Go.Proofs.Ytlamgdibnnmbmaa.Bz
set_option linter.unusedVariables false
set_option linter.unusedSimpArgs false
theorem B_num {w : Nat} (h1 : 1 ≤ w) (h2 : w ≤ 64) (U : Nat) : Ev (fun k => maskref1_B.f k (vs w U 0)) ((w : Int), ((U % 2 ^ w : Nat) : Int), 0) := by
  refine B_is (v := U % 2 ^ w) (x := 0) h1 h2 (vs_length _ _ _) (Nat.mod_lt _ (Nat.pos_of_ne_zero (by simp))) (Nat.pos_of_ne_zero (by simp)) fun i hi => ?_
  rw [vs_getD _ _ _ _ hi, st_kb, st_kb, Nat.testBit_mod_two_pow]; simp [hi]
theorem Of_is {w : Nat} (h1 : 1 ≤ w) (h2 : w ≤ 64) {u : Nat} (hu : u < 2 ^ 64) : bits_Of.f (w : Int) (u : Int) = some ((w : Int), ((u % 2 ^ w : Nat) : Int), 0) := by
  unfold bits_Of.f
  rw [if_neg (by omega), if_neg (by omega), mask_is]
  show some _ = _
  rw [and_n _ _ hu (msk_lt w), msk_is h2, Nat.and_two_pow_sub_one_eq_mod]
theorem take_vs (w v x n : Nat) (h : n ≤ w) : (vs w v x).take n = vs n v x := by
  apply List.ext_getElem
  · simp [vs_length]; omega
  · intro i h1 h2
    rw [List.getElem_take, vs_get _ _ _ _ (by rw [List.length_take, vs_length] at h1; omega), vs_get _ _ _ _ (by rw [vs_length] at h2; exact h2)]
end Go.Proofs.Ytlamgdibnnmbmaa.PLex
end
section
namespace Go.Proofs.Ytlamgdibnnmbmaa.PLex
open Go.RowKit Go.Proofs.YtlamgdibnnmbmaaW.PrintWords Go.Proofs.YtlamgdibnnmbmaaW.PrintLast Go.Proofs.YtlamgdibnnmbmaaW.PrintMore Go.Proofs.Ytlamgdibnnmbmaa.Bz
set_option linter.unusedVariables false
set_option linter.unusedSimpArgs false
set_option linter.unusedSectionVars false
open Classical in
theorem TruthW_l0 (l : List Int) (hs : ∀ i, i < l.length → isSt (l.getD i 0)) (hn : l.length ≤ 1000) (d : Nat) : ∀ (i : Nat) (c : Int), i + d = l.length →
    Ev (fun k => maskref1_Truth.l0 k c l (l.length : Int) (i : Int)) (if ∃ j, i ≤ j ∧ j < l.length ∧ l.getD j 0 = 49 then 116 else if ∃ j, i ≤ j ∧ j < l.length ∧ l.getD j 0 ≠ 48 then 117 else c) := by
  induction d with
  | zero =>
    intro i c hi
    refine Ev.step (fun k => by rw [maskref1_Truth.l0]) (Ev.neg (by omega) ((Ev.now _).eq ?_))
    rw [if_neg (by rintro ⟨j, h1, h2, _⟩; omega), if_neg (by rintro ⟨j, h1, h2, _⟩; omega)]
  | succ d ih =>
    intro i c hi
    refine Ev.step (fun k => by rw [maskref1_Truth.l0]) (Ev.pos (by omega) (Ev.pos (by omega) (Ev.pos (by omega) ?_)))
    rw [rd_nat, bzw64 (by omega)]
    by_cases h1 : l.getD i 0 = 49
    · refine Ev.pos h1 ((Ev.now _).eq ?_)
      rw [if_pos ⟨i, Nat.le_refl _, by omega, h1⟩]
    · refine Ev.neg h1 ?_
      by_cases h2 : l.getD i 0 = 48
      · refine Ev.pos h2 ((ih (i + 1) c (by omega)).eq ?_)
        have e1 : (∃ j, i + 1 ≤ j ∧ j < l.length ∧ l.getD j 0 = 49) ↔ (∃ j, i ≤ j ∧ j < l.length ∧ l.getD j 0 = 49) :=
          ⟨fun ⟨j, a, b, c⟩ => ⟨j, by omega, b, c⟩, fun ⟨j, a, b, c⟩ => ⟨j, by rcases Nat.lt_or_ge i j with h | h <;> first | omega | exact absurd (show l.getD i 0 = 49 by rw [show i = j by omega]; exact c) h1, b, c⟩⟩
        have e2 : (∃ j, i + 1 ≤ j ∧ j < l.length ∧ l.getD j 0 ≠ 48) ↔ (∃ j, i ≤ j ∧ j < l.length ∧ l.getD j 0 ≠ 48) :=
          ⟨fun ⟨j, a, b, c⟩ => ⟨j, by omega, b, c⟩, fun ⟨j, a, b, c⟩ => ⟨j, by rcases Nat.lt_or_ge i j with h | h <;> first | omega | exact absurd (show l.getD j 0 = 48 by rw [show j = i by omega]; exact h2) c, b, c⟩⟩
        simp only [e1, e2]
      · refine Ev.neg h2 ((ih (i + 1) 117 (by omega)).eq ?_)
        have e1 : (∃ j, i + 1 ≤ j ∧ j < l.length ∧ l.getD j 0 = 49) ↔ (∃ j, i ≤ j ∧ j < l.length ∧ l.getD j 0 = 49) :=
          ⟨fun ⟨j, a, b, c⟩ => ⟨j, by omega, b, c⟩, fun ⟨j, a, b, c⟩ => ⟨j, by rcases Nat.lt_or_ge i j with h | h <;> first | omega | exact absurd (show l.getD i 0 = 49 by rw [show i = j by omega]; exact c) h1, b, c⟩⟩
        simp only [e1]
        split
        · rfl
        · rw [if_pos (show ∃ j, i ≤ j ∧ j < l.length ∧ l.getD j 0 ≠ 48 from ⟨i, Nat.le_refl _, by omega, h2⟩)]
          split <;> rfl
open Classical in
theorem TruthW_ev {w v x : Nat} (hv : v < 2 ^ w) (hx : x < 2 ^ w) (hw : w ≤ 1000) : Ev (fun k => maskref1_Truth.f k (vs w v x)) (truS v x) := by
  unfold maskref1_Truth.f
  refine (TruthW_l0 (vs w v x) (fun i hi => by rw [vs_length] at hi; rw [vs_getD _ _ _ _ hi]; exact stb_is _ _) (by rw [vs_length]; exact hw) _ 0 102 (by rw [Nat.zero_add])).eq ?_
  unfold truS
  rw [vs_length]
  have e1 : (∃ j, 0 ≤ j ∧ j < w ∧ (vs w v x).getD j 0 = 49) ↔ ∃ i, v.testBit i = true ∧ x.testBit i = false := by
    constructor
    · rintro ⟨j, _, h, e⟩
      rw [vs_getD _ _ _ _ h] at e
      unfold st stb at e
      cases h1 : v.testBit j <;> cases h2 : x.testBit j <;> simp [h1, h2] at e
      exact ⟨j, h1, h2⟩
    · rintro ⟨i, h1, h2⟩
      have hi : i < w := by
        rcases Nat.lt_or_ge i w with h | h
        · exact h
        · rw [bit_out hv h] at h1; cases h1
      exact ⟨i, Nat.zero_le _, hi, by rw [vs_getD _ _ _ _ hi]; unfold st stb; rw [h1, h2]; rfl⟩
  simp only [e1]
  by_cases h : ∃ i, v.testBit i = true ∧ x.testBit i = false
  · rw [if_pos h, if_pos h]
  · rw [if_neg h, if_neg h]
    have e2 : (∃ j, 0 ≤ j ∧ j < w ∧ (vs w v x).getD j 0 ≠ 48) ↔ x ≠ 0 := by
      have e3 := zero_iff hx
      constructor
      · rintro ⟨j, _, hj, e⟩ h0
        rw [vs_getD _ _ _ _ hj] at e
        unfold st stb at e
        rw [e3.1 h0 j hj] at e
        cases h4 : v.testBit j with
        | true => exact h ⟨j, h4, e3.1 h0 j hj⟩
        | false => rw [h4] at e; exact e rfl
      · intro h3
        refine Classical.byContradiction fun h4 => h3 (e3.2 fun i hi => ?_)
        rcases hb : x.testBit i with _ | _
        · rfl
        · refine absurd ⟨i, Nat.zero_le _, hi, ?_⟩ h4
          rw [vs_getD _ _ _ _ hi]; unfold st stb; rw [hb]
          cases v.testBit i <;> simp
    by_cases h4 : x = 0
    · rw [if_pos h4, if_neg (by rw [e2]; simpa using h4)]
    · rw [if_neg h4, if_pos (e2.2 h4)]
theorem addW_bit (a b : Nat) (c : Bool) (i : Nat) (hi : i < 128) : (a + b + c.toNat).testBit i = ((a.testBit i ^^ b.testBit i) ^^ BitVec.carry i (BitVec.ofNat 128 a) (BitVec.ofNat 128 b) c) := by
  have h := BitVec.getLsbD_add_add_bool hi (BitVec.ofNat 128 a) (BitVec.ofNat 128 b) c
  have e : (BitVec.ofNat 128 a + BitVec.ofNat 128 b + BitVec.setWidth 128 (BitVec.ofBool c)).getLsbD i = (a + b + c.toNat).testBit i := by
    have e1 : BitVec.setWidth 128 (BitVec.ofBool c) = BitVec.ofNat 128 c.toNat := by cases c <;> rfl
    rw [e1, ← BitVec.ofNat_add, ← BitVec.ofNat_add, BitVec.getLsbD_ofNat]
    simp [hi]
  rw [e] at h
  rw [h, BitVec.getLsbD_ofNat, BitVec.getLsbD_ofNat]
  simp [hi, Bool.xor_assoc]
theorem carryW_step (a b : Nat) (c : Bool) (i : Nat) (hi : i < 128) : BitVec.carry (i + 1) (BitVec.ofNat 128 a) (BitVec.ofNat 128 b) c = ((a.testBit i && b.testBit i) || (BitVec.carry i (BitVec.ofNat 128 a) (BitVec.ofNat 128 b) c && (a.testBit i ^^ b.testBit i))) := by
  rw [BitVec.carry_succ, BitVec.getLsbD_ofNat, BitVec.getLsbD_ofNat]
  simp only [hi, decide_true, Bool.true_and]
  generalize BitVec.carry i (BitVec.ofNat 128 a) (BitVec.ofNat 128 b) c = g
  cases a.testBit i <;> cases b.testBit i <;> cases g <;> rfl
theorem plusW_l0 (w a b : Nat) (c : Bool) (hw : w ≤ 128) (d : Nat) : ∀ i : Nat, i + d = w →
    Ev (fun k => maskref1_plus.l0 k (vs w a 0) (vs w b 0) (kb (BitVec.carry i (BitVec.ofNat 128 a) (BitVec.ofNat 128 b) c)) (vs i (a + b + c.toNat) 0) (w : Int) (i : Int)) (vs w (a + b + c.toNat) 0) := by
  induction d with
  | zero =>
    intro i hi
    obtain rfl : i = w := by omega
    exact Ev.step (fun k => by rw [maskref1_plus.l0]) (Ev.neg (by omega) (Ev.now _))
  | succ d ih =>
    intro i hi
    have ih := ih (i + 1) (by omega)
    rw [vs_succ, st_kb, addW_bit _ _ _ _ (show i < 128 by omega), carryW_step _ _ _ _ (show i < 128 by omega)] at ih
    refine Ev.step (fun k => by rw [maskref1_plus.l0]) (Ev.pos (by omega) (Ev.pos (by omega) (Ev.pos (by rw [vs_length]; omega) (Ev.pos (by rw [vs_length]; omega) ?_))))
    rw [rd_vs _ _ _ _ (by omega), rd_vs _ _ _ _ (by omega), bzw64 (by omega), st_kb, st_kb]
    refine Ev.bind (XorOf_ev _ _) (Ev.bind (XorOf_ev _ _) (Ev.pos (by rw [vs_length]; omega) (Ev.bind (AndOf_ev _ _) (Ev.bind (XorOf_ev _ _) (Ev.bind (AndOf_ev _ _) (Ev.bind (OrOf_ev _ _) ?_))))))
    rw [xorS_kb, xorS_kb, andS_kb, andS_kb, orS_kb]
    exact ih
theorem plusW_ev (w a b : Nat) (c : Bool) (hw : w ≤ 128) : Ev (fun k => maskref1_plus.f k (vs w a 0) (vs w b 0) (kb c)) (vs w (a + b + c.toNat) 0) := by
  unfold maskref1_plus.f
  have h := plusW_l0 w a b c hw w 0 (by omega)
  rw [vs_length]
  have e : BitVec.carry 0 (BitVec.ofNat 128 a) (BitVec.ofNat 128 b) c = c := by simp [BitVec.carry_zero]
  rw [e] at h
  exact h
section
variable {w v x : Nat} (h1 : 1 ≤ w) (h2 : w ≤ 64) (hv : v < 2 ^ w) (hx : x < 2 ^ w)
include h1 h2 hv hx
end
end Go.Proofs.Ytlamgdibnnmbmaa.PLex
end
section
namespace Go.Proofs.Ytlamgdibnnmbmaa.PLex
open Go.RowKit Go.Proofs.YtlamgdibnnmbmaaW.PrintWords Go.Proofs.YtlamgdibnnmbmaaW.PrintLast Go.Proofs.YtlamgdibnnmbmaaW.PrintMore Go.Proofs.Ytlamgdibnnmbmaa.Bz
set_option linter.unusedVariables false
set_option linter.unusedSimpArgs false
set_option linter.unusedSectionVars false
theorem size_list (s : ByteArray) : s.size = s.data.toList.length := by rw [Array.length_toList]; rfl
theorem bt_nat (s : ByteArray) (i : Nat) (h : i < s.size) : bt s (i : Int) = ((s.data.toList[i]'(by rw [← size_list]; exact h)).toNat : Int) := by
  unfold bt
  simp only [Int.toNat_natCast]
  rw [dif_pos h]
  rfl
theorem bt_drop (s : ByteArray) (i : Nat) {c : UInt8} {r : List UInt8} (h : s.data.toList.drop i = c :: r) : i < s.size ∧ bt s (i : Int) = (c.toNat : Int) ∧ s.data.toList.drop (i + 1) = r := by
  have hl : i < s.data.toList.length := by
    rcases Nat.lt_or_ge i s.data.toList.length with h1 | h1
    · exact h1
    · rw [List.drop_eq_nil_of_le h1] at h; cases h
  rw [List.drop_eq_getElem_cons hl] at h
  injection h with h1 h2
  have hs : i < s.size := by rw [size_list]; exact hl
  exact ⟨hs, by rw [bt_nat s i hs, h1], h2⟩
theorem bt_none (s : ByteArray) (i : Nat) (h : s.data.toList.drop i = []) : s.size ≤ i := by
  rw [size_list]; exact List.drop_eq_nil_iff.1 h
theorem drop_vs (w v n : Nat) (h : n ≤ w) : (vs w v 0).drop n = vs (w - n) (v >>> n) 0 := by
  apply List.ext_getElem
  · rw [List.length_drop, vs_length, vs_length]
  · intro i h1 h2
    rw [List.length_drop, vs_length] at h1
    rw [List.getElem_drop, vs_get _ _ _ _ (by omega), vs_get _ _ _ _ (by omega)]
    unfold st
    rw [Nat.zero_testBit, Nat.zero_testBit, Nat.testBit_shiftRight]
theorem cons_vs (n a : Nat) : 48 :: vs n a 0 = vs (n + 1) (2 * a) 0 := by
  unfold vs
  rw [List.range_succ_eq_map, List.map_cons, List.map_map]
  congr 1
  · unfold st
    rw [Nat.zero_testBit, Nat.testBit_zero, Nat.mul_mod_right]; rfl
  · apply List.map_congr_left
    intro i _
    show st a 0 i = st (2 * a) 0 (i + 1)
    unfold st
    rw [Nat.zero_testBit, Nat.zero_testBit, Nat.testBit_succ, Nat.mul_div_cancel_left _ (by decide)]
theorem take_vs0 (w v n : Nat) (h : n ≤ w) : (vs w v 0).take n = vs n v 0 := take_vs w v 0 n h
theorem digit_set : ∀ (d : Fin 10) (j : Fin 4), (vs 70 (d.1 % 2 ^ j.1) 0).set j.1 ((48 + (Go.bits .and .u8 (shr .u8 ((((48 + d.1 : Nat) : Int) - 48) % 256) (j.1 : Int)) 1)) % 256) = vs 70 (d.1 % 2 ^ (j.1 + 1)) 0 := by decide +kernel
theorem wrapu (z : Int) : ∃ m : Nat, IntKind.u64.wrap z = (m : Int) ∧ m < 2 ^ 64 := by
  refine ⟨(z % 18446744073709551616).toNat, ?_, ?_⟩
  · rw [IntKind.wrap_u64]; omega
  · omega
def wide (W1 bad W2 : Int) : Prop := (bad = 0 ∧ W1 = W2 ∧ 1 ≤ W2 ∧ W2 ≤ 64) ∨ (bad = 2 ∧ W2 > 64 ∧ W2 ≤ 100000)
section
variable (s : ByteArray) (hs : s.size ≤ 4000) {W1 bad W2 : Int} (hw : wide W1 bad W2)
include hs hw
theorem dig_l1 (x6 : List Int) (x7 : Bool) (i : Nat) (hi : i < s.size) (x29 x30 : Int) {d : Nat} (hd : d < 10) (hb : bt s (i : Int) = ((48 + d : Nat) : Int)) {R : Int × Int × Int × Int}
    (h : Ev (fun k => maskref1_readDecimal.l1 k s W2 x6 x7 (i : Int) (vs 70 d 0) x29 x30 4) R) : ∀ (n j : Nat), j + n = 4 → Ev (fun k => maskref1_readDecimal.l1 k s W2 x6 x7 (i : Int) (vs 70 (d % 2 ^ j) 0) x29 x30 (j : Int)) R := by
  intro n
  induction n with
  | zero =>
    intro j hj
    obtain rfl : j = 4 := by omega
    rw [show d % 2 ^ 4 = d by omega]
    exact h
  | succ n ih =>
    intro j hj
    refine Ev.step (fun k => by rw [maskref1_readDecimal.l1]) (Ev.pos (by omega) (Ev.pos (by omega) (Ev.pos (by omega) (Ev.pos (by omega) (Ev.pos (by rw [vs_length]; omega) ?_)))))
    have e := digit_set ⟨d, hd⟩ ⟨j, by omega⟩
    simp only at e
    rw [hb, Int.toNat_natCast, e, bzw64 (n := (j : Int) + 1) (by omega)]
    exact ih (j + 1) (by omega)
theorem dec_l0 : ∀ (r : List UInt8) (i : Nat), s.data.toList.drop i = r → i ≤ s.size → ∀ (n8 N : Nat) (fl : Bool), n8 < 2 ^ 64 → (fl = false → n8 = N ∧ N < 2 ^ 64) →
    ∃ R, Ev (fun k => bits_decimal.l0 k s W1 bad (n8 : Int) fl (s.size : Int) (i : Int)) R ∧ Ev (fun k => maskref1_readDecimal.l0 k s W2 (vs 70 (if fl = true then 0 else N) 0) fl (s.size : Int) (i : Int)) R := by
  intro r
  induction r with
  | nil =>
    intro i hr hi n8 N fl hn8 hfl
    have hi2 := bt_none s i hr
    rcases hw with ⟨rfl, rfl, w1, w2⟩ | ⟨rfl, w1, w2⟩
    · obtain ⟨w, rfl⟩ := Int.eq_ofNat_of_zero_le (show 0 ≤ W1 by omega)
      cases fl with
      | true =>
        refine ⟨(0, 0, 0, 3), ?_, ?_⟩
        · refine Ev.step (fun k => by rw [bits_decimal.l0]) ?_
          exact Ev.neg (by omega) (Ev.pos rfl (Ev.pos rfl (Ev.now _)))
        · refine Ev.step (fun k => by rw [maskref1_readDecimal.l0]) ?_
          exact Ev.neg (by omega) (Ev.neg (by omega) (Ev.pos rfl (Ev.now _)))
      | false =>
        obtain ⟨rfl, hN⟩ := hfl rfl
        rw [if_neg (by decide)]
        have hsh : n8 >>> w < 2 ^ (70 - w) := lt_of_bits fun j hj => by rw [Nat.testBit_shiftRight]; exact bit_out hN (by omega)
        have ht := TruthW_ev (w := 70 - w) (v := n8 >>> w) (x := 0) hsh (Nat.pos_of_ne_zero (by simp)) (by omega)
        by_cases hbig : n8 < 2 ^ w
        · have z : n8 >>> w = 0 := by rw [Nat.shiftRight_eq_div_pow]; exact Nat.div_eq_of_lt hbig
          refine ⟨((w : Int), (n8 : Int), 0, 0), ?_, ?_⟩
          · refine Ev.step (fun k => by rw [bits_decimal.l0]) ?_
            refine Ev.neg (by omega) (Ev.pos rfl (Ev.neg (by decide) (Ev.bnd (mask_is w) ?_)))
            have hz : Go.bits .andNot .u64 (n8 : Int) ((msk w : Nat) : Int) = 0 := by
              rw [andNot_n _ _ hn8 (msk_lt w)]
              have : andn n8 (msk w) = 0 := by
                apply Nat.eq_of_testBit_eq
                intro j
                rw [testBit_andn _ _ _ hn8 (msk_lt w), testBit_msk, Nat.zero_testBit]
                rcases Nat.lt_or_ge j w with h | h
                · rw [decide_eq_true (show j < w ∧ j < 64 by omega)]; simp
                · rw [bit_out hbig h]; rfl
              rw [this]; rfl
            refine Ev.pos hz (Ev.bnd (Of_is (by omega) (by omega) hn8) ?_)
            rw [Nat.mod_eq_of_lt hbig]
            exact Ev.now _
          · refine Ev.step (fun k => by rw [maskref1_readDecimal.l0]) ?_
            rw [vs_length, Int.toNat_natCast, drop_vs _ _ _ (by omega), take_vs0 _ _ _ (by omega)]
            refine Ev.neg (by omega) (Ev.neg (by omega) (Ev.neg (by decide) (Ev.pos (by omega) (Ev.pos (by omega) (Ev.bind ht ?_)))))
            have hT : truS (n8 >>> w) 0 = 102 := by
              unfold truS
              rw [z, if_neg (by rintro ⟨i, h, _⟩; rw [Nat.zero_testBit] at h; cases h), if_pos rfl]
            rw [hT]
            have hB := B_num (w := w) (by omega) (by omega) n8
            rw [Nat.mod_eq_of_lt hbig] at hB
            exact Ev.neg (by decide) (Ev.bind hB (Ev.now _))
        · have hex : ∃ j, w ≤ j ∧ n8.testBit j = true := by
            apply Classical.byContradiction
            intro hno
            exact hbig (lt_of_bits fun j hj => by
              cases h : n8.testBit j with
              | false => rfl
              | true => exact absurd ⟨j, hj, h⟩ hno)
          obtain ⟨j, hj, hjb⟩ := hex
          refine ⟨(0, 0, 0, 3), ?_, ?_⟩
          · refine Ev.step (fun k => by rw [bits_decimal.l0]) ?_
            refine Ev.neg (by omega) (Ev.pos rfl (Ev.neg (by decide) (Ev.bnd (mask_is w) ?_)))
            refine Ev.neg ?_ (Ev.now _)
            rw [andNot_n _ _ hn8 (msk_lt w)]
            intro h0
            have h0' : andn n8 (msk w) = 0 := by exact_mod_cast h0
            have hb := testBit_andn n8 (msk w) j hn8 (msk_lt w)
            rw [h0', Nat.zero_testBit, hjb, testBit_msk, decide_eq_false (by omega)] at hb
            cases hb
          · refine Ev.step (fun k => by rw [maskref1_readDecimal.l0]) ?_
            rw [vs_length, Int.toNat_natCast, drop_vs _ _ _ (by omega)]
            refine Ev.neg (by omega) (Ev.neg (by omega) (Ev.neg (by decide) (Ev.pos (by omega) (Ev.pos (by omega) (Ev.bind ht ?_)))))
            have hT : truS (n8 >>> w) 0 = 116 := by
              unfold truS
              rw [if_pos ⟨j - w, by rw [Nat.testBit_shiftRight, show w + (j - w) = j by omega]; exact hjb, Nat.zero_testBit _⟩]
            rw [hT]
            exact Ev.pos rfl (Ev.now _)
    · refine ⟨(0, 0, 0, 2), ?_, ?_⟩
      · refine Ev.step (fun k => by rw [bits_decimal.l0]) ?_
        exact Ev.neg (by omega) (Ev.neg (by decide) (Ev.now _))
      · refine Ev.step (fun k => by rw [maskref1_readDecimal.l0]) ?_
        exact Ev.neg (by omega) (Ev.pos (by omega) (Ev.now _))
  | cons c r ih =>
    intro i hr hi n8 N fl hn8 hfl
    obtain ⟨hlt, hc, hr'⟩ := bt_drop s i hr
    by_cases hdig : 48 ≤ c.toNat ∧ c.toNat ≤ 57
    · obtain ⟨d, hd, hcd⟩ : ∃ d, d < 10 ∧ c.toNat = 48 + d := ⟨c.toNat - 48, by omega, by omega⟩
      rw [hcd] at hc
      have hdv : (bt s (i : Int) - 48) % 256 = (d : Int) := by rw [hc]; omega
      have p1 : ¬ bt s (i : Int) < 48 := by rw [hc]; omega
      have p2 : ¬ bt s (i : Int) > 57 := by rw [hc]; omega
      obtain ⟨m, hm1, hm2⟩ := wrapu (IntKind.u64.wrap (10 * (n8 : Int)) + (d : Int))
      have ref : ∀ (x6N : Nat) (x7 : Bool) (R : Int × Int × Int × Int), x6N < 2 ^ 64 →
          (x7 = true → Ev (fun k => maskref1_readDecimal.l0 k s W2 (vs 70 0 0) true (s.size : Int) ((i + 1 : Nat) : Int)) R) →
          (x7 = false → 10 * x6N + d < 2 ^ 64 → Ev (fun k => maskref1_readDecimal.l0 k s W2 (vs 70 (10 * x6N + d) 0) false (s.size : Int) ((i + 1 : Nat) : Int)) R) →
          (x7 = false → ¬ 10 * x6N + d < 2 ^ 64 → Ev (fun k => maskref1_readDecimal.l0 k s W2 (vs 70 0 0) true (s.size : Int) ((i + 1 : Nat) : Int)) R) →
          Ev (fun k => maskref1_readDecimal.l0 k s W2 (vs 70 x6N 0) x7 (s.size : Int) (i : Int)) R := by
        intro x6N x7 R hx6 g1 g2 g3
        have hf := Fill_ev 48 70 (by decide)
        rw [show List.replicate 70 (48 : Int) = vs 70 0 0 by decide] at hf
        have hf' : Ev (fun k => maskref1_Fill.f k 70 48) (vs 70 0 0) := hf
        refine Ev.step (fun k => by rw [maskref1_readDecimal.l0]) (Ev.pos (by omega) (Ev.pos (by omega) (Ev.pos (by omega) (Ev.neg p1 ?_))))
        rw [decide_eq_false p2]
        refine Ev.step (fun k => by rw [maskref1_readDecimal.j2]) ?_
        refine Ev.neg (by decide) (Ev.bind hf' ?_)
        have main := dig_l1 s hs hw (vs 70 x6N 0) x7 i hlt (s.size : Int) (i : Int) hd hc (R := R) ?_ 4 0 rfl
        · rw [show d % 2 ^ 0 = 0 by omega] at main
          exact main
        · have t1 : (([48] : List Int) ++ (vs 70 x6N 0).take 69) = vs 70 (2 * x6N) 0 := by
            rw [take_vs0 _ _ _ (by decide)]; exact cons_vs 69 x6N
          have t2 : (([48, 48, 48] : List Int) ++ (vs 70 x6N 0).take 67) = vs 70 (2 * (2 * (2 * x6N))) 0 := by
            rw [take_vs0 _ _ _ (by decide)]
            show 48 :: 48 :: 48 :: vs 67 x6N 0 = _
            rw [cons_vs, cons_vs, cons_vs]
          have q1 := plusW_ev 70 (2 * x6N) (2 * (2 * (2 * x6N))) false (by decide)
          have q2 := plusW_ev 70 (2 * x6N + 2 * (2 * (2 * x6N)) + false.toNat) d false (by decide)
          rw [show 2 * x6N + 2 * (2 * (2 * x6N)) + false.toNat + d + false.toNat = 10 * x6N + d by simp; omega] at q2
          have hlen : ((vs 70 x6N 0).length : Int) = 70 := by rw [vs_length]; rfl
          refine Ev.step (fun k => by rw [maskref1_readDecimal.l1]) ?_
          refine Ev.neg (by decide) (Ev.bnd rfl ?_)
          rw [hlen]
          refine Ev.pos (by decide) (Ev.bnd rfl ?_)
          refine Ev.pos (by rw [List.length_take, vs_length]; decide) (Ev.bnd rfl ?_)
          refine Ev.pos (by decide) (Ev.bnd rfl ?_)
          refine Ev.pos (by rw [List.length_take, vs_length]; decide) ?_
          rw [t1, t2, bzw64 (n := (i : Int) + 1) (by omega)]
          refine Ev.bind q1 (Ev.bind q2 ?_)
          cases x7 with
          | true => exact Ev.pos rfl (Ev.bind hf' (g1 rfl))
          | false =>
            refine Ev.neg (by decide) (Ev.pos (by rw [vs_length]; decide) ?_)
            rw [drop_vs _ _ _ (by decide)]
            have hb6 : (10 * x6N + d) >>> 64 < 2 ^ 6 := lt_of_bits fun j hj => by
              rw [Nat.testBit_shiftRight]
              exact bit_out (w := 70) (by omega) (by omega)
            have hcnt := Count_ev (w := 6) (v := (10 * x6N + d) >>> 64) (lim := 9) hb6 (by decide) (by decide)
            refine Ev.bind hcnt ?_
            by_cases hsm : 10 * x6N + d < 2 ^ 64
            · have z : (10 * x6N + d) >>> 64 = 0 := by rw [Nat.shiftRight_eq_div_pow]; exact Nat.div_eq_of_lt hsm
              rw [z]
              exact Ev.neg (by decide) (g2 rfl hsm)
            · have z : 1 ≤ (10 * x6N + d) >>> 64 := by rw [Nat.shiftRight_eq_div_pow]; omega
              have zp : ((min ((10 * x6N + d) >>> 64) 9 : Nat) : Int) > 0 := by omega
              refine Ev.pos zp (Ev.bind hf' ?_)
              rw [decide_eq_true zp]
              exact g3 rfl hsm
      have prog : ∀ (R : Int × Int × Int × Int), ((n8 : Int) > (18446744073709551615 - (d : Int)) / 10 → Ev (fun k => bits_decimal.l0 k s W1 bad (m : Int) true (s.size : Int) ((i + 1 : Nat) : Int)) R) →
          (¬ (n8 : Int) > (18446744073709551615 - (d : Int)) / 10 → Ev (fun k => bits_decimal.l0 k s W1 bad (m : Int) fl (s.size : Int) ((i + 1 : Nat) : Int)) R) →
          Ev (fun k => bits_decimal.l0 k s W1 bad (n8 : Int) fl (s.size : Int) (i : Int)) R := by
        intro R g1 g2
        refine Ev.step (fun k => by rw [bits_decimal.l0]) (Ev.pos (by omega) (Ev.pos (by omega) (Ev.pos (by omega) (Ev.neg p1 ?_))))
        rw [decide_eq_false p2]
        refine Ev.step (fun k => by rw [bits_decimal.j2]) ?_
        refine Ev.neg (by decide) (Ev.pos (by omega) (Ev.pos (by omega) ?_))
        rw [hdv, hm1, bzw64 (n := (i : Int) + 1) (by omega)]
        by_cases hb : (n8 : Int) > (18446744073709551615 - (d : Int)) / 10
        · exact Ev.pos hb (g1 hb)
        · exact Ev.neg hb (g2 hb)
      cases fl with
      | true =>
        obtain ⟨R, k1, k2⟩ := ih (i + 1) hr' (by omega) m 0 true hm2 (fun h => by cases h)
        rw [if_pos rfl] at k2
        refine ⟨R, prog R (fun _ => k1) (fun _ => k1), ?_⟩
        rw [if_pos rfl]
        exact ref 0 true R (by decide) (fun _ => k2) (fun h => by cases h) (fun h => by cases h)
      | false =>
        obtain ⟨rfl, hN⟩ := hfl rfl
        rw [IntKind.wrap_u64, IntKind.wrap_u64] at hm1
        by_cases hsm : 10 * n8 + d < 2 ^ 64
        · obtain ⟨R, k1, k2⟩ := ih (i + 1) hr' (by omega) m (10 * n8 + d) false hm2 (fun _ => ⟨by omega, hsm⟩)
          rw [if_neg (by decide)] at k2
          refine ⟨R, prog R (fun h => absurd h (by omega)) (fun _ => k1), ?_⟩
          rw [if_neg (by decide)]
          exact ref n8 false R hN (fun h => by cases h) (fun _ _ => k2) (fun _ h => absurd hsm h)
        · obtain ⟨R, k1, k2⟩ := ih (i + 1) hr' (by omega) m 0 true hm2 (fun h => by cases h)
          rw [if_pos rfl] at k2
          refine ⟨R, prog R (fun _ => k1) (fun h => absurd (show (n8 : Int) > (18446744073709551615 - (d : Int)) / 10 by omega) h), ?_⟩
          rw [if_neg (by decide)]
          exact ref n8 false R hN (fun h => by cases h) (fun _ h => absurd h hsm) (fun _ _ => k2)
    · refine ⟨(0, 0, 0, 10), ?_, ?_⟩
      · have j2 : Ev (fun k => bits_decimal.j2 k s W1 bad (n8 : Int) fl (i : Int) (s.size : Int) (i : Int) true) (0, 0, 0, 10) := by
          refine Ev.step (fun k => by rw [bits_decimal.j2]) ?_
          exact Ev.pos rfl (Ev.now _)
        refine Ev.step (fun k => by rw [bits_decimal.l0]) (Ev.pos (by omega) (Ev.pos (by omega) (Ev.pos (by omega) ?_)))
        rw [hc]
        by_cases h : (c.toNat : Int) < 48
        · exact Ev.pos h j2
        · refine Ev.neg h ?_
          rw [decide_eq_true (show (c.toNat : Int) > 57 by omega)]
          exact j2
      · have j2 : Ev (fun k => maskref1_readDecimal.j2 k s W2 (vs 70 (if fl = true then 0 else N) 0) fl (i : Int) (s.size : Int) (i : Int) true) (0, 0, 0, 10) := by
          refine Ev.step (fun k => by rw [maskref1_readDecimal.j2]) ?_
          exact Ev.pos rfl (Ev.now _)
        refine Ev.step (fun k => by rw [maskref1_readDecimal.l0]) (Ev.pos (by omega) (Ev.pos (by omega) (Ev.pos (by omega) ?_)))
        rw [hc]
        by_cases h : (c.toNat : Int) < 48
        · exact Ev.pos h j2
        · refine Ev.neg h ?_
          rw [decide_eq_true (show (c.toNat : Int) > 57 by omega)]
          exact j2
end
end Go.Proofs.Ytlamgdibnnmbmaa.PLex
end
section
namespace Go.Proofs.Ytlamgdibnnmbmaa.PLex
open Go.RowKit Go.Proofs.YtlamgdibnnmbmaaW.PrintWords Go.Proofs.YtlamgdibnnmbmaaW.PrintLast Go.Proofs.YtlamgdibnnmbmaaW.PrintMore Go.Proofs.Ytlamgdibnnmbmaa.Bz
set_option linter.unusedVariables false
set_option linter.unusedSimpArgs false
set_option linter.unusedSectionVars false
def xz (c : Int) : Bool := c == 120 || c == 122
def dv (c : Int) : Nat := if 48 ≤ c ∧ c ≤ 57 then (c - 48).toNat else if 97 ≤ c ∧ c ≤ 102 then (c - 87).toNat else 99
theorem dv_num {c : Int} (h1 : 48 ≤ c) (h2 : c ≤ 57) : dv c = (c - 48).toNat := by unfold dv; exact if_pos ⟨h1, h2⟩
theorem dv_let {c : Int} (h1 : 97 ≤ c) (h2 : c ≤ 102) : dv c = (c - 87).toNat := by unfold dv; rw [if_neg (by omega)]; exact if_pos ⟨h1, h2⟩
theorem dv_no {c : Int} (h1 : ¬ (48 ≤ c ∧ c ≤ 57)) (h2 : ¬ (97 ≤ c ∧ c ≤ 102)) : dv c = 99 := by unfold dv; rw [if_neg h1]; exact if_neg h2
def blk (g : Nat) (c : Int) : List Int := if xz c = true then List.replicate g c else vs g (dv c) 0
theorem blk_length (g : Nat) (c : Int) : (blk g c).length = g := by
  unfold blk
  split
  · exact List.length_replicate
  · exact vs_length _ _ _
def good (g : Nat) (c : Int) : Bool := xz c || decide (dv c < 2 ^ g)
theorem xz_or {c : Int} : xz c = true ↔ c = 120 ∨ c = 122 := by unfold xz; rw [Bool.or_eq_true, beq_iff_eq, beq_iff_eq]
theorem digit_ev (c : Int) : Ev (fun k => bits_digit.f k c) (if dv c = 99 then -1 else (dv c : Int)) := by
  unfold bits_digit.f
  by_cases h1 : c ≥ 48
  · refine Ev.pos h1 ?_
    by_cases h2 : c ≤ 57
    · rw [decide_eq_true h2, dv_num h1 h2]
      refine Ev.step (fun k => by rw [bits_digit.j0]) ?_
      exact Ev.pos rfl ((Ev.now _).eq (by rw [if_neg (by omega)]; omega))
    · rw [decide_eq_false h2]
      refine Ev.step (fun k => by rw [bits_digit.j0]) ?_
      refine Ev.neg (by decide) ?_
      by_cases h3 : c ≥ 97
      · refine Ev.pos h3 ?_
        by_cases h4 : c ≤ 102
        · exact Ev.pos h4 ((Ev.now _).eq (by rw [dv_let h3 h4, if_neg (by omega)]; omega))
        · exact Ev.neg h4 ((Ev.now _).eq (by rw [dv_no (by omega) (by omega)]; rfl))
      · exact Ev.neg h3 ((Ev.now _).eq (by rw [dv_no (by omega) (by omega)]; rfl))
  · refine Ev.neg h1 ?_
    refine Ev.step (fun k => by rw [bits_digit.j0]) ?_
    exact Ev.neg (by decide) (Ev.neg (by omega) ((Ev.now _).eq (by rw [dv_no (by omega) (by omega)]; rfl)))
section
variable (s : ByteArray) (hs : s.size ≤ 4000) (hn : 1 ≤ s.size) (g : Nat) (hg : g = 1 ∨ g = 3 ∨ g = 4)
def ch (t : Nat) : Int := bt s ((s.size - 1 - t : Nat) : Int)
def Vt : Nat → List Int
  | 0 => []
  | t + 1 => Vt t ++ blk g (ch s t)
theorem Vt_length : ∀ t, (Vt s g t).length = t * g
  | 0 => by rw [Nat.zero_mul]; rfl
  | t + 1 => by unfold Vt; rw [List.length_append, Vt_length t, blk_length, Nat.succ_mul]
theorem Vt_old (t i : Nat) (h : i < t * g) : (Vt s g (t + 1)).getD i 48 = (Vt s g t).getD i 48 := by
  show (Vt s g t ++ blk g (ch s t)).getD i 48 = _
  rw [List.getD_eq_getElem?_getD, List.getElem?_append_left (by rw [Vt_length]; exact h), ← List.getD_eq_getElem?_getD]
theorem Vt_new (t j : Nat) : (Vt s g (t + 1)).getD (t * g + j) 48 = (blk g (ch s t)).getD j 48 := by
  show (Vt s g t ++ blk g (ch s t)).getD (t * g + j) 48 = _
  rw [List.getD_eq_getElem?_getD, List.getElem?_append_right (by rw [Vt_length]; omega), Vt_length, show t * g + j - t * g = j by omega, ← List.getD_eq_getElem?_getD]
theorem Vt_at : ∀ (n t j : Nat), t < n → j < g → (Vt s g n).getD (t * g + j) 48 = (blk g (ch s t)).getD j 48
  | 0, _, _, h, _ => absurd h (by omega)
  | n + 1, t, j, h, hj => by
    rcases Nat.lt_or_ge t n with h1 | h1
    · rw [Vt_old _ _ _ _ (by
        have := Nat.mul_le_mul_right g (show t + 1 ≤ n by omega)
        rw [Nat.succ_mul] at this; omega)]
      exact Vt_at n t j h1 hj
    · obtain rfl : t = n := by omega
      exact Vt_new s g t j
variable {w : Nat} (h1 : 1 ≤ w) (h2 : w ≤ 64)
def okJ (w t j : Nat) : Prop := w ≤ t * g + j → (blk g (ch s t)).getD j 48 = 48 ∨ (xz (ch s t) = true ∧ t * g < w)
def okT (w n : Nat) : Prop := ∀ t, t < n → ∀ j, j < g → okJ s g w t j
def fil : Int := if xz (bt s 0) = true then bt s 0 else 48
def fn_ (j : Nat) : Int := if j < s.size * g then (Vt s g s.size).getD j 48 else fil s
include hg in
theorem g_pos : 1 ≤ g ∧ g ≤ 4 := by omega
include hs hg
theorem piece {c : Int} (hc : good g c = true) : ∃ vd xd : Nat, vd < 2 ^ g ∧ xd < 2 ^ g ∧ (∀ j, j < g → st vd xd j = (blk g c).getD j 48) ∧
    (xz c = true → Ev (fun k => bits_All.f k (g : Int) c) ((g : Int), (vd : Int), (xd : Int))) ∧ (xz c = false → ∃ e : Int, Ev (fun k => bits_digit.f k c) e ∧ bits_Of.f (g : Int) (IntKind.u64.wrap e) = some ((g : Int), (vd : Int), (xd : Int))) := by
  have hg1 := g_pos g hg
  have hp : 0 < 2 ^ g := Nat.pos_of_ne_zero (by simp)
  have hb : ∀ j, j < g → (msk g).testBit j = true := by
    intro i hi
    rw [testBit_msk, decide_eq_true_iff]; omega
  have hr : ∀ j, j < g → (List.replicate g c).getD j 48 = c := by
    intro i hi
    rw [List.getD_eq_getElem?_getD, List.getElem?_replicate, if_pos hi]; rfl
  cases hx : xz c with
  | true =>
    have hbl : blk g c = List.replicate g c := by unfold blk; rw [if_pos hx]
    rcases xz_or.1 hx with rfl | rfl
    · refine ⟨msk g, msk g, msk_lt' (by omega), msk_lt' (by omega), fun j hj => ?_, fun _ => (All_is (by omega) (by omega) 120).eq rfl, fun h => by cases h⟩
      rw [hbl, hr j hj]; unfold st; rw [hb j hj]; rfl
    · refine ⟨0, msk g, hp, msk_lt' (by omega), fun j hj => ?_, fun _ => (All_is (by omega) (by omega) 122).eq rfl, fun h => by cases h⟩
      rw [hbl, hr j hj]; unfold st; rw [hb j hj, Nat.zero_testBit]; rfl
  | false =>
    have hd : dv c < 2 ^ g := by
      unfold good at hc
      rw [hx, Bool.false_or, decide_eq_true_iff] at hc
      exact hc
    have hg16 : 2 ^ g ≤ 16 := by rcases hg with rfl | rfl | rfl <;> decide
    have hbl : blk g c = vs g (dv c) 0 := by unfold blk; rw [hx, if_neg (by decide)]
    refine ⟨dv c, 0, hd, hp, fun j hj => ?_, (fun h => by cases h), fun _ => ⟨_, digit_ev c, ?_⟩⟩
    · rw [hbl, List.getD_eq_getElem?_getD, List.getElem?_eq_getElem (by rw [vs_length]; exact hj), Option.getD_some, vs_get _ _ _ _ hj]
    · rw [if_neg (by omega)]
      rw [wrap_u64_nat _ (by omega), Of_is (by omega) (by omega) (by omega), Nat.mod_eq_of_lt hd]
      rfl
include hn h1 h2
theorem prog_l2 (t : Nat) (ht : t < s.size) {vd xd : Nat} (hvd : vd < 2 ^ g) (hxd : xd < 2 ^ g) (hst : ∀ j, j < g → st vd xd j = (blk g (ch s t)).getD j 48) (v x : Int) {R : Int × Int × Int × Int}
    (hR : (∀ j, j < g → okJ s g w t j) → Ev (fun k => bits_grouped.l2 k s (w : Int) (g : Int) ((t * g : Nat) : Int) ((s.size - 1 - t : Nat) : Int) (g : Int) (g : Int) (w : Int) v x (g : Int) (vd : Int) (xd : Int)) R)
    (hF : ¬ (∀ j, j < g → okJ s g w t j) → R = (0, 0, 0, 3)) :
    ∀ m j, j + m = g → (∀ j', j' < j → okJ s g w t j') → Ev (fun k => bits_grouped.l2 k s (w : Int) (g : Int) ((t * g : Nat) : Int) ((s.size - 1 - t : Nat) : Int) (g : Int) (j : Int) (w : Int) v x (g : Int) (vd : Int) (xd : Int)) R := by
  have hg1 := g_pos g hg
  have htg : t * g ≤ 16000 := by have := Nat.mul_le_mul (show t ≤ 4000 by omega) hg1.2; omega
  intro m
  induction m with
  | zero =>
    intro j hj hok
    obtain rfl : j = g := by omega
    exact hR hok
  | succ m ih =>
    intro j hj hok
    have next : okJ s g w t j → Ev (fun k => bits_grouped.l2 k s (w : Int) (g : Int) ((t * g : Nat) : Int) ((s.size - 1 - t : Nat) : Int) (g : Int) (wrap64 ((j : Int) + 1)) (w : Int) v x (g : Int) (vd : Int) (xd : Int)) R := by
      intro h
      rw [bzw64 (n := (j : Int) + 1) (by omega)]
      refine ih (j + 1) (by omega) (fun j' hj' => ?_)
      rcases Nat.lt_or_ge j' j with h3 | h3
      · exact hok j' h3
      · obtain rfl : j' = j := by omega
        exact h
    have j6f : okJ s g w t j → Ev (fun k => bits_grouped.j6 k s (w : Int) (g : Int) ((t * g : Nat) : Int) ((s.size - 1 - t : Nat) : Int) (g : Int) (j : Int) false (w : Int) v x (g : Int) (vd : Int) (xd : Int)) R := by
      intro h
      refine Ev.step (fun k => by rw [bits_grouped.j6]) ?_
      exact Ev.neg (by decide) (next h)
    refine Ev.step (fun k => by rw [bits_grouped.l2]) (Ev.pos (by omega) ?_)
    rw [bzw64 (n := ((t * g : Nat) : Int) + (j : Int)) (by omega)]
    by_cases hbey : w ≤ t * g + j
    · refine Ev.pos (by omega) ?_
      have hb := Bit_ev (w := g) (by omega) (by omega) hvd hxd (j : Int)
      unfold bitS at hb
      rw [if_pos (by omega), Int.toNat_natCast, hst j (by omega)] at hb
      refine Ev.bind hb ?_
      by_cases h48 : (blk g (ch s t)).getD j 48 = 48
      · rw [h48]
        exact j6f (fun _ => .inl h48)
      · rw [show ((blk g (ch s t)).getD j 48 != 48) = true from bne_iff_ne.2 h48]
        refine Ev.step (fun k => by rw [bits_grouped.j6]) ?_
        refine Ev.pos rfl (Ev.pos (by omega) (Ev.pos (by omega) ?_))
        have hch : bt s ((s.size - 1 - t : Nat) : Int) = ch s t := rfl
        have j7t : okJ s g w t j → Ev (fun k => bits_grouped.j7 k s (w : Int) (g : Int) ((t * g : Nat) : Int) ((s.size - 1 - t : Nat) : Int) (g : Int) (j : Int) true (w : Int) v x (g : Int) (vd : Int) (xd : Int)) R := by
          intro h
          refine Ev.step (fun k => by rw [bits_grouped.j7]) ?_
          exact Ev.pos rfl (next h)
        have j7f : ¬ okJ s g w t j → Ev (fun k => bits_grouped.j7 k s (w : Int) (g : Int) ((t * g : Nat) : Int) ((s.size - 1 - t : Nat) : Int) (g : Int) (j : Int) false (w : Int) v x (g : Int) (vd : Int) (xd : Int)) R := by
          intro h
          rw [hF (fun a => h (a j (by omega)))]
          refine Ev.step (fun k => by rw [bits_grouped.j7]) ?_
          exact Ev.neg (by decide) (Ev.now _)
        rw [hch]
        have both : xz (ch s t) = true → Ev (fun k => bits_grouped.j7 k s (w : Int) (g : Int) ((t * g : Nat) : Int) ((s.size - 1 - t : Nat) : Int) (g : Int) (j : Int) (decide (((t * g : Nat) : Int) < (w : Int))) (w : Int) v x (g : Int) (vd : Int) (xd : Int)) R := by
          intro hx
          by_cases hlt : t * g < w
          · rw [decide_eq_true (show ((t * g : Nat) : Int) < (w : Int) by omega)]
            exact j7t (fun _ => .inr ⟨hx, hlt⟩)
          · rw [decide_eq_false (show ¬ ((t * g : Nat) : Int) < (w : Int) by omega)]
            refine j7f (fun a => ?_)
            rcases a hbey with a | a
            · exact h48 a
            · exact hlt a.2
        by_cases e1 : ch s t = 120
        · exact Ev.pos e1 (both (xz_or.2 (.inl e1)))
        · refine Ev.neg e1 ?_
          by_cases e2 : ch s t = 122
          · exact Ev.pos e2 (both (xz_or.2 (.inr e2)))
          · refine Ev.neg e2 (j7f (fun a => ?_))
            rcases a hbey with a | a
            · exact h48 a
            · rcases xz_or.1 a.1 with a | a
              · exact e1 a
              · exact e2 a
    · refine Ev.neg (by omega) (j6f (fun a => absurd a hbey))
end
end Go.Proofs.Ytlamgdibnnmbmaa.PLex
end
section
namespace Go.Proofs.Ytlamgdibnnmbmaa.PLex
open Go.RowKit Go.Proofs.YtlamgdibnnmbmaaW.PrintWords Go.Proofs.YtlamgdibnnmbmaaW.PrintLast Go.Proofs.YtlamgdibnnmbmaaW.PrintMore Go.Proofs.Ytlamgdibnnmbmaa.Bz
set_option linter.unusedVariables false
set_option linter.unusedSimpArgs false
set_option linter.unusedSectionVars false
theorem all_xz {m : Nat} (h1 : 1 ≤ m) (h2 : m ≤ 64) {c : Int} (hx : xz c = true) : ∃ vd xd : Nat, vd < 2 ^ m ∧ xd < 2 ^ m ∧ (∀ j, j < m → st vd xd j = c) ∧ Ev (fun k => bits_All.f k (m : Int) c) ((m : Int), (vd : Int), (xd : Int)) := by
  have hp : 0 < 2 ^ m := Nat.pos_of_ne_zero (by simp)
  have hb : ∀ j, j < m → (msk m).testBit j = true := by
    intro i hi
    rw [testBit_msk, decide_eq_true_iff]; omega
  rcases xz_or.1 hx with rfl | rfl
  · refine ⟨msk m, msk m, msk_lt' (by omega), msk_lt' (by omega), fun j hj => ?_, (All_is h1 h2 120).eq rfl⟩
    unfold st; rw [hb j hj]; rfl
  · refine ⟨0, msk m, hp, msk_lt' (by omega), fun j hj => ?_, (All_is h1 h2 122).eq rfl⟩
    unfold st; rw [hb j hj, Nat.zero_testBit]; rfl
theorem getD_out {l : List Int} {j : Nat} (h : l.length ≤ j) : l.getD j 48 = 48 := by
  rw [List.getD_eq_getElem?_getD, List.getElem?_eq_none h]; rfl
section
variable (s : ByteArray) (hs : s.size ≤ 4000) (hn : 1 ≤ s.size) (g : Nat) (hg : g = 1 ∨ g = 3 ∨ g = 4)
variable {w : Nat} (h1 : 1 ≤ w) (h2 : w ≤ 64)
include hs hn hg h1 h2
theorem prog_end {v x : Nat} (hv : v < 2 ^ w) (hx : x < 2 ^ w) (hr : ∀ j, j < w → st v x j = (Vt s g s.size).getD j 48) :
    ∃ V X : Nat, V < 2 ^ w ∧ X < 2 ^ w ∧ (∀ j, j < w → st V X j = fn_ s g j) ∧ Ev (fun k => bits_grouped.l1 k s (w : Int) (g : Int) ((s.size * g : Nat) : Int) ((s.size : Int) - 1 - (s.size : Int)) (w : Int) (v : Int) (x : Int)) ((w : Int), (V : Int), (X : Int), 0) := by
  have hg1 := g_pos g hg
  have hlen := Vt_length s g s.size
  have enter : ∀ {R : Int × Int × Int × Int}, (xz (bt s 0) = true → Ev (fun k => bits_grouped.j8 k (w : Int) ((s.size * g : Nat) : Int) (bt s 0) (decide (((s.size * g : Nat) : Int) < (w : Int))) (w : Int) (v : Int) (x : Int)) R) →
      (xz (bt s 0) = false → Ev (fun k => bits_grouped.j8 k (w : Int) ((s.size * g : Nat) : Int) (bt s 0) false (w : Int) (v : Int) (x : Int)) R) →
      Ev (fun k => bits_grouped.l1 k s (w : Int) (g : Int) ((s.size * g : Nat) : Int) ((s.size : Int) - 1 - (s.size : Int)) (w : Int) (v : Int) (x : Int)) R := by
    intro R a b
    refine Ev.step (fun k => by rw [bits_grouped.l1]) (Ev.neg (by omega) (Ev.pos (by omega) ?_))
    by_cases e1 : bt s 0 = 120
    · exact Ev.pos e1 (a (xz_or.2 (.inl e1)))
    · refine Ev.neg e1 ?_
      by_cases e2 : bt s 0 = 122
      · exact Ev.pos e2 (a (xz_or.2 (.inr e2)))
      · refine Ev.neg e2 (b ?_)
        rw [Bool.eq_false_iff]
        intro h
        rcases xz_or.1 h with h | h
        · exact e1 h
        · exact e2 h
  have keep : Ev (fun k => bits_grouped.j8 k (w : Int) ((s.size * g : Nat) : Int) (bt s 0) false (w : Int) (v : Int) (x : Int)) ((w : Int), (v : Int), (x : Int), 0) := by
    refine Ev.step (fun k => by rw [bits_grouped.j8]) ?_
    exact Ev.neg (by decide) (Ev.now _)
  by_cases hx0 : xz (bt s 0) = true
  · by_cases hlt : s.size * g < w
    · obtain ⟨vd, xd, d1, d2, d3, d4⟩ := all_xz (m := w - s.size * g) (by omega) (by omega) hx0
      obtain ⟨V, X, G⟩ := Put_gives h1 h2 hv hx (show 1 ≤ w - s.size * g by omega) (by omega) d1 d2 ((s.size * g : Nat) : Int)
      refine ⟨V, X, G.v, G.x, fun j hj => ?_, enter (fun _ => ?_) (fun h => by rw [hx0] at h; cases h)⟩
      · rw [G.st j hj]
        unfold putS fn_ fil
        by_cases hj2 : j < s.size * g
        · rw [if_neg (by omega), if_pos hj2]; exact hr j hj
        · rw [if_pos (by omega), if_neg hj2, if_pos hx0, d3 _ (by omega)]
      · rw [decide_eq_true (show ((s.size * g : Nat) : Int) < (w : Int) by omega)]
        refine Ev.step (fun k => by rw [bits_grouped.j8]) ?_
        refine Ev.pos rfl ?_
        rw [bzw64 (n := (w : Int) - ((s.size * g : Nat) : Int)) (by omega), show (w : Int) - ((s.size * g : Nat) : Int) = ((w - s.size * g : Nat) : Int) by omega]
        exact Ev.bind d4 (Ev.bind G.ev (Ev.now _))
    · refine ⟨v, x, hv, hx, fun j hj => ?_, enter (fun _ => ?_) (fun h => by rw [hx0] at h; cases h)⟩
      · unfold fn_
        rw [if_pos (by omega)]; exact hr j hj
      · rw [decide_eq_false (show ¬ ((s.size * g : Nat) : Int) < (w : Int) by omega)]
        exact keep
  · rw [Bool.not_eq_true] at hx0
    refine ⟨v, x, hv, hx, fun j hj => ?_, enter (fun h => by rw [hx0] at h; cases h) (fun _ => keep)⟩
    unfold fn_ fil
    rw [hx0, if_neg (show ¬ (false = true) by decide)]
    by_cases hj2 : j < s.size * g
    · rw [if_pos hj2]; exact hr j hj
    · rw [if_neg hj2, hr j hj, getD_out (by omega)]
theorem prog_l1 (hgood : ∀ t, t < s.size → good g (ch s t) = true) : ∀ d t, t + d = s.size → ∀ {v x : Nat}, v < 2 ^ w → x < 2 ^ w → (∀ j, j < w → st v x j = (Vt s g t).getD j 48) → okT s g w t →
    ∃ R, Ev (fun k => bits_grouped.l1 k s (w : Int) (g : Int) ((t * g : Nat) : Int) ((s.size : Int) - 1 - (t : Int)) (w : Int) (v : Int) (x : Int)) R ∧
      (okT s g w s.size → ∃ V X : Nat, R = ((w : Int), (V : Int), (X : Int), 0) ∧ V < 2 ^ w ∧ X < 2 ^ w ∧ ∀ j, j < w → st V X j = fn_ s g j) ∧ (¬ okT s g w s.size → R = (0, 0, 0, 3)) := by
  have hg1 := g_pos g hg
  intro d
  induction d with
  | zero =>
    intro t ht v x hv hx hr hok
    obtain rfl : t = s.size := by omega
    obtain ⟨V, X, a, b, c, e⟩ := prog_end s hs hn g hg h1 h2 hv hx hr
    exact ⟨_, e, fun _ => ⟨V, X, rfl, a, b, c⟩, fun h => absurd hok h⟩
  | succ d ih =>
    intro t ht v x hv hx hr hok
    have htg : t * g ≤ 16000 := by have := Nat.mul_le_mul (show t ≤ 4000 by omega) hg1.2; omega
    have e14 : (s.size : Int) - 1 - (t : Int) = ((s.size - 1 - t : Nat) : Int) := by omega
    obtain ⟨vd, xd, d1, d2, d3, d4, d5⟩ := piece s hs g hg (hgood t (by omega))
    have enter : ∀ {R : Int × Int × Int × Int}, Ev (fun k => bits_grouped.l2 k s (w : Int) (g : Int) ((t * g : Nat) : Int) ((s.size - 1 - t : Nat) : Int) (g : Int) 0 (w : Int) (v : Int) (x : Int) (g : Int) (vd : Int) (xd : Int)) R →
        Ev (fun k => bits_grouped.l1 k s (w : Int) (g : Int) ((t * g : Nat) : Int) ((s.size : Int) - 1 - (t : Int)) (w : Int) (v : Int) (x : Int)) R := by
      intro R h
      have j4 : Ev (fun k => bits_grouped.j4 k s (w : Int) (g : Int) ((t * g : Nat) : Int) ((s.size - 1 - t : Nat) : Int) (w : Int) (v : Int) (x : Int) (g : Int) (vd : Int) (xd : Int)) R := by
        refine Ev.step (fun k => by rw [bits_grouped.j4]) ?_
        exact h
      have j3 : ∀ b, b = xz (ch s t) → Ev (fun k => bits_grouped.j3 k s (w : Int) (g : Int) ((t * g : Nat) : Int) ((s.size - 1 - t : Nat) : Int) (ch s t) b (w : Int) (v : Int) (x : Int)) R := by
        intro b hb
        refine Ev.step (fun k => by rw [bits_grouped.j3]) ?_
        cases b with
        | true => exact Ev.pos rfl (Ev.bind (d4 hb.symm) j4)
        | false =>
          obtain ⟨e, e1, e2⟩ := d5 hb.symm
          exact Ev.neg (by decide) (Ev.bind e1 (Ev.bnd e2 j4))
      rw [e14]
      have hch : bt s ((s.size - 1 - t : Nat) : Int) = ch s t := rfl
      refine Ev.step (fun k => by rw [bits_grouped.l1]) (Ev.pos (by omega) (Ev.pos (by omega) (Ev.pos (by omega) ?_)))
      rw [hch]
      by_cases e1 : ch s t = 120
      · exact Ev.pos e1 (j3 true (xz_or.2 (.inl e1)).symm)
      · refine Ev.neg e1 (j3 _ ?_)
        unfold xz
        rw [beq_eq_false_iff_ne.2 e1, Bool.false_or]
    by_cases hall : ∀ j, j < g → okJ s g w t j
    · obtain ⟨V, X, G⟩ := Put_gives h1 h2 hv hx (show 1 ≤ g by omega) (by omega) d1 d2 ((t * g : Nat) : Int)
      have hr' : ∀ j, j < w → st V X j = (Vt s g (t + 1)).getD j 48 := by
        intro j hj
        rw [G.st j hj]
        unfold putS
        by_cases c1 : j < t * g
        · rw [if_neg (by omega), hr j hj, Vt_old _ _ _ _ c1]
        · by_cases c2 : j < t * g + g
          · rw [if_pos (by omega), d3 _ (by omega)]
            have e := Vt_new s g t (j - t * g)
            rw [show t * g + (j - t * g) = j by omega] at e
            rw [e]
            congr 1
            omega
          · rw [if_neg (by omega), hr j hj, getD_out (by rw [Vt_length]; omega), getD_out (by rw [Vt_length, Nat.succ_mul]; omega)]
      obtain ⟨R, r1, r2, r3⟩ := ih (t + 1) (by omega) G.v G.x hr' (fun t' ht' => by
        rcases Nat.lt_or_ge t' t with h | h
        · exact hok t' h
        · obtain rfl : t' = t := by omega
          exact hall)
      refine ⟨R, enter ?_, r2, r3⟩
      refine prog_l2 s hs hn g hg h1 h2 t (by omega) d1 d2 d3 (v : Int) (x : Int) (fun _ => ?_) (fun h => absurd hall h) g 0 (by omega) (fun j' h => absurd h (by omega))
      refine Ev.step (fun k => by rw [bits_grouped.l2]) ?_
      refine Ev.neg (by omega) (Ev.bind G.ev ?_)
      rw [bzw64 (n := ((t * g : Nat) : Int) + (g : Int)) (by omega), bzw64 (n := ((s.size - 1 - t : Nat) : Int) - 1) (by omega), show ((t * g : Nat) : Int) + (g : Int) = (((t + 1) * g : Nat) : Int) by rw [Nat.succ_mul]; omega,
        show ((s.size - 1 - t : Nat) : Int) - 1 = (s.size : Int) - 1 - ((t + 1 : Nat) : Int) by omega]
      exact r1
    · refine ⟨(0, 0, 0, 3), enter ?_, fun h => absurd (h t (by omega)) hall, fun _ => rfl⟩
      exact prog_l2 s hs hn g hg h1 h2 t (by omega) d1 d2 d3 (v : Int) (x : Int) (fun h => absurd h hall) (fun _ => rfl) g 0 (by omega) (fun j' h => absurd h (by omega))
end
section
variable (s : ByteArray) (hs : s.size ≤ 4000) (g : Nat) (hg : g = 1 ∨ g = 3 ∨ g = 4) (W1 bad : Int) (y1 y2 y3 : Int)
include hs hg
theorem prog_l0 {R : Int × Int × Int × Int} (hR : (∀ i, i < s.size → good g (bt s (i : Int)) = true) → Ev (fun k => bits_grouped.l0 k s W1 (g : Int) bad (s.size : Int) (s.size : Int) y1 y2 y3) R) (hF : ¬ (∀ i, i < s.size → good g (bt s (i : Int)) = true) → R = (0, 0, 0, 10)) :
    ∀ d i, i + d = s.size → (∀ i', i' < i → good g (bt s (i' : Int)) = true) → Ev (fun k => bits_grouped.l0 k s W1 (g : Int) bad (s.size : Int) (i : Int) y1 y2 y3) R := by
  have hg1 := g_pos g hg
  have hshl : shl .i64 1 (g : Int) = ((2 ^ g : Nat) : Int) := by rcases hg with rfl | rfl | rfl <;> decide
  intro d
  induction d with
  | zero =>
    intro i hi hok
    obtain rfl : i = s.size := by omega
    exact hR hok
  | succ d ih =>
    intro i hi hok
    have jf : good g (bt s (i : Int)) = true → Ev (fun k => bits_grouped.j1 k s W1 (g : Int) bad (s.size : Int) (i : Int) false y1 y2 y3) R := by
      intro h
      refine Ev.step (fun k => by rw [bits_grouped.j1]) ?_
      refine Ev.neg (by decide) ?_
      rw [bzw64 (n := (i : Int) + 1) (by omega)]
      refine ih (i + 1) (by omega) (fun i' hi' => ?_)
      rcases Nat.lt_or_ge i' i with h3 | h3
      · exact hok i' h3
      · obtain rfl : i' = i := by omega
        exact h
    have jt : ¬ good g (bt s (i : Int)) = true → Ev (fun k => bits_grouped.j1 k s W1 (g : Int) bad (s.size : Int) (i : Int) true y1 y2 y3) R := by
      intro h
      rw [hF (fun a => h (a i (by omega)))]
      refine Ev.step (fun k => by rw [bits_grouped.j1]) ?_
      exact Ev.pos rfl (Ev.now _)
    refine Ev.step (fun k => by rw [bits_grouped.l0]) (Ev.pos (by omega) (Ev.pos (by omega) (Ev.pos (by omega) ?_)))
    generalize bt s (i : Int) = c at jf jt
    by_cases e1 : c = 120
    · exact Ev.pos e1 (jf (by unfold good; rw [xz_or.2 (.inl e1), Bool.true_or]))
    refine Ev.neg e1 ?_
    by_cases e2 : c = 122
    · exact Ev.pos e2 (jf (by unfold good; rw [xz_or.2 (.inr e2), Bool.true_or]))
    refine Ev.neg e2 (Ev.bind (digit_ev c) ?_)
    have hx : xz c = false := by
      unfold xz
      rw [beq_eq_false_iff_ne.2 e1, beq_eq_false_iff_ne.2 e2]; rfl
    have hgd : good g c = decide (dv c < 2 ^ g) := by unfold good; rw [hx, Bool.false_or]
    have hg16 : 2 ^ g ≤ 16 := by rcases hg with rfl | rfl | rfl <;> decide
    rw [hgd] at jf jt
    by_cases e3 : dv c = 99
    · rw [if_pos e3]
      exact Ev.pos (by decide) (jt (by rw [decide_eq_true_iff]; omega))
    · have hd := digit_ev c
      rw [if_neg e3] at hd ⊢
      refine Ev.neg (by omega) (Ev.bind hd (Ev.pos (by omega) ?_))
      rw [hshl]
      by_cases e4 : dv c < 2 ^ g
      · rw [decide_eq_false (show ¬ ((dv c : Int) ≥ ((2 ^ g : Nat) : Int)) by omega)]
        exact jf (decide_eq_true e4)
      · rw [decide_eq_true (show ((dv c : Int) ≥ ((2 ^ g : Nat) : Int)) by omega)]
        exact jt (by rw [decide_eq_true_iff]; exact e4)
end
end Go.Proofs.Ytlamgdibnnmbmaa.PLex
end
section
namespace Go.Proofs.Ytlamgdibnnmbmaa.PLex
open Go.RowKit Go.Proofs.YtlamgdibnnmbmaaW.PrintWords Go.Proofs.YtlamgdibnnmbmaaW.PrintLast Go.Proofs.YtlamgdibnnmbmaaW.PrintMore Go.Proofs.Ytlamgdibnnmbmaa.Bz
set_option linter.unusedVariables false
set_option linter.unusedSimpArgs false
set_option linter.unusedSectionVars false
theorem lit_at : ∀ j : Fin 16, bt (⟨#[48, 49, 50, 51, 52, 53, 54, 55, 56, 57, 97, 98, 99, 100, 101, 102]⟩ : ByteArray) (j.1 : Int) = if j.1 < 10 then 48 + (j.1 : Int) else 87 + (j.1 : Int) := by decide +kernel
theorem lit_is (j : Nat) (hj : j < 16) (c : Int) : (bt (⟨#[48, 49, 50, 51, 52, 53, 54, 55, 56, 57, 97, 98, 99, 100, 101, 102]⟩ : ByteArray) (j : Int) = c) ↔ dv c = j := by
  have h := lit_at ⟨j, hj⟩
  simp only at h
  rw [h]
  by_cases h1 : 48 ≤ c ∧ c ≤ 57
  · rw [dv_num h1.1 h1.2]; split <;> omega
  · by_cases h2 : 97 ≤ c ∧ c ≤ 102
    · rw [dv_let h2.1 h2.2]; split <;> omega
    · rw [dv_no h1 h2]; split <;> omega
theorem bit_st : ∀ (d : Fin 16) (j : Fin 4), (wrap64 (48 + (Go.bits .and .i64 (shr .i64 (d.1 : Int) (j.1 : Int)) 1))) % 256 = st d.1 0 j.1 := by decide +kernel
section
variable (s : ByteArray) (hs : s.size ≤ 4000) (hn : 1 ≤ s.size) (g : Nat) (hg : g = 1 ∨ g = 3 ∨ g = 4) (W2 : Int) (hW : 1 ≤ W2 ∧ W2 ≤ 100000)
def Lo : Nat → Int
  | 0 => 0
  | t + 1 => if xz (ch s t) = true ∧ ((t * g : Nat) : Int) < W2 ∧ ((t * g : Nat) : Int) + (g : Int) > W2 then ((t * g : Nat) : Int) + (g : Int) - W2 else Lo t
include hs hg hW
theorem ref_l2 (t : Nat) (ht : t < s.size) {d : Nat} (hd : d < 16) (x8 : List Int) (h8 : x8.length ≤ 20000) (x9 : Int) {R : Int × Int × Int × Int}
    (h : Ev (fun k => maskref1_readDigits.l0 k s W2 (g : Int) (x8 ++ vs g d 0) x9 ((s.size : Int) - 1 - ((t + 1 : Nat) : Int))) R) :
    ∀ m j, j + m = g → Ev (fun k => maskref1_readDigits.l2 k s W2 (g : Int) (x8 ++ vs j d 0) x9 ((s.size - 1 - t : Nat) : Int) (d : Int) (g : Int) (j : Int)) R := by
  have hg1 := g_pos g hg
  intro m
  induction m with
  | zero =>
    intro j hj
    obtain rfl : j = g := by omega
    refine Ev.step (fun k => by rw [maskref1_readDigits.l2]) (Ev.neg (by omega) ?_)
    rw [bzw64 (n := ((s.size - 1 - t : Nat) : Int) - 1) (by omega), show ((s.size - 1 - t : Nat) : Int) - 1 = (s.size : Int) - 1 - ((t + 1 : Nat) : Int) by omega]
    exact h
  | succ m ih =>
    intro j hj
    have e := bit_st ⟨d, hd⟩ ⟨j, by omega⟩
    simp only at e
    refine Ev.step (fun k => by rw [maskref1_readDigits.l2]) (Ev.pos (by omega) (Ev.pos (by omega) (Ev.pos (by rw [List.length_append, vs_length]; omega) ?_)))
    rw [e, bzw64 (n := (j : Int) + 1) (by omega), List.append_assoc, ← vs_succ]
    exact ih (j + 1) (by omega)
theorem ref_l1 (t : Nat) (ht : t < s.size) (x8 : List Int) (x9 : Int) {R : Int × Int × Int × Int}
    (h : Ev (fun k => maskref1_readDigits.j2 k s W2 (g : Int) x8 x9 ((s.size - 1 - t : Nat) : Int) (if dv (ch s t) < 2 ^ g then (dv (ch s t) : Int) else -1) (xz (ch s t))) R) :
    ∀ m j, j + m = 2 ^ g → Ev (fun k => maskref1_readDigits.l1 k s W2 (g : Int) x8 x9 ((s.size - 1 - t : Nat) : Int) (if dv (ch s t) < j then (dv (ch s t) : Int) else -1) ((2 ^ g : Nat) : Int) (j : Int)) R := by
  have hg16 : 2 ^ g ≤ 16 := by rcases hg with rfl | rfl | rfl <;> decide
  have hch : bt s ((s.size - 1 - t : Nat) : Int) = ch s t := rfl
  intro m
  induction m with
  | zero =>
    intro j hj
    obtain rfl : j = 2 ^ g := by omega
    refine Ev.step (fun k => by rw [maskref1_readDigits.l1]) (Ev.neg (by omega) (Ev.pos (by omega) (Ev.pos (by omega) ?_)))
    rw [hch]
    by_cases e1 : ch s t = 120
    · rw [xz_or.2 (.inl e1)] at h
      exact Ev.pos e1 h
    · refine Ev.neg e1 ?_
      have : xz (ch s t) = (ch s t == 122) := by unfold xz; rw [beq_eq_false_iff_ne.2 e1, Bool.false_or]
      rw [this] at h
      exact h
  | succ m ih =>
    intro j hj
    refine Ev.step (fun k => by rw [maskref1_readDigits.l1]) (Ev.pos (by omega) (Ev.pos (by omega) (Ev.pos (by omega) (Ev.pos (by omega) (Ev.pos (by omega) ?_)))))
    rw [hch, bzw64 (n := (j : Int) + 1) (by omega)]
    have nxt := ih (j + 1) (by omega)
    by_cases e : dv (ch s t) = j
    · rw [if_pos (by omega), e] at nxt
      exact Ev.pos ((lit_is j (by omega) _).2 e) nxt
    · refine Ev.neg (fun a => e ((lit_is j (by omega) _).1 a)) (nxt.congr fun k => ?_)
      congr 1
      by_cases e2 : dv (ch s t) < j
      · rw [if_pos e2, if_pos (by omega)]
      · rw [if_neg e2, if_neg (by omega)]
theorem ref_l0 {R : Int × Int × Int × Int} (hR : (∀ t, t < s.size → good g (ch s t) = true) → Ev (fun k => maskref1_readDigits.l0 k s W2 (g : Int) (Vt s g s.size) (Lo s g W2 s.size) ((s.size : Int) - 1 - (s.size : Int))) R)
    (hF : ¬ (∀ t, t < s.size → good g (ch s t) = true) → R = (0, 0, 0, 10)) :
    ∀ d t, t + d = s.size → (∀ t', t' < t → good g (ch s t') = true) → Ev (fun k => maskref1_readDigits.l0 k s W2 (g : Int) (Vt s g t) (Lo s g W2 t) ((s.size : Int) - 1 - (t : Int))) R := by
  have hg1 := g_pos g hg
  have hg16 : 2 ^ g ≤ 16 := by rcases hg with rfl | rfl | rfl <;> decide
  have hshl : shl .i64 1 (g : Int) = ((2 ^ g : Nat) : Int) := by rcases hg with rfl | rfl | rfl <;> decide
  intro d
  induction d with
  | zero =>
    intro t ht hok
    obtain rfl : t = s.size := by omega
    exact hR hok
  | succ d ih =>
    intro t ht hok
    have htg : t * g ≤ 16000 := by have := Nat.mul_le_mul (show t ≤ 4000 by omega) hg1.2; omega
    have e14 : (s.size : Int) - 1 - (t : Int) = ((s.size - 1 - t : Nat) : Int) := by omega
    have hch : bt s ((s.size - 1 - t : Nat) : Int) = ch s t := rfl
    have hlen := Vt_length s g t
    have e15 : wrap64 (((s.size - 1 - t : Nat) : Int) - 1) = (s.size : Int) - 1 - ((t + 1 : Nat) : Int) := by rw [bzw64 (by omega)]; omega
    rw [e14]
    refine Ev.step (fun k => by rw [maskref1_readDigits.l0]) (Ev.pos (by omega) (Ev.pos (by omega) ?_))
    rw [hshl]
    have enter := ref_l1 s hs g hg W2 hW t (by omega) (Vt s g t) (Lo s g W2 t) (R := R) ?_ (2 ^ g) 0 (by omega)
    · rw [if_neg (by omega)] at enter
      exact enter
    have nxt : good g (ch s t) = true → Ev (fun k => maskref1_readDigits.l0 k s W2 (g : Int) (Vt s g t ++ blk g (ch s t)) (Lo s g W2 (t + 1)) ((s.size : Int) - 1 - ((t + 1 : Nat) : Int))) R := by
      intro h
      refine ih (t + 1) (by omega) (fun t' ht' => ?_)
      rcases Nat.lt_or_ge t' t with h3 | h3
      · exact hok t' h3
      · obtain rfl : t' = t := by omega
        exact h
    refine Ev.step (fun k => by rw [maskref1_readDigits.j2]) ?_
    cases hx : xz (ch s t) with
    | true =>
      have nxt := nxt (by unfold good; rw [hx, Bool.true_or])
      have hbl : blk g (ch s t) = List.replicate g (ch s t) := by unfold blk; rw [if_pos hx]
      rw [hbl] at nxt
      have hf := Fill_ev (ch s t) g (by omega)
      refine Ev.pos rfl ?_
      rw [hlen, bzw64 (n := ((t * g : Nat) : Int) + (g : Int)) (by omega)]
      by_cases c1 : ((t * g : Nat) : Int) < W2
      · refine Ev.pos c1 ?_
        by_cases c2 : ((t * g : Nat) : Int) + (g : Int) > W2
        · have hL : Lo s g W2 (t + 1) = ((t * g : Nat) : Int) + (g : Int) - W2 := by
            show (if _ then _ else _) = _
            rw [if_pos ⟨hx, c1, c2⟩]
          rw [hL] at nxt
          refine Ev.pos c2 (Ev.pos (by omega) (Ev.pos (by omega) ?_))
          rw [hch]
          refine Ev.bind hf (Ev.pos (by rw [List.length_replicate]; omega) ?_)
          rw [bzw64 (n := ((t * g : Nat) : Int) + (g : Int) - W2) (by omega), e15]
          exact nxt
        · have hL : Lo s g W2 (t + 1) = Lo s g W2 t := by
            show (if _ then _ else _) = _
            rw [if_neg (fun a => c2 a.2.2)]
          rw [hL] at nxt
          refine Ev.neg c2 (Ev.pos (by omega) (Ev.pos (by omega) ?_))
          rw [hch]
          refine Ev.bind hf (Ev.pos (by rw [List.length_replicate]; omega) ?_)
          rw [e15]
          exact nxt
      · have hL : Lo s g W2 (t + 1) = Lo s g W2 t := by
          show (if _ then _ else _) = _
          rw [if_neg (fun a => c1 a.2.1)]
        rw [hL] at nxt
        refine Ev.neg c1 (Ev.pos (by omega) (Ev.pos (by omega) ?_))
        rw [hch]
        refine Ev.bind hf (Ev.pos (by rw [List.length_replicate]; omega) ?_)
        rw [e15]
        exact nxt
    | false =>
      refine Ev.neg (by decide) ?_
      by_cases hd : dv (ch s t) < 2 ^ g
      · have nxt := nxt (by unfold good; rw [decide_eq_true hd, Bool.or_true])
        have hbl : blk g (ch s t) = vs g (dv (ch s t)) 0 := by unfold blk; rw [hx, if_neg (by decide)]
        have hL : Lo s g W2 (t + 1) = Lo s g W2 t := by
          show (if _ then _ else _) = _
          rw [if_neg (fun a => by rw [hx] at a; cases a.1)]
        rw [hbl, hL] at nxt
        rw [if_pos hd]
        refine Ev.neg (by omega) ?_
        have := ref_l2 s hs g hg W2 hW t (by omega) (d := dv (ch s t)) (by omega) (Vt s g t) (by omega) (Lo s g W2 t) nxt g 0 (by omega)
        rw [show vs 0 (dv (ch s t)) 0 = [] from rfl, List.append_nil] at this
        exact this
      · rw [if_neg hd]
        have hng : ¬ good g (ch s t) = true := by unfold good; rw [hx, Bool.false_or, decide_eq_true_iff]; exact hd
        rw [hF (fun a => hng (a t (by omega)))]
        exact Ev.pos (by decide) (Ev.now _)
end
section
variable {w : Nat} (h1 : 1 ≤ w) (h2 : w ≤ 64)
include h1 h2
theorem fill_l3 (x9 : Int) (f : Int) {R : Int × Int × Int × Int} : ∀ m (Z : List Int), Z.length ≤ 20000 → w - Z.length = m → Ev (fun k => maskref1_readDigits.l4 k (w : Int) (Z ++ List.replicate m f) (wrap64 ((w : Int) + x9))) R → Ev (fun k => maskref1_readDigits.l3 k (w : Int) Z x9 f) R := by
  intro m
  induction m with
  | zero =>
    intro Z hZ hm h
    refine Ev.step (fun k => by rw [maskref1_readDigits.l3]) (Ev.neg (by omega) ?_)
    rw [List.replicate_zero, List.append_nil] at h
    exact h
  | succ m ih =>
    intro Z hZ hm h
    refine Ev.step (fun k => by rw [maskref1_readDigits.l3]) (Ev.pos (by omega) (Ev.pos (by omega) ?_))
    refine ih (Z ++ [f]) (by rw [List.length_append, List.length_singleton]; omega) (by rw [List.length_append, List.length_singleton]; omega) ?_
    rw [List.append_assoc, List.singleton_append, ← List.replicate_succ]
    exact h
theorem check_l4 (Z : List Int) (hZ : Z.length ≤ 20000) (hw : w ≤ Z.length) {R : Int × Int × Int × Int} (a0 : Nat)
    (hR : (∀ i, a0 ≤ i → i < Z.length → Z.getD i 48 = 48) → ∃ V X : Int, Ev (fun k => maskref1_B.f k (Z.take w)) ((w : Int), V, X) ∧ R = ((w : Int), V, X, 0)) (hF : ¬ (∀ i, a0 ≤ i → i < Z.length → Z.getD i 48 = 48) → R = (0, 0, 0, 3)) :
    ∀ d a, (a + d = Z.length ∨ (d = 0 ∧ Z.length ≤ a ∧ a ≤ 200000)) → a0 ≤ a → (∀ i, a0 ≤ i → i < a → i < Z.length → Z.getD i 48 = 48) → Ev (fun k => maskref1_readDigits.l4 k (w : Int) Z (a : Int)) R := by
  intro d
  induction d with
  | zero =>
    intro a ha h0 hok
    obtain ⟨V, X, hB, rfl⟩ := hR (fun i hi hi2 => hok i hi (by omega) hi2)
    refine Ev.step (fun k => by rw [maskref1_readDigits.l4]) (Ev.neg (by omega) (Ev.pos (by omega) (Ev.pos (by omega) ?_)))
    rw [Int.toNat_natCast]
    exact Ev.bind hB (Ev.now _)
  | succ d ih =>
    intro a ha h0 hok
    have hrd : rd Z (a : Int) = Z.getD a 48 := by
      unfold rd
      rw [Int.toNat_natCast, List.getD_eq_getElem?_getD, List.getD_eq_getElem?_getD, List.getElem?_eq_getElem (by omega)]; rfl
    refine Ev.step (fun k => by rw [maskref1_readDigits.l4]) (Ev.pos (by omega) (Ev.pos (by omega) ?_))
    rw [hrd]
    by_cases e : Z.getD a 48 = 48
    · refine Ev.pos e ?_
      rw [bzw64 (n := (a : Int) + 1) (by omega)]
      refine ih (a + 1) (by omega) (by omega) (fun i hi hi2 hi3 => ?_)
      rcases Nat.lt_or_ge i a with h3 | h3
      · exact hok i hi h3 hi3
      · obtain rfl : i = a := by omega
        exact e
    · rw [hF (fun a' => e (a' a h0 (by omega)))]
      exact Ev.neg e (Ev.now _)
end
end Go.Proofs.Ytlamgdibnnmbmaa.PLex
end
section
namespace Go.Proofs.Ytlamgdibnnmbmaa.PLex
open Go.RowKit Go.Proofs.YtlamgdibnnmbmaaW.PrintWords Go.Proofs.YtlamgdibnnmbmaaW.PrintLast Go.Proofs.YtlamgdibnnmbmaaW.PrintMore Go.Proofs.Ytlamgdibnnmbmaa.Bz
set_option linter.unusedVariables false
set_option linter.unusedSimpArgs false
set_option linter.unusedSectionVars false
section
variable (s : ByteArray) (hs : s.size ≤ 4000) (hn : 1 ≤ s.size) (g : Nat) (hg : g = 1 ∨ g = 3 ∨ g = 4)
def stra (W2 : Int) (t : Nat) : Prop := xz (ch s t) = true ∧ ((t * g : Nat) : Int) < W2 ∧ ((t * g : Nat) : Int) + (g : Int) > W2
theorem Lo_spec (W2 : Int) : ∀ n, (Lo s g W2 n = 0 ∧ ∀ t, t < n → ¬ stra s g W2 t) ∨ (∃ t0, t0 < n ∧ stra s g W2 t0 ∧ Lo s g W2 n = ((t0 * g : Nat) : Int) + (g : Int) - W2)
  | 0 => .inl ⟨rfl, fun t h => absurd h (by omega)⟩
  | n + 1 => by
    by_cases h : stra s g W2 n
    · refine .inr ⟨n, by omega, h, ?_⟩
      show (if _ then _ else _) = _
      exact if_pos h
    · have hL : Lo s g W2 (n + 1) = Lo s g W2 n := by
        show (if _ then _ else _) = _
        exact if_neg h
      rw [hL]
      rcases Lo_spec W2 n with ⟨a, b⟩ | ⟨t0, a, b, c⟩
      · refine .inl ⟨a, fun t ht => ?_⟩
        rcases Nat.lt_or_ge t n with h3 | h3
        · exact b t h3
        · obtain rfl : t = n := by omega
          exact h
      · exact .inr ⟨t0, by omega, b, c⟩
include hg in
theorem ok_iff {w : Nat} {a0 : Nat} (ha : (a0 : Int) = (w : Int) + Lo s g (w : Int) s.size) (f : Int) :
    okT s g w s.size ↔ ∀ i, a0 ≤ i → i < (Vt s g s.size ++ List.replicate (w - s.size * g) f).length → (Vt s g s.size ++ List.replicate (w - s.size * g) f).getD i 48 = 48 := by
  have hlen := Vt_length s g s.size
  have hzl : (Vt s g s.size ++ List.replicate (w - s.size * g) f).length = s.size * g + (w - s.size * g) := by rw [List.length_append, hlen, List.length_replicate]
  have hget : ∀ i, i < s.size * g → (Vt s g s.size ++ List.replicate (w - s.size * g) f).getD i 48 = (Vt s g s.size).getD i 48 := by
    intro i hi
    rw [List.getD_eq_getElem?_getD, List.getElem?_append_left (by rw [hlen]; exact hi), ← List.getD_eq_getElem?_getD]
  have hsp := Lo_spec s g (w : Int) s.size
  have hle : ∀ t, t < s.size → t * g + g ≤ s.size * g := by
    intro t ht
    have := Nat.mul_le_mul_right g (show t + 1 ≤ s.size by omega)
    rw [Nat.succ_mul] at this; exact this
  have hg1 := g_pos g hg
  constructor
  · intro hok i hi hlt
    rw [hzl] at hlt
    have hwi : w ≤ i := by
      rcases hsp with ⟨a, _⟩ | ⟨t0, _, b, c⟩
      · omega
      · unfold stra at b; omega
    have hin : i < s.size * g := by omega
    rw [hget i hin]
    have hdiv : i / g < s.size := Nat.div_lt_of_lt_mul (by rw [Nat.mul_comm]; exact hin)
    have hmod : i % g < g := Nat.mod_lt _ (by omega)
    have hi' : i / g * g + i % g = i := by rw [Nat.mul_comm]; exact Nat.div_add_mod i g
    have e := Vt_at s g s.size (i / g) (i % g) hdiv hmod
    rw [hi'] at e
    rw [e]
    have := hok (i / g) hdiv (i % g) hmod (by rw [hi']; exact hwi)
    rcases this with h | ⟨h, h'⟩
    · exact h
    · exfalso
      have hst : stra s g (w : Int) (i / g) := ⟨h, by omega, by omega⟩
      rcases hsp with ⟨_, b⟩ | ⟨t0, a, b, c⟩
      · exact b _ hdiv hst
      · have ht : t0 = i / g := by
          unfold stra at b hst
          rcases Nat.lt_trichotomy t0 (i / g) with q | q | q
          · have := Nat.mul_le_mul_right g (show t0 + 1 ≤ i / g by omega)
            rw [Nat.succ_mul] at this; omega
          · exact q
          · have := Nat.mul_le_mul_right g (show i / g + 1 ≤ t0 by omega)
            rw [Nat.succ_mul] at this; omega
        rw [ht] at c
        omega
  · intro hall t ht j hj hbey
    have e := Vt_at s g s.size t j ht hj
    have hlt := hle t ht
    by_cases hge : a0 ≤ t * g + j
    · left
      rw [← e, ← hget _ (by omega)]
      exact hall _ hge (by rw [hzl]; omega)
    · right
      rcases hsp with ⟨a, _⟩ | ⟨t0, a, b, c⟩
      · omega
      · have hb := b
        unfold stra at hb
        have ht0 : t0 = t := by
          rcases Nat.lt_trichotomy t0 t with q | q | q
          · have := Nat.mul_le_mul_right g (show t0 + 1 ≤ t by omega)
            rw [Nat.succ_mul] at this; omega
          · exact q
          · have := Nat.mul_le_mul_right g (show t + 1 ≤ t0 by omega)
            rw [Nat.succ_mul] at this; omega
        rw [ht0] at hb
        exact ⟨hb.1, by omega⟩
include hs hn hg
theorem grouped_same {W1 bad W2 : Int} (hw : wide W1 bad W2) : ∃ R, Ev (fun k => bits_grouped.f k s W1 (g : Int) bad) R ∧ Ev (fun k => maskref1_readDigits.f k s W2 (g : Int)) R := by
  have hg1 := g_pos g hg
  have hsg : s.size * g ≤ 16000 := by have := Nat.mul_le_mul hs hg1.2; omega
  have hW : 1 ≤ W2 ∧ W2 ≤ 100000 := by unfold wide at hw; omega
  have iffG : (∀ i, i < s.size → good g (bt s (i : Int)) = true) ↔ (∀ t, t < s.size → good g (ch s t) = true) := by
    constructor
    · intro h t ht
      exact h (s.size - 1 - t) (by omega)
    · intro h i hi
      have := h (s.size - 1 - i) (by omega)
      unfold ch at this
      rw [show s.size - 1 - (s.size - 1 - i) = i by omega] at this
      exact this
  have start : ∀ {R}, Ev (fun k => maskref1_readDigits.l0 k s W2 (g : Int) (Vt s g 0) (Lo s g W2 0) ((s.size : Int) - 1 - ((0 : Nat) : Int))) R → Ev (fun k => maskref1_readDigits.f k s W2 (g : Int)) R := by
    intro R h
    unfold maskref1_readDigits.f
    rw [bzw64 (n := (s.size : Int) - 1) (by omega)]
    rw [show (s.size : Int) - 1 - ((0 : Nat) : Int) = (s.size : Int) - 1 by omega] at h
    exact h
  have startP : ∀ {R}, Ev (fun k => bits_grouped.l0 k s W1 (g : Int) bad (s.size : Int) ((0 : Nat) : Int) W1 0 0) R → Ev (fun k => bits_grouped.f k s W1 (g : Int) bad) R := by
    intro R h
    unfold bits_grouped.f
    exact h
  by_cases hG : ∀ t, t < s.size → good g (ch s t) = true
  · have hG' := iffG.2 hG
    rcases hw with ⟨rfl, rfl, w1, w2⟩ | ⟨rfl, w1, w2⟩
    · obtain ⟨w, rfl⟩ := Int.eq_ofNat_of_zero_le (show 0 ≤ W1 by omega)
      have hw1 : 1 ≤ w := by omega
      have hw2 : w ≤ 64 := by omega
      have hp : 0 < 2 ^ w := Nat.pos_of_ne_zero (by simp)
      obtain ⟨R, r1, r2, r3⟩ := prog_l1 s hs hn g hg hw1 hw2 hG s.size 0 (by omega) (v := 0) (x := 0) hp hp (fun j _ => by unfold st; rw [Nat.zero_testBit]; rfl) (fun t h => absurd h (by omega))
      refine ⟨R, startP (prog_l0 s hs g hg (w : Int) 0 (w : Int) 0 0 (fun _ => ?_) (fun h => absurd hG' h) s.size 0 (by omega) (fun i h => absurd h (by omega))), start (ref_l0 s hs g hg (w : Int) hW (fun _ => ?_) (fun h => absurd hG h) s.size 0 (by omega) (fun i h => absurd h (by omega)))⟩
      · refine Ev.step (fun k => by rw [bits_grouped.l0]) (Ev.neg (by omega) (Ev.pos rfl ?_))
        rw [bzw64 (n := (s.size : Int) - 1) (by omega)]
        rw [Nat.zero_mul, show (s.size : Int) - 1 - ((0 : Nat) : Int) = (s.size : Int) - 1 by omega] at r1
        exact r1
      ·
        have hlen := Vt_length s g s.size
        have hLo : 0 ≤ Lo s g (w : Int) s.size ∧ Lo s g (w : Int) s.size ≤ 4 := by
          rcases Lo_spec s g (w : Int) s.size with ⟨a, _⟩ | ⟨t0, a, b, c⟩
          · omega
          · unfold stra at b; omega
        obtain ⟨a0, ha0⟩ : ∃ a0 : Nat, (a0 : Int) = (w : Int) + Lo s g (w : Int) s.size := ⟨((w : Int) + Lo s g (w : Int) s.size).toNat, by omega⟩
        have hzl : ∀ f : Int, (Vt s g s.size ++ List.replicate (w - s.size * g) f).length = s.size * g + (w - s.size * g) := fun f => by rw [List.length_append, hlen, List.length_replicate]
        have tail : Ev (fun k => maskref1_readDigits.j5 k (w : Int) (Vt s g s.size) (Lo s g (w : Int) s.size) (fil s)) R := by
          refine Ev.step (fun k => by rw [maskref1_readDigits.j5]) ?_
          refine fill_l3 hw1 hw2 _ (fil s) (w - s.size * g) (Vt s g s.size) (by omega) (by rw [hlen]) ?_
          rw [bzw64 (n := (w : Int) + Lo s g (w : Int) s.size) (by omega), ← ha0]
          have hif := ok_iff s g hg (w := w) ha0 (fil s)
          refine check_l4 hw1 hw2 (Vt s g s.size ++ List.replicate (w - s.size * g) (fil s)) (by rw [hzl]; omega) (by rw [hzl]; omega) a0 (fun h => ?_) (fun h => r3 (fun a => h (hif.1 a))) (s.size * g + (w - s.size * g) - a0) a0 ?_ (Nat.le_refl _) (fun i h h' _ => absurd h' (by omega))
          · obtain ⟨V, X, hR, hV, hX, hst⟩ := r2 (hif.2 h)
            refine ⟨(V : Int), (X : Int), B_is hw1 hw2 ?_ hV hX (fun j hj => ?_), hR⟩
            · rw [List.length_take, hzl]; omega
            · rw [hst j hj, List.getD_eq_getElem?_getD, List.getElem?_take, if_pos hj]
              unfold fn_
              by_cases hj2 : j < s.size * g
              · rw [if_pos hj2, List.getElem?_append_left (by rw [hlen]; exact hj2), List.getD_eq_getElem?_getD, List.getElem?_eq_getElem (by rw [hlen]; exact hj2)]; rfl
              · rw [if_neg hj2, List.getElem?_append_right (by rw [hlen]; omega), List.getElem?_replicate, hlen, if_pos (by omega)]; rfl
          · rw [hzl]; omega
        refine Ev.step (fun k => by rw [maskref1_readDigits.l0]) (Ev.neg (by omega) (Ev.neg (by omega) (Ev.pos (by omega) ?_)))
        have jt : xz (bt s 0) = true → Ev (fun k => maskref1_readDigits.j4 k s (w : Int) (Vt s g s.size) (Lo s g (w : Int) s.size) 48 true) R := by
          intro hx
          refine Ev.step (fun k => by rw [maskref1_readDigits.j4]) ?_
          refine Ev.pos rfl (Ev.pos (by omega) ?_)
          have : fil s = bt s 0 := by unfold fil; exact if_pos hx
          rw [this] at tail
          exact tail
        by_cases e1 : bt s 0 = 120
        · exact Ev.pos e1 (jt (xz_or.2 (.inl e1)))
        · refine Ev.neg e1 ?_
          by_cases e2 : bt s 0 = 122
          · rw [show (bt s 0 == 122) = true from beq_iff_eq.2 e2]
            exact jt (xz_or.2 (.inr e2))
          · rw [show (bt s 0 == 122) = false from beq_eq_false_iff_ne.2 e2]
            have hx : ¬ xz (bt s 0) = true := fun h => by
              rcases xz_or.1 h with h | h
              · exact e1 h
              · exact e2 h
            refine Ev.step (fun k => by rw [maskref1_readDigits.j4]) ?_
            have : fil s = 48 := by unfold fil; exact if_neg hx
            rw [this] at tail
            exact Ev.neg (by decide) tail
    · refine ⟨(0, 0, 0, 2), startP (prog_l0 s hs g hg W1 2 W1 0 0 (fun _ => ?_) (fun h => absurd hG' h) s.size 0 (by omega) (fun i h => absurd h (by omega))), start (ref_l0 s hs g hg W2 hW (fun _ => ?_) (fun h => absurd hG h) s.size 0 (by omega) (fun i h => absurd h (by omega)))⟩
      · refine Ev.step (fun k => by rw [bits_grouped.l0]) (Ev.neg (by omega) (Ev.neg (by decide) (Ev.now _)))
      · refine Ev.step (fun k => by rw [maskref1_readDigits.l0]) (Ev.neg (by omega) (Ev.pos (by omega) (Ev.now _)))
  · have hG' : ¬ (∀ i, i < s.size → good g (bt s (i : Int)) = true) := fun a => hG (iffG.1 a)
    exact ⟨(0, 0, 0, 10), startP (prog_l0 s hs g hg W1 bad W1 0 0 (fun h => absurd h hG') (fun _ => rfl) s.size 0 (by omega) (fun i h => absurd h (by omega))), start (ref_l0 s hs g hg W2 hW (fun h => absurd h hG) (fun _ => rfl) s.size 0 (by omega) (fun i h => absurd h (by omega)))⟩
theorem decimal_same {W1 bad W2 : Int} (hw : wide W1 bad W2) : ∃ R, Ev (fun k => bits_decimal.f k s W1 bad) R ∧ Ev (fun k => maskref1_readDecimal.f k s W2) R := by
  have both : ∀ c : UInt8, xz (c.toNat : Int) = true → s.data.toList = [c] → ∃ R, Ev (fun k => bits_decimal.j0 k s W1 bad true) R ∧ Ev (fun k => maskref1_readDecimal.j0 k s W2 true) R := by
    intro c hc hl
    have hb : bt s 0 = (c.toNat : Int) := (bt_drop s 0 (c := c) (r := []) (by rw [List.drop_zero]; exact hl)).2.1
    rcases hw with ⟨rfl, rfl, w1, w2⟩ | ⟨rfl, w1, w2⟩
    · obtain ⟨w, rfl⟩ := Int.eq_ofNat_of_zero_le (show 0 ≤ W1 by omega)
      refine ⟨((allS w (c.toNat : Int)).1, (allS w (c.toNat : Int)).2.1, (allS w (c.toNat : Int)).2.2, 0), ?_, ?_⟩
      · refine Ev.step (fun k => by rw [bits_decimal.j0]) ?_
        refine Ev.pos rfl (Ev.pos rfl (Ev.pos (by omega) ?_))
        rw [hb]
        exact Ev.bind (All_is (by omega) (by omega) _) (Ev.now _)
      · refine Ev.step (fun k => by rw [maskref1_readDecimal.j0]) ?_
        refine Ev.pos rfl (Ev.neg (by omega) (Ev.pos (by omega) ?_))
        rw [hb]
        have hc4 : (c.toNat : Int) = 48 ∨ (c.toNat : Int) = 49 ∨ (c.toNat : Int) = 120 ∨ (c.toNat : Int) = 122 := by
          rcases xz_or.1 hc with h | h
          · exact .inr (.inr (.inl h))
          · exact .inr (.inr (.inr h))
        have hB : Ev (fun k => maskref1_B.f k (List.replicate w (c.toNat : Int))) (allS w (c.toNat : Int)) := by
          have hp : 0 < 2 ^ w := Nat.pos_of_ne_zero (by simp)
          have hgd : ∀ i, i < w → (List.replicate w (c.toNat : Int)).getD i 0 = (c.toNat : Int) := by
            intro i hi
            rw [List.getD_eq_getElem?_getD, List.getElem?_replicate, if_pos hi]; rfl
          have hbm : ∀ i, i < w → (msk w).testBit i = true := by
            intro i hi
            rw [testBit_msk, decide_eq_true_iff]; omega
          have hl2 : (List.replicate w (c.toNat : Int)).length = w := List.length_replicate
          rcases xz_or.1 hc with h | h
          · refine (B_is (by omega) (by omega) hl2 (v := msk w) (x := msk w) (msk_lt' (by omega)) (msk_lt' (by omega)) fun i hi => ?_).eq (by rw [h]; rfl)
            rw [hgd i hi]; unfold st; rw [hbm i hi, h]; rfl
          · refine (B_is (by omega) (by omega) hl2 (v := 0) (x := msk w) hp (msk_lt' (by omega)) fun i hi => ?_).eq (by rw [h]; rfl)
            rw [hgd i hi]; unfold st; rw [Nat.zero_testBit, hbm i hi, h]; rfl
        exact Ev.bind (Fill_ev _ w (by omega)) (Ev.bind hB (Ev.now _))
    · refine ⟨(0, 0, 0, 2), ?_, ?_⟩
      · refine Ev.step (fun k => by rw [bits_decimal.j0]) ?_
        exact Ev.pos rfl (Ev.neg (by decide) (Ev.now _))
      · refine Ev.step (fun k => by rw [maskref1_readDecimal.j0]) ?_
        exact Ev.pos rfl (Ev.pos (by omega) (Ev.now _))
  have ht : ∀ c : UInt8, s.toList = ([c] : List UInt8) ↔ s.data.toList = [c] := fun c => by rw [ByteArray.toList_eq]
  by_cases h1 : s.toList = ([120] : List UInt8)
  · obtain ⟨R, k1, k2⟩ := both 120 (by decide) ((ht 120).1 h1)
    refine ⟨R, ?_, ?_⟩
    · unfold bits_decimal.f; exact Ev.pos h1 k1
    · unfold maskref1_readDecimal.f; exact Ev.pos h1 k2
  · by_cases h2 : s.toList = ([122] : List UInt8)
    · obtain ⟨R, k1, k2⟩ := both 122 (by decide) ((ht 122).1 h2)
      refine ⟨R, ?_, ?_⟩
      · unfold bits_decimal.f
        refine Ev.neg h1 ?_
        rw [show (s.toList == ([122] : List UInt8)) = true from beq_iff_eq.2 h2]
        exact k1
      · unfold maskref1_readDecimal.f
        refine Ev.neg h1 ?_
        rw [show (s.toList == ([122] : List UInt8)) = true from beq_iff_eq.2 h2]
        exact k2
    · obtain ⟨R, k1, k2⟩ := dec_l0 s hs hw s.data.toList 0 (List.drop_zero ..) (Nat.zero_le _) 0 0 false (by decide) (fun _ => ⟨rfl, by decide⟩)
      rw [if_neg (by decide)] at k2
      refine ⟨R, ?_, ?_⟩
      · unfold bits_decimal.f
        refine Ev.neg h1 ?_
        rw [show (s.toList == ([122] : List UInt8)) = false from beq_eq_false_iff_ne.2 h2]
        refine Ev.step (fun k => by rw [bits_decimal.j0]) ?_
        exact Ev.neg (by decide) k1
      · unfold maskref1_readDecimal.f
        refine Ev.neg h1 ?_
        rw [show (s.toList == ([122] : List UInt8)) = false from beq_eq_false_iff_ne.2 h2]
        refine Ev.step (fun k => by rw [maskref1_readDecimal.j0]) ?_
        have hf := Fill_ev 48 70 (by decide)
        rw [show List.replicate 70 (48 : Int) = vs 70 0 0 by decide] at hf
        have hf' : Ev (fun k => maskref1_Fill.f k 70 48) (vs 70 0 0) := hf
        exact Ev.neg (by decide) (Ev.bind hf' k2)
end
end Go.Proofs.Ytlamgdibnnmbmaa.PLex
end
section
namespace Go.Proofs.Ytlamgdibnnmbmaa.PLex
open Go.RowKit Go.Proofs.YtlamgdibnnmbmaaW.PrintWords Go.Proofs.YtlamgdibnnmbmaaW.PrintLast Go.Proofs.YtlamgdibnnmbmaaW.PrintMore Go.Proofs.Ytlamgdibnnmbmaa.Bz
set_option linter.unusedVariables false
set_option linter.unusedSimpArgs false
set_option linter.unusedSectionVars false
abbrev R4 := Int × Int × Int × Int
def syn4 : R4 := (0, 0, 0, 10)
theorem bt_get (s : ByteArray) (i : Nat) (h : i < s.size) : bt s (i : Int) = ((s[i]'h).toNat : Int) := by
  unfold bt
  simp only [Int.toNat_natCast]
  rw [dif_pos h]
theorem bt_cut (s : ByteArray) (a b i : Nat) (hb : b ≤ s.size) (h : a + i < b) : bt (s.extract a b) (i : Int) = bt s ((a + i : Nat) : Int) := by
  have hz : (s.extract a b).size = b - a := by rw [ByteArray.size_extract]; omega
  rw [bt_get _ _ (by omega), bt_get _ _ (by omega)]
  congr 2
  simp [ByteArray.getElem_extract]
section
variable (s : ByteArray) (hs : s.size ≤ 3000)
def isd (i : Nat) : Prop := i < s.size ∧ 48 ≤ bt s (i : Int) ∧ bt s (i : Int) ≤ 57
def dgt (i : Nat) : Int := bt s (i : Int) - 48
def capN : Nat → Int
  | 0 => 0
  | i + 1 => mn (10 * capN i + dgt s i) 1000
def letN : Nat → Int
  | 0 => 0
  | i + 1 => if letN i < 1000 then 10 * letN i + dgt s i else letN i
theorem nums_are (k : Nat) (h : ∀ i, i < k → isd s i) : 0 ≤ capN s k ∧ capN s k ≤ 1000 ∧ 0 ≤ letN s k ∧ letN s k ≤ 10000 ∧ (capN s k < 1000 → letN s k = capN s k) ∧ (letN s k < 1000 → letN s k = capN s k) := by
  induction k with
  | zero =>
    have e1 : capN s 0 = 0 := rfl
    have e2 : letN s 0 = 0 := rfl
    rw [e1, e2]
    exact ⟨by omega, by omega, by omega, by omega, fun _ => rfl, fun _ => rfl⟩
  | succ k ih =>
    obtain ⟨a1, a2, a3, a4, a5, a6⟩ := ih (fun i hi => h i (by omega))
    obtain ⟨_, b1, b2⟩ := h k (by omega)
    have hd : 0 ≤ dgt s k ∧ dgt s k ≤ 9 := by unfold dgt; omega
    have e1 : capN s (k + 1) = mn (10 * capN s k + dgt s k) 1000 := rfl
    have e2 : letN s (k + 1) = if letN s k < 1000 then 10 * letN s k + dgt s k else letN s k := rfl
    unfold mn at e1
    generalize capN s k = A at *
    generalize letN s k = B at *
    generalize dgt s k = D at *
    rw [e1, e2]
    split <;> split <;> (refine ⟨?_, ?_, ?_, ?_, ?_, ?_⟩ <;> omega)
include hs
theorem size_l0 {R : Int × Int × Int} : ∀ d i, i + d = s.size → (∀ j, j < i → isd s j) → (∀ k, k ≤ s.size → (∀ j, j < k → isd s j) → ¬ isd s k → Ev (fun n => bits_size.j1 n s (capN s k) (k : Int) false) R) → Ev (fun n => bits_size.l0 n s (capN s i) (i : Int)) R := by
  intro d
  induction d with
  | zero =>
    intro i hi hok h
    refine Ev.step (fun k => by rw [bits_size.l0]) (Ev.neg (by omega) ?_)
    exact h i (by omega) hok (fun a => by unfold isd at a; omega)
  | succ d ih =>
    intro i hi hok h
    refine Ev.step (fun k => by rw [bits_size.l0]) (Ev.pos (by omega) (Ev.pos (by omega) ?_))
    by_cases h1 : bt s (i : Int) ≥ 48
    · refine Ev.pos h1 ?_
      by_cases h2 : bt s (i : Int) ≤ 57
      · rw [decide_eq_true h2]
        obtain ⟨a1, a2, _⟩ := nums_are s i hok
        refine Ev.step (fun k => by rw [bits_size.j1]) ?_
        refine Ev.pos rfl (Ev.pos (by omega) (Ev.pos (by omega) ?_))
        have e : mn (wrap64 (wrap64 (10 * capN s i) + (bt s (i : Int) - 48) % 256)) 1000 = capN s (i + 1) := by
          show _ = mn (10 * capN s i + dgt s i) 1000
          unfold dgt
          rw [bzw64 (n := 10 * capN s i) (by omega), bzw64 (by omega), show (bt s (i : Int) - 48) % 256 = bt s (i : Int) - 48 by omega]
        rw [e, bzw64 (n := (i : Int) + 1) (by omega)]
        refine ih (i + 1) (by omega) (fun j hj => ?_) h
        rcases Nat.lt_or_ge j i with h3 | h3
        · exact hok j h3
        · obtain rfl : j = i := by omega
          exact ⟨by omega, h1, h2⟩
      · rw [decide_eq_false h2]
        exact h i (by omega) hok (fun a => h2 a.2.2)
    · exact Ev.neg h1 (h i (by omega) hok (fun a => h1 a.2.1))
theorem first_l0 {R : R4} : ∀ d i, i + d = s.size → (∀ j, j < i → isd s j) → (∀ k, k ≤ s.size → (∀ j, j < k → isd s j) → ¬ isd s k → Ev (fun n => maskref1_ReadBits.j1 n s (k : Int) false) R) → Ev (fun n => maskref1_ReadBits.l0 n s (i : Int)) R := by
  intro d
  induction d with
  | zero =>
    intro i hi hok h
    refine Ev.step (fun k => by rw [maskref1_ReadBits.l0]) (Ev.neg (by omega) ?_)
    exact h i (by omega) hok (fun a => by unfold isd at a; omega)
  | succ d ih =>
    intro i hi hok h
    refine Ev.step (fun k => by rw [maskref1_ReadBits.l0]) (Ev.pos (by omega) (Ev.pos (by omega) ?_))
    by_cases h1 : bt s (i : Int) ≥ 48
    · refine Ev.pos h1 ?_
      by_cases h2 : bt s (i : Int) ≤ 57
      · rw [decide_eq_true h2]
        refine Ev.step (fun k => by rw [maskref1_ReadBits.j1]) ?_
        refine Ev.pos rfl ?_
        rw [bzw64 (n := (i : Int) + 1) (by omega)]
        refine ih (i + 1) (by omega) (fun j hj => ?_) h
        rcases Nat.lt_or_ge j i with h3 | h3
        · exact hok j h3
        · obtain rfl : j = i := by omega
          exact ⟨by omega, h1, h2⟩
      · rw [decide_eq_false h2]
        exact h i (by omega) hok (fun a => h2 a.2.2)
    · exact Ev.neg h1 (h i (by omega) hok (fun a => h1 a.2.1))
theorem width_l1 {R : R4} (k : Nat) (hk : k ≤ s.size) (hd : ∀ j, j < k → isd s j) (h : Ev (fun n => maskref1_ReadBits.l1 n s (k : Int) (letN s k) (s.extract 0 k) (k : Int)) R) : ∀ d i, i + d = k → Ev (fun n => maskref1_ReadBits.l1 n s (k : Int) (letN s i) (s.extract 0 k) (i : Int)) R := by
  have hz : (s.extract 0 k).size = k := by rw [ByteArray.size_extract]; omega
  intro d
  induction d with
  | zero =>
    intro i hi
    obtain rfl : i = k := by omega
    exact h
  | succ d ih =>
    intro i hi
    obtain ⟨_, _, a3, a4, _⟩ := nums_are s i (fun j hj => hd j (by omega))
    obtain ⟨_, b1, b2⟩ := hd i (by omega)
    have hb : bt (s.extract 0 k) (i : Int) = bt s (i : Int) := by
      have := bt_cut s 0 k i hk (by omega)
      rw [Nat.zero_add] at this; exact this
    have w1 : wrap32 (bt s (i : Int)) = bt s (i : Int) := by unfold wrap32; omega
    have w2 : wrap32 (127 - bt s (i : Int)) = 127 - bt s (i : Int) := by unfold wrap32; omega
    have w3 : wrap32 (bt s (i : Int) - 48) = bt s (i : Int) - 48 := by unfold wrap32; omega
    refine Ev.step (fun n => by rw [maskref1_ReadBits.l1]) (Ev.pos (by rw [hz]; omega) (Ev.pos (by omega) ?_))
    rw [hb, w1, w2, w3, bzw64 (n := 100000 - (i : Int)) (by omega), bzw64 (n := (i : Int) + 1) (by omega)]
    refine Ev.pos (by omega) (Ev.pos (by omega) ?_)
    have nxt := ih (i + 1) (by omega)
    by_cases hc : letN s i < 1000
    · refine Ev.pos hc ?_
      have e : letN s (i + 1) = 10 * letN s i + (bt s (i : Int) - 48) := by
        show (if letN s i < 1000 then 10 * letN s i + dgt s i else letN s i) = _
        rw [if_pos hc]; rfl
      rw [e] at nxt
      rw [bzw64 (n := bt s (i : Int) - 48) (by omega), bzw64 (n := 10 * letN s i) (by omega), bzw64 (by omega)]
      exact nxt
    · refine Ev.neg hc ?_
      have e : letN s (i + 1) = letN s i := by
        show (if letN s i < 1000 then 10 * letN s i + dgt s i else letN s i) = _
        rw [if_neg hc]
      rw [e] at nxt
      exact nxt
end
theorem quad {f : Nat → Option R4} {R : R4} (h : Ev f R) : Ev (fun k => (f k).bind fun b => some (b.1, b.2.1, b.2.2.1, b.2.2.2)) R := Ev.bind h (Ev.now _)
section
variable (x : ByteArray) (hs : x.size ≤ 3000) {W1 bad W2 : Int} (hw : wide W1 bad W2)
include hs hw
theorem base_same : ∃ R, Ev (fun k => bits_Read.j2 k x W1 bad) R ∧ Ev (fun k => maskref1_ReadBits.j5 k x W2) R := by
  by_cases h2 : (x.size : Int) < 2
  · refine ⟨syn4, ?_, ?_⟩
    · refine Ev.step (fun k => by rw [bits_Read.j2]) ?_
      exact Ev.pos h2 (Ev.now _)
    · refine Ev.step (fun k => by rw [maskref1_ReadBits.j5]) ?_
      exact Ev.pos h2 (Ev.now _)
  have hz : (x.extract 1 x.size).size = x.size - 1 := by rw [ByteArray.size_extract]; omega
  have hby := bt_byte x 0
  have size_ : ∀ r, r = (if bt x 0 = 98 then (1 : Int) else if bt x 0 = 111 then 3 else if bt x 0 = 104 then 4 else if bt x 0 = 100 then 99 else 0) → sizeT.f (bt x 0) = some r := by
    intro r hr
    unfold sizeT.f
    rw [if_pos hby, hr]
  have refE : ∀ {R : R4} (r : Int), sizeT.f (bt x 0) = some r → Ev (fun k => if r = 0 then some ((0, 0, 0, 10) : R4) else if r = 99 then (if 1 ≤ (x.size : Int) then ((maskref1_readDecimal.f k (x.extract 1 x.size) W2).bind fun bt249 => (some (bt249.1, bt249.2.1, bt249.2.2.1, bt249.2.2.2))) else none) else (if 1 ≤ (x.size : Int) then ((maskref1_readDigits.f k (x.extract 1 x.size) W2 r).bind fun bt253 => (some (bt253.1, bt253.2.1, bt253.2.2.1, bt253.2.2.2))) else none)) R → Ev (fun k => maskref1_ReadBits.j5 k x W2) R := by
    intro R r hr h
    refine Ev.step (fun k => by rw [maskref1_ReadBits.j5]) ?_
    exact Ev.neg h2 (Ev.bnd rfl (Ev.pos (by omega) (Ev.bnd hr h)))
  have grp : ∀ (g : Nat), (g = 1 ∨ g = 3 ∨ g = 4) → sizeT.f (bt x 0) = some (g : Int) → (∀ {R : R4}, Ev (fun k => bits_Read.j3 k x W1 bad (g : Int)) R → Ev (fun k => bits_Read.j2 k x W1 bad) R) → ∃ R, Ev (fun k => bits_Read.j2 k x W1 bad) R ∧ Ev (fun k => maskref1_ReadBits.j5 k x W2) R := by
    intro g hg hsz hj
    obtain ⟨R, r1, r2⟩ := grouped_same (x.extract 1 x.size) (by omega) (by omega) g hg hw
    refine ⟨R, hj ?_, refE (g : Int) hsz ?_⟩
    · refine Ev.step (fun k => by rw [bits_Read.j3]) ?_
      exact Ev.neg (by omega) (Ev.pos (by omega) (quad r1))
    · exact Ev.neg (by omega) (Ev.neg (by omega) (Ev.pos (by omega) (quad r2)))
  by_cases e1 : bt x 0 = 98
  · refine grp 1 (.inl rfl) (size_ _ (by rw [if_pos e1]; rfl)) (fun h => ?_)
    refine Ev.step (fun k => by rw [bits_Read.j2]) ?_
    exact Ev.neg h2 (Ev.pos (by omega) (Ev.pos e1 h))
  by_cases e2 : bt x 0 = 111
  · refine grp 3 (.inr (.inl rfl)) (size_ _ (by rw [if_neg e1, if_pos e2]; rfl)) (fun h => ?_)
    refine Ev.step (fun k => by rw [bits_Read.j2]) ?_
    exact Ev.neg h2 (Ev.pos (by omega) (Ev.neg e1 (Ev.pos e2 h)))
  by_cases e3 : bt x 0 = 104
  · refine grp 4 (.inr (.inr rfl)) (size_ _ (by rw [if_neg e1, if_neg e2, if_pos e3]; rfl)) (fun h => ?_)
    refine Ev.step (fun k => by rw [bits_Read.j2]) ?_
    exact Ev.neg h2 (Ev.pos (by omega) (Ev.neg e1 (Ev.neg e2 (Ev.pos e3 h))))
  by_cases e4 : bt x 0 = 100
  · obtain ⟨R, r1, r2⟩ := decimal_same (x.extract 1 x.size) (by omega) (by omega) 1 (.inl rfl) hw
    refine ⟨R, ?_, refE 99 (size_ _ (by rw [if_neg e1, if_neg e2, if_neg e3, if_pos e4])) ?_⟩
    · refine Ev.step (fun k => by rw [bits_Read.j2]) ?_
      exact Ev.neg h2 (Ev.pos (by omega) (Ev.neg e1 (Ev.neg e2 (Ev.neg e3 (Ev.pos e4 (Ev.pos (by omega) (quad r1)))))))
    · exact Ev.neg (by decide) (Ev.pos rfl (Ev.pos (by omega) (quad r2)))
  · refine ⟨syn4, ?_, refE 0 (size_ _ (by rw [if_neg e1, if_neg e2, if_neg e3, if_neg e4])) (Ev.pos rfl (Ev.now _))⟩
    refine Ev.step (fun k => by rw [bits_Read.j2]) ?_
    refine Ev.neg h2 (Ev.pos (by omega) (Ev.neg e1 (Ev.neg e2 (Ev.neg e3 (Ev.neg e4 ?_)))))
    refine Ev.step (fun k => by rw [bits_Read.j3]) ?_
    exact Ev.pos rfl (Ev.now _)
theorem sign_same (b : Bool) (hb : b = true → 1 ≤ x.size) : ∃ R, Ev (fun k => bits_Read.j1 k x W1 bad b) R ∧ Ev (fun k => maskref1_ReadBits.j4 k x W2 b) R := by
  cases b with
  | true =>
    have hz : (x.extract 1 x.size).size = x.size - 1 := by rw [ByteArray.size_extract]; omega
    obtain ⟨R, r1, r2⟩ := base_same (x.extract 1 x.size) (by omega) hw
    have := hb rfl
    refine ⟨R, ?_, ?_⟩
    · refine Ev.step (fun k => by rw [bits_Read.j1]) ?_
      exact Ev.pos rfl (Ev.pos (by omega) r1)
    · refine Ev.step (fun k => by rw [maskref1_ReadBits.j4]) ?_
      exact Ev.pos rfl (Ev.pos (by omega) r2)
  | false =>
    obtain ⟨R, r1, r2⟩ := base_same x hs hw
    refine ⟨R, ?_, ?_⟩
    · refine Ev.step (fun k => by rw [bits_Read.j1]) ?_
      exact Ev.neg (by decide) r1
    · refine Ev.step (fun k => by rw [maskref1_ReadBits.j4]) ?_
      exact Ev.neg (by decide) r2
end
end Go.Proofs.Ytlamgdibnnmbmaa.PLex
end
section
namespace Go.Proofs.Ytlamgdibnnmbmaa.PLex
open Go.RowKit Go.Proofs.YtlamgdibnnmbmaaW.PrintWords Go.Proofs.YtlamgdibnnmbmaaW.PrintLast Go.Proofs.YtlamgdibnnmbmaaW.PrintMore Go.Proofs.Ytlamgdibnnmbmaa.Bz
set_option linter.unusedVariables false
set_option linter.unusedSimpArgs false
set_option linter.unusedSectionVars false
section
variable (s : ByteArray) (hs : s.size ≤ 3000)
theorem cap_pos (h0 : 1 ≤ dgt s 0) : ∀ k, (∀ i, i < k + 1 → isd s i) → 1 ≤ capN s (k + 1)
  | 0, h => by
    have e : capN s 1 = mn (10 * 0 + dgt s 0) 1000 := rfl
    rw [e]; unfold mn; split <;> omega
  | k + 1, h => by
    have ih := cap_pos h0 k (fun i hi => h i (by omega))
    obtain ⟨_, b1, b2⟩ := h (k + 1) (by omega)
    have hd : 0 ≤ dgt s (k + 1) := by unfold dgt; omega
    have e : capN s (k + 1 + 1) = mn (10 * capN s (k + 1) + dgt s (k + 1)) 1000 := rfl
    rw [e]; unfold mn; split <;> omega
include hs
theorem wide_is (k : Nat) (hk : 1 ≤ k) (hd : ∀ j, j < k → isd s j) (h0 : bt s 0 ≠ 48) : wide (capN s k) (if capN s k > 64 then 2 else 0) (letN s k) := by
  obtain ⟨a1, a2, a3, a4, a5, a6⟩ := nums_are s k hd
  have hf := hd 0 (by omega)
  have hp := cap_pos s (by unfold dgt; unfold isd at hf; have : bt s ((0 : Nat) : Int) = bt s 0 := rfl; omega) (k - 1) (fun i hi => hd i (by omega))
  rw [show k - 1 + 1 = k by omega] at hp
  unfold wide
  by_cases h : capN s k > 64
  · rw [if_pos h]
    refine .inr ⟨rfl, ?_, by omega⟩
    by_cases hl : letN s k < 1000
    · rw [a6 hl]; exact h
    · omega
  · rw [if_neg h]
    have e := a5 (by omega)
    exact .inl ⟨rfl, e.symm, by omega, by omega⟩
theorem read_same : ∃ R, Ev (fun k => bits_Read.f k s) R ∧ Ev (fun k => maskref1_ReadBits.f k s) R := by
  obtain ⟨k, hk, hd, hn⟩ : ∃ k, k ≤ s.size ∧ (∀ j, j < k → isd s j) ∧ ¬ isd s k := by
    have : ∀ d i, i + d = s.size → (∀ j, j < i → isd s j) → ∃ k, k ≤ s.size ∧ (∀ j, j < k → isd s j) ∧ ¬ isd s k := by
      intro d
      induction d with
      | zero => intro i hi h; exact ⟨i, by omega, h, fun a => by unfold isd at a; omega⟩
      | succ d ih =>
        intro i hi h
        by_cases hi2 : isd s i
        · refine ih (i + 1) (by omega) (fun j hj => ?_)
          rcases Nat.lt_or_ge j i with h3 | h3
          · exact h j h3
          · obtain rfl : j = i := by omega
            exact hi2
        · exact ⟨i, by omega, h, hi2⟩
    exact this s.size 0 (by omega) (fun j h => absurd h (by omega))
  have only : ∀ k', k' ≤ s.size → (∀ j, j < k' → isd s j) → ¬ isd s k' → k' = k := by
    intro k' h1 h2 h3
    rcases Nat.lt_trichotomy k' k with q | q | q
    · exact absurd (hd k' q) h3
    · exact q
    · exact absurd (h2 k q) hn
  obtain ⟨a1, a2, a3, a4, a5, a6⟩ := nums_are s k hd
  have sizeE : ∀ {R : Int × Int × Int}, Ev (fun n => bits_size.j1 n s (capN s k) (k : Int) false) R → Ev (fun n => bits_size.f n s) R := by
    intro R h
    unfold bits_size.f
    exact size_l0 s hs s.size 0 (by omega) (fun j h => absurd h (by omega)) (fun k' q1 q2 q3 => by rw [only k' q1 q2 q3]; exact h)
  have refE : ∀ {R : R4}, Ev (fun n => maskref1_ReadBits.j1 n s (k : Int) false) R → Ev (fun n => maskref1_ReadBits.f n s) R := by
    intro R h
    unfold maskref1_ReadBits.f
    exact first_l0 s hs s.size 0 (by omega) (fun j h => absurd h (by omega)) (fun k' q1 q2 q3 => by rw [only k' q1 q2 q3]; exact h)
  have j0t : ∀ (w k b : Int), Ev (fun n => bits_Read.j0 n s w k b true) syn4 := by
    intro w k b
    refine Ev.step (fun n => by rw [bits_Read.j0]) ?_
    exact Ev.pos rfl (Ev.now _)
  have r2t : Ev (fun n => maskref1_ReadBits.j2 n s (k : Int) true) syn4 := by
    refine Ev.step (fun n => by rw [maskref1_ReadBits.j2]) ?_
    exact Ev.pos rfl (Ev.now _)
  have s2t : Ev (fun n => bits_size.j2 n (capN s k) (k : Int) true) (0, 0, 10) := by
    refine Ev.step (fun n => by rw [bits_size.j2]) ?_
    exact Ev.pos rfl (Ev.now _)
  by_cases h0 : k = 0
  · refine ⟨syn4, ?_, refE ?_⟩
    · unfold bits_Read.f
      refine Ev.bind (sizeE (R := (0, 0, 10)) ?_) (Ev.pos rfl (j0t _ _ _))
      refine Ev.step (fun n => by rw [bits_size.j1]) ?_
      exact Ev.neg (by decide) (Ev.pos (by omega) s2t)
    · refine Ev.step (fun n => by rw [maskref1_ReadBits.j1]) ?_
      exact Ev.neg (by decide) (Ev.pos (by omega) r2t)
  by_cases h48 : bt s 0 = 48
  · refine ⟨syn4, ?_, refE ?_⟩
    · unfold bits_Read.f
      refine Ev.bind (sizeE (R := (0, 0, 10)) ?_) (Ev.pos rfl (j0t _ _ _))
      refine Ev.step (fun n => by rw [bits_size.j1]) ?_
      refine Ev.neg (by decide) (Ev.neg (by omega) (Ev.pos (by omega) ?_))
      rw [show (bt s 0 == 48) = true from beq_iff_eq.2 h48]
      exact s2t
    · refine Ev.step (fun n => by rw [maskref1_ReadBits.j1]) ?_
      exact Ev.neg (by decide) (Ev.neg (by omega) (Ev.pos (by omega) (Ev.pos h48 r2t)))
  have hw := wide_is s hs k (by omega) hd h48
  have hsz : Ev (fun n => bits_size.f n s) (capN s k, (k : Int), if capN s k > 64 then 2 else 0) := by
    refine sizeE ?_
    refine Ev.step (fun n => by rw [bits_size.j1]) ?_
    refine Ev.neg (by decide) (Ev.neg (by omega) (Ev.pos (by omega) ?_))
    rw [show (bt s 0 == 48) = false from beq_eq_false_iff_ne.2 h48]
    refine Ev.step (fun n => by rw [bits_size.j2]) ?_
    refine Ev.neg (by decide) ?_
    by_cases hc : capN s k > 64
    · exact Ev.pos hc ((Ev.now _).eq (by rw [if_pos hc]))
    · exact Ev.neg hc ((Ev.now _).eq (by rw [if_neg hc]))
  have hbad : ¬ (if capN s k > 64 then (2 : Int) else 0) = 10 := by split <;> omega
  generalize hBAD : (if capN s k > 64 then (2 : Int) else 0) = bad at hw hsz hbad
  by_cases hend : k = s.size
  · refine ⟨syn4, ?_, refE ?_⟩
    · unfold bits_Read.f
      exact Ev.bind hsz (Ev.neg hbad (Ev.pos (show (k : Int) ≥ (s.size : Int) by omega) (j0t _ _ _)))
    · refine Ev.step (fun n => by rw [maskref1_ReadBits.j1]) ?_
      exact Ev.neg (by decide) (Ev.neg (by omega) (Ev.pos (by omega) (Ev.neg h48 (Ev.pos (by omega) r2t))))
  have readE : ∀ {R : R4}, Ev (fun n => bits_Read.j0 n s (capN s k) (k : Int) bad (bt s (k : Int) != 39)) R → Ev (fun n => bits_Read.f n s) R := by
    intro R h
    unfold bits_Read.f
    exact Ev.bind hsz (Ev.neg hbad (Ev.neg (show ¬ ((k : Int) ≥ (s.size : Int)) by omega) (Ev.pos (show (0 : Int) ≤ (k : Int) by omega) (Ev.pos (show (k : Int) < (s.size : Int) by omega) h))))
  have refE2 : ∀ {R : R4}, Ev (fun n => maskref1_ReadBits.j2 n s (k : Int) (bt s (k : Int) != 39)) R → Ev (fun n => maskref1_ReadBits.f n s) R := by
    intro R h
    refine refE ?_
    refine Ev.step (fun n => by rw [maskref1_ReadBits.j1]) ?_
    exact Ev.neg (by decide) (Ev.neg (by omega) (Ev.pos (by omega) (Ev.neg h48 (Ev.neg (by omega) (Ev.pos (by omega) (Ev.pos (by omega) h))))))
  by_cases hq : bt s (k : Int) = 39
  · rw [show (bt s (k : Int) != 39) = false from bne_eq_false_iff_eq.2 hq] at readE refE2
    have e1 : wrap64 ((k : Int) + 1) = ((k + 1 : Nat) : Int) := by rw [bzw64 (by omega)]; rfl
    have hz : (s.extract (k + 1) s.size).size = s.size - (k + 1) := by rw [ByteArray.size_extract]; omega
    have hz0 : (s.extract 0 k).size = k := by rw [ByteArray.size_extract]; omega
    have go : ∀ (b : Bool), (b = true → 1 ≤ (s.extract (k + 1) s.size).size) → ((s.extract (k + 1) s.size).size > 0 → b = (bt (s.extract (k + 1) s.size) 0 == 115)) → (¬ (s.extract (k + 1) s.size).size > 0 → b = false) → ∃ R, Ev (fun k => bits_Read.f k s) R ∧ Ev (fun k => maskref1_ReadBits.f k s) R := by
      intro b hb1 hb2 hb3
      obtain ⟨R, r1, r2⟩ := sign_same (s.extract (k + 1) s.size) (by omega) hw b hb1
      refine ⟨R, readE ?_, refE2 ?_⟩
      · refine Ev.step (fun n => by rw [bits_Read.j0]) ?_
        rw [e1, Int.toNat_natCast]
        refine Ev.neg (by decide) (Ev.pos (by omega) (Ev.pos (by omega) ?_))
        by_cases hp : (s.extract (k + 1) s.size).size > 0
        · have eb := hb2 hp
          rw [eb] at r1
          exact Ev.pos (by omega) (Ev.pos (by omega) r1)
        · have eb := hb3 hp
          rw [eb] at r1
          exact Ev.neg (by omega) r1
      · refine Ev.step (fun n => by rw [maskref1_ReadBits.j2]) ?_
        rw [Int.toNat_natCast]
        refine Ev.neg (by decide) (Ev.pos (by omega) (Ev.pos (by omega) ?_))
        refine width_l1 s hs k hk hd ?_ k 0 (by omega)
        refine Ev.step (fun n => by rw [maskref1_ReadBits.l1]) ?_
        rw [hz0, e1, Int.toNat_natCast]
        refine Ev.neg (by omega) (Ev.pos (by omega) (Ev.pos (by omega) ?_))
        by_cases hp : (s.extract (k + 1) s.size).size > 0
        · have eb := hb2 hp
          rw [eb] at r2
          exact Ev.pos (by omega) (Ev.pos (by omega) r2)
        · have eb := hb3 hp
          rw [eb] at r2
          exact Ev.neg (by omega) r2
    by_cases hp : (s.extract (k + 1) s.size).size > 0
    · exact go _ (fun _ => hp) (fun _ => rfl) (fun h => absurd hp h)
    · exact go false (fun h => by cases h) (fun h => absurd h hp) (fun _ => rfl)
  · rw [show (bt s (k : Int) != 39) = true from bne_iff_ne.2 hq] at readE refE2
    exact ⟨syn4, readE (j0t _ _ _), refE2 r2t⟩
end
end Go.Proofs.Ytlamgdibnnmbmaa.PLex
end
section
namespace Go.Proofs.Ytlamgdibnnmbmaa.PLex
open Go.RowKit Go.Proofs.YtlamgdibnnmbmaaW.PrintWords Go.Proofs.YtlamgdibnnmbmaaW.PrintLast Go.Proofs.YtlamgdibnnmbmaaW.PrintMore
set_option linter.unusedVariables false
set_option linter.unusedSimpArgs false
theorem scanned_is : masklaw1_scanned.f 40 = some true := by decide +kernel
theorem same_l0 (l : List S51) (hl : l.length ≤ 1000000) : ∀ d i, i + d = l.length → ∃ k, lex_Token.l0 k l l (l.length : Int) (i : Int) = some true
  | 0, i, h => ⟨1, by rw [lex_Token.l0, if_neg (by omega)]⟩
  | d + 1, i, h => by
    obtain ⟨k, hk⟩ := same_l0 l hl d (i + 1) (by omega)
    refine ⟨k + 1, ?_⟩
    rw [lex_Token.l0, if_pos (by omega), if_pos (by omega), if_pos (by omega), if_pos (by omega), if_neg (by simp), w64' (by omega) (by omega)]
    exact hk
theorem same_list (l : List S51) (hl : l.length ≤ 1000000) : ∃ k, lex_Token.f k l l = some true := by
  unfold lex_Token.f
  simp only [if_true]
  exact same_l0 l hl l.length 0 (by omega)
end Go.Proofs.Ytlamgdibnnmbmaa.PLex
end
section
namespace Go.Proofs.Ytlamgdibnnmbmaa.PLex
open Go.RowKit Go.Proofs.YtlamgdibnnmbmaaW.PrintWords Go.Proofs.YtlamgdibnnmbmaaW.PrintLast Go.Proofs.YtlamgdibnnmbmaaW.PrintMore
set_option linter.unusedVariables false
set_option linter.unusedSimpArgs false
theorem tail_cons {T : ByteArray} {i : Nat} (h : i < T.size) : (tail T i).data.toList = T[i] :: (tail T (i + 1)).data.toList := by
  rw [tail_list, tail_list]
  exact List.drop_eq_getElem_cons (l := T.data.toList) h
theorem tail_nil {T : ByteArray} {i : Nat} (h : T.size ≤ i) : (tail T i).data.toList = [] := by
  rw [tail_list]; exact List.drop_eq_nil_of_le h
theorem pre2 (T : ByteArray) (i : Nat) (a b : UInt8) (h : i < T.size) : Lib.hasPrefix (tail T i).data.toList [a, b] = ((a == T[i]) && if h2 : i + 1 < T.size then (b == T[i + 1]) else false) := by
  rw [tail_cons h]
  by_cases h2 : i + 1 < T.size
  · rw [dif_pos h2, tail_cons h2]; simp [Lib.hasPrefix, List.isPrefixOf]
  · rw [dif_neg h2, tail_nil (Nat.le_of_not_lt h2)]; simp [Lib.hasPrefix, List.isPrefixOf]
theorem u8_is (c : UInt8) (n : Nat) (hn : n < 256) : ((c.toNat : Int) == (n : Int)) = ((UInt8.ofNat n) == c) := by
  rw [Bool.eq_iff_iff, beq_iff_eq, beq_iff_eq]
  constructor
  · intro h
    apply UInt8.toNat_inj.1
    rw [UInt8.toNat_ofNat', Nat.mod_eq_of_lt hn]; omega
  · intro h; rw [← h, UInt8.toNat_ofNat', Nat.mod_eq_of_lt hn]
theorem slashes_is {T : ByteArray} {i : Nat} (h : i < T.size) : slashes T i = slashB T i 47 := by
  unfold slashes slashB
  rw [pre2 T i 47 47 h, dif_pos h, show ((T[i].toNat : Int) == 47) = ((47 : UInt8) == T[i]) from u8_is _ 47 (by decide)]
  split
  · rename_i h2; rw [show ((T[i + 1].toNat : Int) == 47) = ((47 : UInt8) == T[i + 1]) from u8_is _ 47 (by decide)]
  · rfl
theorem opening_is {T : ByteArray} {i : Nat} (h : i < T.size) : opening T i = slashB T i 42 := by
  unfold opening slashB
  rw [pre2 T i 47 42 h, dif_pos h, show ((T[i].toNat : Int) == 47) = ((47 : UInt8) == T[i]) from u8_is _ 47 (by decide)]
  split
  · rename_i h2; rw [show ((T[i + 1].toNat : Int) == 42) = ((42 : UInt8) == T[i + 1]) from u8_is _ 42 (by decide)]
  · rfl
theorem two_bytes {T : ByteArray} {k : Nat} (h : k + 1 < T.size) : (T.extract k (k + 2)).toList = [T[k]'(by omega), T[k + 1]] := by
  rw [Lib.toList_data, ByteArray.data_extract, Array.toList_extract, List.extract_eq_take_drop, show k + 2 - k = 2 by omega]
  rw [List.drop_eq_getElem_cons (l := T.data.toList) (show k < T.data.toList.length by have : T.size = T.data.toList.length := rfl; omega), List.drop_eq_getElem_cons (l := T.data.toList) (show k + 1 < T.data.toList.length from h)]
  rfl
theorem close_is (T : ByteArray) : ∀ f k, k ≤ T.size → T.size ≤ k + f →
    (closing T k < 0 → T.size ≤ closeF T f k + 1) ∧ (¬ closing T k < 0 → closeF T f k = k + (closing T k).toNat ∧ closeF T f k + 1 < T.size)
  | 0, k, h1, h2 => by
    obtain rfl : k = T.size := by omega
    have e : closing T T.size = -1 := by unfold closing; rw [tail_nil (Nat.le_refl _)]; rfl
    rw [e]
    exact ⟨fun _ => Nat.le_succ _, fun h => absurd (by decide) h⟩
  | f + 1, k, h1, h2 => by
    by_cases hk : k + 1 < T.size
    · have ih := close_is T f (k + 1) (by omega) (by omega)
      have hge : -1 ≤ closing T (k + 1) := Lib.index_ge _ _
      have ec : closeF T (f + 1) k = if ([T[k]'(by omega), T[k + 1]] == ([42, 47] : List UInt8)) = true then k else closeF T f (k + 1) := by rw [closeF, if_pos hk, two_bytes hk]
      have ei : closing T k = if ([42, 47] : List UInt8).isPrefixOf (T[k]'(by omega) :: T[k + 1] :: (tail T (k + 1 + 1)).data.toList) = true then 0 else if (closing T (k + 1) == -1) = true then -1 else closing T (k + 1) + 1 := by
        unfold closing; rw [tail_cons (by omega), Lib.index, tail_cons hk]
      have hpe : ([42, 47] : List UInt8).isPrefixOf (T[k]'(by omega) :: T[k + 1] :: (tail T (k + 1 + 1)).data.toList) = ([T[k]'(by omega), T[k + 1]] == ([42, 47] : List UInt8)) := by
        rw [Bool.eq_iff_iff]
        simp [List.isPrefixOf]
        constructor
        · rintro ⟨a, b⟩; exact ⟨a.symm, b.symm⟩
        · rintro ⟨a, b⟩; exact ⟨a.symm, b.symm⟩
      rw [hpe] at ei
      cases hp : ([T[k]'(by omega), T[k + 1]] == ([42, 47] : List UInt8))
      · rw [hp, if_neg (by decide)] at ec ei
        rw [ec]
        by_cases hm : closing T (k + 1) = -1
        · rw [if_pos (beq_iff_eq.2 hm)] at ei
          rw [ei]
          exact ⟨fun _ => ih.1 (by rw [hm]; decide), fun h => absurd (by decide) h⟩
        · rw [if_neg (fun h => hm (beq_iff_eq.1 h))] at ei
          rw [ei]
          have ih2 := ih.2 (by omega)
          exact ⟨fun h => absurd h (by omega), fun _ => ⟨by rw [ih2.1]; omega, ih2.2⟩⟩
      · rw [hp, if_pos rfl] at ec ei
        rw [ec, ei]
        exact ⟨fun h => absurd h (by decide), fun _ => ⟨rfl, hk⟩⟩
    · unfold closing
      rw [closeF, if_neg hk]
      have e : Lib.index (tail T k).data.toList [42, 47] = -1 := by
        by_cases h3 : k < T.size
        · rw [tail_cons h3, tail_nil (Nat.le_of_not_lt hk)]
          rw [Lib.index, if_neg (by simp [List.isPrefixOf]), Lib.index]; rfl
        · rw [tail_nil (Nat.le_of_not_lt h3)]; rfl
      rw [e]
      exact ⟨fun _ => Nat.le_of_not_lt hk, fun h => absurd (by decide) h⟩
def RR (T : ByteArray) (s : Sc) (acc : List S51) (r : List S51 × Int × Int × Int) : Prop := ∃ N, ∀ k n, N ≤ k → N ≤ n → rtoksF k T n s acc = some r
theorem RR.step {T : ByteArray} {s s' : Sc} {acc acc' : List S51} {r : List S51 × Int × Int × Int} (h : RR T s' acc' r) (hs : ∀ k n, rtoksF k T (n + 1) s acc = rtoksF k T n s' acc') : RR T s acc r := by
  obtain ⟨N, hN⟩ := h
  refine ⟨N + 1, fun k n hk hn => ?_⟩
  obtain ⟨n, rfl⟩ : ∃ m, n = m + 1 := ⟨n - 1, by omega⟩
  rw [hs k n]; exact hN k n (by omega) (by omega)
theorem blank_ref (T : ByteArray) (acc : List S51) (hacc : acc.length ≤ 100000) : ∀ m s, s.Ok T → T.size - s.at_ < m →
    ((blankF T m s).1 ≠ 0 → (blankF T m s).1 = 11 ∧ RR T s acc ([], (blankF T m s).2.line, (blankF T m s).2.col, 11)) ∧
    ((blankF T m s).1 = 0 → (blankF T m s).2.Ok T ∧ s.at_ ≤ (blankF T m s).2.at_ ∧ (∀ r, RR T (blankF T m s).2 acc r → RR T s acc r) ∧
      ∀ h : (blankF T m s).2.at_ < T.size, ((((T[(blankF T m s).2.at_]'h).toNat : Int) == 32) || (((T[(blankF T m s).2.at_]'h).toNat : Int) == 9) || (((T[(blankF T m s).2.at_]'h).toNat : Int) == 10)) = false ∧ slashB T (blankF T m s).2.at_ 47 = false ∧ slashB T (blankF T m s).2.at_ 42 = false)
  | 0, s, hs, hm => absurd hm (Nat.not_lt_zero _)
  | m + 1, s, hs, hm => by
    have hA : ¬ 100000 < acc.length := by omega
    by_cases hlt : s.at_ < T.size
    · cases hb : ((((T[s.at_]'hlt).toNat : Int) == 32) || (((T[s.at_]'hlt).toNat : Int) == 9) || (((T[s.at_]'hlt).toNat : Int) == 10))
      · cases h47 : slashB T s.at_ 47
        · cases h42 : slashB T s.at_ 42
          · have e : blankF T (m + 1) s = (0, s) := by
              rw [blankF, dif_pos hlt, hb, slashes_is hlt, h47, opening_is hlt, h42]; rfl
            rw [e]
            exact ⟨fun h => absurd rfl h, fun _ => ⟨hs, Nat.le_refl _, fun r h => h, fun _ => ⟨hb, h47, h42⟩⟩⟩
          · have hop := opening_le ((opening_is hlt).trans h42)
            have hcl := close_is T T.size (s.at_ + 2) hop (by omega)
            by_cases hc : closing T (s.at_ + 2) < 0
            · have e : blankF T (m + 1) s = (11, s) := by
                rw [blankF, dif_pos hlt, hb, slashes_is hlt, h47, opening_is hlt, h42]
                simp only [Bool.false_eq_true, if_false, if_true]
                rw [if_pos hc]
              rw [e]
              refine ⟨fun _ => ⟨rfl, 1, fun k n hk hn => ?_⟩, fun h => absurd (show (11 : Int) = 0 from h) (by decide)⟩
              obtain ⟨n, rfl⟩ : ∃ m, n = m + 1 := ⟨n - 1, by omega⟩
              rw [rtoksF, if_neg hA, dif_pos hlt, if_neg (by rw [hb]; decide), if_neg (by rw [h47]; decide), if_pos h42, if_neg (by have := hcl.1 hc; omega)]
            · obtain ⟨hc1, hc2⟩ := hcl.2 hc
              have en : closeF T T.size (s.at_ + 2) + 2 - s.at_ = (closing T (s.at_ + 2)).toNat + 4 := by rw [hc1]; omega
              have e : blankF T (m + 1) s = blankF T m (Sc.skip T ((closing T (s.at_ + 2)).toNat + 4) s) := by
                rw [blankF, dif_pos hlt, hb, slashes_is hlt, h47, opening_is hlt, h42]
                simp only [Bool.false_eq_true, if_false, if_true]
                rw [if_neg hc]
              have hle : s.at_ + ((closing T (s.at_ + 2)).toNat + 4) ≤ T.size := by omega
              have ih := blank_ref T acc hacc m (Sc.skip T ((closing T (s.at_ + 2)).toNat + 4) s) (hs.skip _ hle) (by rw [Sc.skip_at]; omega)
              have st : ∀ k n, rtoksF k T (n + 1) s acc = rtoksF k T n (Sc.skip T ((closing T (s.at_ + 2)).toNat + 4) s) acc := fun k n => by
                rw [rtoksF, if_neg hA, dif_pos hlt, if_neg (by rw [hb]; decide), if_neg (by rw [h47]; decide), if_pos h42, if_pos hc2, en]
              rw [e]
              refine ⟨fun h => ⟨(ih.1 h).1, (ih.1 h).2.step st⟩, fun h => ?_⟩
              obtain ⟨i1, i2, i3, i4⟩ := ih.2 h
              exact ⟨i1, by rw [Sc.skip_at] at i2; omega, fun r hr => (i3 r hr).step st, i4⟩
        · have hsl := (slashes_is hlt).trans h47
          have hru := slashes_run hsl
          have hrl := runTo_le T lineP _ s.at_ (Nat.le_refl _)
          have hle : s.at_ + (runTo T lineP s.at_ - s.at_) ≤ T.size := by omega
          have e : blankF T (m + 1) s = blankF T m (Sc.skip T (runTo T lineP s.at_ - s.at_) s) := by
            rw [blankF, dif_pos hlt, hb, hsl]
            simp only [Bool.false_eq_true, if_false, if_true]
          have ih := blank_ref T acc hacc m (Sc.skip T (runTo T lineP s.at_ - s.at_) s) (hs.skip _ hle) (by rw [Sc.skip_at]; omega)
          have st : ∀ k n, rtoksF k T (n + 1) s acc = rtoksF k T n (Sc.skip T (runTo T lineP s.at_ - s.at_) s) acc := fun k n => by
            rw [rtoksF, if_neg hA, dif_pos hlt, if_neg (by rw [hb]; decide), if_pos h47]
          rw [e]
          refine ⟨fun h => ⟨(ih.1 h).1, (ih.1 h).2.step st⟩, fun h => ?_⟩
          obtain ⟨i1, i2, i3, i4⟩ := ih.2 h
          exact ⟨i1, by rw [Sc.skip_at] at i2; omega, fun r hr => (i3 r hr).step st, i4⟩
      · have hle : s.at_ + 1 ≤ T.size := hlt
        have e : blankF T (m + 1) s = blankF T m (Sc.skip T 1 s) := by
          rw [blankF, dif_pos hlt, hb, if_pos rfl]
        have ih := blank_ref T acc hacc m (Sc.skip T 1 s) (hs.skip _ hle) (by rw [Sc.skip_at]; omega)
        have st : ∀ k n, rtoksF k T (n + 1) s acc = rtoksF k T n (Sc.skip T 1 s) acc := fun k n => by
          rw [rtoksF, if_neg hA, dif_pos hlt, if_pos hb]
        rw [e]
        refine ⟨fun h => ⟨(ih.1 h).1, (ih.1 h).2.step st⟩, fun h => ?_⟩
        obtain ⟨i1, i2, i3, i4⟩ := ih.2 h
        exact ⟨i1, by rw [Sc.skip_at] at i2; omega, fun r hr => (i3 r hr).step st, i4⟩
    · have e : blankF T (m + 1) s = (0, s) := by rw [blankF, dif_neg hlt]
      rw [e]
      exact ⟨fun h => absurd rfl h, fun _ => ⟨hs, Nat.le_refl _, fun r h => h, fun h => absurd h hlt⟩⟩
end Go.Proofs.Ytlamgdibnnmbmaa.PLex
end
section
namespace Go.Proofs.Ytlamgdibnnmbmaa.PLex
open Go.RowKit Go.Proofs.YtlamgdibnnmbmaaW.PrintWords Go.Proofs.YtlamgdibnnmbmaaW.PrintLast Go.Proofs.YtlamgdibnnmbmaaW.PrintMore Go.Proofs.Ytlamgdibnnmbmaa.Bz
set_option linter.unusedVariables false
set_option linter.unusedSimpArgs false
theorem tail_size (T : ByteArray) (a : Nat) : (tail T a).size = T.size - a := by unfold tail; rw [ByteArray.size_extract]; omega
theorem bt_tail {T : ByteArray} {a i : Nat} (h : a + i < T.size) : bt (tail T a) (i : Int) = ((T[a + i]'h).toNat : Int) := by
  unfold tail; rw [bt_cut T a T.size i (Nat.le_refl _) h, bt_get]
theorem u8_of (c : UInt8) : UInt8.ofNat c.toNat = c := UInt8.ofNat_toNat
theorem isWord_is (c : UInt8) : maskref1_isWord.f (c.toNat : Int) = some (wordP c) := by
  have key : ∀ n : Fin 256, maskref1_isWord.f (n.1 : Int) = some (wordP (UInt8.ofNat n.1)) := by decide +kernel
  have := key ⟨c.toNat, UInt8.toNat_lt c⟩
  rwa [u8_of] at this
theorem isLetter_is (c : UInt8) : maskref1_isLetter.f (c.toNat : Int) = some (letterP c) := by
  have key : ∀ n : Fin 256, maskref1_isLetter.f (n.1 : Int) = some (letterP (UInt8.ofNat n.1)) := by decide +kernel
  have := key ⟨c.toNat, UInt8.toNat_lt c⟩
  rwa [u8_of] at this
theorem isFigure_is (c : UInt8) : maskref1_numberToken_1.f (c.toNat : Int) = some (figureP c) := by
  have key : ∀ n : Fin 256, maskref1_numberToken_1.f (n.1 : Int) = some (figureP (UInt8.ofNat n.1)) := by decide +kernel
  have := key ⟨c.toNat, UInt8.toNat_lt c⟩
  rwa [u8_of] at this
theorem inQuoted_is (c : UInt8) : Ev (fun k => maskref1_inQuoted.f k (c.toNat : Int)) (quoteP c) := by
  have key : ∀ n : Fin 256, maskref1_inQuoted.f 20 (n.1 : Int) = some (quoteP (UInt8.ofNat n.1)) := by decide +kernel
  have := key ⟨c.toNat, UInt8.toNat_lt c⟩
  rw [u8_of] at this
  exact Ev.of (fun k => maskref1_inQuoted.mono _ k) this
theorem run_gen (L : Nat → ByteArray → Int → Int → Option Int) (F : Nat → Int → Option Bool) (p : UInt8 → Bool)
    (hL : ∀ k x0 x7 x8, L (k + 1) x0 x7 x8 = if x8 < x7 then (if 0 ≤ x8 then (if x8 < (x0.size : Int) then ((F k (bt x0 x8)).bind fun t => (if t = true then L k x0 x7 (wrap64 (x8 + 1)) else some x8)) else none) else none) else some (x0.size : Int))
    (hF : ∀ c : UInt8, Ev (fun k => F k (c.toNat : Int)) (p c)) (T : ByteArray) (a : Nat) (hS : T.size ≤ 16000) :
    ∀ d i, a + i + d = T.size → Ev (fun k => L k (tail T a) ((tail T a).size : Int) (i : Int)) ((runTo T p (a + i) - a : Nat) : Int)
  | 0, i, h => by
    have hz := tail_size T a
    refine Ev.step (fun k => hL k _ _ _) (Ev.neg (by omega) ((Ev.now _).eq ?_))
    rw [runTo_eq, dif_neg (by omega), hz]; congr 1; omega
  | d + 1, i, h => by
    have hz := tail_size T a
    have hlt : a + i < T.size := by omega
    have ih := run_gen L F p hL hF T a hS d (i + 1) (by omega)
    refine Ev.step (fun k => hL k _ _ _) (Ev.pos (by omega) (Ev.pos (by omega) (Ev.pos (by omega) ?_)))
    rw [bt_tail hlt]
    refine Ev.bind (hF _) ?_
    rw [runTo_eq, dif_pos hlt]
    cases hp : p (T[a + i]'hlt)
    · exact Ev.neg (by decide) ((Ev.now _).eq (by rw [if_neg (by decide), Nat.add_sub_cancel_left]))
    · refine Ev.pos rfl ?_
      rw [w64' (by omega) (by omega), if_pos rfl]
      exact ih
variable (T : ByteArray) (hS : T.size ≤ 16000)
include hS
theorem runWord (a : Nat) (ha : a ≤ T.size) : Ev (fun k => maskref1_run__isWord.f k (tail T a)) ((runTo T wordP a - a : Nat) : Int) :=
  run_gen maskref1_run__isWord.l0 (fun _ c => maskref1_isWord.f c) wordP (fun k x0 x7 x8 => by rw [maskref1_run__isWord.l0]) (fun c => Ev.val (isWord_is c)) T a hS (T.size - a) 0 (by omega)
theorem runFigure (a : Nat) (ha : a ≤ T.size) : Ev (fun k => maskref1_run__numberToken_1.f k (tail T a)) ((runTo T figureP a - a : Nat) : Int) :=
  run_gen maskref1_run__numberToken_1.l0 (fun _ c => maskref1_numberToken_1.f c) figureP (fun k x0 x7 x8 => by rw [maskref1_run__numberToken_1.l0]) (fun c => Ev.val (isFigure_is c)) T a hS (T.size - a) 0 (by omega)
theorem runQuoted (a : Nat) (ha : a ≤ T.size) : Ev (fun k => maskref1_run__inQuoted.f k (tail T a)) ((runTo T quoteP a - a : Nat) : Int) :=
  run_gen maskref1_run__inQuoted.l0 (fun k c => maskref1_inQuoted.f k c) quoteP (fun k x0 x7 x8 => by rw [maskref1_run__inQuoted.l0]) inQuoted_is T a hS (T.size - a) 0 (by omega)
end Go.Proofs.Ytlamgdibnnmbmaa.PLex
end
section
namespace Go.Proofs.Ytlamgdibnnmbmaa.PLex
open Go.RowKit Go.Proofs.YtlamgdibnnmbmaaW.PrintWords Go.Proofs.YtlamgdibnnmbmaaW.PrintLast Go.Proofs.YtlamgdibnnmbmaaW.PrintMore Go.Proofs.Ytlamgdibnnmbmaa.Bz
set_option linter.unusedVariables false
set_option linter.unusedSimpArgs false
abbrev R11 := Int × Int × Int × ByteArray × Bool × Int × Int × Int × Bool × Int × Int
def err11 (e : Int) : R11 := (0, 0, 0, ⟨#[]⟩, false, 0, 0, 0, false, 0, e)
def strR (a : Nat) (r : Int × Nat × List Int) : R11 := if r.1 = 0 then (4, 0, 0, strOfNums r.2.2, false, 0, 0, 0, false, ((r.2.1 - a : Nat) : Int), 0) else err11 r.1
theorem strR_err (a : Nat) (e : Int) (n : Nat) (l : List Int) (h : e ≠ 0) : strR a (e, n, l) = err11 e := by unfold strR; rw [if_neg h]
theorem lt_big {j S : Nat} (h : j ≤ S) (hS : S ≤ 16000) : j < 140737488355328 := by omega
theorem text_ref (T : ByteArray) (a : Nat) (hS : T.size ≤ 16000) : ∀ n j b, T.size - (a + j) < n → b.length ≤ j → Ev (fun k => maskref1_stringToken.l0 k (tail T a) b (j : Int)) (strR a (textF T n (a + j) b)) := by
  intro n
  induction n with
  | zero => intro j b h hb; exact absurd h (Nat.not_lt_zero _)
  | succ n ih =>
    intro j b h hb
    have hz := tail_size T a
    have j1f : ∀ b' (x : Int), Ev (fun k => maskref1_stringToken.j1 k (tail T a) b' x false) (err11 11) := by
      intro b' x
      refine Ev.step (fun k => by rw [maskref1_stringToken.j1]) ?_
      exact Ev.neg (by decide) (Ev.now _)
    by_cases hlt : a + j < T.size
    · have HBL := Aside0.mk (Nat.lt_of_le_of_lt hb (lt_big (show j ≤ T.size by omega) hS))
      obtain ⟨c, hc⟩ : ∃ c : Int, ((T[a + j]'hlt).toNat : Int) = c := ⟨_, rfl⟩
      have hbt : bt (tail T a) (j : Int) = c := (bt_tail hlt).trans hc
      have hr := bt_range (tail T a) (j : Int)
      rw [hbt] at hr
      refine Ev.step (fun k => by rw [maskref1_stringToken.l0]) ?_
      refine Ev.pos (by omega) (Ev.pos (by omega) ?_)
      rw [textF, dif_pos hlt, hc, hbt]
      by_cases h10 : c = 10
      · rw [if_pos (beq_iff_eq.2 h10), show (c != 10) = false from bne_eq_false_iff_eq.2 h10]
        rw [strR_err a 11 0 [] (by decide)]; exact j1f _ _
      rw [if_neg (fun x => h10 (beq_iff_eq.1 x)), show (c != 10) = true from bne_iff_ne.2 h10]
      refine Ev.step (fun k => by rw [maskref1_stringToken.j1]) ?_
      refine Ev.pos rfl (Ev.pos (by omega) (Ev.pos (by omega) ?_))
      rw [hbt]
      by_cases h34 : c = 34
      · refine Ev.pos h34 ?_
        rw [if_pos (beq_iff_eq.2 h34)]
        by_cases h200 : 200 < (b.length : Int)
        · rw [if_pos h200, if_pos h200]
          exact (Ev.now _).eq (strR_err a 3 0 [] (by decide)).symm
        · rw [if_neg h200, if_neg h200]
          refine (Ev.now _).eq ?_
          unfold strR
          rw [if_pos rfl, w64' (by omega) (by omega)]
          show (_, _, _, _, _, _, _, _, _, (j : Int) + 1, _) = (_, _, _, _, _, _, _, _, _, ((a + j + 1 - a : Nat) : Int), _)
          rw [show a + j + 1 - a = j + 1 by omega]; rfl
      refine Ev.neg h34 ?_
      rw [if_neg (fun x => h34 (beq_iff_eq.1 x))]
      have w1 := Aside0.mk (show wrap64 ((j : Int) + 1) = ((j + 1 : Nat) : Int) from by rw [w64' (by omega) (by omega)]; rfl)
      by_cases h92 : c = 92
      · refine Ev.pos h92 ?_
        rw [if_pos (beq_iff_eq.2 h92), w1.out, h92]
        by_cases h2 : a + j + 1 < T.size
        · rw [dif_pos h2]
          obtain ⟨d, hd⟩ : ∃ d : Int, ((T[a + j + 1]'h2).toNat : Int) = d := ⟨_, rfl⟩
          have hbd : bt (tail T a) ((j + 1 : Nat) : Int) = d := (bt_tail (i := j + 1) h2).trans hd
          rw [show ((((j + 1 : Nat) : Int)) == ((tail T a).size : Int)) = false from beq_eq_false_iff_ne.2 (by omega), hd]
          refine Ev.step (fun k => by rw [maskref1_stringToken.j2]) ?_
          refine Ev.neg (by decide) (Ev.pos rfl ?_)
          rw [w1.out]
          refine Ev.pos (by omega) (Ev.pos (by omega) ?_)
          rw [hbd]
          have w2 := Aside0.mk (show wrap64 (((j + 1 : Nat) : Int) + 1) = ((j + 2 : Nat) : Int) from by rw [w64' (by omega) (by omega)]; rfl)
          have hnx : Ev (fun k => maskref1_stringToken.l0 k (tail T a) (b ++ [d]) (wrap64 (((j + 1 : Nat) : Int) + 1))) (strR a (textF T n (a + j + 2) (b ++ [d]))) := by
            rw [w2.out]
            have hx := ih (j + 2) (b ++ [d]) (by omega) (by rw [List.length_append, List.length_singleton]; omega)
            rw [← Nat.add_assoc] at hx
            exact hx
          by_cases d34 : d = 34
          · rw [if_pos (by rw [d34]; rfl)]
            refine Ev.pos d34 ?_
            exact Ev.pos HBL.out hnx
          · refine Ev.neg d34 ?_
            by_cases d92 : d = 92
            · rw [if_pos (by rw [d92]; rfl)]
              refine Ev.pos d92 ?_
              exact Ev.pos HBL.out hnx
            · rw [if_neg (show ¬ (((d == 34) || (d == 92)) = true) from by rw [beq_eq_false_iff_ne.2 d34, beq_eq_false_iff_ne.2 d92]; decide)]
              rw [strR_err a 10 0 [] (by decide)]; exact Ev.neg d92 (Ev.now _)
        · rw [dif_neg h2, show ((((j + 1 : Nat) : Int)) == ((tail T a).size : Int)) = true from beq_iff_eq.2 (by omega)]
          refine Ev.step (fun k => by rw [maskref1_stringToken.j2]) ?_
          rw [strR_err a 11 0 [] (by decide)]; exact Ev.pos rfl (Ev.now _)
      refine Ev.neg h92 ?_
      rw [if_neg (fun x => h92 (beq_iff_eq.1 x))]
      refine Ev.step (fun k => by rw [maskref1_stringToken.j2]) ?_
      refine Ev.neg (by decide) (Ev.neg h92 ?_)
      by_cases h32 : c < 32
      · rw [if_pos (show (decide (c < 32) || decide (126 < c)) = true from by rw [decide_eq_true h32]; rfl)]
        rw [strR_err a 10 0 [] (by decide)]; exact Ev.pos h32 (Ev.now _)
      · refine Ev.neg h32 ?_
        by_cases h126 : c > 126
        · rw [if_pos (show (decide (c < 32) || decide (126 < c)) = true from by rw [decide_eq_true (show 126 < c from h126), Bool.or_true])]
          rw [strR_err a 10 0 [] (by decide)]; exact Ev.pos h126 (Ev.now _)
        · rw [if_neg (show ¬ ((decide (c < 32) || decide (126 < c)) = true) from by rw [decide_eq_false h32, decide_eq_false h126]; decide)]
          refine Ev.neg h126 ?_
          refine Ev.pos HBL.out ?_
          rw [w1.out]
          have hx := ih (j + 1) (b ++ [c]) (by omega) (by rw [List.length_append, List.length_singleton]; omega)
          rw [← Nat.add_assoc] at hx
          exact hx
    · rw [textF, dif_neg hlt]
      refine Ev.step (fun k => by rw [maskref1_stringToken.l0]) ?_
      exact Ev.neg (by omega) (by rw [strR_err a 11 0 [] (by decide)]; exact j1f _ _)
theorem text_same (T : ByteArray) (a : Nat) (hS : T.size ≤ 16000) (ha : a < T.size) : Ev (fun k => maskref1_stringToken.f k (tail T a)) (strR a (textF T (T.size + 1) (a + 1) [])) := by
  unfold maskref1_stringToken.f
  exact text_ref T a hS (T.size + 1) 1 [] (by omega) (by simp)
end Go.Proofs.Ytlamgdibnnmbmaa.PLex
end
section
namespace Go.Proofs.Ytlamgdibnnmbmaa.PLex
open Go.RowKit Go.Proofs.YtlamgdibnnmbmaaW.PrintWords Go.Proofs.YtlamgdibnnmbmaaW.PrintLast Go.Proofs.YtlamgdibnnmbmaaW.PrintMore Go.Proofs.Ytlamgdibnnmbmaa.Bz
set_option linter.unusedVariables false
set_option linter.unusedSimpArgs false
theorem less_irrefl : ∀ x : List UInt8, Op.bytesLess x x = false
  | [] => rfl
  | a :: l => by simp [Op.bytesLess, less_irrefl l]
theorem less_trans : ∀ x y z : List UInt8, Op.bytesLess x y = true → Op.bytesLess y z = true → Op.bytesLess x z = true
  | x, y, [], _, h => by cases y <;> simp [Op.bytesLess] at h
  | [], y, c :: z, _, _ => by simp [Op.bytesLess]
  | a :: x, [], c :: z, h, _ => by simp [Op.bytesLess] at h
  | a :: x, b :: y, c :: z, h1, h2 => by
    simp only [Op.bytesLess] at h1 h2 ⊢
    simp only [Bool.or_eq_true, Bool.and_eq_true, decide_eq_true_eq, beq_iff_eq] at h1 h2 ⊢
    rcases h1 with h1 | ⟨rfl, h1⟩ <;> rcases h2 with h2 | ⟨rfl, h2⟩
    · exact .inl (UInt8.lt_trans h1 h2)
    · exact .inl h1
    · exact .inl h2
    · exact .inr ⟨rfl, less_trans x y z h1 h2⟩
theorem less_is (a b : ByteArray) : cmp_Less_string.f a b = some (Op.bytesLess a.toList b.toList) := by
  unfold cmp_Less_string.f cmp_isNaN_string.f
  simp
theorem mid_is {i j n h : Nat} (hn : n ≤ 1000) (hij : i < j) (hj : j ≤ n) (hh : h = (i + j) / 2) : wrap64 (IntKind.u64.wrap (wrap64 ((i : Int) + (j : Int))) / 2) = (h : Int) := by
  rw [w64' (x := (i : Int) + (j : Int)) (by omega) (by omega), IntWalk.u64_in _ ⟨by omega, by omega⟩, w64' (by omega) (by omega)]; omega
def up (l : List ByteArray) : Prop := ∀ i j, i < j → j < l.length → Op.bytesLess (l.getD i ByteArray.empty).toList (l.getD j ByteArray.empty).toList = true
theorem toList_inj {a b : ByteArray} (h : a.toList = b.toList) : a = b := by
  rw [Lib.toList_data, Lib.toList_data] at h
  obtain ⟨a⟩ := a
  obtain ⟨b⟩ := b
  exact congrArg ByteArray.mk (Array.toList_inj.1 h)
open Classical in
theorem search_l0 (l : List ByteArray) (u : ByteArray) (hl : l.length ≤ 1000) (hu : up l) : ∀ d i j, j - i ≤ d → i ≤ j → j ≤ l.length →
    (∀ p, p < i → Op.bytesLess (l.getD p ByteArray.empty).toList u.toList = true) → (∀ p, j ≤ p → p < l.length → Op.bytesLess (l.getD p ByteArray.empty).toList u.toList = false) →
    ∃ r, Ev (fun k => slices_BinarySearch_string_string.l0 k l u (l.length : Int) (i : Int) (j : Int)) (r, decide (u ∈ l)) := by
  intro d
  induction d with
  | zero =>
    intro i j h1 h2 h3 hlo hhi
    obtain rfl : i = j := by omega
    refine ⟨i, ?_⟩
    refine Ev.step (fun k => by rw [slices_BinarySearch_string_string.l0]) ?_
    refine Ev.neg (by omega) ?_
    have mem : u ∈ l → i < l.length ∧ l.getD i ByteArray.empty = u := by
      intro hm
      obtain ⟨p, hp, rfl⟩ := List.mem_iff_getElem.1 hm
      have e : l.getD p ByteArray.empty = l[p] := by rw [List.getD_eq_getElem?_getD, List.getElem?_eq_getElem hp]; rfl
      rcases Nat.lt_trichotomy p i with h | h | h
      · have := hlo p h
        rw [e, less_irrefl] at this
        cases this
      · subst h; exact ⟨hp, e⟩
      · have := hhi i (Nat.le_refl _) (by omega)
        have h2 := hu i p h hp
        rw [e] at h2
        rw [h2] at this
        cases this
    have rde : rdOf ByteArray.empty l (i : Int) = l.getD i ByteArray.empty := by unfold rdOf; rw [Int.toNat_natCast]
    by_cases hi : i < l.length
    · refine Ev.pos (by omega) (Ev.pos (by omega) (Ev.pos (by omega) ?_))
      rw [rde]
      by_cases he : (l.getD i ByteArray.empty).toList = u.toList
      · refine Ev.pos he ((Ev.now _).eq ?_)
        have : u ∈ l := by
          rw [← toList_inj he, List.getD_eq_getElem?_getD, List.getElem?_eq_getElem hi]
          exact List.getElem_mem hi
        rw [decide_eq_true this]
      · refine Ev.neg he ?_
        refine Ev.bnd (r := false) (by unfold slices_isNaN_string.f; simp) (Ev.neg (by decide) ((Ev.now _).eq ?_))
        rw [decide_eq_false (fun hm => he (by rw [(mem hm).2]))]
    · refine Ev.neg (by omega) ((Ev.now _).eq ?_)
      rw [decide_eq_false (fun hm => hi (mem hm).1)]
  | succ d ih =>
    intro i j h1 h2 h3 hlo hhi
    by_cases hij : i < j
    · obtain ⟨h, hh⟩ : ∃ h : Nat, h = (i + j) / 2 := ⟨_, rfl⟩
      have hm := Aside0.mk (mid_is hl hij h3 hh)
      have hb : i ≤ h ∧ h < j := by omega
      have rde : rdOf ByteArray.empty l (h : Int) = l.getD h ByteArray.empty := by unfold rdOf; rw [Int.toNat_natCast]
      cases hc : Op.bytesLess (l.getD h ByteArray.empty).toList u.toList
      · obtain ⟨r, hr⟩ := ih i h (by omega) (by omega) (by omega) hlo (fun p hp hpl => by
          rcases Nat.eq_or_lt_of_le hp with e | e
          · rw [← e]; exact hc
          · cases hx : Op.bytesLess (l.getD p ByteArray.empty).toList u.toList
            · rfl
            · have := less_trans _ _ _ (hu h p e hpl) hx
              rw [this] at hc; cases hc)
        refine ⟨r, ?_⟩
        refine Ev.step (fun k => by rw [slices_BinarySearch_string_string.l0]) ?_
        rw [hm.out, rde]
        refine Ev.pos (by omega) (Ev.pos (by omega) (Ev.pos (by omega) ?_))
        exact Ev.bnd ((less_is _ _).trans (by rw [hc])) (Ev.neg (by decide) hr)
      · obtain ⟨r, hr⟩ := ih (h + 1) j (by omega) (by omega) h3 (fun p hp => by
          rcases Nat.lt_or_ge p h with e | e
          · exact less_trans _ _ _ (hu p h e (by omega)) hc
          · obtain rfl : p = h := by omega
            exact hc) hhi
        refine ⟨r, ?_⟩
        refine Ev.step (fun k => by rw [slices_BinarySearch_string_string.l0]) ?_
        rw [hm.out, rde]
        refine Ev.pos (by omega) (Ev.pos (by omega) (Ev.pos (by omega) ?_))
        refine Ev.bnd ((less_is _ _).trans (by rw [hc])) (Ev.pos rfl ?_)
        rw [wrap_succ (n := 1000) (by omega) (by decide)]
        exact hr
    · exact ih i j (by omega) h2 h3 hlo hhi
theorem words_up : up WORDS := by
  have h : ∀ j : Fin 54, ∀ i : Fin 54, i.1 < j.1 → Op.bytesLess (WORDS.getD i.1 ByteArray.empty).data.toList (WORDS.getD j.1 ByteArray.empty).data.toList = true := by decide +kernel
  have hl : WORDS.length = 54 := by decide +kernel
  intro i j hij hj
  rw [Lib.toList_data, Lib.toList_data]
  exact h ⟨j, by omega⟩ ⟨i, by omega⟩ hij
open Classical in
theorem search_is (u : ByteArray) : ∃ r, Ev (fun k => slices_BinarySearch_string_string.f k WORDS u) (r, decide (u ∈ WORDS)) := by
  have hl : WORDS.length = 54 := by decide +kernel
  exact search_l0 WORDS u (by omega) words_up WORDS.length 0 WORDS.length (by omega) (by omega) (by omega) (fun p hp => absurd hp (Nat.not_lt_zero _)) (fun p h1 h2 => absurd h2 (by omega))
end Go.Proofs.Ytlamgdibnnmbmaa.PLex
end
section
namespace Go.Proofs.Ytlamgdibnnmbmaa.PLex
open Go.RowKit Go.Proofs.YtlamgdibnnmbmaaW.PrintWords Go.Proofs.YtlamgdibnnmbmaaW.PrintLast Go.Proofs.YtlamgdibnnmbmaaW.PrintMore Go.Proofs.Ytlamgdibnnmbmaa.Bz
set_option linter.unusedVariables false
set_option linter.unusedSimpArgs false
def LEXW : ByteArray := (⟨#[32, 97, 102, 116, 101, 114, 32, 97, 108, 119, 97, 121, 115, 32, 97, 110, 100, 32, 97, 115, 115, 105, 103, 110, 32, 99, 97, 115, 101, 32, 99, 97, 115, 101, 120, 32, 99, 97, 115, 101, 122, 32, 99, 97, 116, 32, 99, 104, 101, 99, 107, 32, 99, 111, 109, 98, 32, 99, 111, 110, 115, 116, 32, 100, 101, 102, 97, 117, 108, 116, 32, 100, 101, 108, 97, 121, 32, 100, 111, 119, 110, 116, 111, 32, 101, 108, 115, 101, 32, 101, 110, 117, 109, 32, 102, 97, 108, 108, 32, 102, 111, 114, 32, 102, 117, 110, 99, 116, 105, 111, 110, 32, 105, 102, 32, 105, 110, 32, 105, 110, 105, 116, 105, 97, 108, 32, 105, 110, 115, 116, 32, 105, 110, 116, 101, 114, 102, 97, 99, 101, 32, 108, 105, 110, 107, 32, 108, 111, 103, 32, 109, 111, 100, 117, 108, 101, 32, 109, 111, 110, 105, 116, 111, 114, 32, 110, 111, 119, 32, 111, 110, 32, 111, 114, 32, 111, 117, 116, 32, 112, 114, 111, 112, 101, 114, 116, 121, 32, 114, 101, 112, 32, 114, 101, 112, 101, 97, 116, 32, 114, 105, 115, 101, 32, 115, 101, 113, 32, 115, 104, 111, 119, 32, 115, 105, 103, 110, 101, 100, 32, 115, 105, 122, 101, 32, 115, 116, 111, 112, 32, 115, 116, 114, 111, 98, 101, 32, 115, 116, 114, 117, 99, 116, 32, 116, 104, 101, 110, 32, 116, 105, 109, 101, 115, 32, 116, 111, 32, 117, 110, 115, 105, 103, 110, 101, 100, 32, 118, 97, 114, 32, 118, 105, 101, 119, 32, 119, 97, 105, 116, 32, 119, 104, 105, 108, 101, 32, 119, 105, 100, 116, 104, 32, 119, 105, 114, 101, 32, 119, 114, 105, 116, 101, 32]⟩ : ByteArray)
open Classical in
theorem contains_l0 (L p : ByteArray) (hL : L.size ≤ 100000) (hp : p.size ≤ 100000) : ∀ d i, i + d = L.size + 1 →
    Ev (fun k => maskref1_contains.l0 k L p (i : Int)) (decide (∃ j, i ≤ j ∧ j + p.size ≤ L.size ∧ (L.extract j (j + p.size)).toList = p.toList)) := by
  have neg : ∀ i : Nat, i ≤ L.size + 1 → ¬ i + p.size ≤ L.size → Ev (fun k => maskref1_contains.l0 k L p (i : Int)) (decide (∃ j, i ≤ j ∧ j + p.size ≤ L.size ∧ (L.extract j (j + p.size)).toList = p.toList)) := by
    intro i hi0 hi
    have hno : ¬ ∃ j, i ≤ j ∧ j + p.size ≤ L.size ∧ (L.extract j (j + p.size)).toList = p.toList := fun ⟨j, h1, h2, _⟩ => by omega
    rw [decide_eq_false hno]
    have w1 := Aside0.mk (show wrap64 ((i : Int) + (p.size : Int)) = ((i + p.size : Nat) : Int) from by rw [w64' (by omega) (by omega)]; rfl)
    refine Ev.step (fun k => by rw [maskref1_contains.l0]) ?_
    rw [w1.out]
    exact Ev.neg (by omega) (Ev.now _)
  intro d
  induction d with
  | zero => intro i hd; exact neg i (by omega) (by omega)
  | succ d ih =>
    intro i hd
    by_cases hi : i + p.size ≤ L.size
    · have w1 := Aside0.mk (show wrap64 ((i : Int) + (p.size : Int)) = ((i + p.size : Nat) : Int) from by rw [w64' (by omega) (by omega)]; rfl)
      have w2 := Aside0.mk (show wrap64 ((i : Int) + 1) = ((i + 1 : Nat) : Int) from by rw [w64' (by omega) (by omega)]; rfl)
      refine Ev.step (fun k => by rw [maskref1_contains.l0]) ?_
      rw [w1.out, w2.out, Int.toNat_natCast, Int.toNat_natCast]
      refine Ev.pos (by omega) (Ev.pos (by omega) (Ev.pos (by omega) ?_))
      by_cases he : (L.extract i (i + p.size)).toList = p.toList
      · refine Ev.pos he ((Ev.now _).eq ?_)
        rw [decide_eq_true (show ∃ j, i ≤ j ∧ j + p.size ≤ L.size ∧ (L.extract j (j + p.size)).toList = p.toList from ⟨i, Nat.le_refl _, hi, he⟩)]
      · refine Ev.neg he ((ih (i + 1) (by omega)).eq ?_)
        refine decide_eq_decide.2 ⟨fun ⟨j, h1, h2⟩ => ⟨j, by omega, h2⟩, fun ⟨j, h1, h2, h3⟩ => ?_⟩
        rcases Nat.eq_or_lt_of_le h1 with e | e
        · subst e; exact absurd h3 he
        · exact ⟨j, e, h2, h3⟩
    · exact neg i (by omega) hi
def LEXL : List UInt8 := LEXW.data.toList
def WORDSL : List (List UInt8) := WORDS.map (fun w => w.data.toList)
theorem lex_size : LEXW.size = 304 := by decide +kernel
theorem blanks_words : ∀ i : Fin 303, LEXL.getD i.1 0 = 32 → (LEXL.drop (i.1 + 1)).takeWhile (fun c => c != 32) ∈ WORDSL := by decide +kernel
theorem words_stand : ∀ w ∈ WORDSL, ∃ i : Fin 304, i.1 + (w.length + 2) ≤ 304 ∧ (LEXL.drop i.1).take (w.length + 2) = 32 :: (w ++ [32]) := by decide +kernel
theorem takeWhile_to (l r : List UInt8) (h : ∀ c ∈ l, c ≠ 32) : (l ++ 32 :: r).takeWhile (fun c => c != 32) = l := by
  induction l with
  | nil => simp
  | cons a l ih =>
    have ha : (a != 32) = true := bne_iff_ne.2 (h a List.mem_cons_self)
    rw [List.cons_append, List.takeWhile_cons, ha, if_pos rfl, ih (fun c hc => h c (List.mem_cons_of_mem _ hc))]
theorem cut_list (L : ByteArray) (j n : Nat) : (L.extract j (j + n)).toList = (L.data.toList.drop j).take n := by
  rw [Lib.toList_data, ByteArray.data_extract, Array.toList_extract, List.extract_eq_take_drop, Nat.add_sub_cancel_left]
theorem in_words (u : ByteArray) : u ∈ WORDS ↔ u.data.toList ∈ WORDSL := by
  unfold WORDSL
  rw [List.mem_map]
  constructor
  · intro h; exact ⟨u, h, rfl⟩
  · rintro ⟨w, hw, e⟩
    have : w = u := toList_inj (by rw [Lib.toList_data, Lib.toList_data]; exact e)
    rw [← this]; exact hw
open Classical in
theorem contains_word (u : ByteArray) (hu : u.size ≤ 3000) (hns : ∀ c ∈ u.data.toList, c ≠ 32) :
    Ev (fun k => maskref1_contains.f k LEXW (((⟨#[32]⟩ : ByteArray) ++ u) ++ (⟨#[32]⟩ : ByteArray))) (decide (u ∈ WORDS)) := by
  have hp : (((⟨#[32]⟩ : ByteArray) ++ u) ++ (⟨#[32]⟩ : ByteArray)).data.toList = 32 :: (u.data.toList ++ [32]) := by simp
  have hsz : (((⟨#[32]⟩ : ByteArray) ++ u) ++ (⟨#[32]⟩ : ByteArray)).size = u.data.toList.length + 2 := by
    rw [show (((⟨#[32]⟩ : ByteArray) ++ u) ++ (⟨#[32]⟩ : ByteArray)).size = (((⟨#[32]⟩ : ByteArray) ++ u) ++ (⟨#[32]⟩ : ByteArray)).data.toList.length from rfl, hp]; simp
  have hul : u.size = u.data.toList.length := rfl
  unfold maskref1_contains.f
  refine (contains_l0 LEXW _ (by rw [lex_size]; decide) (by rw [hsz]; omega) (LEXW.size + 1) 0 (by omega)).eq (decide_eq_decide.2 ?_)
  rw [hsz, lex_size, in_words]
  constructor
  · rintro ⟨j, _, h1, h2⟩
    rw [cut_list, Lib.toList_data, hp] at h2
    obtain ⟨R, hd⟩ : ∃ R, LEXL.drop j = 32 :: (u.data.toList ++ 32 :: R) := by
      have h3 := List.take_append_drop (u.data.toList.length + 2) (LEXL.drop j)
      rw [show (LEXL.drop j).take (u.data.toList.length + 2) = 32 :: (u.data.toList ++ [32]) from h2] at h3
      generalize List.drop (u.data.toList.length + 2) (LEXL.drop j) = R at h3
      exact ⟨R, by rw [← h3]; simp⟩
    have hlen : LEXL.length = 304 := lex_size
    have hg : LEXL.getD j 0 = 32 := by
      rw [List.drop_eq_getElem_cons (show j < LEXL.length by omega)] at hd
      rw [List.getD_eq_getElem?_getD, List.getElem?_eq_getElem (show j < LEXL.length by omega)]
      exact (List.cons.inj hd).1
    have hd1 : LEXL.drop (j + 1) = u.data.toList ++ 32 :: R := by
      rw [List.drop_eq_getElem_cons (show j < LEXL.length by omega)] at hd
      exact (List.cons.inj hd).2
    have := blanks_words ⟨j, by omega⟩ hg
    rw [hd1, takeWhile_to _ _ hns] at this
    exact this
  · intro h
    obtain ⟨i, h1, h2⟩ := words_stand _ h
    refine ⟨i.1, Nat.zero_le _, h1, ?_⟩
    rw [cut_list, Lib.toList_data, hp]
    exact h2
end Go.Proofs.Ytlamgdibnnmbmaa.PLex
end
section
namespace Go.Proofs.Ytlamgdibnnmbmaa.PLex
open Go.RowKit Go.Proofs.YtlamgdibnnmbmaaW.PrintWords Go.Proofs.YtlamgdibnnmbmaaW.PrintLast Go.Proofs.YtlamgdibnnmbmaaW.PrintMore Go.Proofs.Ytlamgdibnnmbmaa.Bz
set_option linter.unusedVariables false
set_option linter.unusedSimpArgs false
set_option linter.unusedSectionVars false
def Same (T : ByteArray) (a : Nat) (t : S51) : Prop := ∃ (r : Int × Nat × S51) (q : R11), Ev (fun k => tokF k T a t) r ∧ Ev (fun k => maskref1_token.f k (tail T a)) q ∧
  q.2.2.2.2.2.2.2.2.2.2 = r.1 ∧ (r.1 = 0 → q.2.2.2.2.2.2.2.2.2.1 = (r.2.1 : Int) ∧ 1 ≤ r.2.1 ∧ a + r.2.1 ≤ T.size ∧
    r.2.2 = ⟨q.1, t.f1, t.f2, q.2.2.2.1, q.2.2.2.2.1, ⟨q.2.2.2.2.2.1, q.2.2.2.2.2.2.1, q.2.2.2.2.2.2.2.1⟩, q.2.2.2.2.2.2.2.2.1⟩)
theorem tail_cut {T : ByteArray} {a i j : Nat} (h : a + j ≤ T.size) : (tail T a).extract i j = T.extract (a + i) (a + j) := by
  unfold tail
  rw [ByteArray.extract_extract, Nat.min_eq_left h]
theorem word_bytes (T : ByteArray) (a : Nat) : ∀ c ∈ (T.extract a (runTo T wordP a)).data.toList, c ≠ 32 := by
  intro c hc e
  subst e
  obtain ⟨i, hi, he⟩ := List.mem_iff_getElem.1 hc
  have hsz : (T.extract a (runTo T wordP a)).size = (T.extract a (runTo T wordP a)).data.toList.length := rfl
  have hle := runTo_le T wordP _ a (Nat.le_refl _)
  rw [ByteArray.size_extract] at hsz
  have hlt : a + i < T.size := by omega
  have hw := runTo_all T wordP _ a (Nat.le_refl _) (a + i) hlt (by omega) (by omega)
  have : T[a + i] = 32 := by
    rw [← he]
    have : (T.extract a (runTo T wordP a)).data.toList[i] = (T.extract a (runTo T wordP a))[i]'(by rw [ByteArray.size_extract]; omega) := rfl
    rw [this, ByteArray.getElem_extract]
  rw [this] at hw
  exact absurd hw (by decide)
theorem space_is (c : UInt8) : Lib.indexByte [32, 9, 10] c < 0 ↔ ((c.toNat : Int) ≠ 32 ∧ (c.toNat : Int) ≠ 9 ∧ (c.toNat : Int) ≠ 10) := by
  have key : ∀ n : Fin 256, Lib.indexByte [32, 9, 10] (UInt8.ofNat n.1) < 0 ↔ ((n.1 : Int) ≠ 32 ∧ (n.1 : Int) ≠ 9 ∧ (n.1 : Int) ≠ 10) := by decide +kernel
  have := key ⟨c.toNat, UInt8.toNat_lt c⟩
  rwa [u8_of] at this
theorem signs_is : maskref1_LexSigns.f 500 = some SIGNS := by kernel_rfl
theorem signs_pos : ∀ p ∈ SIGNS.map (fun p => p.size), 1 ≤ p ∧ p ≤ 3 := by decide +kernel
theorem prefix_iff (l p : List UInt8) : p.isPrefixOf l = true ↔ l.take p.length = p := by
  rw [List.isPrefixOf_iff_prefix]
  constructor
  · rintro ⟨r, rfl⟩; simp
  · intro h; exact ⟨l.drop p.length, by rw [← h, List.length_take]; conv => rhs; rw [← List.take_append_drop p.length l]
                                        rw [h]; simp⟩
def signQ (U : ByteArray) (l : List ByteArray) : R11 :=
  match l.find? (fun p => Lib.hasPrefix U.data.toList p.data.toList) with
  | some p => (5, 0, 0, p, false, 0, 0, 0, false, (p.size : Int), 0)
  | none => err11 10
theorem sign_l0 (U : ByteArray) (l : List ByteArray) (hl : l.length ≤ 1000) : ∀ d i, i + d = l.length → Ev (fun k => maskref1_token.l0 k U l (l.length : Int) (i : Int)) (signQ U (l.drop i)) := by
  intro d
  induction d with
  | zero =>
    intro i hd
    refine Ev.step (fun k => by rw [maskref1_token.l0]) ?_
    rw [List.drop_eq_nil_of_le (by omega)]
    exact Ev.neg (by omega) (Ev.now _)
  | succ d ih =>
    intro i hd
    have hlt : i < l.length := by omega
    have hnx := ih (i + 1) (by omega)
    rw [drop_at hlt]
    generalize hp : rdOf ByteArray.empty l (i : Int) = p
    refine Ev.step (fun k => by rw [maskref1_token.l0]) ?_
    rw [hp, wrap_succ hlt (by omega)]
    refine Ev.pos (by omega) (Ev.pos (by omega) (Ev.pos (by omega) ?_))
    have hcut : (U.extract 0 (p.size : Int).toNat).toList = U.data.toList.take p.data.toList.length := by
      have := cut_list U 0 p.size
      rw [Nat.zero_add, List.drop_zero] at this
      rw [Int.toNat_natCast]; exact this
    cases hb : Lib.hasPrefix U.data.toList p.data.toList
    · have e : signQ U (p :: l.drop (i + 1)) = signQ U (l.drop (i + 1)) := by
        unfold signQ; rw [List.find?_cons_of_neg (by rw [hb]; decide)]
      rw [e]
      have hne : ¬ (U.extract 0 (p.size : Int).toNat).toList = p.toList := by
        rw [hcut, Lib.toList_data]
        intro h
        have := (prefix_iff _ _).2 h
        unfold Lib.hasPrefix at hb
        rw [this] at hb; cases hb
      by_cases hs : (p.size : Int) ≤ (U.size : Int)
      · exact Ev.pos hs (Ev.pos (by omega) (Ev.neg hne hnx))
      · exact Ev.neg hs hnx
    · have e : signQ U (p :: l.drop (i + 1)) = (5, 0, 0, p, false, 0, 0, 0, false, (p.size : Int), 0) := by
        unfold signQ; rw [List.find?_cons_of_pos (by exact hb)]
      rw [e]
      have heq := (prefix_iff _ _).1 hb
      have hsz : p.size ≤ U.size := by
        have := congrArg List.length heq
        rw [List.length_take] at this
        have h1 : U.size = U.data.toList.length := rfl
        have h2 : p.size = p.data.toList.length := rfl
        omega
      exact Ev.pos (by omega) (Ev.pos (by omega) (Ev.pos (by rw [hcut, Lib.toList_data]; exact heq) (Ev.now _)))
variable (T : ByteArray) (hS : T.size ≤ 2000) (a : Nat) (ha : a < T.size) (t : S51) (h0 : t.f3 = ⟨#[]⟩) (h1 : t.f4 = false) (h2 : t.f5 = ⟨0, 0, 0⟩) (h3 : t.f6 = false)
include hS h0 h1 h2 h3
open Classical in
theorem same_word (hl : letterP (T[a]'ha) = true) : Same T a t := by
  have hge := runTo_ge T wordP _ a (Nat.le_refl _)
  have hle := runTo_le T wordP _ a (Nat.le_refl _)
  have hge1 : a + 1 ≤ runTo T wordP a := by
    rw [runTo_eq, dif_pos ha, if_pos (by unfold wordP; rw [hl]; rfl)]; exact runTo_ge T wordP _ (a + 1) (Nat.le_refl _)
  have hz := tail_size T a
  have hns := word_bytes T a
  obtain ⟨r, hr⟩ := search_is (T.extract a (runTo T wordP a))
  obtain ⟨m, hm⟩ : ∃ m, m = runTo T wordP a - a := ⟨_, rfl⟩
  have hrun := runWord T (by omega) a (by omega)
  rw [← hm] at hrun
  have hcut : (tail T a).extract 0 m = T.extract a (runTo T wordP a) := by rw [tail_cut (by omega), Nat.add_zero]; congr 1; omega
  have hcs : (T.extract a (runTo T wordP a)).size = m := by rw [ByteArray.size_extract]; omega
  have hct := contains_word (T.extract a (runTo T wordP a)) (by omega) hns
  have hb0 : bt (tail T a) 0 = ((T[a]'ha).toNat : Int) := bt_tail (i := 0) ha
  refine ⟨(if 40 < m then 3 else 0, if 40 < m then 0 else m, { t with f0 := if (decide (T.extract a (runTo T wordP a) ∈ WORDS)) then 2 else 1, f3 := T.extract a (runTo T wordP a) }), if 40 < m then err11 3 else (if T.extract a (runTo T wordP a) ∈ WORDS then 2 else 1, 0, 0, T.extract a (runTo T wordP a), false, 0, 0, 0, false, (m : Int), 0), ?_, ?_, ?_, ?_⟩
  · refine Ev.congr (f := fun k => (slices_BinarySearch_string_string.f k WORDS (T.extract a (runTo T wordP a))).bind fun r => some (if 40 < m then 3 else 0, if 40 < m then 0 else m, { t with f0 := if r.2 then 2 else 1, f3 := T.extract a (runTo T wordP a) })) (fun k => by unfold tokF; rw [dif_pos ha, if_pos hl, ← hm]) ?_
    exact Ev.bind hr (Ev.now _)
  · unfold maskref1_token.f
    refine Ev.bind hrun (Ev.pos (by omega) ?_)
    rw [hb0]
    refine Ev.bnd (isLetter_is _) ?_
    rw [hl, Int.toNat_natCast, hcut]
    refine Ev.pos rfl (Ev.pos (by omega) (Ev.pos (by omega) (Ev.pos (by rw [hcs]; omega) (Ev.pos (by rw [ByteArray.size_append, hcs]; show 1 + m + 1 ≤ _; omega) ?_))))
    refine Ev.bind hct ?_
    have j0 : ∀ kd : Int, Ev (fun k => maskref1_token.j0 k (m : Int) kd 0 0 (T.extract a (runTo T wordP a)) false 0 0 0 false) (if 40 < m then err11 3 else (kd, 0, 0, T.extract a (runTo T wordP a), false, 0, 0, 0, false, (m : Int), 0)) := by
      intro kd
      refine Ev.step (fun k => by rw [maskref1_token.j0]) ?_
      by_cases h : 40 < m
      · rw [if_pos h]; exact Ev.pos (by omega) (Ev.now _)
      · rw [if_neg h]; exact Ev.neg (by omega) (Ev.now _)
    by_cases hw : T.extract a (runTo T wordP a) ∈ WORDS
    · rw [decide_eq_true hw, if_pos hw]; exact Ev.pos rfl (j0 2)
    · rw [decide_eq_false hw, if_neg hw]; exact Ev.neg (by decide) (j0 1)
  · by_cases h : 40 < m
    · simp only [if_pos h]; rfl
    · simp only [if_neg h]
  · intro he
    by_cases h : 40 < m
    · simp only [if_pos h] at he; exact absurd he (by decide)
    · simp only [if_neg h, h1, h2, h3, decide_eq_true_eq]
      exact ⟨trivial, by omega, by omega, trivial⟩
theorem same_string (hl : letterP (T[a]'ha) = false) (hf : figureP (T[a]'ha) = false) (h34 : (((T[a]'ha).toNat : Int) == 34) = true) (hcase : (textF T (T.size + 1) (a + 1) []).1 = 0 → a + 1 < (textF T (T.size + 1) (a + 1) []).2.1 ∧ (textF T (T.size + 1) (a + 1) []).2.1 ≤ T.size) : Same T a t := by
  have hz := tail_size T a
  have hb0 : bt (tail T a) 0 = ((T[a]'ha).toNat : Int) := bt_tail (i := 0) ha
  have hc34 : ((T[a]'ha).toNat : Int) = 34 := beq_iff_eq.1 h34
  refine ⟨((textF T (T.size + 1) (a + 1) []).1, (textF T (T.size + 1) (a + 1) []).2.1 - a, { t with f0 := 4, f3 := strOfNums (textF T (T.size + 1) (a + 1) []).2.2 }), strR a (textF T (T.size + 1) (a + 1) []), ?_, ?_, ?_, ?_⟩
  · refine Ev.congr (fun k => ?_) (Ev.now _)
    unfold tokF
    rw [dif_pos ha, if_neg (by rw [hl]; decide), if_neg (by rw [hf]; decide), if_pos h34]
  · unfold maskref1_token.f
    refine Ev.bind (runWord T (by omega) a (by omega)) (Ev.pos (by omega) ?_)
    rw [hb0]
    refine Ev.bnd (isLetter_is _) ?_
    rw [hl]
    refine Ev.neg (by decide) (Ev.neg (by omega) (Ev.pos hc34 ?_))
    exact Ev.bind (text_same T a (by omega) ha) (Ev.now _)
  · unfold strR
    by_cases h : (textF T (T.size + 1) (a + 1) []).1 = 0
    · rw [if_pos h]; exact h.symm
    · rw [if_neg h]; rfl
  · intro h
    obtain ⟨c1, c2⟩ := hcase h
    have h' : (textF T (T.size + 1) (a + 1) []).1 = 0 := h
    unfold strR
    rw [if_pos h', h1, h2, h3]
    exact ⟨rfl, by show 1 ≤ _ - a; omega, by show a + (_ - a) ≤ _; omega, rfl⟩
theorem same_sign (hl : letterP (T[a]'ha) = false) (hf : figureP (T[a]'ha) = false) (h34 : (((T[a]'ha).toNat : Int) == 34) = false) (h92 : (((T[a]'ha).toNat : Int) == 92) = false) : Same T a t := by
  have hz := tail_size T a
  have hb0 : bt (tail T a) 0 = ((T[a]'ha).toNat : Int) := bt_tail (i := 0) ha
  have hr0 : runTo T wordP a - a = 0 := by
    rw [runTo_eq, dif_pos ha, if_neg (by unfold wordP; rw [hl, hf]; decide), Nat.sub_self]
  have hrun := runWord T (by omega) a (by omega)
  rw [hr0] at hrun
  have hsl : SIGNS.length ≤ 1000 := by decide +kernel
  refine ⟨signR T a t SIGNS, signQ (tail T a) SIGNS, ?_, ?_, ?_, ?_⟩
  · refine Ev.congr (fun k => ?_) (Ev.now _)
    unfold tokF signR
    rw [dif_pos ha, if_neg (by rw [hl]; decide), if_neg (by rw [hf]; decide), if_neg (by rw [h34]; decide), if_neg (by rw [h92]; decide)]
    split <;> (rename_i h; rw [h])
  · unfold maskref1_token.f
    refine Ev.bind hrun (Ev.pos (by omega) ?_)
    rw [hb0]
    refine Ev.bnd (isLetter_is _) ?_
    rw [hl]
    refine Ev.neg (by decide) (Ev.neg (beq_eq_false_iff_ne.1 h92) (Ev.neg (beq_eq_false_iff_ne.1 h34) (Ev.neg (by decide) ?_)))
    refine Ev.bind (Ev.of (fun k => maskref1_LexSigns.mono k) signs_is) ?_
    have := sign_l0 (tail T a) SIGNS hsl SIGNS.length 0 (by omega)
    exact this
  · unfold signQ signR
    split
    · rename_i h; rw [h]
    · rename_i h; rw [h]; rfl
  · unfold signQ signR
    intro he
    cases hfd : SIGNS.find? (fun p => Lib.hasPrefix (tail T a).data.toList p.data.toList) with
    | none => rw [hfd] at he; exact absurd (show (10 : Int) = 0 from he) (by decide)
    | some p =>
      have hm := List.mem_of_find?_eq_some hfd
      have hp := List.find?_some hfd
      have hps := signs_pos p.size (List.mem_map.2 ⟨p, hm, rfl⟩)
      have heq := (prefix_iff _ _).1 hp
      have hsz : p.size ≤ (tail T a).size := by
        have := congrArg List.length heq
        rw [List.length_take] at this
        have h1 : (tail T a).size = (tail T a).data.toList.length := rfl
        have h2 : p.size = p.data.toList.length := rfl
        omega
      simp only [h1, h2, h3]
      exact ⟨trivial, hps.1, by omega, trivial⟩
end Go.Proofs.Ytlamgdibnnmbmaa.PLex
end
section
namespace Go.Proofs.Ytlamgdibnnmbmaa.PLex
open Go.RowKit Go.Proofs.YtlamgdibnnmbmaaW.PrintWords Go.Proofs.YtlamgdibnnmbmaaW.PrintLast Go.Proofs.YtlamgdibnnmbmaaW.PrintMore Go.Proofs.Ytlamgdibnnmbmaa.Bz
set_option linter.unusedVariables false
set_option linter.unusedSimpArgs false
set_option linter.unusedSectionVars false
theorem textF_end (T : ByteArray) : ∀ n i b, (textF T n i b).1 = 0 → i < (textF T n i b).2.1 ∧ (textF T n i b).2.1 ≤ T.size := by
  intro n
  induction n with
  | zero => intro i b h; exact absurd (show (11 : Int) = 0 from h) (by decide)
  | succ n ih =>
    intro i b h
    rw [textF] at h ⊢
    split at h
    · rename_i hlt
      rw [dif_pos hlt]
      split at h
      · exact absurd (show (11 : Int) = 0 from h) (by decide)
      · rename_i c10; rw [if_neg c10]
        split at h
        · rename_i c34; rw [if_pos c34]
          split at h
          · exact absurd (show (3 : Int) = 0 from h) (by decide)
          · rename_i c200; rw [if_neg c200]; exact ⟨Nat.lt_succ_self i, hlt⟩
        · rename_i c34; rw [if_neg c34]
          split at h
          · rename_i c92; rw [if_pos c92]
            split at h
            · rename_i hl2; rw [dif_pos hl2]
              split at h
              · rename_i cc; rw [if_pos cc]; have := ih _ _ h; exact ⟨by omega, this.2⟩
              · exact absurd (show (10 : Int) = 0 from h) (by decide)
            · exact absurd (show (11 : Int) = 0 from h) (by decide)
          · rename_i c92; rw [if_neg c92]
            split at h
            · exact absurd (show (10 : Int) = 0 from h) (by decide)
            · rename_i cc; rw [if_neg cc]; have := ih _ _ h; exact ⟨by omega, this.2⟩
    · exact absurd (show (11 : Int) = 0 from h) (by decide)
variable (T : ByteArray) (hS : T.size ≤ 2000) (a : Nat) (ha : a < T.size) (t : S51) (h0 : t.f3 = ⟨#[]⟩) (h1 : t.f4 = false) (h2 : t.f5 = ⟨0, 0, 0⟩) (h3 : t.f6 = false)
include hS h0 h1 h2 h3
theorem same_quoted (hl : letterP (T[a]'ha) = false) (hf : figureP (T[a]'ha) = false) (h92 : (((T[a]'ha).toNat : Int) == 92) = true) : Same T a t := by
  have hz := tail_size T a
  have hb0 : bt (tail T a) 0 = ((T[a]'ha).toNat : Int) := bt_tail (i := 0) ha
  have hc92 : ((T[a]'ha).toNat : Int) = 92 := beq_iff_eq.1 h92
  have hge := runTo_ge T quoteP _ (a + 1) (Nat.le_refl _)
  have hle := runTo_le T quoteP _ (a + 1) (Nat.le_refl _)
  obtain ⟨k1, hk1⟩ : ∃ k1, k1 = runTo T quoteP (a + 1) := ⟨_, rfl⟩
  obtain ⟨n, hn⟩ : ∃ n, n = k1 - a := ⟨_, rfl⟩
  rw [← hk1] at hge hle
  have hrun := runQuoted T (by omega) (a + 1) (by omega)
  rw [← hk1] at hrun
  have htt : (tail T a).extract 1 (tail T a).size = tail T (a + 1) := by
    rw [hz, tail_cut (by omega)]; unfold tail; congr 1; omega
  have wn := Aside0.mk (show wrap64 (1 + ((k1 - (a + 1) : Nat) : Int)) = (n : Int) from by rw [w64' (by omega) (by omega)]; omega)
  have hcut : (tail T a).extract 1 n = T.extract (a + 1) k1 := by rw [tail_cut (by omega)]; congr 1; omega
  have j1t : Ev (fun k => maskref1_token.j1 k (tail T a) (n : Int) true) (err11 10) := by
    refine Ev.step (fun k => by rw [maskref1_token.j1]) ?_
    exact Ev.pos rfl (Ev.now _)
  have j1f : Ev (fun k => maskref1_token.j1 k (tail T a) (n : Int) false) (if 40 < n - 1 then err11 3 else (1, 0, 0, T.extract (a + 1) k1, true, 0, 0, 0, false, (n : Int), 0)) := by
    refine Ev.step (fun k => by rw [maskref1_token.j1]) ?_
    refine Ev.neg (by decide) ?_
    by_cases h : 40 < n - 1
    · rw [if_pos h]; exact Ev.pos (by omega) (Ev.now _)
    · rw [if_neg h]
      refine Ev.neg (by omega) (Ev.pos (by omega) (Ev.pos (by omega) ?_))
      rw [Int.toNat_natCast, hcut]
      exact Ev.now _
  have fin : ∀ er : Int, quoteE T a k1 = er → (er = 0 ∨ er = 3 ∨ er = 10) → Ev (fun k => maskref1_token.f k (tail T a)) (if er = 0 then (1, 0, 0, T.extract (a + 1) k1, true, 0, 0, 0, false, (n : Int), 0) else err11 er) → Same T a t := by
    intro er he hcases hev
    refine ⟨(er, if er = 0 then n else 0, { t with f0 := 1, f3 := T.extract (a + 1) k1, f4 := true }), _, ?_, hev, ?_, ?_⟩
    · refine Ev.congr (fun k => ?_) (Ev.now _)
      unfold tokF
      rw [dif_pos ha, if_neg (by rw [hl]; decide), if_neg (by rw [hf]; decide), if_neg (by rw [hc92]; decide), if_pos h92, ← hk1, he, ← hn]
    · by_cases h : er = 0
      · rw [if_pos h, h]
      · rw [if_neg h]; rfl
    · intro h
      have h' : er = 0 := h
      rw [if_pos h', h', h2, h3]
      exact ⟨rfl, by show 1 ≤ n; omega, by show a + n ≤ _; omega, rfl⟩
  have enter : ∀ {q : R11}, Ev (fun k => if (n : Int) = 1 then (maskref1_token.j1 k (tail T a) (n : Int) true) else (if (n : Int) < ((tail T a).size : Int) then (if 0 ≤ (n : Int) then (if (bt (tail T a) (n : Int)) = 32 then (maskref1_token.j1 k (tail T a) (n : Int) false) else (if (bt (tail T a) (n : Int)) = 9 then (maskref1_token.j1 k (tail T a) (n : Int) false) else (maskref1_token.j1 k (tail T a) (n : Int) ((bt (tail T a) (n : Int)) != 10)))) else none) else (maskref1_token.j1 k (tail T a) (n : Int) false))) q → Ev (fun k => maskref1_token.f k (tail T a)) q := by
    intro q hq
    unfold maskref1_token.f
    refine Ev.bind (runWord T (by omega) a (by omega)) (Ev.pos (by omega) ?_)
    rw [hb0]
    refine Ev.bnd (isLetter_is _) ?_
    rw [hl]
    refine Ev.neg (by decide) (Ev.pos hc92 (Ev.pos (by omega) ?_))
    rw [htt]
    refine Ev.bind hrun ?_
    rw [wn.out]
    exact hq
  by_cases hn1 : n = 1
  · refine fin 10 (by unfold quoteE; rw [if_pos (by omega)]) (.inr (.inr rfl)) (enter (Ev.pos (by omega) ?_))
    rw [if_neg (by decide)]; exact j1t
  · have q1 : ¬ k1 - a = 1 := by omega
    by_cases hlt : k1 < T.size
    · have hbn : bt (tail T a) (n : Int) = ((T[k1]'hlt).toNat : Int) := by
        have := bt_tail (T := T) (a := a) (i := n) (by omega)
        rw [this]; congr 2; congr 1; omega
      have hsp := space_is (T[k1]'hlt)
      by_cases hib : Lib.indexByte [32, 9, 10] (T[k1]'hlt) < 0
      · obtain ⟨s1, s2, s3⟩ := hsp.1 hib
        refine fin 10 (by unfold quoteE; rw [if_neg q1, dif_pos hlt, if_pos hib]) (.inr (.inr rfl)) (enter (Ev.neg (by omega) (Ev.pos (by omega) (Ev.pos (by omega) ?_))))
        rw [hbn, if_neg (by decide)]
        refine Ev.neg s1 (Ev.neg s2 ?_)
        rw [bne_iff_ne.2 s3]
        exact j1t
      · have hany : Ev (fun k => if ((T[k1]'hlt).toNat : Int) = 32 then (maskref1_token.j1 k (tail T a) (n : Int) false) else (if ((T[k1]'hlt).toNat : Int) = 9 then (maskref1_token.j1 k (tail T a) (n : Int) false) else (maskref1_token.j1 k (tail T a) (n : Int) (((T[k1]'hlt).toNat : Int) != 10)))) (if 40 < n - 1 then err11 3 else (1, 0, 0, T.extract (a + 1) k1, true, 0, 0, 0, false, (n : Int), 0)) := by
          by_cases s1 : ((T[k1]'hlt).toNat : Int) = 32
          · exact Ev.pos s1 j1f
          · refine Ev.neg s1 ?_
            by_cases s2 : ((T[k1]'hlt).toNat : Int) = 9
            · exact Ev.pos s2 j1f
            · refine Ev.neg s2 ?_
              have s3 : ((T[k1]'hlt).toNat : Int) = 10 := Classical.byContradiction fun h => hib (hsp.2 ⟨s1, s2, h⟩)
              rw [show (((T[k1]'hlt).toNat : Int) != 10) = false from bne_eq_false_iff_eq.2 s3]
              exact j1f
        by_cases h40 : 40 < n - 1
        · rw [if_pos h40] at hany
          refine fin 3 (by unfold quoteE; rw [if_neg q1, dif_pos hlt, if_neg hib, if_pos (by omega)]) (.inr (.inl rfl)) (enter (Ev.neg (by omega) (Ev.pos (by omega) (Ev.pos (by omega) ?_))))
          rw [hbn, if_neg (by decide)]; exact hany
        · rw [if_neg h40] at hany
          refine fin 0 (by unfold quoteE; rw [if_neg q1, dif_pos hlt, if_neg hib, if_neg (by omega)]) (.inl rfl) (enter (Ev.neg (by omega) (Ev.pos (by omega) (Ev.pos (by omega) ?_))))
          rw [hbn, if_pos rfl]; exact hany
    · by_cases h40 : 40 < n - 1
      · rw [if_pos h40] at j1f
        refine fin 3 (by unfold quoteE; rw [if_neg q1, dif_neg hlt, if_pos (by omega)]) (.inr (.inl rfl)) (enter (Ev.neg (by omega) (Ev.neg (by omega) ?_)))
        rw [if_neg (by decide)]; exact j1f
      · rw [if_neg h40] at j1f
        refine fin 0 (by unfold quoteE; rw [if_neg q1, dif_neg hlt, if_neg (by omega)]) (.inl rfl) (enter (Ev.neg (by omega) (Ev.neg (by omega) ?_)))
        rw [if_pos rfl]; exact j1f
end Go.Proofs.Ytlamgdibnnmbmaa.PLex
end
section
namespace Go.Proofs.Ytlamgdibnnmbmaa.PLex
open Go.RowKit Go.Proofs.YtlamgdibnnmbmaaW.PrintWords Go.Proofs.YtlamgdibnnmbmaaW.PrintLast Go.Proofs.YtlamgdibnnmbmaaW.PrintMore Go.Proofs.Ytlamgdibnnmbmaa.Bz
set_option linter.unusedVariables false
set_option linter.unusedSimpArgs false
set_option linter.unusedSectionVars false
theorem bit32 (V i : Nat) (hV : V < 2 ^ 31) (hi : i < 32) : (wrap64 (48 + (Go.bits .and .i64 (shr .i64 (V : Int) (i : Int)) 1))) % 256 = st V 0 i := by
  have hs : sgn 33 V = (V : Int) := by
    unfold sgn
    rw [if_neg (by rw [top_bit (by decide) (by omega), decide_eq_false (by omega)]; decide)]
  have h := sgn_bit (w := 33) (v := V) (k := i) (by decide) (by omega) (by omega)
  rw [hs, Nat.min_eq_left (by omega)] at h
  rw [h]
  unfold st stb
  rw [Nat.zero_testBit]
  cases V.testBit i <;> decide +kernel
theorem bits_l1 (V : Nat) (hV : V < 2 ^ 31) (n : Int) : ∀ d i, i + d = 32 → Ev (fun k => maskref1_numberToken.l1 k n (V : Int) (vs i V 0) (i : Int)) (3, 0, 0, (⟨#[]⟩ : ByteArray), false, 32, (V : Int), 0, true, n, 0) := by
  intro d
  induction d with
  | zero =>
    intro i hd
    obtain rfl : i = 32 := by omega
    refine Ev.step (fun k => by rw [maskref1_numberToken.l1]) ?_
    refine Ev.neg (by decide) ?_
    have hb := B_num (w := 32) (by decide) (by decide) V
    rw [Nat.mod_eq_of_lt (by omega)] at hb
    exact Ev.bind hb (Ev.now _)
  | succ d ih =>
    intro i hd
    have hlen : (vs i V 0).length < 140737488355328 := by rw [vs_length]; exact Nat.lt_of_lt_of_le (show i < 32 by omega) (by decide)
    have HL := Aside0.mk hlen
    clear hlen
    refine Ev.step (fun k => by rw [maskref1_numberToken.l1]) ?_
    refine Ev.pos (by omega) (Ev.pos (by omega) (Ev.pos HL.out ?_))
    rw [bit32 V i hV (by omega), ← vs_succ, wrap_succ (n := 32) (by omega) (by decide)]
    exact ih (i + 1) (by omega)
theorem valN_succ (T : ByteArray) (a i : Nat) (h : a + i < T.size) : valN T a (i + 1) = min (10 * valN T a i + (((T[a + i]'h).toNat : Int) - 48)) 1099511627776 := by
  rw [valN, getElem!_pos T (a + i) h]
theorem val_w {v c : Int} (h0 : 0 ≤ v) (h1 : v ≤ 2147483647) (h2 : 48 ≤ c) (h3 : c ≤ 57) : wrap64 (wrap64 (10 * v) + (c - 48) % 256) = 10 * v + (c - 48) := by
  rw [w64' (x := 10 * v) (by omega) (by omega), w64' (by omega) (by omega)]; omega
theorem num_l0 (T : ByteArray) (a n : Nat) (hn : n ≤ 16000) (hz : (tail T a).size = T.size - a) (hd : ∀ j, j < n → ∃ h : a + j < T.size, 48 ≤ ((T[a + j]'h).toNat : Int) ∧ ((T[a + j]'h).toNat : Int) ≤ 57) (res : R11)
    (hend : valN T a n ≤ 2147483647 → Ev (fun k => maskref1_numberToken.j3 k (n : Int) (valN T a n) true) res) (hbig : ¬ valN T a n ≤ 2147483647 → res = err11 3) :
    ∀ d i, i + d = n → valN T a i ≤ 2147483647 → Ev (fun k => maskref1_numberToken.l0 k (tail T a) (n : Int) (valN T a i) true (n : Int) (i : Int)) res := by
  have hv0 : ∀ i, i ≤ n → 0 ≤ valN T a i ∧ valN T a i ≤ 1099511627776 := fun i hi => valN_le T a i (fun j hj => by obtain ⟨h, h1, h2⟩ := hd j (by omega); rw [getElem!_pos T _ h]; exact h1)
  have up : ∀ d i, i + d = n → 2147483647 < valN T a i → 2147483647 < valN T a n := by
    intro d
    induction d with
    | zero => intro i hi h; obtain rfl : i = n := by omega
              exact h
    | succ d ih =>
      intro i hi h
      obtain ⟨h1, h2, h3⟩ := hd i (by omega)
      refine ih (i + 1) (by omega) ?_
      rw [valN_succ T a i h1]
      have := hv0 i (by omega)
      omega
  intro d
  induction d with
  | zero =>
    intro i hi hv
    obtain rfl : i = n := by omega
    refine Ev.step (fun k => by rw [maskref1_numberToken.l0]) ?_
    exact Ev.neg (by omega) (hend hv)
  | succ d ih =>
    intro i hi hv
    obtain ⟨h1, h2, h3⟩ := hd i (by omega)
    have hb := bt_tail h1
    have hp := hv0 i (by omega)
    have hvs := valN_succ T a i h1
    obtain ⟨c, hc⟩ : ∃ c : Int, ((T[a + i]'h1).toNat : Int) = c := ⟨_, rfl⟩
    rw [hc] at hb h2 h3 hvs
    obtain ⟨v, hvv⟩ : ∃ v, v = valN T a i := ⟨_, rfl⟩
    rw [← hvv] at hv hp hvs ⊢
    have hw := Aside0.mk (val_w hp.1 hv h2 h3)
    have hbb := Aside0.mk hb
    clear hb
    refine Ev.step (fun k => by rw [maskref1_numberToken.l0]) ?_
    refine Ev.pos (by omega) (Ev.pos (by omega) (Ev.pos (by omega) ?_))
    rw [hbb.out, hw.out, wrap_succ (n := n) (by omega) (by omega)]
    by_cases hx : 10 * v + (c - 48) > 2147483647
    · refine Ev.pos hx ?_
      have hbg : 2147483647 < valN T a (i + 1) := by rw [hvs]; omega
      have := up d (i + 1) (by omega) hbg
      rw [hbig (by omega)]
      refine Ev.step (fun k => by rw [maskref1_numberToken.j3]) ?_
      exact Ev.neg (by decide) (Ev.now _)
    · refine Ev.neg hx ?_
      have e : 10 * v + (c - 48) = valN T a (i + 1) := by rw [hvs]; omega
      rw [e]
      exact ih (i + 1) (by omega) (by rw [← e]; omega)
theorem run_on (T : ByteArray) (a : Nat) : ∀ d k, k + d = runTo T figureP a → runTo T figureP a ≤ T.size → a ≤ k → runTo T wordP k = runTo T wordP (runTo T figureP a) := by
  intro d
  induction d with
  | zero => intro k hk h1 h2; rw [Nat.add_zero] at hk; rw [hk]
  | succ d ih =>
    intro k hk h1 h2
    have hlt : k < T.size := by omega
    have hp := runTo_all T figureP _ a (Nat.le_refl _) k hlt h2 (by omega)
    rw [runTo_eq, dif_pos hlt, if_pos (by unfold wordP; rw [hp, Bool.or_true])]
    exact ih (k + 1) (by omega) h1 (by omega)
variable (T : ByteArray) (hS : T.size ≤ 2000) (a : Nat) (ha : a < T.size) (t : S51) (h0 : t.f3 = ⟨#[]⟩) (h1 : t.f4 = false) (h2 : t.f5 = ⟨0, 0, 0⟩) (h3 : t.f6 = false)
include hS h0 h1 h2 h3
theorem enter_number (hl : letterP (T[a]'ha) = false) (hf : figureP (T[a]'ha) = true) {q : R11} (h : Ev (fun k => maskref1_numberToken.f k (tail T a)) q) : Ev (fun k => maskref1_token.f k (tail T a)) q := by
  have hz := tail_size T a
  have hb0 : bt (tail T a) 0 = ((T[a]'ha).toNat : Int) := bt_tail (i := 0) ha
  have hfg := of_decide_eq_true hf
  have hge1 : a + 1 ≤ runTo T wordP a := by
    rw [runTo_eq, dif_pos ha, if_pos (by unfold wordP; rw [hf, Bool.or_true])]; exact runTo_ge T wordP _ (a + 1) (Nat.le_refl _)
  unfold maskref1_token.f
  refine Ev.bind (runWord T (by omega) a (by omega)) (Ev.pos (by omega) ?_)
  rw [hb0]
  refine Ev.bnd (isLetter_is _) ?_
  rw [hl]
  refine Ev.neg (by decide) (Ev.neg (by omega) (Ev.neg (by omega) (Ev.pos (by omega) ?_)))
  exact Ev.bind h (Ev.now _)
theorem same_plain (hl : letterP (T[a]'ha) = false) (hf : figureP (T[a]'ha) = true) (hq : ∀ h : runTo T figureP a < T.size, T[runTo T figureP a]'h ≠ 39) : Same T a t := by
  have hz := tail_size T a
  have hb0 : bt (tail T a) 0 = ((T[a]'ha).toNat : Int) := bt_tail (i := 0) ha
  have hle := runTo_le T figureP _ a (Nat.le_refl _)
  have hge1 : a + 1 ≤ runTo T figureP a := by
    rw [runTo_eq, dif_pos ha, if_pos hf]; exact runTo_ge T figureP _ (a + 1) (Nat.le_refl _)
  have hdig : ∀ j, j < runTo T figureP a - a → ∃ h : a + j < T.size, 48 ≤ ((T[a + j]'h).toNat : Int) ∧ ((T[a + j]'h).toNat : Int) ≤ 57 := by
    intro j hj
    have h : a + j < T.size := by omega
    have hp := of_decide_eq_true (runTo_all T figureP _ a (Nat.le_refl _) (a + j) h (by omega) (by omega))
    exact ⟨h, by omega, by omega⟩
  have hrw := run_on T a (runTo T figureP a - a) a (by omega) (by omega) (Nat.le_refl _)
  have hgw := runTo_ge T wordP _ (runTo T figureP a) (Nat.le_refl _)
  have hrun := runFigure T (by omega) a (by omega)
  have hrunw := runWord T (by omega) a (by omega)
  rw [hrw] at hrunw
  have hnf : ∀ k, numF k T a t = some (numP T a (runTo T figureP a) t) := by
    intro k
    unfold numF
    split
    · rename_i hk; rw [if_neg (hq hk)]
    · rfl
  have hget : T[a]! = T[a]'ha := getElem!_pos T a ha
  obtain ⟨er, her⟩ : ∃ er, er = numE T a (runTo T figureP a) (runTo T wordP (runTo T figureP a)) := ⟨_, rfl⟩
  have hprog : Ev (fun k => tokF k T a t) (numP T a (runTo T figureP a) t) := by
    refine Ev.congr (fun k => ?_) (Ev.now _)
    unfold tokF
    rw [dif_pos ha, if_neg (by rw [hl]; decide), if_pos hf, hnf]
  unfold numP at hprog
  rw [← her] at hprog
  unfold numE at her
  rw [hget] at her
  obtain ⟨n, hn⟩ : ∃ n, n = runTo T figureP a - a := ⟨_, rfl⟩
  rw [← hn] at her hprog hrun hdig
  generalize hk2 : runTo T wordP (runTo T figureP a) = k2 at *
  have ok : ∀ {q : R11}, Ev (fun k => maskref1_numberToken.j0 k (tail T a) (n : Int) false) q → Ev (fun k => maskref1_numberToken.f k (tail T a)) q := by
    intro q h
    unfold maskref1_numberToken.f
    refine Ev.bind hrun ?_
    by_cases hlt : runTo T figureP a < T.size
    · refine Ev.pos (by omega) (Ev.pos (by omega) ?_)
      have hb : bt (tail T a) (n : Int) = ((T[runTo T figureP a]'hlt).toNat : Int) := by
        rw [bt_tail (T := T) (a := a) (i := n) (by omega)]; congr 2; congr 1; omega
      rw [hb, show (((T[runTo T figureP a]'hlt).toNat : Int) == 39) = false from beq_eq_false_iff_ne.2 (fun e => hq hlt (UInt8.toNat_inj.1 (by show _ = 39; omega)))]
      exact h
    · exact Ev.neg (by omega) h
  have j1t : Ev (fun k => maskref1_numberToken.j1 k (tail T a) (n : Int) true) (err11 10) := by
    refine Ev.step (fun k => by rw [maskref1_numberToken.j1]) ?_
    exact Ev.pos rfl (Ev.now _)
  have j1f : ∀ {q : R11}, Ev (fun k => maskref1_numberToken.l0 k (tail T a) (n : Int) 0 true (n : Int) 0) q → Ev (fun k => maskref1_numberToken.j1 k (tail T a) (n : Int) false) q := by
    intro q h
    refine Ev.step (fun k => by rw [maskref1_numberToken.j1]) ?_
    exact Ev.neg (by decide) h
  have fin : ∀ q : R11, Ev (fun k => maskref1_numberToken.j0 k (tail T a) (n : Int) false) q → q.2.2.2.2.2.2.2.2.2.2 = er → (er = 0 → q = (3, 0, 0, ⟨#[]⟩, false, (ofN (valN T a n)).1, (ofN (valN T a n)).2.1, (ofN (valN T a n)).2.2, true, (n : Int), 0)) → Same T a t := by
    intro q hqv he hz0
    refine ⟨_, q, hprog, enter_number T hS a ha t h0 h1 h2 h3 hl hf (ok hqv), he, ?_⟩
    intro h
    have h' : er = 0 := h
    rw [hz0 h', if_pos h', h0, h1]
    exact ⟨rfl, by show 1 ≤ n; omega, by show a + n ≤ _; omega, rfl⟩
  have head : ∀ {q : R11}, (n < k2 - a → q = err11 10) → (¬ n < k2 - a → 1 < n → ((T[a]'ha).toNat : Int) = 48 → q = err11 10) → (¬ n < k2 - a → ¬ (1 < n ∧ ((T[a]'ha).toNat : Int) = 48) → Ev (fun k => maskref1_numberToken.l0 k (tail T a) (n : Int) 0 true (n : Int) 0) q) → Ev (fun k => maskref1_numberToken.j0 k (tail T a) (n : Int) false) q := by
    intro q c1 c2 c3
    refine Ev.step (fun k => by rw [maskref1_numberToken.j0]) ?_
    refine Ev.neg (by decide) (Ev.bind hrunw ?_)
    by_cases d1 : n < k2 - a
    · rw [c1 d1]; exact Ev.pos (by omega) j1t
    · refine Ev.neg (by omega) ?_
      by_cases d2 : 1 < n
      · refine Ev.pos (by omega) (Ev.pos (by omega) ?_)
        rw [hb0]
        by_cases d3 : ((T[a]'ha).toNat : Int) = 48
        · rw [c2 d1 d2 d3, beq_iff_eq.2 d3]; exact j1t
        · rw [beq_eq_false_iff_ne.2 d3]; exact j1f (c3 d1 (fun x => d3 x.2))
      · exact Ev.neg (by omega) (j1f (c3 d1 (fun x => d2 x.1)))
  by_cases d1 : n < k2 - a
  · rw [if_pos d1] at her
    exact fin (err11 10) (head (fun _ => rfl) (fun x => absurd d1 x) (fun x => absurd d1 x)) (by rw [her]; rfl) (fun h => by rw [her] at h; exact absurd h (by decide))
  · rw [if_neg d1] at her
    by_cases d2 : 1 < n ∧ ((T[a]'ha).toNat : Int) = 48
    · rw [if_pos d2] at her
      exact fin (err11 10) (head (fun _ => rfl) (fun _ _ _ => rfl) (fun _ x => absurd d2 x)) (by rw [her]; rfl) (fun h => by rw [her] at h; exact absurd h (by decide))
    · rw [if_neg d2] at her
      have hv := valN_le T a n (fun j hj => by obtain ⟨h, q1, q2⟩ := hdig j hj; rw [getElem!_pos T _ h]; exact q1)
      by_cases d3 : valN T a n ≤ 2147483647
      · rw [if_neg (by omega)] at her
        obtain ⟨V, hV⟩ := Int.eq_ofNat_of_zero_le hv.1
        have hV2 : V < 2 ^ 31 := by omega
        have hof : ofN (valN T a n) = (32, (V : Int), 0) := by
          unfold ofN
          rw [hV]
          have := Of_is (w := 32) (by decide) (by decide) (u := V) (by omega)
          rw [Nat.mod_eq_of_lt (by omega)] at this
          exact (congrArg (fun x => Option.getD x (0, 0, 0)) this)
        have hj3 : Ev (fun k => maskref1_numberToken.j3 k (n : Int) (valN T a n) true) (3, 0, 0, (⟨#[]⟩ : ByteArray), false, 32, (V : Int), 0, true, (n : Int), 0) := by
          refine Ev.step (fun k => by rw [maskref1_numberToken.j3]) ?_
          refine Ev.pos rfl ?_
          rw [hV]
          exact bits_l1 V hV2 (n : Int) 32 0 (by decide)
        refine fin (3, 0, 0, ⟨#[]⟩, false, 32, (V : Int), 0, true, (n : Int), 0) (head (fun x => absurd x d1) (fun _ x y => absurd ⟨x, y⟩ d2) (fun _ _ => ?_)) her.symm (fun _ => by rw [hof])
        exact num_l0 T a n (by omega) hz hdig _ (fun _ => hj3) (fun x => absurd d3 x) n 0 (by omega) (by unfold valN; decide)
      · rw [if_pos (by omega)] at her
        refine fin (err11 3) (head (fun x => absurd x d1) (fun _ x y => absurd ⟨x, y⟩ d2) (fun _ _ => ?_)) (by rw [her]; rfl) (fun h => by rw [her] at h; exact absurd h (by decide))
        exact num_l0 T a n (by omega) hz hdig _ (fun x => absurd x d3) (fun _ => rfl) n 0 (by omega) (by unfold valN; decide)
end Go.Proofs.Ytlamgdibnnmbmaa.PLex
end
