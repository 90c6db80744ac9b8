/- Part 34 of the proof of BitsShiftedCardSaid: The law BitsShifted: for all arguments it returns true; each argument reads behind the call as it read before. Out of the plain theorem of YtfigblfjogpojaaDoorPureBitsShifted and the printed contract. -/
import Derived.Test.YtfigblfjogpojaaDoorQBitsShifted15
import Derived.Test.YtfigblfjogpojaaDoorQBitsShifted14
import Derived.Test.YtfigblfjogpojaaDoorQBitsShifted28
import Derived.Test.YtfigblfjogpojaaDoorQBitsShifted31
import Derived.Test.YtfigblfjogpojaaDoorQBitsShifted16
import Derived.Test.YtfigblfjogpojaaDoorQBitsShifted18
import Derived.Test.YtfigblfjogpojaaDoorQBitsShifted21
import Derived.Test.YtfigblfjogpojaaDoorQBitsShifted26
section
namespace Go.Proofs.YtfigblfjogpojaaDoor.PShift
open Go.Proofs.YtfigblfjogpojaaDoor.PBits
open Go.RowKit Go.Proofs.YtfigblfjogpojaaDoorW.PrintWords Go.Proofs.YtfigblfjogpojaaDoorW.PrintLast Go.Proofs.YtfigblfjogpojaaDoorW.PrintMore
attribute [local go_sem] max2_int min2_int max_two min_two max_three min_three max_four min_four
set_option linter.unusedVariables false
set_option linter.unusedSimpArgs false
def bits_And.f (k : Nat) (a0_0 : Int) (a0_1 : Int) (a0_2 : Int) (a1_0 : Int) (a1_1 : Int) (a1_2 : Int) : Option (Int × Int × Int) := none
theorem bits_And.calls (k : Nat) (a0_0 : Int) (a0_1 : Int) (a0_2 : Int) (a1_0 : Int) (a1_1 : Int) (a1_2 : Int) (r1 : Int) (r2 : Int) (r3 : Int) (w : World) (h : bits_And.f k a0_0 a0_1 a0_2 a1_0 a1_1 a1_2 = some (r1, r2, r3)) :
  Calls Tryd.prog 90 #[.agg #[.int .i64 a0_0, .int .u64 a0_1, .int .u64 a0_2], .agg #[.int .i64 a1_0, .int .u64 a1_1, .int .u64 a1_2]] w fun e w' => e = .returned (.agg #[.int .i64 r1, .int .u64 r2, .int .u64 r3]) ∧ Below w.heap.size w w' := by cases h
def bits_Or.f (k : Nat) (a0_0 : Int) (a0_1 : Int) (a0_2 : Int) (a1_0 : Int) (a1_1 : Int) (a1_2 : Int) : Option (Int × Int × Int) := none
theorem bits_Or.calls (k : Nat) (a0_0 : Int) (a0_1 : Int) (a0_2 : Int) (a1_0 : Int) (a1_1 : Int) (a1_2 : Int) (r1 : Int) (r2 : Int) (r3 : Int) (w : World) (h : bits_Or.f k a0_0 a0_1 a0_2 a1_0 a1_1 a1_2 = some (r1, r2, r3)) :
  Calls Tryd.prog 91 #[.agg #[.int .i64 a0_0, .int .u64 a0_1, .int .u64 a0_2], .agg #[.int .i64 a1_0, .int .u64 a1_1, .int .u64 a1_2]] w fun e w' => e = .returned (.agg #[.int .i64 r1, .int .u64 r2, .int .u64 r3]) ∧ Below w.heap.size w w' := by cases h
def bits_Xor.f (k : Nat) (a0_0 : Int) (a0_1 : Int) (a0_2 : Int) (a1_0 : Int) (a1_1 : Int) (a1_2 : Int) : Option (Int × Int × Int) := none
theorem bits_Xor.calls (k : Nat) (a0_0 : Int) (a0_1 : Int) (a0_2 : Int) (a1_0 : Int) (a1_1 : Int) (a1_2 : Int) (r1 : Int) (r2 : Int) (r3 : Int) (w : World) (h : bits_Xor.f k a0_0 a0_1 a0_2 a1_0 a1_1 a1_2 = some (r1, r2, r3)) :
  Calls Tryd.prog 92 #[.agg #[.int .i64 a0_0, .int .u64 a0_1, .int .u64 a0_2], .agg #[.int .i64 a1_0, .int .u64 a1_1, .int .u64 a1_2]] w fun e w' => e = .returned (.agg #[.int .i64 r1, .int .u64 r2, .int .u64 r3]) ∧ Below w.heap.size w w' := by cases h
def bits_LAnd.f (k : Nat) (a0_0 : Int) (a0_1 : Int) (a0_2 : Int) (a1_0 : Int) (a1_1 : Int) (a1_2 : Int) : Option (Int × Int × Int) := none
theorem bits_LAnd.calls (k : Nat) (a0_0 : Int) (a0_1 : Int) (a0_2 : Int) (a1_0 : Int) (a1_1 : Int) (a1_2 : Int) (r1 : Int) (r2 : Int) (r3 : Int) (w : World) (h : bits_LAnd.f k a0_0 a0_1 a0_2 a1_0 a1_1 a1_2 = some (r1, r2, r3)) :
  Calls Tryd.prog 93 #[.agg #[.int .i64 a0_0, .int .u64 a0_1, .int .u64 a0_2], .agg #[.int .i64 a1_0, .int .u64 a1_1, .int .u64 a1_2]] w fun e w' => e = .returned (.agg #[.int .i64 r1, .int .u64 r2, .int .u64 r3]) ∧ Below w.heap.size w w' := by cases h
def bits_LOr.f (k : Nat) (a0_0 : Int) (a0_1 : Int) (a0_2 : Int) (a1_0 : Int) (a1_1 : Int) (a1_2 : Int) : Option (Int × Int × Int) := none
theorem bits_LOr.calls (k : Nat) (a0_0 : Int) (a0_1 : Int) (a0_2 : Int) (a1_0 : Int) (a1_1 : Int) (a1_2 : Int) (r1 : Int) (r2 : Int) (r3 : Int) (w : World) (h : bits_LOr.f k a0_0 a0_1 a0_2 a1_0 a1_1 a1_2 = some (r1, r2, r3)) :
  Calls Tryd.prog 94 #[.agg #[.int .i64 a0_0, .int .u64 a0_1, .int .u64 a0_2], .agg #[.int .i64 a1_0, .int .u64 a1_1, .int .u64 a1_2]] w fun e w' => e = .returned (.agg #[.int .i64 r1, .int .u64 r2, .int .u64 r3]) ∧ Below w.heap.size w w' := by cases h
def bits_Eq.f (k : Nat) (a0_0 : Int) (a0_1 : Int) (a0_2 : Int) (a1_0 : Int) (a1_1 : Int) (a1_2 : Int) : Option (Int × Int × Int) := none
theorem bits_Eq.calls (k : Nat) (a0_0 : Int) (a0_1 : Int) (a0_2 : Int) (a1_0 : Int) (a1_1 : Int) (a1_2 : Int) (r1 : Int) (r2 : Int) (r3 : Int) (w : World) (h : bits_Eq.f k a0_0 a0_1 a0_2 a1_0 a1_1 a1_2 = some (r1, r2, r3)) :
  Calls Tryd.prog 98 #[.agg #[.int .i64 a0_0, .int .u64 a0_1, .int .u64 a0_2], .agg #[.int .i64 a1_0, .int .u64 a1_1, .int .u64 a1_2]] w fun e w' => e = .returned (.agg #[.int .i64 r1, .int .u64 r2, .int .u64 r3]) ∧ Below w.heap.size w w' := by cases h
def bits_Ne.f (k : Nat) (a0_0 : Int) (a0_1 : Int) (a0_2 : Int) (a1_0 : Int) (a1_1 : Int) (a1_2 : Int) : Option (Int × Int × Int) := none
theorem bits_Ne.calls (k : Nat) (a0_0 : Int) (a0_1 : Int) (a0_2 : Int) (a1_0 : Int) (a1_1 : Int) (a1_2 : Int) (r1 : Int) (r2 : Int) (r3 : Int) (w : World) (h : bits_Ne.f k a0_0 a0_1 a0_2 a1_0 a1_1 a1_2 = some (r1, r2, r3)) :
  Calls Tryd.prog 99 #[.agg #[.int .i64 a0_0, .int .u64 a0_1, .int .u64 a0_2], .agg #[.int .i64 a1_0, .int .u64 a1_1, .int .u64 a1_2]] w fun e w' => e = .returned (.agg #[.int .i64 r1, .int .u64 r2, .int .u64 r3]) ∧ Below w.heap.size w w' := by cases h
def bits_CaseEq.f (k : Nat) (a0_0 : Int) (a0_1 : Int) (a0_2 : Int) (a1_0 : Int) (a1_1 : Int) (a1_2 : Int) : Option (Int × Int × Int) := none
theorem bits_CaseEq.calls (k : Nat) (a0_0 : Int) (a0_1 : Int) (a0_2 : Int) (a1_0 : Int) (a1_1 : Int) (a1_2 : Int) (r1 : Int) (r2 : Int) (r3 : Int) (w : World) (h : bits_CaseEq.f k a0_0 a0_1 a0_2 a1_0 a1_1 a1_2 = some (r1, r2, r3)) :
  Calls Tryd.prog 100 #[.agg #[.int .i64 a0_0, .int .u64 a0_1, .int .u64 a0_2], .agg #[.int .i64 a1_0, .int .u64 a1_1, .int .u64 a1_2]] w fun e w' => e = .returned (.agg #[.int .i64 r1, .int .u64 r2, .int .u64 r3]) ∧ Below w.heap.size w w' := by cases h
def bits_CaseNe.f (k : Nat) (a0_0 : Int) (a0_1 : Int) (a0_2 : Int) (a1_0 : Int) (a1_1 : Int) (a1_2 : Int) : Option (Int × Int × Int) := none
theorem bits_CaseNe.calls (k : Nat) (a0_0 : Int) (a0_1 : Int) (a0_2 : Int) (a1_0 : Int) (a1_1 : Int) (a1_2 : Int) (r1 : Int) (r2 : Int) (r3 : Int) (w : World) (h : bits_CaseNe.f k a0_0 a0_1 a0_2 a1_0 a1_1 a1_2 = some (r1, r2, r3)) :
  Calls Tryd.prog 101 #[.agg #[.int .i64 a0_0, .int .u64 a0_1, .int .u64 a0_2], .agg #[.int .i64 a1_0, .int .u64 a1_1, .int .u64 a1_2]] w fun e w' => e = .returned (.agg #[.int .i64 r1, .int .u64 r2, .int .u64 r3]) ∧ Below w.heap.size w w' := by cases h
def bits_Lt.f (k : Nat) (a0_0 : Int) (a0_1 : Int) (a0_2 : Int) (a1_0 : Int) (a1_1 : Int) (a1_2 : Int) (a2 : Bool) : Option (Int × Int × Int) := none
theorem bits_Lt.calls (k : Nat) (a0_0 : Int) (a0_1 : Int) (a0_2 : Int) (a1_0 : Int) (a1_1 : Int) (a1_2 : Int) (a2 : Bool) (r1 : Int) (r2 : Int) (r3 : Int) (w : World) (h : bits_Lt.f k a0_0 a0_1 a0_2 a1_0 a1_1 a1_2 a2 = some (r1, r2, r3)) :
  Calls Tryd.prog 102 #[.agg #[.int .i64 a0_0, .int .u64 a0_1, .int .u64 a0_2], .agg #[.int .i64 a1_0, .int .u64 a1_1, .int .u64 a1_2], .bool a2] w fun e w' => e = .returned (.agg #[.int .i64 r1, .int .u64 r2, .int .u64 r3]) ∧ Below w.heap.size w w' := by cases h
def bits_Le.f (k : Nat) (a0_0 : Int) (a0_1 : Int) (a0_2 : Int) (a1_0 : Int) (a1_1 : Int) (a1_2 : Int) (a2 : Bool) : Option (Int × Int × Int) := none
theorem bits_Le.calls (k : Nat) (a0_0 : Int) (a0_1 : Int) (a0_2 : Int) (a1_0 : Int) (a1_1 : Int) (a1_2 : Int) (a2 : Bool) (r1 : Int) (r2 : Int) (r3 : Int) (w : World) (h : bits_Le.f k a0_0 a0_1 a0_2 a1_0 a1_1 a1_2 a2 = some (r1, r2, r3)) :
  Calls Tryd.prog 103 #[.agg #[.int .i64 a0_0, .int .u64 a0_1, .int .u64 a0_2], .agg #[.int .i64 a1_0, .int .u64 a1_1, .int .u64 a1_2], .bool a2] w fun e w' => e = .returned (.agg #[.int .i64 r1, .int .u64 r2, .int .u64 r3]) ∧ Below w.heap.size w w' := by cases h
def bits_Add.f (k : Nat) (a0_0 : Int) (a0_1 : Int) (a0_2 : Int) (a1_0 : Int) (a1_1 : Int) (a1_2 : Int) : Option (Int × Int × Int) := none
theorem bits_Add.mono : ∀ a0 a1 a2 a3 a4 a5 k, LeO (bits_Add.f k a0 a1 a2 a3 a4 a5) (bits_Add.f (k + 1) a0 a1 a2 a3 a4 a5) := by intros; unfold bits_Add.f; exact LeO.refl _
theorem bits_Add.calls (k : Nat) (a0_0 : Int) (a0_1 : Int) (a0_2 : Int) (a1_0 : Int) (a1_1 : Int) (a1_2 : Int) (r1 : Int) (r2 : Int) (r3 : Int) (w : World) (h : bits_Add.f k a0_0 a0_1 a0_2 a1_0 a1_1 a1_2 = some (r1, r2, r3)) :
  Calls Tryd.prog 49 #[.agg #[.int .i64 a0_0, .int .u64 a0_1, .int .u64 a0_2], .agg #[.int .i64 a1_0, .int .u64 a1_1, .int .u64 a1_2]] w fun e w' => e = .returned (.agg #[.int .i64 r1, .int .u64 r2, .int .u64 r3]) ∧ Below w.heap.size w w' := by cases h
def bits_Sub.f (k : Nat) (a0_0 : Int) (a0_1 : Int) (a0_2 : Int) (a1_0 : Int) (a1_1 : Int) (a1_2 : Int) : Option (Int × Int × Int) := none
theorem bits_Sub.calls (k : Nat) (a0_0 : Int) (a0_1 : Int) (a0_2 : Int) (a1_0 : Int) (a1_1 : Int) (a1_2 : Int) (r1 : Int) (r2 : Int) (r3 : Int) (w : World) (h : bits_Sub.f k a0_0 a0_1 a0_2 a1_0 a1_1 a1_2 = some (r1, r2, r3)) :
  Calls Tryd.prog 104 #[.agg #[.int .i64 a0_0, .int .u64 a0_1, .int .u64 a0_2], .agg #[.int .i64 a1_0, .int .u64 a1_1, .int .u64 a1_2]] w fun e w' => e = .returned (.agg #[.int .i64 r1, .int .u64 r2, .int .u64 r3]) ∧ Below w.heap.size w w' := by cases h
def bits_Mul.f (k : Nat) (a0_0 : Int) (a0_1 : Int) (a0_2 : Int) (a1_0 : Int) (a1_1 : Int) (a1_2 : Int) : Option (Int × Int × Int) := none
theorem bits_Mul.calls (k : Nat) (a0_0 : Int) (a0_1 : Int) (a0_2 : Int) (a1_0 : Int) (a1_1 : Int) (a1_2 : Int) (r1 : Int) (r2 : Int) (r3 : Int) (w : World) (h : bits_Mul.f k a0_0 a0_1 a0_2 a1_0 a1_1 a1_2 = some (r1, r2, r3)) :
  Calls Tryd.prog 105 #[.agg #[.int .i64 a0_0, .int .u64 a0_1, .int .u64 a0_2], .agg #[.int .i64 a1_0, .int .u64 a1_1, .int .u64 a1_2]] w fun e w' => e = .returned (.agg #[.int .i64 r1, .int .u64 r2, .int .u64 r3]) ∧ Below w.heap.size w w' := by cases h
def bits_Div.f (k : Nat) (a0_0 : Int) (a0_1 : Int) (a0_2 : Int) (a1_0 : Int) (a1_1 : Int) (a1_2 : Int) (a2 : Bool) : Option (Int × Int × Int) := none
theorem bits_Div.calls (k : Nat) (a0_0 : Int) (a0_1 : Int) (a0_2 : Int) (a1_0 : Int) (a1_1 : Int) (a1_2 : Int) (a2 : Bool) (r1 : Int) (r2 : Int) (r3 : Int) (w : World) (h : bits_Div.f k a0_0 a0_1 a0_2 a1_0 a1_1 a1_2 a2 = some (r1, r2, r3)) :
  Calls Tryd.prog 106 #[.agg #[.int .i64 a0_0, .int .u64 a0_1, .int .u64 a0_2], .agg #[.int .i64 a1_0, .int .u64 a1_1, .int .u64 a1_2], .bool a2] w fun e w' => e = .returned (.agg #[.int .i64 r1, .int .u64 r2, .int .u64 r3]) ∧ Below w.heap.size w w' := by cases h
def bits_Mod.f (k : Nat) (a0_0 : Int) (a0_1 : Int) (a0_2 : Int) (a1_0 : Int) (a1_1 : Int) (a1_2 : Int) (a2 : Bool) : Option (Int × Int × Int) := none
theorem bits_Mod.calls (k : Nat) (a0_0 : Int) (a0_1 : Int) (a0_2 : Int) (a1_0 : Int) (a1_1 : Int) (a1_2 : Int) (a2 : Bool) (r1 : Int) (r2 : Int) (r3 : Int) (w : World) (h : bits_Mod.f k a0_0 a0_1 a0_2 a1_0 a1_1 a1_2 a2 = some (r1, r2, r3)) :
  Calls Tryd.prog 107 #[.agg #[.int .i64 a0_0, .int .u64 a0_1, .int .u64 a0_2], .agg #[.int .i64 a1_0, .int .u64 a1_1, .int .u64 a1_2], .bool a2] w fun e w' => e = .returned (.agg #[.int .i64 r1, .int .u64 r2, .int .u64 r3]) ∧ Below w.heap.size w w' := by cases h
def maskref1_each__AndOf.f (k : Nat) (l0 : List Int) (l1 : List Int)  : Option (List Int) := none
theorem maskref1_each__AndOf.calls (k : Nat) (A0 : Option Addr) (c0 : Nat) (l0 : List Int) (A1 : Option Addr) (c1 : Nat) (l1 : List Int)  (r : List Int) (w : World) (hr0 : Kd.C (Kd.int .u8) w A0 l0.length l0) (hc0 : l0.length ≤ c0) (hr1 : Kd.C (Kd.int .u8) w A1 l1.length l1) (hc1 : l1.length ≤ c1) (h : maskref1_each__AndOf.f k l0 l1 = some r) :
  Calls Tryd.prog 63 #[.slice A0 l0.length c0, .slice A1 l1.length c1, .func (.func 78) #[] #[]] w fun e w' => ∃ v0_ : Value, e = .returned (v0_) ∧ Kd.R (Kd.int .u8) 5 w' w.heap.size (fun _ => True) v0_ r ∧ Below w.heap.size w w' := by cases h
def maskref1_each__OrOf.f (k : Nat) (l0 : List Int) (l1 : List Int)  : Option (List Int) := none
theorem maskref1_each__OrOf.calls (k : Nat) (A0 : Option Addr) (c0 : Nat) (l0 : List Int) (A1 : Option Addr) (c1 : Nat) (l1 : List Int)  (r : List Int) (w : World) (hr0 : Kd.C (Kd.int .u8) w A0 l0.length l0) (hc0 : l0.length ≤ c0) (hr1 : Kd.C (Kd.int .u8) w A1 l1.length l1) (hc1 : l1.length ≤ c1) (h : maskref1_each__OrOf.f k l0 l1 = some r) :
  Calls Tryd.prog 63 #[.slice A0 l0.length c0, .slice A1 l1.length c1, .func (.func 79) #[] #[]] w fun e w' => ∃ v0_ : Value, e = .returned (v0_) ∧ Kd.R (Kd.int .u8) 5 w' w.heap.size (fun _ => True) v0_ r ∧ Below w.heap.size w w' := by cases h
def maskref1_each__XorOf.f (k : Nat) (l0 : List Int) (l1 : List Int)  : Option (List Int) := none
theorem maskref1_each__XorOf.calls (k : Nat) (A0 : Option Addr) (c0 : Nat) (l0 : List Int) (A1 : Option Addr) (c1 : Nat) (l1 : List Int)  (r : List Int) (w : World) (hr0 : Kd.C (Kd.int .u8) w A0 l0.length l0) (hc0 : l0.length ≤ c0) (hr1 : Kd.C (Kd.int .u8) w A1 l1.length l1) (hc1 : l1.length ≤ c1) (h : maskref1_each__XorOf.f k l0 l1 = some r) :
  Calls Tryd.prog 63 #[.slice A0 l0.length c0, .slice A1 l1.length c1, .func (.func 80) #[] #[]] w fun e w' => ∃ v0_ : Value, e = .returned (v0_) ∧ Kd.R (Kd.int .u8) 5 w' w.heap.size (fun _ => True) v0_ r ∧ Below w.heap.size w w' := by cases h
def maskref1_One.f (a0 : Int) : Option (List Int) := none
theorem maskref1_One.calls (a0 : Int) (r : List Int) (w : World) (h : maskref1_One.f a0 = some r) :
  Calls Tryd.prog 82 #[.int .u8 a0] w fun e w' => ∃ v0_ : Value, e = .returned (v0_) ∧ Kd.R (Kd.int .u8) 5 w' w.heap.size (fun _ => True) v0_ r ∧ Below w.heap.size w w' := by cases h
def maskref1_fold__AndOf.f (k : Nat) (l0 : List Int)  : Option (List Int) := none
theorem maskref1_fold__AndOf.calls (k : Nat) (A0 : Option Addr) (c0 : Nat) (l0 : List Int)  (r : List Int) (w : World) (hr0 : Kd.C (Kd.int .u8) w A0 l0.length l0) (hc0 : l0.length ≤ c0) (h : maskref1_fold__AndOf.f k l0 = some r) :
  Calls Tryd.prog 81 #[.slice A0 l0.length c0, .func (.func 78) #[] #[]] w fun e w' => ∃ v0_ : Value, e = .returned (v0_) ∧ Kd.R (Kd.int .u8) 5 w' w.heap.size (fun _ => True) v0_ r ∧ Below w.heap.size w w' := by cases h
def maskref1_fold__OrOf.f (k : Nat) (l0 : List Int)  : Option (List Int) := none
theorem maskref1_fold__OrOf.calls (k : Nat) (A0 : Option Addr) (c0 : Nat) (l0 : List Int)  (r : List Int) (w : World) (hr0 : Kd.C (Kd.int .u8) w A0 l0.length l0) (hc0 : l0.length ≤ c0) (h : maskref1_fold__OrOf.f k l0 = some r) :
  Calls Tryd.prog 81 #[.slice A0 l0.length c0, .func (.func 79) #[] #[]] w fun e w' => ∃ v0_ : Value, e = .returned (v0_) ∧ Kd.R (Kd.int .u8) 5 w' w.heap.size (fun _ => True) v0_ r ∧ Below w.heap.size w w' := by cases h
def maskref1_Compared.f (k : Nat) (l0 : List Int) (l1 : List Int) : Option (Int) := none
theorem maskref1_Compared.calls (k : Nat) (A0 : Option Addr) (c0 : Nat) (l0 : List Int) (A1 : Option Addr) (c1 : Nat) (l1 : List Int) (r : Int) (w : World) (hr0 : Kd.C (Kd.int .u8) w A0 l0.length l0) (hc0 : l0.length ≤ c0) (hr1 : Kd.C (Kd.int .u8) w A1 l1.length l1) (hc1 : l1.length ≤ c1) (h : maskref1_Compared.f k l0 l1 = some r) :
  Calls Tryd.prog 84 #[.slice A0 l0.length c0, .slice A1 l1.length c1] w fun e w' => e = .returned (.int .u8 r) ∧ Drawn0 w w' := by cases h
def maskref1_Opposite.f (a0 : Int) : Option (Int) := none
theorem maskref1_Opposite.calls (a0 : Int) (r : Int) (w : World) (h : maskref1_Opposite.f a0 = some r) :
  Calls Tryd.prog 85 #[.int .u8 a0] w fun e w' => e = .returned (.int .u8 r) ∧ Drawn0 w w' := by cases h
def maskref1_same.f (l0 : List Int) (l1 : List Int) : Option (Bool) := none
theorem maskref1_same.calls (A0 : Option Addr) (c0 : Nat) (l0 : List Int) (A1 : Option Addr) (c1 : Nat) (l1 : List Int) (r : Bool) (w : World) (hr0 : Kd.C (Kd.int .u8) w A0 l0.length l0) (hc0 : l0.length ≤ c0) (hr1 : Kd.C (Kd.int .u8) w A1 l1.length l1) (hc1 : l1.length ≤ c1) (h : maskref1_same.f l0 l1 = some r) :
  Calls Tryd.prog 87 #[.slice A0 l0.length c0, .slice A1 l1.length c1] w fun e w' => e = .returned (.bool r) ∧ Drawn0 w w' := by cases h
def maskref1_truthOf.f (a0 : Bool) : Option (Int) := none
theorem maskref1_truthOf.calls (a0 : Bool) (r : Int) (w : World) (h : maskref1_truthOf.f a0 = some r) :
  Calls Tryd.prog 86 #[.bool a0] w fun e w' => e = .returned (.int .u8 r) ∧ Drawn0 w w' := by cases h
def maskref1_below.f (k : Nat) (l0 : List Int) (l1 : List Int) (a2 : Bool) : Option (Bool) := none
theorem maskref1_below.calls (k : Nat) (A0 : Option Addr) (c0 : Nat) (l0 : List Int) (A1 : Option Addr) (c1 : Nat) (l1 : List Int) (a2 : Bool) (r : Bool) (w : World) (hr0 : Kd.C (Kd.int .u8) w A0 l0.length l0) (hc0 : l0.length ≤ c0) (hr1 : Kd.C (Kd.int .u8) w A1 l1.length l1) (hc1 : l1.length ≤ c1) (h : maskref1_below.f k l0 l1 a2 = some r) :
  Calls Tryd.prog 88 #[.slice A0 l0.length c0, .slice A1 l1.length c1, .bool a2] w fun e w' => e = .returned (.bool r) ∧ Drawn0 w w' := by cases h
def maskref1_Number.f (k : Nat) (a0 : Int) (l1 : List Int) (l2 : List Int) (a3 : Bool) : Option (List Int) := none
theorem maskref1_Number.calls (k : Nat) (a0 : Int) (P1_ : Nat → Prop) (u9000_ : Value) (l1 : List Int) (P2_ : Nat → Prop) (u9001_ : Value) (l2 : List Int) (a3 : Bool) (r : List Int) (w0 w : World) (hB : Below w0.heap.size w0 w) (ho1 : Kd.R (Kd.int .u8) 5 w w0.heap.size P1_ u9000_ l1) (hp1_2 : ∀ k_, P1_ k_ → ¬ P2_ k_) (ho2 : Kd.R (Kd.int .u8) 5 w w0.heap.size P2_ u9001_ l2) (hp2_1 : ∀ k_, P2_ k_ → ¬ P1_ k_) (h : maskref1_Number.f k a0 l1 l2 a3 = some r) :
  Calls Tryd.prog 89 #[.int .i64 a0, u9000_, u9001_, .bool a3] w fun e w' => ∃ v0_ : Value, e = .returned (v0_) ∧ Kd.R (Kd.int .u8) 5 w' w0.heap.size (fun k_ => ((P1_ k_ ∨ P2_ k_) ∨ w.heap.size ≤ k_)) v0_ r ∧ Below w0.heap.size w0 w' ∧ Kept w w' (fun k_ => P1_ k_ ∨ P2_ k_) := by cases h
end Go.Proofs.YtfigblfjogpojaaDoor.PShift
end
section
namespace Go.Proofs.YtfigblfjogpojaaDoor.PShift
open Go.Proofs.YtfigblfjogpojaaDoor.PBits
open Go.RowKit Go.Proofs.YtfigblfjogpojaaDoorW.PrintWords Go.Proofs.YtfigblfjogpojaaDoorW.PrintLast Go.Proofs.YtfigblfjogpojaaDoorW.PrintMore
attribute [local go_sem] max2_int min2_int max_two min_two max_three min_three max_four min_four
set_option linter.unusedVariables false
set_option linter.unusedSimpArgs false
mutual
def maskref1_Binary.j0 : Nat → Int → List Int → List Int → Bool → Bool → Option (List Int)
 | 0, _, _, _, _, _ => none
 | k + 1, x0, x1, x2, x3, x94 => if x94 = true then ((maskref1_Known.f k x1).bind fun t984 => (if t984 = true then ((maskref1_Known.f k x2).bind fun t985 => (maskref1_Binary.j1 k x0 x1 x2 x3 (!t985))) else (maskref1_Binary.j1 k x0 x1 x2 x3 true))) else ((maskref1_Number.f k x0 x1 x2 x3).bind fun t1003 => (some t1003))
def maskref1_Binary.j1 : Nat → Int → List Int → List Int → Bool → Bool → Option (List Int)
 | 0, _, _, _, _, _ => none
 | k + 1, x0, x1, x2, x3, x104 => if x104 = true then ((maskref1_One.f 117).bind fun t986 => (some t986)) else ((maskref1_below.f k x1 x2 x3).bind fun t989 => (if t989 = true then ((maskref1_truthOf.f true).bind fun t990 => ((maskref1_One.f t990).bind fun t991 => (some t991))) else (if x0 = 29 then ((maskref1_same.f x1 x2).bind fun t994 => ((maskref1_truthOf.f t994).bind fun t995 => ((maskref1_One.f t995).bind fun t996 => (some t996)))) else ((maskref1_truthOf.f false).bind fun t999 => ((maskref1_One.f t999).bind fun t1000 => (some t1000))))))
end
def maskref1_Binary.f (k : Nat) (a0 : Int) (l1 : List Int) (l2 : List Int) (a3 : Bool) : Option (List Int) := if a0 = 13 then ((maskref1_each__AndOf.f k l1 l2).bind fun t918 => (some t918)) else (if a0 = 14 then ((maskref1_each__OrOf.f k l1 l2).bind fun t921 => (some t921)) else (if a0 = 15 then ((maskref1_each__XorOf.f k l1 l2).bind fun t924 => (some t924)) else (if a0 = 11 then ((maskref1_Truth.f k l1).bind fun t927 => ((maskref1_One.f t927).bind fun t928 => ((maskref1_Truth.f k l2).bind fun t931 => ((maskref1_One.f t931).bind fun t932 => (if t928.length + t932.length < 140737488355328 then ((maskref1_fold__AndOf.f k (t928 ++ t932)).bind fun t938 => (some t938)) else (none)))))) else (if a0 = 12 then ((maskref1_Truth.f k l1).bind fun t941 => ((maskref1_One.f t941).bind fun t942 => ((maskref1_Truth.f k l2).bind fun t945 => ((maskref1_One.f t945).bind fun t946 => (if t942.length + t946.length < 140737488355328 then ((maskref1_fold__OrOf.f k (t942 ++ t946)).bind fun t952 => (some t952)) else (none)))))) else (if a0 = 21 then ((maskref1_moved.f k l1 l2 true 48).bind fun t955 => (some t955)) else (if a0 = 22 then ((maskref1_moved.f k l1 l2 false 48).bind fun t958 => (some t958)) else (if a0 = 23 then (if 0 ≤ (wrap64 ((l1.length : Int) - 1)) then (if (wrap64 ((l1.length : Int) - 1)) < (l1.length : Int) then ((maskref1_moved.f k l1 l2 false (rd l1 (wrap64 ((l1.length : Int) - 1)))).bind fun t962 => (some t962)) else (none)) else (none)) else (if a0 = 24 then ((maskref1_Compared.f k l1 l2).bind fun t965 => ((maskref1_One.f t965).bind fun t966 => (some t966))) else (if a0 = 25 then ((maskref1_Compared.f k l1 l2).bind fun t969 => ((maskref1_Opposite.f t969).bind fun t970 => ((maskref1_One.f t970).bind fun t971 => (some t971)))) else (if a0 = 26 then ((maskref1_same.f l1 l2).bind fun t974 => ((maskref1_truthOf.f t974).bind fun t975 => ((maskref1_One.f t975).bind fun t976 => (some t976)))) else (if a0 = 27 then ((maskref1_same.f l1 l2).bind fun t979 => ((maskref1_truthOf.f (!t979)).bind fun t980 => ((maskref1_One.f t980).bind fun t981 => (some t981)))) else (if a0 = 28 then (maskref1_Binary.j0 k a0 l1 l2 a3 (a0 == 28)) else (maskref1_Binary.j0 k a0 l1 l2 a3 (a0 == 29))))))))))))))
set_option maxHeartbeats 8000000 in
set_option maxRecDepth 100000 in
theorem maskref1_Binary.calls (k : Nat) (a0 : Int) (P1_ : Nat → Prop) (u9000_ : Value) (l1 : List Int) (P2_ : Nat → Prop) (u9001_ : Value) (l2 : List Int) (a3 : Bool) (r : List Int) (w0 w : World) (hB : Below w0.heap.size w0 w) (ho1 : Kd.R (Kd.int .u8) 5 w w0.heap.size P1_ u9000_ l1) (hp1_2 : ∀ k_, P1_ k_ → ¬ P2_ k_) (ho2 : Kd.R (Kd.int .u8) 5 w w0.heap.size P2_ u9001_ l2) (hp2_1 : ∀ k_, P2_ k_ → ¬ P1_ k_) (h : maskref1_Binary.f k a0 l1 l2 a3 = some r) :
  Calls Tryd.prog 68 #[.int .i64 a0, u9000_, u9001_, .bool a3] w fun e w' => ∃ v0_ : Value, e = .returned (v0_) ∧ Kd.R (Kd.int .u8) 5 w' w0.heap.size (fun k_ => ((P1_ k_ ∨ P2_ k_) ∨ w.heap.size ≤ k_)) v0_ r ∧ Below w0.heap.size w0 w' ∧ Kept w w' (fun k_ => P1_ k_ ∨ P2_ k_) := by
 have HO1 := Aside0.mk (show Kd.R (Kd.int .u8) 5 w w0.heap.size (fun k_ => ((P1_ k_ ∨ P2_ k_) ∨ w.heap.size ≤ k_) ∧ some k_ ≠ (u9001_ : Value).ownBlock) u9000_ l1 from Kd.R_mono ho1 (fun k_ hk => ⟨(.inl (.inl hk)), fun e_ => hp1_2 k_ hk (ho2.1 k_ e_.symm)⟩))
 have HO2 := Aside0.mk (show Kd.R (Kd.int .u8) 5 w w0.heap.size (fun k_ => ((P1_ k_ ∨ P2_ k_) ∨ w.heap.size ≤ k_) ∧ some k_ ≠ (u9000_ : Value).ownBlock) u9001_ l2 from Kd.R_mono ho2 (fun k_ hk => ⟨(.inl (.inr hk)), fun e_ => hp2_1 k_ hk (ho1.1 k_ e_.symm)⟩))
 have HK := Aside0.mk (Kept.refl w (fun k_ => P1_ k_ ∨ P2_ k_))
 have HW0 := Aside0.mk hB.size
 have HB := Aside0.mk hB
 clear hB
 have H : (if a0 = 13 then ((maskref1_each__AndOf.f k l1 l2).bind fun t918 => (some t918)) else (if a0 = 14 then ((maskref1_each__OrOf.f k l1 l2).bind fun t921 => (some t921)) else (if a0 = 15 then ((maskref1_each__XorOf.f k l1 l2).bind fun t924 => (some t924)) else (if a0 = 11 then ((maskref1_Truth.f k l1).bind fun t927 => ((maskref1_One.f t927).bind fun t928 => ((maskref1_Truth.f k l2).bind fun t931 => ((maskref1_One.f t931).bind fun t932 => (if t928.length + t932.length < 140737488355328 then ((maskref1_fold__AndOf.f k (t928 ++ t932)).bind fun t938 => (some t938)) else (none)))))) else (if a0 = 12 then ((maskref1_Truth.f k l1).bind fun t941 => ((maskref1_One.f t941).bind fun t942 => ((maskref1_Truth.f k l2).bind fun t945 => ((maskref1_One.f t945).bind fun t946 => (if t942.length + t946.length < 140737488355328 then ((maskref1_fold__OrOf.f k (t942 ++ t946)).bind fun t952 => (some t952)) else (none)))))) else (if a0 = 21 then ((maskref1_moved.f k l1 l2 true 48).bind fun t955 => (some t955)) else (if a0 = 22 then ((maskref1_moved.f k l1 l2 false 48).bind fun t958 => (some t958)) else (if a0 = 23 then (if 0 ≤ (wrap64 ((l1.length : Int) - 1)) then (if (wrap64 ((l1.length : Int) - 1)) < (l1.length : Int) then ((maskref1_moved.f k l1 l2 false (rd l1 (wrap64 ((l1.length : Int) - 1)))).bind fun t962 => (some t962)) else (none)) else (none)) else (if a0 = 24 then ((maskref1_Compared.f k l1 l2).bind fun t965 => ((maskref1_One.f t965).bind fun t966 => (some t966))) else (if a0 = 25 then ((maskref1_Compared.f k l1 l2).bind fun t969 => ((maskref1_Opposite.f t969).bind fun t970 => ((maskref1_One.f t970).bind fun t971 => (some t971)))) else (if a0 = 26 then ((maskref1_same.f l1 l2).bind fun t974 => ((maskref1_truthOf.f t974).bind fun t975 => ((maskref1_One.f t975).bind fun t976 => (some t976)))) else (if a0 = 27 then ((maskref1_same.f l1 l2).bind fun t979 => ((maskref1_truthOf.f (!t979)).bind fun t980 => ((maskref1_One.f t980).bind fun t981 => (some t981)))) else (if a0 = 28 then (maskref1_Binary.j0 k a0 l1 l2 a3 (a0 == 28)) else (maskref1_Binary.j0 k a0 l1 l2 a3 (a0 == 29))))))))))))))) = some r := h
 clear h
 by_cases c5 : a0 = 13
 ·rw [if_pos c5] at H
  have c5b0 : (a0 == 13) = true := beq_iff_eq.mpr c5
  have c5b1 : (a0 != 13) = false := bne_eq_false_iff_eq.mpr c5
  clear c5
  replace H := Option.bind_eq_some_iff.mp H
  obtain ⟨t918, A60, H⟩ := H
  replace H : (some t918) = some r := H
  have A6 := Aside0.mk A60
  clear A60
  obtain rfl := Option.some.inj H
  obtain ⟨Ao7, co7, eo7⟩ := Kd.R_slice HO1.out
  subst eo7
  obtain ⟨Ao8, co8, eo8⟩ := Kd.R_slice HO2.out
  subst eo8
  go_enter Tryd.func68, Tryd.ntmps68
  go_wp2_with (((with_reducible refine gate_callee (f := 63) rfl ?_); refine goesL_ (some 14) rfl rfl Tryd.func63 (by kernel_rfl) rfl #[.slice Ao7 l1.length co7, .slice Ao8 l2.length co8, (.func (.func 78) #[] #[])] rfl (by (try simp only [List.map_toArray, List.map_cons, List.map_nil]); rfl) ?_; (with_reducible refine (maskref1_each__AndOf.calls k _ _ l1 _ _ l2  t918 _ ?side1 ?side2 ?side3 ?side4 A6.out).mono ?_); (case side1 => repeat (exact (Kd.R_reads' HO1.out).2.2)); (case side2 => exact (Kd.R_reads' HO1.out).2.1); (case side3 => repeat (exact (Kd.R_reads' HO2.out).2.2)); (case side4 => exact (Kd.R_reads' HO2.out).2.1); rintro e w9 ⟨v919, rfl, ho0, hb⟩; refine ⟨_, rfl, ?_⟩; have HO920 := Aside0.mk (Kd.R_lower (Kd.R_new' (Kd.R_new' (Kd.R_newM (M := fun k_ => ((P1_ k_ ∨ P2_ k_) ∨ w.heap.size ≤ k_)) ho0 (by exact HK.out.1) (fun k_ h_ => .inr h_)) (Kd.R_lt HO1.out)) (Kd.R_lt HO2.out)) (below_size HB.out)); replace HO1 := Aside0.mk (Kd.R_elder' HO1.out (Kd.R_base ho0) hb); replace HO2 := Aside0.mk (Kd.R_elder' HO2.out (Kd.R_base ho0) hb); replace HK := Aside0.mk (Kept.below (S := (fun k_ => P1_ k_ ∨ P2_ k_)) HK.out hb); replace HB := hb1 HB hb; (try clear hb); (try clear ho0)))
  go_ret
  exact ⟨_, by rfl, by exact Kd.R_mono HO920.out (fun _ hk => hk.1.1.1), by repeat (with_reducible exact HB.out), by repeat (with_reducible exact HK.out)⟩
 ·rw [if_neg c5] at H
  have c5b0 : (a0 == 13) = false := beq_eq_false_iff_ne.mpr c5
  have c5b1 : (a0 != 13) = true := bne_iff_ne.mpr c5
  by_cases c10 : a0 = 14
  ·rw [if_pos c10] at H
   have c10b0 : (a0 == 14) = true := beq_iff_eq.mpr c10
   have c10b1 : (a0 != 14) = false := bne_eq_false_iff_eq.mpr c10
   clear c10
   replace H := Option.bind_eq_some_iff.mp H
   obtain ⟨t921, A110, H⟩ := H
   replace H : (some t921) = some r := H
   have A11 := Aside0.mk A110
   clear A110
   obtain rfl := Option.some.inj H
   obtain ⟨Ao12, co12, eo12⟩ := Kd.R_slice HO1.out
   subst eo12
   obtain ⟨Ao13, co13, eo13⟩ := Kd.R_slice HO2.out
   subst eo13
   go_enter Tryd.func68, Tryd.ntmps68
   go_wp2_with (((with_reducible refine gate_callee (f := 63) rfl ?_); refine goesL_ (some 19) rfl rfl Tryd.func63 (by kernel_rfl) rfl #[.slice Ao12 l1.length co12, .slice Ao13 l2.length co13, (.func (.func 79) #[] #[])] rfl (by (try simp only [List.map_toArray, List.map_cons, List.map_nil]); rfl) ?_; (with_reducible refine (maskref1_each__OrOf.calls k _ _ l1 _ _ l2  t921 _ ?side1 ?side2 ?side3 ?side4 A11.out).mono ?_); (case side1 => repeat (exact (Kd.R_reads' HO1.out).2.2)); (case side2 => exact (Kd.R_reads' HO1.out).2.1); (case side3 => repeat (exact (Kd.R_reads' HO2.out).2.2)); (case side4 => exact (Kd.R_reads' HO2.out).2.1); rintro e w14 ⟨v922, rfl, ho0, hb⟩; refine ⟨_, rfl, ?_⟩; have HO923 := Aside0.mk (Kd.R_lower (Kd.R_new' (Kd.R_new' (Kd.R_newM (M := fun k_ => ((P1_ k_ ∨ P2_ k_) ∨ w.heap.size ≤ k_)) ho0 (by exact HK.out.1) (fun k_ h_ => .inr h_)) (Kd.R_lt HO1.out)) (Kd.R_lt HO2.out)) (below_size HB.out)); replace HO1 := Aside0.mk (Kd.R_elder' HO1.out (Kd.R_base ho0) hb); replace HO2 := Aside0.mk (Kd.R_elder' HO2.out (Kd.R_base ho0) hb); replace HK := Aside0.mk (Kept.below (S := (fun k_ => P1_ k_ ∨ P2_ k_)) HK.out hb); replace HB := hb1 HB hb; (try clear hb); (try clear ho0)))
   go_ret
   exact ⟨_, by rfl, by exact Kd.R_mono HO923.out (fun _ hk => hk.1.1.1), by repeat (with_reducible exact HB.out), by repeat (with_reducible exact HK.out)⟩
  ·rw [if_neg c10] at H
   have c10b0 : (a0 == 14) = false := beq_eq_false_iff_ne.mpr c10
   have c10b1 : (a0 != 14) = true := bne_iff_ne.mpr c10
   by_cases c15 : a0 = 15
   ·rw [if_pos c15] at H
    have c15b0 : (a0 == 15) = true := beq_iff_eq.mpr c15
    have c15b1 : (a0 != 15) = false := bne_eq_false_iff_eq.mpr c15
    clear c15
    replace H := Option.bind_eq_some_iff.mp H
    obtain ⟨t924, A160, H⟩ := H
    replace H : (some t924) = some r := H
    have A16 := Aside0.mk A160
    clear A160
    obtain rfl := Option.some.inj H
    obtain ⟨Ao17, co17, eo17⟩ := Kd.R_slice HO1.out
    subst eo17
    obtain ⟨Ao18, co18, eo18⟩ := Kd.R_slice HO2.out
    subst eo18
    go_enter Tryd.func68, Tryd.ntmps68
    go_wp2_with (((with_reducible refine gate_callee (f := 63) rfl ?_); refine goesL_ (some 24) rfl rfl Tryd.func63 (by kernel_rfl) rfl #[.slice Ao17 l1.length co17, .slice Ao18 l2.length co18, (.func (.func 80) #[] #[])] rfl (by (try simp only [List.map_toArray, List.map_cons, List.map_nil]); rfl) ?_; (with_reducible refine (maskref1_each__XorOf.calls k _ _ l1 _ _ l2  t924 _ ?side1 ?side2 ?side3 ?side4 A16.out).mono ?_); (case side1 => repeat (exact (Kd.R_reads' HO1.out).2.2)); (case side2 => exact (Kd.R_reads' HO1.out).2.1); (case side3 => repeat (exact (Kd.R_reads' HO2.out).2.2)); (case side4 => exact (Kd.R_reads' HO2.out).2.1); rintro e w19 ⟨v925, rfl, ho0, hb⟩; refine ⟨_, rfl, ?_⟩; have HO926 := Aside0.mk (Kd.R_lower (Kd.R_new' (Kd.R_new' (Kd.R_newM (M := fun k_ => ((P1_ k_ ∨ P2_ k_) ∨ w.heap.size ≤ k_)) ho0 (by exact HK.out.1) (fun k_ h_ => .inr h_)) (Kd.R_lt HO1.out)) (Kd.R_lt HO2.out)) (below_size HB.out)); replace HO1 := Aside0.mk (Kd.R_elder' HO1.out (Kd.R_base ho0) hb); replace HO2 := Aside0.mk (Kd.R_elder' HO2.out (Kd.R_base ho0) hb); replace HK := Aside0.mk (Kept.below (S := (fun k_ => P1_ k_ ∨ P2_ k_)) HK.out hb); replace HB := hb1 HB hb; (try clear hb); (try clear ho0)))
    go_ret
    exact ⟨_, by rfl, by exact Kd.R_mono HO926.out (fun _ hk => hk.1.1.1), by repeat (with_reducible exact HB.out), by repeat (with_reducible exact HK.out)⟩
   ·rw [if_neg c15] at H
    have c15b0 : (a0 == 15) = false := beq_eq_false_iff_ne.mpr c15
    have c15b1 : (a0 != 15) = true := bne_iff_ne.mpr c15
    by_cases c20 : a0 = 11
    ·rw [if_pos c20] at H
     have c20b0 : (a0 == 11) = true := beq_iff_eq.mpr c20
     have c20b1 : (a0 != 11) = false := bne_eq_false_iff_eq.mpr c20
     clear c20
     replace H := Option.bind_eq_some_iff.mp H
     obtain ⟨t927, A210, H⟩ := H
     replace H : ((maskref1_One.f t927).bind fun t928 => ((maskref1_Truth.f k l2).bind fun t931 => ((maskref1_One.f t931).bind fun t932 => (if t928.length + t932.length < 140737488355328 then ((maskref1_fold__AndOf.f k (t928 ++ t932)).bind fun t938 => (some t938)) else (none))))) = some r := H
     have A21 := Aside0.mk A210
     clear A210
     replace H := Option.bind_eq_some_iff.mp H
     obtain ⟨t928, A220, H⟩ := H
     replace H : ((maskref1_Truth.f k l2).bind fun t931 => ((maskref1_One.f t931).bind fun t932 => (if t928.length + t932.length < 140737488355328 then ((maskref1_fold__AndOf.f k (t928 ++ t932)).bind fun t938 => (some t938)) else (none)))) = some r := H
     have A22 := Aside0.mk A220
     clear A220
     replace H := Option.bind_eq_some_iff.mp H
     obtain ⟨t931, A230, H⟩ := H
     replace H : ((maskref1_One.f t931).bind fun t932 => (if t928.length + t932.length < 140737488355328 then ((maskref1_fold__AndOf.f k (t928 ++ t932)).bind fun t938 => (some t938)) else (none))) = some r := H
     have A23 := Aside0.mk A230
     clear A230
     replace H := Option.bind_eq_some_iff.mp H
     obtain ⟨t932, A240, H⟩ := H
     replace H : (if t928.length + t932.length < 140737488355328 then ((maskref1_fold__AndOf.f k (t928 ++ t932)).bind fun t938 => (some t938)) else (none)) = some r := H
     have A24 := Aside0.mk A240
     clear A240
     by_cases c25 : t928.length + t932.length < 140737488355328
     ·rw [if_pos c25] at H
      have LMc25 := Aside0.mk c25
      clear c25
      obtain ⟨y935, hy935⟩ : ∃ y_ : List Int, y_ = (t928 ++ t932) := ⟨_, rfl⟩
      replace H : ((maskref1_fold__AndOf.f k y935).bind fun t938 => (some t938)) = some r := by (rw [hy935]; with_reducible exact H)
      have Ny935 := Aside0.mk hy935
      clear hy935
      replace H := Option.bind_eq_some_iff.mp H
      obtain ⟨t938, A260, H⟩ := H
      replace H : (some t938) = some r := H
      have A26 := Aside0.mk A260
      clear A260
      obtain rfl := Option.some.inj H
      obtain ⟨Ao27, co27, eo27⟩ := Kd.R_slice HO1.out
      subst eo27
      go_enter Tryd.func68, Tryd.ntmps68
      go_wp2_with (first | ((with_reducible refine gate_callee (f := 59) rfl ?_); refine goesL_ (some 28) rfl rfl Tryd.func59 (by kernel_rfl) rfl #[.slice Ao27 l1.length co27] rfl (by (try simp only [List.map_toArray, List.map_cons, List.map_nil]); rfl) ?_; (with_reducible refine (maskref1_Truth.calls k _ _ l1 t927 _ ?side1 ?side2 A21.out).mono ?_); (case side1 => repeat (exact (Kd.R_reads' HO1.out).2.2)); (case side2 => exact (Kd.R_reads' HO1.out).2.1); rintro e w' ⟨rfl, ⟨nd, rfl⟩⟩; refine ⟨_, rfl, ?_⟩) | ((with_reducible refine gate_callee (f := 82) rfl ?_); refine goesL_ (some 29) rfl rfl Tryd.func82 (by kernel_rfl) rfl #[.int .u8 t927] rfl (by (try simp only [List.map_toArray, List.map_cons, List.map_nil]); rfl) ?_; (with_reducible refine (maskref1_One.calls t927 t928 _ A22.out).mono ?_); rintro e w28 ⟨v929, rfl, ho0, hb⟩; refine ⟨_, rfl, ?_⟩; have HO930 := Aside0.mk (Kd.R_lower (Kd.R_new' (Kd.R_new' (Kd.R_newM (M := fun k_ => ((P1_ k_ ∨ P2_ k_) ∨ w.heap.size ≤ k_)) ho0 (by exact HK.out.1) (fun k_ h_ => .inr h_)) (Kd.R_lt (by (with_reducible repeat (apply Kd.R_drewN)); exact HO1.out))) (Kd.R_lt (by (with_reducible repeat (apply Kd.R_drewN)); exact HO2.out))) (below_size (by repeat (with_reducible first | exact HB.out | apply pw_below_drewN)))); replace HO1 := Aside0.mk (Kd.R_elder' (by (with_reducible repeat (apply Kd.R_drewN)); exact HO1.out) (Kd.R_base ho0) hb); replace HO2 := Aside0.mk (Kd.R_elder' (by (with_reducible repeat (apply Kd.R_drewN)); exact HO2.out) (Kd.R_base ho0) hb); replace HK := Aside0.mk (Kept.below (S := (fun k_ => P1_ k_ ∨ P2_ k_)) (by repeat (with_reducible first | exact HK.out | apply Kept.drewN)) hb); replace HB := hb1 HB hb; (try clear hb); (try clear ho0); obtain ⟨Ao29, co29, eo29⟩ := Kd.R_slice HO2.out; subst eo29) | ((with_reducible refine gate_callee (f := 59) rfl ?_); refine goesL_ (some 31) rfl rfl Tryd.func59 (by kernel_rfl) rfl #[.slice Ao29 l2.length co29] rfl (by (try simp only [List.map_toArray, List.map_cons, List.map_nil]); rfl) ?_; (with_reducible refine (maskref1_Truth.calls k _ _ l2 t931 _ ?side1 ?side2 A23.out).mono ?_); (case side1 => repeat (exact (Kd.R_reads' HO2.out).2.2)); (case side2 => exact (Kd.R_reads' HO2.out).2.1); rintro e w' ⟨rfl, ⟨nd, rfl⟩⟩; refine ⟨_, rfl, ?_⟩) | ((with_reducible refine gate_callee (f := 82) rfl ?_); refine goesL_ (some 32) rfl rfl Tryd.func82 (by kernel_rfl) rfl #[.int .u8 t931] rfl (by (try simp only [List.map_toArray, List.map_cons, List.map_nil]); rfl) ?_; (with_reducible refine (maskref1_One.calls t931 t932 _ A24.out).mono ?_); rintro e w30 ⟨v933, rfl, ho0, hb⟩; refine ⟨_, rfl, ?_⟩; have HO934 := Aside0.mk (Kd.R_lower (Kd.R_new' (Kd.R_new' (Kd.R_new' (Kd.R_newM (M := fun k_ => ((P1_ k_ ∨ P2_ k_) ∨ w.heap.size ≤ k_)) ho0 (by exact HK.out.1) (fun k_ h_ => .inr h_)) (Kd.R_lt (by (with_reducible repeat (apply Kd.R_drewN)); exact HO1.out))) (Kd.R_lt (by (with_reducible repeat (apply Kd.R_drewN)); exact HO2.out))) (Kd.R_lt (by (with_reducible repeat (apply Kd.R_drewN)); exact HO930.out))) (below_size (by repeat (with_reducible first | exact HB.out | apply pw_below_drewN)))); replace HO1 := Aside0.mk (Kd.R_elder' (by (with_reducible repeat (apply Kd.R_drewN)); exact HO1.out) (Kd.R_base ho0) hb); replace HO2 := Aside0.mk (Kd.R_elder' (by (with_reducible repeat (apply Kd.R_drewN)); exact HO2.out) (Kd.R_base ho0) hb); replace HO930 := Aside0.mk (Kd.R_elder' (by (with_reducible repeat (apply Kd.R_drewN)); exact HO930.out) (Kd.R_base ho0) hb); replace HK := Aside0.mk (Kept.below (S := (fun k_ => P1_ k_ ∨ P2_ k_)) (by repeat (with_reducible first | exact HK.out | apply Kept.drewN)) hb); replace HB := hb1 HB hb; (try clear hb); (try clear ho0); obtain ⟨Ao32, co32, eo32⟩ := Kd.R_slice HO934.out; subst eo32) | ((with_reducible refine gate_builtin (b := .append) (xs := #[.tmp 29, .tmp 32]) rfl ?_); at_builtin; refine Kd.R_append_rows (Kd.int .u8) (w0 := w0) w0.heap.size rfl (.tmp 29) (.tmp 32) 43 5 (.int .u8 0) 1 rfl Tryd.underlying43 info5 rfl (by decide) (by omega) v929 t928 t932 _ _ _ (fun k_ => ((P1_ k_ ∨ P2_ k_) ∨ w.heap.size ≤ k_) ∧ some k_ ≠ (.slice Ao27 l1.length co27 : Value).ownBlock ∧ some k_ ≠ (.slice Ao29 l2.length co29 : Value).ownBlock ∧ some k_ ≠ (.slice Ao32 t932.length co32 : Value).ownBlock) (fun _ => False) rfl rfl ?aO ?aR (fun _ _ h => h) (fun _ h => h.elim) ?aF ?aB ?aS ?aL ?_; (case aR => repeat (exact (Kd.R_reads' HO934.out).2.2)); (case aB => exact HB.out); (case aF => exact (fun k_ hk => ⟨(.inr (Nat.le_trans (by exact HK.out.1) hk)), Kd.fresh' (Kd.R_lt HO1.out) k_ hk, Kd.fresh' (Kd.R_lt HO2.out) k_ hk, Kd.fresh' (Kd.R_lt HO934.out) k_ hk⟩)); (case aO => exact (by exact Kd.R_mono HO930.out (fun _ hk => ⟨hk.1.1.1.1, ⟨hk.1.1.2, ⟨hk.1.2, hk.2⟩⟩⟩))); (case aS => exact (below_size HB.out)); (case aL => have := LMc25.out; omega); intro v936 w31 ho hb hg hat; rw [← Ny935.out] at ho; replace HO1 := Aside0.mk (Kd.R_after (ok := (fun k_ => ((P1_ k_ ∨ P2_ k_) ∨ w.heap.size ≤ k_) ∧ some k_ ≠ (.slice Ao29 l2.length co29 : Value).ownBlock ∧ some k_ ≠ (.slice Ao32 t932.length co32 : Value).ownBlock)) (by exact Kd.R_mono HO1.out (fun _ hk => ⟨⟨hk.1.1.1, ⟨hk.1.1.2, hk.2⟩⟩, hk.1.2⟩)) hg hat); replace HO2 := Aside0.mk (Kd.R_after (ok := (fun k_ => ((P1_ k_ ∨ P2_ k_) ∨ w.heap.size ≤ k_) ∧ some k_ ≠ (.slice Ao27 l1.length co27 : Value).ownBlock ∧ some k_ ≠ (.slice Ao32 t932.length co32 : Value).ownBlock)) (by exact Kd.R_mono HO2.out (fun _ hk => ⟨⟨hk.1.1.1, ⟨hk.1.1.2, hk.2⟩⟩, hk.1.2⟩)) hg hat); replace HO934 := Aside0.mk (Kd.R_after (ok := (fun k_ => ((P1_ k_ ∨ P2_ k_) ∨ w.heap.size ≤ k_) ∧ some k_ ≠ (.slice Ao27 l1.length co27 : Value).ownBlock ∧ some k_ ≠ (.slice Ao29 l2.length co29 : Value).ownBlock)) (by exact Kd.R_mono HO934.out (fun _ hk => ⟨⟨hk.1.1.1.1, ⟨hk.1.1.2, hk.1.2⟩⟩, hk.2⟩)) hg hat); replace HB := Aside0.mk (hb); replace HK := Aside0.mk (Kept.of_grown (S := (fun k_ => P1_ k_ ∨ P2_ k_)) hg HK.out (fun k_ e_ => (HO930.out.1 k_ e_).1.1.1.1)); have HO937 := Aside0.mk (ho); clear HO930; clear ho hb hg hat; obtain ⟨Ao33, co33, eo33⟩ := Kd.R_slice HO937.out; subst eo33) | ((with_reducible refine gate_callee (f := 81) rfl ?_); refine goesL_ (some 34) rfl rfl Tryd.func81 (by kernel_rfl) rfl #[.slice Ao33 y935.length co33, (.func (.func 78) #[] #[])] rfl (by (try simp only [List.map_toArray, List.map_cons, List.map_nil]); rfl) ?_; (with_reducible refine (maskref1_fold__AndOf.calls k _ _ y935  t938 _ ?side1 ?side2 A26.out).mono ?_); (case side1 => repeat (exact (Kd.R_reads' HO937.out).2.2)); (case side2 => exact (Kd.R_reads' HO937.out).2.1); rintro e w34 ⟨v939, rfl, ho0, hb⟩; refine ⟨_, rfl, ?_⟩; have HO940 := Aside0.mk (Kd.R_lower (Kd.R_new' (Kd.R_new' (Kd.R_new' (Kd.R_new' (Kd.R_newM (M := fun k_ => ((P1_ k_ ∨ P2_ k_) ∨ w.heap.size ≤ k_)) ho0 (by exact HK.out.1) (fun k_ h_ => .inr h_)) (Kd.R_lt HO1.out)) (Kd.R_lt HO2.out)) (Kd.R_lt HO934.out)) (Kd.R_lt HO937.out)) (below_size HB.out)); replace HO1 := Aside0.mk (Kd.R_elder' HO1.out (Kd.R_base ho0) hb); replace HO2 := Aside0.mk (Kd.R_elder' HO2.out (Kd.R_base ho0) hb); replace HO934 := Aside0.mk (Kd.R_elder' HO934.out (Kd.R_base ho0) hb); replace HO937 := Aside0.mk (Kd.R_elder' HO937.out (Kd.R_base ho0) hb); replace HK := Aside0.mk (Kept.below (S := (fun k_ => P1_ k_ ∨ P2_ k_)) HK.out hb); replace HB := hb1 HB hb; (try clear hb); (try clear ho0)))
      go_ret
      exact ⟨_, by rfl, by exact Kd.R_mono HO940.out (fun _ hk => hk.1.1.1.1.1), by repeat (with_reducible exact HB.out), by repeat (with_reducible exact HK.out)⟩
     ·rw [if_neg c25] at H
      exact absurd H (by simp)
    ·rw [if_neg c20] at H
     have c20b0 : (a0 == 11) = false := beq_eq_false_iff_ne.mpr c20
     have c20b1 : (a0 != 11) = true := bne_iff_ne.mpr c20
     by_cases c35 : a0 = 12
     ·rw [if_pos c35] at H
      have c35b0 : (a0 == 12) = true := beq_iff_eq.mpr c35
      have c35b1 : (a0 != 12) = false := bne_eq_false_iff_eq.mpr c35
      clear c35
      replace H := Option.bind_eq_some_iff.mp H
      obtain ⟨t941, A360, H⟩ := H
      replace H : ((maskref1_One.f t941).bind fun t942 => ((maskref1_Truth.f k l2).bind fun t945 => ((maskref1_One.f t945).bind fun t946 => (if t942.length + t946.length < 140737488355328 then ((maskref1_fold__OrOf.f k (t942 ++ t946)).bind fun t952 => (some t952)) else (none))))) = some r := H
      have A36 := Aside0.mk A360
      clear A360
      replace H := Option.bind_eq_some_iff.mp H
      obtain ⟨t942, A370, H⟩ := H
      replace H : ((maskref1_Truth.f k l2).bind fun t945 => ((maskref1_One.f t945).bind fun t946 => (if t942.length + t946.length < 140737488355328 then ((maskref1_fold__OrOf.f k (t942 ++ t946)).bind fun t952 => (some t952)) else (none)))) = some r := H
      have A37 := Aside0.mk A370
      clear A370
      replace H := Option.bind_eq_some_iff.mp H
      obtain ⟨t945, A380, H⟩ := H
      replace H : ((maskref1_One.f t945).bind fun t946 => (if t942.length + t946.length < 140737488355328 then ((maskref1_fold__OrOf.f k (t942 ++ t946)).bind fun t952 => (some t952)) else (none))) = some r := H
      have A38 := Aside0.mk A380
      clear A380
      replace H := Option.bind_eq_some_iff.mp H
      obtain ⟨t946, A390, H⟩ := H
      replace H : (if t942.length + t946.length < 140737488355328 then ((maskref1_fold__OrOf.f k (t942 ++ t946)).bind fun t952 => (some t952)) else (none)) = some r := H
      have A39 := Aside0.mk A390
      clear A390
      by_cases c40 : t942.length + t946.length < 140737488355328
      ·rw [if_pos c40] at H
       have LMc40 := Aside0.mk c40
       clear c40
       obtain ⟨y949, hy949⟩ : ∃ y_ : List Int, y_ = (t942 ++ t946) := ⟨_, rfl⟩
       replace H : ((maskref1_fold__OrOf.f k y949).bind fun t952 => (some t952)) = some r := by (rw [hy949]; with_reducible exact H)
       have Ny949 := Aside0.mk hy949
       clear hy949
       replace H := Option.bind_eq_some_iff.mp H
       obtain ⟨t952, A410, H⟩ := H
       replace H : (some t952) = some r := H
       have A41 := Aside0.mk A410
       clear A410
       obtain rfl := Option.some.inj H
       obtain ⟨Ao42, co42, eo42⟩ := Kd.R_slice HO1.out
       subst eo42
       go_enter Tryd.func68, Tryd.ntmps68
       go_wp2_with (first | ((with_reducible refine gate_callee (f := 59) rfl ?_); refine goesL_ (some 38) rfl rfl Tryd.func59 (by kernel_rfl) rfl #[.slice Ao42 l1.length co42] rfl (by (try simp only [List.map_toArray, List.map_cons, List.map_nil]); rfl) ?_; (with_reducible refine (maskref1_Truth.calls k _ _ l1 t941 _ ?side1 ?side2 A36.out).mono ?_); (case side1 => repeat (exact (Kd.R_reads' HO1.out).2.2)); (case side2 => exact (Kd.R_reads' HO1.out).2.1); rintro e w' ⟨rfl, ⟨nd, rfl⟩⟩; refine ⟨_, rfl, ?_⟩) | ((with_reducible refine gate_callee (f := 82) rfl ?_); refine goesL_ (some 39) rfl rfl Tryd.func82 (by kernel_rfl) rfl #[.int .u8 t941] rfl (by (try simp only [List.map_toArray, List.map_cons, List.map_nil]); rfl) ?_; (with_reducible refine (maskref1_One.calls t941 t942 _ A37.out).mono ?_); rintro e w43 ⟨v943, rfl, ho0, hb⟩; refine ⟨_, rfl, ?_⟩; have HO944 := Aside0.mk (Kd.R_lower (Kd.R_new' (Kd.R_new' (Kd.R_newM (M := fun k_ => ((P1_ k_ ∨ P2_ k_) ∨ w.heap.size ≤ k_)) ho0 (by exact HK.out.1) (fun k_ h_ => .inr h_)) (Kd.R_lt (by (with_reducible repeat (apply Kd.R_drewN)); exact HO1.out))) (Kd.R_lt (by (with_reducible repeat (apply Kd.R_drewN)); exact HO2.out))) (below_size (by repeat (with_reducible first | exact HB.out | apply pw_below_drewN)))); replace HO1 := Aside0.mk (Kd.R_elder' (by (with_reducible repeat (apply Kd.R_drewN)); exact HO1.out) (Kd.R_base ho0) hb); replace HO2 := Aside0.mk (Kd.R_elder' (by (with_reducible repeat (apply Kd.R_drewN)); exact HO2.out) (Kd.R_base ho0) hb); replace HK := Aside0.mk (Kept.below (S := (fun k_ => P1_ k_ ∨ P2_ k_)) (by repeat (with_reducible first | exact HK.out | apply Kept.drewN)) hb); replace HB := hb1 HB hb; (try clear hb); (try clear ho0); obtain ⟨Ao44, co44, eo44⟩ := Kd.R_slice HO2.out; subst eo44) | ((with_reducible refine gate_callee (f := 59) rfl ?_); refine goesL_ (some 41) rfl rfl Tryd.func59 (by kernel_rfl) rfl #[.slice Ao44 l2.length co44] rfl (by (try simp only [List.map_toArray, List.map_cons, List.map_nil]); rfl) ?_; (with_reducible refine (maskref1_Truth.calls k _ _ l2 t945 _ ?side1 ?side2 A38.out).mono ?_); (case side1 => repeat (exact (Kd.R_reads' HO2.out).2.2)); (case side2 => exact (Kd.R_reads' HO2.out).2.1); rintro e w' ⟨rfl, ⟨nd, rfl⟩⟩; refine ⟨_, rfl, ?_⟩) | ((with_reducible refine gate_callee (f := 82) rfl ?_); refine goesL_ (some 42) rfl rfl Tryd.func82 (by kernel_rfl) rfl #[.int .u8 t945] rfl (by (try simp only [List.map_toArray, List.map_cons, List.map_nil]); rfl) ?_; (with_reducible refine (maskref1_One.calls t945 t946 _ A39.out).mono ?_); rintro e w45 ⟨v947, rfl, ho0, hb⟩; refine ⟨_, rfl, ?_⟩; have HO948 := Aside0.mk (Kd.R_lower (Kd.R_new' (Kd.R_new' (Kd.R_new' (Kd.R_newM (M := fun k_ => ((P1_ k_ ∨ P2_ k_) ∨ w.heap.size ≤ k_)) ho0 (by exact HK.out.1) (fun k_ h_ => .inr h_)) (Kd.R_lt (by (with_reducible repeat (apply Kd.R_drewN)); exact HO1.out))) (Kd.R_lt (by (with_reducible repeat (apply Kd.R_drewN)); exact HO2.out))) (Kd.R_lt (by (with_reducible repeat (apply Kd.R_drewN)); exact HO944.out))) (below_size (by repeat (with_reducible first | exact HB.out | apply pw_below_drewN)))); replace HO1 := Aside0.mk (Kd.R_elder' (by (with_reducible repeat (apply Kd.R_drewN)); exact HO1.out) (Kd.R_base ho0) hb); replace HO2 := Aside0.mk (Kd.R_elder' (by (with_reducible repeat (apply Kd.R_drewN)); exact HO2.out) (Kd.R_base ho0) hb); replace HO944 := Aside0.mk (Kd.R_elder' (by (with_reducible repeat (apply Kd.R_drewN)); exact HO944.out) (Kd.R_base ho0) hb); replace HK := Aside0.mk (Kept.below (S := (fun k_ => P1_ k_ ∨ P2_ k_)) (by repeat (with_reducible first | exact HK.out | apply Kept.drewN)) hb); replace HB := hb1 HB hb; (try clear hb); (try clear ho0); obtain ⟨Ao47, co47, eo47⟩ := Kd.R_slice HO948.out; subst eo47) | ((with_reducible refine gate_builtin (b := .append) (xs := #[.tmp 39, .tmp 42]) rfl ?_); at_builtin; refine Kd.R_append_rows (Kd.int .u8) (w0 := w0) w0.heap.size rfl (.tmp 39) (.tmp 42) 43 5 (.int .u8 0) 1 rfl Tryd.underlying43 info5 rfl (by decide) (by omega) v943 t942 t946 _ _ _ (fun k_ => ((P1_ k_ ∨ P2_ k_) ∨ w.heap.size ≤ k_) ∧ some k_ ≠ (.slice Ao42 l1.length co42 : Value).ownBlock ∧ some k_ ≠ (.slice Ao44 l2.length co44 : Value).ownBlock ∧ some k_ ≠ (.slice Ao47 t946.length co47 : Value).ownBlock) (fun _ => False) rfl rfl ?aO ?aR (fun _ _ h => h) (fun _ h => h.elim) ?aF ?aB ?aS ?aL ?_; (case aR => repeat (exact (Kd.R_reads' HO948.out).2.2)); (case aB => exact HB.out); (case aF => exact (fun k_ hk => ⟨(.inr (Nat.le_trans (by exact HK.out.1) hk)), Kd.fresh' (Kd.R_lt HO1.out) k_ hk, Kd.fresh' (Kd.R_lt HO2.out) k_ hk, Kd.fresh' (Kd.R_lt HO948.out) k_ hk⟩)); (case aO => exact (by exact Kd.R_mono HO944.out (fun _ hk => ⟨hk.1.1.1.1, ⟨hk.1.1.2, ⟨hk.1.2, hk.2⟩⟩⟩))); (case aS => exact (below_size HB.out)); (case aL => have := LMc40.out; omega); intro v950 w46 ho hb hg hat; rw [← Ny949.out] at ho; replace HO1 := Aside0.mk (Kd.R_after (ok := (fun k_ => ((P1_ k_ ∨ P2_ k_) ∨ w.heap.size ≤ k_) ∧ some k_ ≠ (.slice Ao44 l2.length co44 : Value).ownBlock ∧ some k_ ≠ (.slice Ao47 t946.length co47 : Value).ownBlock)) (by exact Kd.R_mono HO1.out (fun _ hk => ⟨⟨hk.1.1.1, ⟨hk.1.1.2, hk.2⟩⟩, hk.1.2⟩)) hg hat); replace HO2 := Aside0.mk (Kd.R_after (ok := (fun k_ => ((P1_ k_ ∨ P2_ k_) ∨ w.heap.size ≤ k_) ∧ some k_ ≠ (.slice Ao42 l1.length co42 : Value).ownBlock ∧ some k_ ≠ (.slice Ao47 t946.length co47 : Value).ownBlock)) (by exact Kd.R_mono HO2.out (fun _ hk => ⟨⟨hk.1.1.1, ⟨hk.1.1.2, hk.2⟩⟩, hk.1.2⟩)) hg hat); replace HO948 := Aside0.mk (Kd.R_after (ok := (fun k_ => ((P1_ k_ ∨ P2_ k_) ∨ w.heap.size ≤ k_) ∧ some k_ ≠ (.slice Ao42 l1.length co42 : Value).ownBlock ∧ some k_ ≠ (.slice Ao44 l2.length co44 : Value).ownBlock)) (by exact Kd.R_mono HO948.out (fun _ hk => ⟨⟨hk.1.1.1.1, ⟨hk.1.1.2, hk.1.2⟩⟩, hk.2⟩)) hg hat); replace HB := Aside0.mk (hb); replace HK := Aside0.mk (Kept.of_grown (S := (fun k_ => P1_ k_ ∨ P2_ k_)) hg HK.out (fun k_ e_ => (HO944.out.1 k_ e_).1.1.1.1)); have HO951 := Aside0.mk (ho); clear HO944; clear ho hb hg hat; obtain ⟨Ao48, co48, eo48⟩ := Kd.R_slice HO951.out; subst eo48) | ((with_reducible refine gate_callee (f := 81) rfl ?_); refine goesL_ (some 44) rfl rfl Tryd.func81 (by kernel_rfl) rfl #[.slice Ao48 y949.length co48, (.func (.func 79) #[] #[])] rfl (by (try simp only [List.map_toArray, List.map_cons, List.map_nil]); rfl) ?_; (with_reducible refine (maskref1_fold__OrOf.calls k _ _ y949  t952 _ ?side1 ?side2 A41.out).mono ?_); (case side1 => repeat (exact (Kd.R_reads' HO951.out).2.2)); (case side2 => exact (Kd.R_reads' HO951.out).2.1); rintro e w49 ⟨v953, rfl, ho0, hb⟩; refine ⟨_, rfl, ?_⟩; have HO954 := Aside0.mk (Kd.R_lower (Kd.R_new' (Kd.R_new' (Kd.R_new' (Kd.R_new' (Kd.R_newM (M := fun k_ => ((P1_ k_ ∨ P2_ k_) ∨ w.heap.size ≤ k_)) ho0 (by exact HK.out.1) (fun k_ h_ => .inr h_)) (Kd.R_lt HO1.out)) (Kd.R_lt HO2.out)) (Kd.R_lt HO948.out)) (Kd.R_lt HO951.out)) (below_size HB.out)); replace HO1 := Aside0.mk (Kd.R_elder' HO1.out (Kd.R_base ho0) hb); replace HO2 := Aside0.mk (Kd.R_elder' HO2.out (Kd.R_base ho0) hb); replace HO948 := Aside0.mk (Kd.R_elder' HO948.out (Kd.R_base ho0) hb); replace HO951 := Aside0.mk (Kd.R_elder' HO951.out (Kd.R_base ho0) hb); replace HK := Aside0.mk (Kept.below (S := (fun k_ => P1_ k_ ∨ P2_ k_)) HK.out hb); replace HB := hb1 HB hb; (try clear hb); (try clear ho0)))
       go_ret
       exact ⟨_, by rfl, by exact Kd.R_mono HO954.out (fun _ hk => hk.1.1.1.1.1), by repeat (with_reducible exact HB.out), by repeat (with_reducible exact HK.out)⟩
      ·rw [if_neg c40] at H
       exact absurd H (by simp)
     ·rw [if_neg c35] at H
      have c35b0 : (a0 == 12) = false := beq_eq_false_iff_ne.mpr c35
      have c35b1 : (a0 != 12) = true := bne_iff_ne.mpr c35
      by_cases c50 : a0 = 21
      ·rw [if_pos c50] at H
       have c50b0 : (a0 == 21) = true := beq_iff_eq.mpr c50
       have c50b1 : (a0 != 21) = false := bne_eq_false_iff_eq.mpr c50
       clear c50
       replace H := Option.bind_eq_some_iff.mp H
       obtain ⟨t955, A510, H⟩ := H
       replace H : (some t955) = some r := H
       have A51 := Aside0.mk A510
       clear A510
       obtain rfl := Option.some.inj H
       obtain ⟨Ao52, co52, eo52⟩ := Kd.R_slice HO1.out
       subst eo52
       obtain ⟨Ao53, co53, eo53⟩ := Kd.R_slice HO2.out
       subst eo53
       go_enter Tryd.func68, Tryd.ntmps68
       go_wp2_with (((with_reducible refine gate_callee (f := 83) rfl ?_); refine goesL_ (some 49) rfl rfl Tryd.func83 (by kernel_rfl) rfl #[.slice Ao52 l1.length co52, .slice Ao53 l2.length co53, .bool true, .int .u8 48] rfl (by (try simp only [List.map_toArray, List.map_cons, List.map_nil]); rfl) ?_; (with_reducible refine (maskref1_moved.calls k _ _ l1 _ _ l2 true 48 t955 _ ?side1 ?side2 ?side3 ?side4 A51.out).mono ?_); (case side1 => repeat (exact (Kd.R_reads' HO1.out).2.2)); (case side2 => exact (Kd.R_reads' HO1.out).2.1); (case side3 => repeat (exact (Kd.R_reads' HO2.out).2.2)); (case side4 => exact (Kd.R_reads' HO2.out).2.1); rintro e w54 ⟨v956, rfl, ho0, hb⟩; refine ⟨_, rfl, ?_⟩; have HO957 := Aside0.mk (Kd.R_lower (Kd.R_new' (Kd.R_new' (Kd.R_newM (M := fun k_ => ((P1_ k_ ∨ P2_ k_) ∨ w.heap.size ≤ k_)) ho0 (by exact HK.out.1) (fun k_ h_ => .inr h_)) (Kd.R_lt HO1.out)) (Kd.R_lt HO2.out)) (below_size HB.out)); replace HO1 := Aside0.mk (Kd.R_elder' HO1.out (Kd.R_base ho0) hb); replace HO2 := Aside0.mk (Kd.R_elder' HO2.out (Kd.R_base ho0) hb); replace HK := Aside0.mk (Kept.below (S := (fun k_ => P1_ k_ ∨ P2_ k_)) HK.out hb); replace HB := hb1 HB hb; (try clear hb); (try clear ho0)))
       go_ret
       exact ⟨_, by rfl, by exact Kd.R_mono HO957.out (fun _ hk => hk.1.1.1), by repeat (with_reducible exact HB.out), by repeat (with_reducible exact HK.out)⟩
      ·rw [if_neg c50] at H
       have c50b0 : (a0 == 21) = false := beq_eq_false_iff_ne.mpr c50
       have c50b1 : (a0 != 21) = true := bne_iff_ne.mpr c50
       by_cases c55 : a0 = 22
       ·rw [if_pos c55] at H
        have c55b0 : (a0 == 22) = true := beq_iff_eq.mpr c55
        have c55b1 : (a0 != 22) = false := bne_eq_false_iff_eq.mpr c55
        clear c55
        replace H := Option.bind_eq_some_iff.mp H
        obtain ⟨t958, A560, H⟩ := H
        replace H : (some t958) = some r := H
        have A56 := Aside0.mk A560
        clear A560
        obtain rfl := Option.some.inj H
        obtain ⟨Ao57, co57, eo57⟩ := Kd.R_slice HO1.out
        subst eo57
        obtain ⟨Ao58, co58, eo58⟩ := Kd.R_slice HO2.out
        subst eo58
        go_enter Tryd.func68, Tryd.ntmps68
        go_wp2_with (((with_reducible refine gate_callee (f := 83) rfl ?_); refine goesL_ (some 54) rfl rfl Tryd.func83 (by kernel_rfl) rfl #[.slice Ao57 l1.length co57, .slice Ao58 l2.length co58, .bool false, .int .u8 48] rfl (by (try simp only [List.map_toArray, List.map_cons, List.map_nil]); rfl) ?_; (with_reducible refine (maskref1_moved.calls k _ _ l1 _ _ l2 false 48 t958 _ ?side1 ?side2 ?side3 ?side4 A56.out).mono ?_); (case side1 => repeat (exact (Kd.R_reads' HO1.out).2.2)); (case side2 => exact (Kd.R_reads' HO1.out).2.1); (case side3 => repeat (exact (Kd.R_reads' HO2.out).2.2)); (case side4 => exact (Kd.R_reads' HO2.out).2.1); rintro e w59 ⟨v959, rfl, ho0, hb⟩; refine ⟨_, rfl, ?_⟩; have HO960 := Aside0.mk (Kd.R_lower (Kd.R_new' (Kd.R_new' (Kd.R_newM (M := fun k_ => ((P1_ k_ ∨ P2_ k_) ∨ w.heap.size ≤ k_)) ho0 (by exact HK.out.1) (fun k_ h_ => .inr h_)) (Kd.R_lt HO1.out)) (Kd.R_lt HO2.out)) (below_size HB.out)); replace HO1 := Aside0.mk (Kd.R_elder' HO1.out (Kd.R_base ho0) hb); replace HO2 := Aside0.mk (Kd.R_elder' HO2.out (Kd.R_base ho0) hb); replace HK := Aside0.mk (Kept.below (S := (fun k_ => P1_ k_ ∨ P2_ k_)) HK.out hb); replace HB := hb1 HB hb; (try clear hb); (try clear ho0)))
        go_ret
        exact ⟨_, by rfl, by exact Kd.R_mono HO960.out (fun _ hk => hk.1.1.1), by repeat (with_reducible exact HB.out), by repeat (with_reducible exact HK.out)⟩
       ·rw [if_neg c55] at H
        have c55b0 : (a0 == 22) = false := beq_eq_false_iff_ne.mpr c55
        have c55b1 : (a0 != 22) = true := bne_iff_ne.mpr c55
        by_cases c60 : a0 = 23
        ·rw [if_pos c60] at H
         have c60b0 : (a0 == 23) = true := beq_iff_eq.mpr c60
         have c60b1 : (a0 != 23) = false := bne_eq_false_iff_eq.mpr c60
         clear c60
         obtain ⟨ji61, hji61⟩ : ∃ j_ : Int, (wrap64 ((l1.length : Int) - 1)) = j_ := ⟨_, rfl⟩
         replace H : (if 0 ≤ (ji61) then (if (ji61) < (l1.length : Int) then ((maskref1_moved.f k l1 l2 false (rd l1 (ji61))).bind fun t962 => (some t962)) else (none)) else (none)) = some r := by (rw [hji61] at H; exact H)
         have hji61w : (IntKind.i64.wrap ((l1.length : Int) - 1)) = ji61 := (i64_w _).trans hji61
         by_cases c62 : 0 ≤ (ji61)
         ·rw [if_pos c62] at H
          have c62b0 : decide (0 ≤ (ji61)) = true := decide_eq_true c62
          clear c62
          by_cases c63 : (ji61) < (l1.length : Int)
          ·rw [if_pos c63] at H
           have c63b0 : decide ((ji61) < (l1.length : Int)) = true := decide_eq_true c63
           clear c63
           replace H := Option.bind_eq_some_iff.mp H
           obtain ⟨t962, A640, H⟩ := H
           replace H : (some t962) = some r := H
           have A64 := Aside0.mk A640
           clear A640
           obtain rfl := Option.some.inj H
           obtain ⟨Ao65, co65, eo65⟩ := Kd.R_slice HO1.out
           subst eo65
           have p961 : 0 ≤ ((ji61) : Int) := of_decide_eq_true (by (with_reducible assumption))
           have q961 : (ji61) < (l1.length : Int) := of_decide_eq_true (by (with_reducible assumption))
           obtain ⟨ad961, e961, hx961_0⟩ := Kd.at_int (Kd.R_reads' HO1.out).2.2 (ji61) p961 q961
           cases e961
           replace p961 := eq_true p961
           replace q961 := eq_true q961
           obtain ⟨Ao66, co66, eo66⟩ := Kd.R_slice HO2.out
           subst eo66
           go_enter Tryd.func68, Tryd.ntmps68
           go_wp2_with (((with_reducible refine gate_callee (f := 83) rfl ?_); refine goesL_ (some 65) rfl rfl Tryd.func83 (by kernel_rfl) rfl #[.slice (some ad961) l1.length co65, .slice Ao66 l2.length co66, .bool false, .int .u8 (rd l1 (ji61))] rfl (by (try simp only [List.map_toArray, List.map_cons, List.map_nil]); rfl) ?_; (with_reducible refine (maskref1_moved.calls k _ _ l1 _ _ l2 false (rd l1 (ji61)) t962 _ ?side1 ?side2 ?side3 ?side4 A64.out).mono ?_); (case side1 => repeat (exact (Kd.R_reads' HO1.out).2.2)); (case side2 => exact (Kd.R_reads' HO1.out).2.1); (case side3 => repeat (exact (Kd.R_reads' HO2.out).2.2)); (case side4 => exact (Kd.R_reads' HO2.out).2.1); rintro e w67 ⟨v963, rfl, ho0, hb⟩; refine ⟨_, rfl, ?_⟩; have HO964 := Aside0.mk (Kd.R_lower (Kd.R_new' (Kd.R_new' (Kd.R_newM (M := fun k_ => ((P1_ k_ ∨ P2_ k_) ∨ w.heap.size ≤ k_)) ho0 (by exact HK.out.1) (fun k_ h_ => .inr h_)) (Kd.R_lt HO1.out)) (Kd.R_lt HO2.out)) (below_size HB.out)); replace HO1 := Aside0.mk (Kd.R_elder' HO1.out (Kd.R_base ho0) hb); replace HO2 := Aside0.mk (Kd.R_elder' HO2.out (Kd.R_base ho0) hb); replace HK := Aside0.mk (Kept.below (S := (fun k_ => P1_ k_ ∨ P2_ k_)) HK.out hb); replace HB := hb1 HB hb; (try clear hb); (try clear ho0)))
           go_ret
           exact ⟨_, by rfl, by exact Kd.R_mono HO964.out (fun _ hk => hk.1.1.1), by repeat (with_reducible exact HB.out), by repeat (with_reducible exact HK.out)⟩
          ·rw [if_neg c63] at H
           exact absurd H (by simp)
         ·rw [if_neg c62] at H
          exact absurd H (by simp)
        ·rw [if_neg c60] at H
         have c60b0 : (a0 == 23) = false := beq_eq_false_iff_ne.mpr c60
         have c60b1 : (a0 != 23) = true := bne_iff_ne.mpr c60
         by_cases c68 : a0 = 24
         ·rw [if_pos c68] at H
          have c68b0 : (a0 == 24) = true := beq_iff_eq.mpr c68
          have c68b1 : (a0 != 24) = false := bne_eq_false_iff_eq.mpr c68
          clear c68
          replace H := Option.bind_eq_some_iff.mp H
          obtain ⟨t965, A690, H⟩ := H
          replace H : ((maskref1_One.f t965).bind fun t966 => (some t966)) = some r := H
          have A69 := Aside0.mk A690
          clear A690
          replace H := Option.bind_eq_some_iff.mp H
          obtain ⟨t966, A700, H⟩ := H
          replace H : (some t966) = some r := H
          have A70 := Aside0.mk A700
          clear A700
          obtain rfl := Option.some.inj H
          obtain ⟨Ao71, co71, eo71⟩ := Kd.R_slice HO1.out
          subst eo71
          obtain ⟨Ao72, co72, eo72⟩ := Kd.R_slice HO2.out
          subst eo72
          go_enter Tryd.func68, Tryd.ntmps68
          go_wp2_with (first | ((with_reducible refine gate_callee (f := 84) rfl ?_); refine goesL_ (some 70) rfl rfl Tryd.func84 (by kernel_rfl) rfl #[.slice Ao71 l1.length co71, .slice Ao72 l2.length co72] rfl (by (try simp only [List.map_toArray, List.map_cons, List.map_nil]); rfl) ?_; (with_reducible refine (maskref1_Compared.calls k _ _ l1 _ _ l2 t965 _ ?side1 ?side2 ?side3 ?side4 A69.out).mono ?_); (case side1 => repeat (exact (Kd.R_reads' HO1.out).2.2)); (case side2 => exact (Kd.R_reads' HO1.out).2.1); (case side3 => repeat (exact (Kd.R_reads' HO2.out).2.2)); (case side4 => exact (Kd.R_reads' HO2.out).2.1); rintro e w' ⟨rfl, ⟨nd, rfl⟩⟩; refine ⟨_, rfl, ?_⟩) | ((with_reducible refine gate_callee (f := 82) rfl ?_); refine goesL_ (some 71) rfl rfl Tryd.func82 (by kernel_rfl) rfl #[.int .u8 t965] rfl (by (try simp only [List.map_toArray, List.map_cons, List.map_nil]); rfl) ?_; (with_reducible refine (maskref1_One.calls t965 t966 _ A70.out).mono ?_); rintro e w73 ⟨v967, rfl, ho0, hb⟩; refine ⟨_, rfl, ?_⟩; have HO968 := Aside0.mk (Kd.R_lower (Kd.R_new' (Kd.R_new' (Kd.R_newM (M := fun k_ => ((P1_ k_ ∨ P2_ k_) ∨ w.heap.size ≤ k_)) ho0 (by exact HK.out.1) (fun k_ h_ => .inr h_)) (Kd.R_lt (by (with_reducible repeat (apply Kd.R_drewN)); exact HO1.out))) (Kd.R_lt (by (with_reducible repeat (apply Kd.R_drewN)); exact HO2.out))) (below_size (by repeat (with_reducible first | exact HB.out | apply pw_below_drewN)))); replace HO1 := Aside0.mk (Kd.R_elder' (by (with_reducible repeat (apply Kd.R_drewN)); exact HO1.out) (Kd.R_base ho0) hb); replace HO2 := Aside0.mk (Kd.R_elder' (by (with_reducible repeat (apply Kd.R_drewN)); exact HO2.out) (Kd.R_base ho0) hb); replace HK := Aside0.mk (Kept.below (S := (fun k_ => P1_ k_ ∨ P2_ k_)) (by repeat (with_reducible first | exact HK.out | apply Kept.drewN)) hb); replace HB := hb1 HB hb; (try clear hb); (try clear ho0)))
          go_ret
          exact ⟨_, by rfl, by exact Kd.R_mono HO968.out (fun _ hk => hk.1.1.1), by repeat (with_reducible exact HB.out), by repeat (with_reducible exact HK.out)⟩
         ·rw [if_neg c68] at H
          have c68b0 : (a0 == 24) = false := beq_eq_false_iff_ne.mpr c68
          have c68b1 : (a0 != 24) = true := bne_iff_ne.mpr c68
          by_cases c74 : a0 = 25
          ·rw [if_pos c74] at H
           have c74b0 : (a0 == 25) = true := beq_iff_eq.mpr c74
           have c74b1 : (a0 != 25) = false := bne_eq_false_iff_eq.mpr c74
           clear c74
           replace H := Option.bind_eq_some_iff.mp H
           obtain ⟨t969, A750, H⟩ := H
           replace H : ((maskref1_Opposite.f t969).bind fun t970 => ((maskref1_One.f t970).bind fun t971 => (some t971))) = some r := H
           have A75 := Aside0.mk A750
           clear A750
           replace H := Option.bind_eq_some_iff.mp H
           obtain ⟨t970, A760, H⟩ := H
           replace H : ((maskref1_One.f t970).bind fun t971 => (some t971)) = some r := H
           have A76 := Aside0.mk A760
           clear A760
           replace H := Option.bind_eq_some_iff.mp H
           obtain ⟨t971, A770, H⟩ := H
           replace H : (some t971) = some r := H
           have A77 := Aside0.mk A770
           clear A770
           obtain rfl := Option.some.inj H
           obtain ⟨Ao78, co78, eo78⟩ := Kd.R_slice HO1.out
           subst eo78
           obtain ⟨Ao79, co79, eo79⟩ := Kd.R_slice HO2.out
           subst eo79
           go_enter Tryd.func68, Tryd.ntmps68
           go_wp2_with (first | ((with_reducible refine gate_callee (f := 84) rfl ?_); refine goesL_ (some 76) rfl rfl Tryd.func84 (by kernel_rfl) rfl #[.slice Ao78 l1.length co78, .slice Ao79 l2.length co79] rfl (by (try simp only [List.map_toArray, List.map_cons, List.map_nil]); rfl) ?_; (with_reducible refine (maskref1_Compared.calls k _ _ l1 _ _ l2 t969 _ ?side1 ?side2 ?side3 ?side4 A75.out).mono ?_); (case side1 => repeat (exact (Kd.R_reads' HO1.out).2.2)); (case side2 => exact (Kd.R_reads' HO1.out).2.1); (case side3 => repeat (exact (Kd.R_reads' HO2.out).2.2)); (case side4 => exact (Kd.R_reads' HO2.out).2.1); rintro e w' ⟨rfl, ⟨nd, rfl⟩⟩; refine ⟨_, rfl, ?_⟩) | ((with_reducible refine gate_callee (f := 85) rfl ?_); refine goesL_ (some 77) rfl rfl Tryd.func85 (by kernel_rfl) rfl #[.int .u8 t969] rfl (by (try simp only [List.map_toArray, List.map_cons, List.map_nil]); rfl) ?_; (with_reducible refine (maskref1_Opposite.calls t969 t970 _ A76.out).mono ?_); rintro e w' ⟨rfl, ⟨nd, rfl⟩⟩; refine ⟨_, rfl, ?_⟩) | ((with_reducible refine gate_callee (f := 82) rfl ?_); refine goesL_ (some 78) rfl rfl Tryd.func82 (by kernel_rfl) rfl #[.int .u8 t970] rfl (by (try simp only [List.map_toArray, List.map_cons, List.map_nil]); rfl) ?_; (with_reducible refine (maskref1_One.calls t970 t971 _ A77.out).mono ?_); rintro e w80 ⟨v972, rfl, ho0, hb⟩; refine ⟨_, rfl, ?_⟩; have HO973 := Aside0.mk (Kd.R_lower (Kd.R_new' (Kd.R_new' (Kd.R_newM (M := fun k_ => ((P1_ k_ ∨ P2_ k_) ∨ w.heap.size ≤ k_)) ho0 (by exact HK.out.1) (fun k_ h_ => .inr h_)) (Kd.R_lt (by (with_reducible repeat (apply Kd.R_drewN)); exact HO1.out))) (Kd.R_lt (by (with_reducible repeat (apply Kd.R_drewN)); exact HO2.out))) (below_size (by repeat (with_reducible first | exact HB.out | apply pw_below_drewN)))); replace HO1 := Aside0.mk (Kd.R_elder' (by (with_reducible repeat (apply Kd.R_drewN)); exact HO1.out) (Kd.R_base ho0) hb); replace HO2 := Aside0.mk (Kd.R_elder' (by (with_reducible repeat (apply Kd.R_drewN)); exact HO2.out) (Kd.R_base ho0) hb); replace HK := Aside0.mk (Kept.below (S := (fun k_ => P1_ k_ ∨ P2_ k_)) (by repeat (with_reducible first | exact HK.out | apply Kept.drewN)) hb); replace HB := hb1 HB hb; (try clear hb); (try clear ho0)))
           go_ret
           exact ⟨_, by rfl, by exact Kd.R_mono HO973.out (fun _ hk => hk.1.1.1), by repeat (with_reducible exact HB.out), by repeat (with_reducible exact HK.out)⟩
          ·rw [if_neg c74] at H
           have c74b0 : (a0 == 25) = false := beq_eq_false_iff_ne.mpr c74
           have c74b1 : (a0 != 25) = true := bne_iff_ne.mpr c74
           by_cases c81 : a0 = 26
           ·rw [if_pos c81] at H
            have c81b0 : (a0 == 26) = true := beq_iff_eq.mpr c81
            have c81b1 : (a0 != 26) = false := bne_eq_false_iff_eq.mpr c81
            clear c81
            replace H := Option.bind_eq_some_iff.mp H
            obtain ⟨t974, A820, H⟩ := H
            replace H : ((maskref1_truthOf.f t974).bind fun t975 => ((maskref1_One.f t975).bind fun t976 => (some t976))) = some r := H
            have A82 := Aside0.mk A820
            clear A820
            replace H := Option.bind_eq_some_iff.mp H
            obtain ⟨t975, A830, H⟩ := H
            replace H : ((maskref1_One.f t975).bind fun t976 => (some t976)) = some r := H
            have A83 := Aside0.mk A830
            clear A830
            replace H := Option.bind_eq_some_iff.mp H
            obtain ⟨t976, A840, H⟩ := H
            replace H : (some t976) = some r := H
            have A84 := Aside0.mk A840
            clear A840
            obtain rfl := Option.some.inj H
            obtain ⟨Ao85, co85, eo85⟩ := Kd.R_slice HO1.out
            subst eo85
            obtain ⟨Ao86, co86, eo86⟩ := Kd.R_slice HO2.out
            subst eo86
            go_enter Tryd.func68, Tryd.ntmps68
            go_wp2_with (first | ((with_reducible refine gate_callee (f := 87) rfl ?_); refine goesL_ (some 83) rfl rfl Tryd.func87 (by kernel_rfl) rfl #[.slice Ao85 l1.length co85, .slice Ao86 l2.length co86] rfl (by (try simp only [List.map_toArray, List.map_cons, List.map_nil]); rfl) ?_; (with_reducible refine (maskref1_same.calls _ _ l1 _ _ l2 t974 _ ?side1 ?side2 ?side3 ?side4 A82.out).mono ?_); (case side1 => repeat (exact (Kd.R_reads' HO1.out).2.2)); (case side2 => exact (Kd.R_reads' HO1.out).2.1); (case side3 => repeat (exact (Kd.R_reads' HO2.out).2.2)); (case side4 => exact (Kd.R_reads' HO2.out).2.1); rintro e w' ⟨rfl, ⟨nd, rfl⟩⟩; refine ⟨_, rfl, ?_⟩) | ((with_reducible refine gate_callee (f := 86) rfl ?_); refine goesL_ (some 84) rfl rfl Tryd.func86 (by kernel_rfl) rfl #[.bool t974] rfl (by (try simp only [List.map_toArray, List.map_cons, List.map_nil]); rfl) ?_; (with_reducible refine (maskref1_truthOf.calls t974 t975 _ A83.out).mono ?_); rintro e w' ⟨rfl, ⟨nd, rfl⟩⟩; refine ⟨_, rfl, ?_⟩) | ((with_reducible refine gate_callee (f := 82) rfl ?_); refine goesL_ (some 85) rfl rfl Tryd.func82 (by kernel_rfl) rfl #[.int .u8 t975] rfl (by (try simp only [List.map_toArray, List.map_cons, List.map_nil]); rfl) ?_; (with_reducible refine (maskref1_One.calls t975 t976 _ A84.out).mono ?_); rintro e w87 ⟨v977, rfl, ho0, hb⟩; refine ⟨_, rfl, ?_⟩; have HO978 := Aside0.mk (Kd.R_lower (Kd.R_new' (Kd.R_new' (Kd.R_newM (M := fun k_ => ((P1_ k_ ∨ P2_ k_) ∨ w.heap.size ≤ k_)) ho0 (by exact HK.out.1) (fun k_ h_ => .inr h_)) (Kd.R_lt (by (with_reducible repeat (apply Kd.R_drewN)); exact HO1.out))) (Kd.R_lt (by (with_reducible repeat (apply Kd.R_drewN)); exact HO2.out))) (below_size (by repeat (with_reducible first | exact HB.out | apply pw_below_drewN)))); replace HO1 := Aside0.mk (Kd.R_elder' (by (with_reducible repeat (apply Kd.R_drewN)); exact HO1.out) (Kd.R_base ho0) hb); replace HO2 := Aside0.mk (Kd.R_elder' (by (with_reducible repeat (apply Kd.R_drewN)); exact HO2.out) (Kd.R_base ho0) hb); replace HK := Aside0.mk (Kept.below (S := (fun k_ => P1_ k_ ∨ P2_ k_)) (by repeat (with_reducible first | exact HK.out | apply Kept.drewN)) hb); replace HB := hb1 HB hb; (try clear hb); (try clear ho0)))
            go_ret
            exact ⟨_, by rfl, by exact Kd.R_mono HO978.out (fun _ hk => hk.1.1.1), by repeat (with_reducible exact HB.out), by repeat (with_reducible exact HK.out)⟩
           ·rw [if_neg c81] at H
            have c81b0 : (a0 == 26) = false := beq_eq_false_iff_ne.mpr c81
            have c81b1 : (a0 != 26) = true := bne_iff_ne.mpr c81
            by_cases c88 : a0 = 27
            ·rw [if_pos c88] at H
             have c88b0 : (a0 == 27) = true := beq_iff_eq.mpr c88
             have c88b1 : (a0 != 27) = false := bne_eq_false_iff_eq.mpr c88
             clear c88
             replace H := Option.bind_eq_some_iff.mp H
             obtain ⟨t979, A890, H⟩ := H
             replace H : ((maskref1_truthOf.f (!t979)).bind fun t980 => ((maskref1_One.f t980).bind fun t981 => (some t981))) = some r := H
             have A89 := Aside0.mk A890
             clear A890
             replace H := Option.bind_eq_some_iff.mp H
             obtain ⟨t980, A900, H⟩ := H
             replace H : ((maskref1_One.f t980).bind fun t981 => (some t981)) = some r := H
             have A90 := Aside0.mk A900
             clear A900
             replace H := Option.bind_eq_some_iff.mp H
             obtain ⟨t981, A910, H⟩ := H
             replace H : (some t981) = some r := H
             have A91 := Aside0.mk A910
             clear A910
             obtain rfl := Option.some.inj H
             obtain ⟨Ao92, co92, eo92⟩ := Kd.R_slice HO1.out
             subst eo92
             obtain ⟨Ao93, co93, eo93⟩ := Kd.R_slice HO2.out
             subst eo93
             go_enter Tryd.func68, Tryd.ntmps68
             go_wp2_with (first | ((with_reducible refine gate_callee (f := 87) rfl ?_); refine goesL_ (some 90) rfl rfl Tryd.func87 (by kernel_rfl) rfl #[.slice Ao92 l1.length co92, .slice Ao93 l2.length co93] rfl (by (try simp only [List.map_toArray, List.map_cons, List.map_nil]); rfl) ?_; (with_reducible refine (maskref1_same.calls _ _ l1 _ _ l2 t979 _ ?side1 ?side2 ?side3 ?side4 A89.out).mono ?_); (case side1 => repeat (exact (Kd.R_reads' HO1.out).2.2)); (case side2 => exact (Kd.R_reads' HO1.out).2.1); (case side3 => repeat (exact (Kd.R_reads' HO2.out).2.2)); (case side4 => exact (Kd.R_reads' HO2.out).2.1); rintro e w' ⟨rfl, ⟨nd, rfl⟩⟩; refine ⟨_, rfl, ?_⟩) | ((with_reducible refine gate_callee (f := 86) rfl ?_); refine goesL_ (some 92) rfl rfl Tryd.func86 (by kernel_rfl) rfl #[.bool (!t979)] rfl (by (try simp only [List.map_toArray, List.map_cons, List.map_nil]); rfl) ?_; (with_reducible refine (maskref1_truthOf.calls (!t979) t980 _ A90.out).mono ?_); rintro e w' ⟨rfl, ⟨nd, rfl⟩⟩; refine ⟨_, rfl, ?_⟩) | ((with_reducible refine gate_callee (f := 82) rfl ?_); refine goesL_ (some 93) rfl rfl Tryd.func82 (by kernel_rfl) rfl #[.int .u8 t980] rfl (by (try simp only [List.map_toArray, List.map_cons, List.map_nil]); rfl) ?_; (with_reducible refine (maskref1_One.calls t980 t981 _ A91.out).mono ?_); rintro e w94 ⟨v982, rfl, ho0, hb⟩; refine ⟨_, rfl, ?_⟩; have HO983 := Aside0.mk (Kd.R_lower (Kd.R_new' (Kd.R_new' (Kd.R_newM (M := fun k_ => ((P1_ k_ ∨ P2_ k_) ∨ w.heap.size ≤ k_)) ho0 (by exact HK.out.1) (fun k_ h_ => .inr h_)) (Kd.R_lt (by (with_reducible repeat (apply Kd.R_drewN)); exact HO1.out))) (Kd.R_lt (by (with_reducible repeat (apply Kd.R_drewN)); exact HO2.out))) (below_size (by repeat (with_reducible first | exact HB.out | apply pw_below_drewN)))); replace HO1 := Aside0.mk (Kd.R_elder' (by (with_reducible repeat (apply Kd.R_drewN)); exact HO1.out) (Kd.R_base ho0) hb); replace HO2 := Aside0.mk (Kd.R_elder' (by (with_reducible repeat (apply Kd.R_drewN)); exact HO2.out) (Kd.R_base ho0) hb); replace HK := Aside0.mk (Kept.below (S := (fun k_ => P1_ k_ ∨ P2_ k_)) (by repeat (with_reducible first | exact HK.out | apply Kept.drewN)) hb); replace HB := hb1 HB hb; (try clear hb); (try clear ho0)))
             go_ret
             exact ⟨_, by rfl, by exact Kd.R_mono HO983.out (fun _ hk => hk.1.1.1), by repeat (with_reducible exact HB.out), by repeat (with_reducible exact HK.out)⟩
            ·rw [if_neg c88] at H
             have c88b0 : (a0 == 27) = false := beq_eq_false_iff_ne.mpr c88
             have c88b1 : (a0 != 27) = true := bne_iff_ne.mpr c88
             have HC95 := Aside0.mk H
             clear H
             go_enter Tryd.func68, Tryd.ntmps68
             go_upto_if 94 with (fail)
             go_cut [94] (fun v94 wc => ∃ (kq : Nat) (x94_94 : Bool), v94 = .bool x94_94 ∧ Aside0 (maskref1_Binary.j0 kq a0 l1 l2 a3 x94_94 = some r) ∧ Aside0 (kq ≤ k) ∧ Aside0 (Kd.R (Kd.int .u8) 5 wc w0.heap.size (fun k_ => ((P1_ k_ ∨ P2_ k_) ∨ w.heap.size ≤ k_) ∧ some k_ ≠ (u9001_ : Value).ownBlock) u9000_ l1) ∧ Aside0 (Kd.R (Kd.int .u8) 5 wc w0.heap.size (fun k_ => ((P1_ k_ ∨ P2_ k_) ∨ w.heap.size ≤ k_) ∧ some k_ ≠ (u9000_ : Value).ownBlock) u9001_ l2) ∧ Aside0 (Kept w wc (fun k_ => P1_ k_ ∨ P2_ k_)) ∧ Aside0 (Below w0.heap.size w0 wc))
             case first =>
              have H := HC95.out
              clear HC95
              by_cases c96 : a0 = 28
              ·rw [if_pos c96] at H
               have c96b0 : (a0 == 28) = true := beq_iff_eq.mpr c96
               have c96b1 : (a0 != 28) = false := bne_eq_false_iff_eq.mpr c96
               clear c96
               (rw [c96b0])
               have H' := Aside0.mk H
               clear H
               go_wp2
               go_meet
               case rel => exact ⟨_, (a0 == 28), (by (simp [*]; done)), H', ⟨by omega⟩, ⟨by exact HO1.out⟩, ⟨by exact HO2.out⟩, ⟨by repeat (with_reducible exact HK.out)⟩, ⟨by repeat (with_reducible exact HB.out)⟩⟩
              ·rw [if_neg c96] at H
               have c96b0 : (a0 == 28) = false := beq_eq_false_iff_ne.mpr c96
               have c96b1 : (a0 != 28) = true := bne_iff_ne.mpr c96
               (rw [c96b0])
               have H' := Aside0.mk H
               clear H
               go_wp2
               go_meet
               case rel => exact ⟨_, (a0 == 29), (by rfl), H', ⟨by omega⟩, ⟨by exact HO1.out⟩, ⟨by exact HO2.out⟩, ⟨by repeat (with_reducible exact HK.out)⟩, ⟨by repeat (with_reducible exact HB.out)⟩⟩
             case rest =>
              clear HC95
              (try clear c5); (try clear c5b0); (try clear c5b1); (try clear c10); (try clear c10b0); (try clear c10b1); (try clear c15); (try clear c15b0); (try clear c15b1); (try clear c20); (try clear c20b0); (try clear c20b1); (try clear c35); (try clear c35b0); (try clear c35b1); (try clear c50); (try clear c50b0); (try clear c50b1); (try clear c55); (try clear c55b0); (try clear c55b1); (try clear c60); (try clear c60b0); (try clear c60b1); (try clear c68); (try clear c68b0); (try clear c68b1); (try clear c74); (try clear c74b0); (try clear c74b1); (try clear c81); (try clear c81b0); (try clear c81b1); (try clear c88); (try clear c88b0); (try clear c88b1)
              obtain ⟨kq, x94_94, rfl, HA, HJ94, HO_1, HO_2, HK, HB⟩ := hcut
              cases kq with
              | zero => exact absurd HA.out (by simp [maskref1_Binary.j0])
              | succ kj94 =>
               have H := HA.out
               clear HA
               simp only [maskref1_Binary.j0] at H
               by_cases c97 : x94_94 = true
               ·subst c97
                have H1 : ((maskref1_Known.f kj94 l1).bind fun t984 => (if t984 = true then ((maskref1_Known.f kj94 l2).bind fun t985 => (maskref1_Binary.j1 kj94 a0 l1 l2 a3 (!t985))) else (maskref1_Binary.j1 kj94 a0 l1 l2 a3 true))) = some r := by rw [if_pos rfl] at H; exact H
                clear H
                have H := H1
                clear H1
                have HC98 := Aside0.mk H
                clear H
                go_upto_region 28 with (fail)
                go_cut [104] (fun v104 wc => ∃ (kq : Nat) (x104_97 : Bool), v104 = .bool x104_97 ∧ Aside0 (maskref1_Binary.j1 kq a0 l1 l2 a3 x104_97 = some r) ∧ Aside0 (kq ≤ kj94) ∧ Aside0 (Kd.R (Kd.int .u8) 5 wc w0.heap.size (fun k_ => ((P1_ k_ ∨ P2_ k_) ∨ w.heap.size ≤ k_) ∧ some k_ ≠ (u9001_ : Value).ownBlock) u9000_ l1) ∧ Aside0 (Kd.R (Kd.int .u8) 5 wc w0.heap.size (fun k_ => ((P1_ k_ ∨ P2_ k_) ∨ w.heap.size ≤ k_) ∧ some k_ ≠ (u9000_ : Value).ownBlock) u9001_ l2) ∧ Aside0 (Kept w wc (fun k_ => P1_ k_ ∨ P2_ k_)) ∧ Aside0 (Below w0.heap.size w0 wc))
                case first =>
                 have H := HC98.out
                 clear HC98
                 replace H := Option.bind_eq_some_iff.mp H
                 obtain ⟨t984, A990, H⟩ := H
                 replace H : (if t984 = true then ((maskref1_Known.f kj94 l2).bind fun t985 => (maskref1_Binary.j1 kj94 a0 l1 l2 a3 (!t985))) else (maskref1_Binary.j1 kj94 a0 l1 l2 a3 true)) = some r := H
                 have A99 := Aside0.mk A990
                 clear A990
                 by_cases c100 : t984 = true
                 ·subst c100
                  have H1 : ((maskref1_Known.f kj94 l2).bind fun t985 => (maskref1_Binary.j1 kj94 a0 l1 l2 a3 (!t985))) = some r := by rw [if_pos rfl] at H; exact H
                  clear H
                  have H := H1
                  clear H1
                  replace H := Option.bind_eq_some_iff.mp H
                  obtain ⟨t985, A1010, H⟩ := H
                  replace H : (maskref1_Binary.j1 kj94 a0 l1 l2 a3 (!t985)) = some r := H
                  have A101 := Aside0.mk A1010
                  clear A1010
                  have H' := Aside0.mk H
                  clear H
                  obtain ⟨Ao102, co102, eo102⟩ := Kd.R_slice HO_1.out
                  subst eo102
                  go_wp2_with (first | ((with_reducible refine gate_callee (f := 33) rfl ?_); refine goesL_ (some 98) rfl rfl Tryd.func33 (by kernel_rfl) rfl #[.slice Ao102 l1.length co102] rfl (by (try simp only [List.map_toArray, List.map_cons, List.map_nil]); rfl) ?_; (with_reducible refine (maskref1_Known.calls kj94 _ _ l1 true _ ?side1 ?side2 A99.out).mono ?_); (case side1 => repeat (exact (Kd.R_reads' HO_1.out).2.2)); (case side2 => exact (Kd.R_reads' HO_1.out).2.1); rintro e w' ⟨rfl, ⟨nd, rfl⟩⟩; refine ⟨_, rfl, ?_⟩; obtain ⟨Ao103, co103, eo103⟩ := Kd.R_slice HO_2.out; subst eo103) | (go_at_call 33; (with_reducible refine (maskref1_Known.calls kj94 _ _ l2 t985 _ ?side1 ?side2 A101.out).mono ?_); (case side1 => repeat (exact (Kd.R_reads' HO_2.out).2.2)); (case side2 => exact (Kd.R_reads' HO_2.out).2.1); rintro e w' ⟨rfl, ⟨nd, rfl⟩⟩))
                  go_meet
                  case rel => exact ⟨_, (!t985), (by rfl), H', ⟨by have := HJ94.out; omega⟩, ⟨by (with_reducible repeat (apply Kd.R_drewN)); exact HO_1.out⟩, ⟨by (with_reducible repeat (apply Kd.R_drewN)); exact HO_2.out⟩, ⟨by repeat (with_reducible first | exact HK.out | apply Kept.drewN)⟩, ⟨by repeat (with_reducible first | exact HB.out | apply pw_below_drewN)⟩⟩
                 ·replace c100 := Bool.eq_false_iff.mpr c100
                  subst c100
                  have H1 : (maskref1_Binary.j1 kj94 a0 l1 l2 a3 true) = some r := by rw [if_neg (show ¬ (false = true) by decide)] at H; exact H
                  clear H
                  have H := H1
                  clear H1
                  have H' := Aside0.mk H
                  clear H
                  obtain ⟨Ao104, co104, eo104⟩ := Kd.R_slice HO_1.out
                  subst eo104
                  go_wp2_with (((with_reducible refine gate_callee (f := 33) rfl ?_); refine goesL_ (some 98) rfl rfl Tryd.func33 (by kernel_rfl) rfl #[.slice Ao104 l1.length co104] rfl (by (try simp only [List.map_toArray, List.map_cons, List.map_nil]); rfl) ?_; (with_reducible refine (maskref1_Known.calls kj94 _ _ l1 false _ ?side1 ?side2 A99.out).mono ?_); (case side1 => repeat (exact (Kd.R_reads' HO_1.out).2.2)); (case side2 => exact (Kd.R_reads' HO_1.out).2.1); rintro e w' ⟨rfl, ⟨nd, rfl⟩⟩; refine ⟨_, rfl, ?_⟩))
                  go_meet
                  case rel => exact ⟨_, (true), (by rfl), H', ⟨by have := HJ94.out; omega⟩, ⟨by (with_reducible repeat (apply Kd.R_drewN)); exact HO_1.out⟩, ⟨by (with_reducible repeat (apply Kd.R_drewN)); exact HO_2.out⟩, ⟨by repeat (with_reducible first | exact HK.out | apply Kept.drewN)⟩, ⟨by repeat (with_reducible first | exact HB.out | apply pw_below_drewN)⟩⟩
                case rest =>
                 clear HC98
                 obtain ⟨kq, x104_97, rfl, HA, HJ97, HO_1, HO_2, HK, HB⟩ := hcut
                 cases kq with
                 | zero => exact absurd HA.out (by simp [maskref1_Binary.j1])
                 | succ kj97 =>
                  have H := HA.out
                  clear HA
                  simp only [maskref1_Binary.j1] at H
                  by_cases c105 : x104_97 = true
                  ·subst c105
                   have H1 : ((maskref1_One.f 117).bind fun t986 => (some t986)) = some r := by rw [if_pos rfl] at H; exact H
                   clear H
                   have H := H1
                   clear H1
                   replace H := Option.bind_eq_some_iff.mp H
                   obtain ⟨t986, A1060, H⟩ := H
                   replace H : (some t986) = some r := H
                   have A106 := Aside0.mk A1060
                   clear A1060
                   obtain rfl := Option.some.inj H
                   go_wp2_with (((with_reducible refine gate_callee (f := 82) rfl ?_); refine goesL_ (some 105) rfl rfl Tryd.func82 (by kernel_rfl) rfl #[.int .u8 117] rfl (by (try simp only [List.map_toArray, List.map_cons, List.map_nil]); rfl) ?_; (with_reducible refine (maskref1_One.calls 117 t986 _ A106.out).mono ?_); rintro e w107 ⟨v987, rfl, ho0, hb⟩; refine ⟨_, rfl, ?_⟩; have HO988 := Aside0.mk (Kd.R_lower (Kd.R_new' (Kd.R_new' (Kd.R_newM (M := fun k_ => ((P1_ k_ ∨ P2_ k_) ∨ w.heap.size ≤ k_)) ho0 (by exact HK.out.1) (fun k_ h_ => .inr h_)) (Kd.R_lt HO_1.out)) (Kd.R_lt HO_2.out)) (below_size HB.out)); replace HO_1 := Aside0.mk (Kd.R_elder' HO_1.out (Kd.R_base ho0) hb); replace HO_2 := Aside0.mk (Kd.R_elder' HO_2.out (Kd.R_base ho0) hb); replace HK := Aside0.mk (Kept.below (S := (fun k_ => P1_ k_ ∨ P2_ k_)) HK.out hb); replace HB := hb1 HB hb; (try clear hb); (try clear ho0)))
                   go_ret
                   exact ⟨_, by rfl, by exact Kd.R_mono HO988.out (fun _ hk => hk.1.1.1), by repeat (with_reducible exact HB.out), by repeat (with_reducible exact HK.out)⟩
                  ·replace c105 := Bool.eq_false_iff.mpr c105
                   subst c105
                   have H1 : ((maskref1_below.f kj97 l1 l2 a3).bind fun t989 => (if t989 = true then ((maskref1_truthOf.f true).bind fun t990 => ((maskref1_One.f t990).bind fun t991 => (some t991))) else (if a0 = 29 then ((maskref1_same.f l1 l2).bind fun t994 => ((maskref1_truthOf.f t994).bind fun t995 => ((maskref1_One.f t995).bind fun t996 => (some t996)))) else ((maskref1_truthOf.f false).bind fun t999 => ((maskref1_One.f t999).bind fun t1000 => (some t1000)))))) = some r := by rw [if_neg (show ¬ (false = true) by decide)] at H; exact H
                   clear H
                   have H := H1
                   clear H1
                   replace H := Option.bind_eq_some_iff.mp H
                   obtain ⟨t989, A1080, H⟩ := H
                   replace H : (if t989 = true then ((maskref1_truthOf.f true).bind fun t990 => ((maskref1_One.f t990).bind fun t991 => (some t991))) else (if a0 = 29 then ((maskref1_same.f l1 l2).bind fun t994 => ((maskref1_truthOf.f t994).bind fun t995 => ((maskref1_One.f t995).bind fun t996 => (some t996)))) else ((maskref1_truthOf.f false).bind fun t999 => ((maskref1_One.f t999).bind fun t1000 => (some t1000))))) = some r := H
                   have A108 := Aside0.mk A1080
                   clear A1080
                   by_cases c109 : t989 = true
                   ·subst c109
                    have H1 : ((maskref1_truthOf.f true).bind fun t990 => ((maskref1_One.f t990).bind fun t991 => (some t991))) = some r := by rw [if_pos rfl] at H; exact H
                    clear H
                    have H := H1
                    clear H1
                    replace H := Option.bind_eq_some_iff.mp H
                    obtain ⟨t990, A1100, H⟩ := H
                    replace H : ((maskref1_One.f t990).bind fun t991 => (some t991)) = some r := H
                    have A110 := Aside0.mk A1100
                    clear A1100
                    replace H := Option.bind_eq_some_iff.mp H
                    obtain ⟨t991, A1110, H⟩ := H
                    replace H : (some t991) = some r := H
                    have A111 := Aside0.mk A1110
                    clear A1110
                    obtain rfl := Option.some.inj H
                    obtain ⟨Ao112, co112, eo112⟩ := Kd.R_slice HO_1.out
                    subst eo112
                    obtain ⟨Ao113, co113, eo113⟩ := Kd.R_slice HO_2.out
                    subst eo113
                    go_wp2_with (first | ((with_reducible refine gate_callee (f := 88) rfl ?_); refine goesL_ (some 109) rfl rfl Tryd.func88 (by kernel_rfl) rfl #[.slice Ao112 l1.length co112, .slice Ao113 l2.length co113, .bool a3] rfl (by (try simp only [List.map_toArray, List.map_cons, List.map_nil]); rfl) ?_; (with_reducible refine (maskref1_below.calls kj97 _ _ l1 _ _ l2 a3 true _ ?side1 ?side2 ?side3 ?side4 A108.out).mono ?_); (case side1 => repeat (exact (Kd.R_reads' HO_1.out).2.2)); (case side2 => exact (Kd.R_reads' HO_1.out).2.1); (case side3 => repeat (exact (Kd.R_reads' HO_2.out).2.2)); (case side4 => exact (Kd.R_reads' HO_2.out).2.1); rintro e w' ⟨rfl, ⟨nd, rfl⟩⟩; refine ⟨_, rfl, ?_⟩) | ((with_reducible refine gate_callee (f := 86) rfl ?_); refine goesL_ (some 119) rfl rfl Tryd.func86 (by kernel_rfl) rfl #[.bool true] rfl (by (try simp only [List.map_toArray, List.map_cons, List.map_nil]); rfl) ?_; (with_reducible refine (maskref1_truthOf.calls true t990 _ A110.out).mono ?_); rintro e w' ⟨rfl, ⟨nd, rfl⟩⟩; refine ⟨_, rfl, ?_⟩) | ((with_reducible refine gate_callee (f := 82) rfl ?_); refine goesL_ (some 120) rfl rfl Tryd.func82 (by kernel_rfl) rfl #[.int .u8 t990] rfl (by (try simp only [List.map_toArray, List.map_cons, List.map_nil]); rfl) ?_; (with_reducible refine (maskref1_One.calls t990 t991 _ A111.out).mono ?_); rintro e w114 ⟨v992, rfl, ho0, hb⟩; refine ⟨_, rfl, ?_⟩; have HO993 := Aside0.mk (Kd.R_lower (Kd.R_new' (Kd.R_new' (Kd.R_newM (M := fun k_ => ((P1_ k_ ∨ P2_ k_) ∨ w.heap.size ≤ k_)) ho0 (by exact HK.out.1) (fun k_ h_ => .inr h_)) (Kd.R_lt (by (with_reducible repeat (apply Kd.R_drewN)); exact HO_1.out))) (Kd.R_lt (by (with_reducible repeat (apply Kd.R_drewN)); exact HO_2.out))) (below_size (by repeat (with_reducible first | exact HB.out | apply pw_below_drewN)))); replace HO_1 := Aside0.mk (Kd.R_elder' (by (with_reducible repeat (apply Kd.R_drewN)); exact HO_1.out) (Kd.R_base ho0) hb); replace HO_2 := Aside0.mk (Kd.R_elder' (by (with_reducible repeat (apply Kd.R_drewN)); exact HO_2.out) (Kd.R_base ho0) hb); replace HK := Aside0.mk (Kept.below (S := (fun k_ => P1_ k_ ∨ P2_ k_)) (by repeat (with_reducible first | exact HK.out | apply Kept.drewN)) hb); replace HB := hb1 HB hb; (try clear hb); (try clear ho0)))
                    go_ret
                    exact ⟨_, by rfl, by exact Kd.R_mono HO993.out (fun _ hk => hk.1.1.1), by repeat (with_reducible exact HB.out), by repeat (with_reducible exact HK.out)⟩
                   ·replace c109 := Bool.eq_false_iff.mpr c109
                    subst c109
                    have H1 : (if a0 = 29 then ((maskref1_same.f l1 l2).bind fun t994 => ((maskref1_truthOf.f t994).bind fun t995 => ((maskref1_One.f t995).bind fun t996 => (some t996)))) else ((maskref1_truthOf.f false).bind fun t999 => ((maskref1_One.f t999).bind fun t1000 => (some t1000)))) = some r := by rw [if_neg (show ¬ (false = true) by decide)] at H; exact H
                    clear H
                    have H := H1
                    clear H1
                    by_cases c115 : a0 = 29
                    ·rw [if_pos c115] at H
                     have c115b0 : (a0 == 29) = true := beq_iff_eq.mpr c115
                     have c115b1 : (a0 != 29) = false := bne_eq_false_iff_eq.mpr c115
                     clear c115
                     replace H := Option.bind_eq_some_iff.mp H
                     obtain ⟨t994, A1160, H⟩ := H
                     replace H : ((maskref1_truthOf.f t994).bind fun t995 => ((maskref1_One.f t995).bind fun t996 => (some t996))) = some r := H
                     have A116 := Aside0.mk A1160
                     clear A1160
                     replace H := Option.bind_eq_some_iff.mp H
                     obtain ⟨t995, A1170, H⟩ := H
                     replace H : ((maskref1_One.f t995).bind fun t996 => (some t996)) = some r := H
                     have A117 := Aside0.mk A1170
                     clear A1170
                     replace H := Option.bind_eq_some_iff.mp H
                     obtain ⟨t996, A1180, H⟩ := H
                     replace H : (some t996) = some r := H
                     have A118 := Aside0.mk A1180
                     clear A1180
                     obtain rfl := Option.some.inj H
                     obtain ⟨Ao119, co119, eo119⟩ := Kd.R_slice HO_1.out
                     subst eo119
                     obtain ⟨Ao120, co120, eo120⟩ := Kd.R_slice HO_2.out
                     subst eo120
                     go_wp2_with (first | ((with_reducible refine gate_callee (f := 88) rfl ?_); refine goesL_ (some 109) rfl rfl Tryd.func88 (by kernel_rfl) rfl #[.slice Ao119 l1.length co119, .slice Ao120 l2.length co120, .bool a3] rfl (by (try simp only [List.map_toArray, List.map_cons, List.map_nil]); rfl) ?_; (with_reducible refine (maskref1_below.calls kj97 _ _ l1 _ _ l2 a3 false _ ?side1 ?side2 ?side3 ?side4 A108.out).mono ?_); (case side1 => repeat (exact (Kd.R_reads' HO_1.out).2.2)); (case side2 => exact (Kd.R_reads' HO_1.out).2.1); (case side3 => repeat (exact (Kd.R_reads' HO_2.out).2.2)); (case side4 => exact (Kd.R_reads' HO_2.out).2.1); rintro e w' ⟨rfl, ⟨nd, rfl⟩⟩; refine ⟨_, rfl, ?_⟩) | (go_at_call 87; (with_reducible refine (maskref1_same.calls _ _ l1 _ _ l2 t994 _ ?side1 ?side2 ?side3 ?side4 A116.out).mono ?_); (case side1 => repeat (exact (Kd.R_reads' HO_1.out).2.2)); (case side2 => exact (Kd.R_reads' HO_1.out).2.1); (case side3 => repeat (exact (Kd.R_reads' HO_2.out).2.2)); (case side4 => exact (Kd.R_reads' HO_2.out).2.1); rintro e w' ⟨rfl, ⟨nd, rfl⟩⟩) | ((with_reducible refine gate_callee (f := 86) rfl ?_); refine goesL_ (some 119) rfl rfl Tryd.func86 (by kernel_rfl) rfl #[.bool t994] rfl (by (try simp only [List.map_toArray, List.map_cons, List.map_nil]); rfl) ?_; (with_reducible refine (maskref1_truthOf.calls t994 t995 _ A117.out).mono ?_); rintro e w' ⟨rfl, ⟨nd, rfl⟩⟩; refine ⟨_, rfl, ?_⟩) | ((with_reducible refine gate_callee (f := 82) rfl ?_); refine goesL_ (some 120) rfl rfl Tryd.func82 (by kernel_rfl) rfl #[.int .u8 t995] rfl (by (try simp only [List.map_toArray, List.map_cons, List.map_nil]); rfl) ?_; (with_reducible refine (maskref1_One.calls t995 t996 _ A118.out).mono ?_); rintro e w121 ⟨v997, rfl, ho0, hb⟩; refine ⟨_, rfl, ?_⟩; have HO998 := Aside0.mk (Kd.R_lower (Kd.R_new' (Kd.R_new' (Kd.R_newM (M := fun k_ => ((P1_ k_ ∨ P2_ k_) ∨ w.heap.size ≤ k_)) ho0 (by exact HK.out.1) (fun k_ h_ => .inr h_)) (Kd.R_lt (by (with_reducible repeat (apply Kd.R_drewN)); exact HO_1.out))) (Kd.R_lt (by (with_reducible repeat (apply Kd.R_drewN)); exact HO_2.out))) (below_size (by repeat (with_reducible first | exact HB.out | apply pw_below_drewN)))); replace HO_1 := Aside0.mk (Kd.R_elder' (by (with_reducible repeat (apply Kd.R_drewN)); exact HO_1.out) (Kd.R_base ho0) hb); replace HO_2 := Aside0.mk (Kd.R_elder' (by (with_reducible repeat (apply Kd.R_drewN)); exact HO_2.out) (Kd.R_base ho0) hb); replace HK := Aside0.mk (Kept.below (S := (fun k_ => P1_ k_ ∨ P2_ k_)) (by repeat (with_reducible first | exact HK.out | apply Kept.drewN)) hb); replace HB := hb1 HB hb; (try clear hb); (try clear ho0)))
                     go_ret
                     exact ⟨_, by rfl, by exact Kd.R_mono HO998.out (fun _ hk => hk.1.1.1), by repeat (with_reducible exact HB.out), by repeat (with_reducible exact HK.out)⟩
                    ·rw [if_neg c115] at H
                     have c115b0 : (a0 == 29) = false := beq_eq_false_iff_ne.mpr c115
                     have c115b1 : (a0 != 29) = true := bne_iff_ne.mpr c115
                     replace H := Option.bind_eq_some_iff.mp H
                     obtain ⟨t999, A1220, H⟩ := H
                     replace H : ((maskref1_One.f t999).bind fun t1000 => (some t1000)) = some r := H
                     have A122 := Aside0.mk A1220
                     clear A1220
                     replace H := Option.bind_eq_some_iff.mp H
                     obtain ⟨t1000, A1230, H⟩ := H
                     replace H : (some t1000) = some r := H
                     have A123 := Aside0.mk A1230
                     clear A1230
                     obtain rfl := Option.some.inj H
                     obtain ⟨Ao124, co124, eo124⟩ := Kd.R_slice HO_1.out
                     subst eo124
                     obtain ⟨Ao125, co125, eo125⟩ := Kd.R_slice HO_2.out
                     subst eo125
                     go_wp2_with (first | ((with_reducible refine gate_callee (f := 88) rfl ?_); refine goesL_ (some 109) rfl rfl Tryd.func88 (by kernel_rfl) rfl #[.slice Ao124 l1.length co124, .slice Ao125 l2.length co125, .bool a3] rfl (by (try simp only [List.map_toArray, List.map_cons, List.map_nil]); rfl) ?_; (with_reducible refine (maskref1_below.calls kj97 _ _ l1 _ _ l2 a3 false _ ?side1 ?side2 ?side3 ?side4 A108.out).mono ?_); (case side1 => repeat (exact (Kd.R_reads' HO_1.out).2.2)); (case side2 => exact (Kd.R_reads' HO_1.out).2.1); (case side3 => repeat (exact (Kd.R_reads' HO_2.out).2.2)); (case side4 => exact (Kd.R_reads' HO_2.out).2.1); rintro e w' ⟨rfl, ⟨nd, rfl⟩⟩; refine ⟨_, rfl, ?_⟩) | ((with_reducible refine gate_callee (f := 86) rfl ?_); refine goesL_ (some 119) rfl rfl Tryd.func86 (by kernel_rfl) rfl #[.bool false] rfl (by (try simp only [List.map_toArray, List.map_cons, List.map_nil]); rfl) ?_; (with_reducible refine (maskref1_truthOf.calls false t999 _ A122.out).mono ?_); rintro e w' ⟨rfl, ⟨nd, rfl⟩⟩; refine ⟨_, rfl, ?_⟩) | ((with_reducible refine gate_callee (f := 82) rfl ?_); refine goesL_ (some 120) rfl rfl Tryd.func82 (by kernel_rfl) rfl #[.int .u8 t999] rfl (by (try simp only [List.map_toArray, List.map_cons, List.map_nil]); rfl) ?_; (with_reducible refine (maskref1_One.calls t999 t1000 _ A123.out).mono ?_); rintro e w126 ⟨v1001, rfl, ho0, hb⟩; refine ⟨_, rfl, ?_⟩; have HO1002 := Aside0.mk (Kd.R_lower (Kd.R_new' (Kd.R_new' (Kd.R_newM (M := fun k_ => ((P1_ k_ ∨ P2_ k_) ∨ w.heap.size ≤ k_)) ho0 (by exact HK.out.1) (fun k_ h_ => .inr h_)) (Kd.R_lt (by (with_reducible repeat (apply Kd.R_drewN)); exact HO_1.out))) (Kd.R_lt (by (with_reducible repeat (apply Kd.R_drewN)); exact HO_2.out))) (below_size (by repeat (with_reducible first | exact HB.out | apply pw_below_drewN)))); replace HO_1 := Aside0.mk (Kd.R_elder' (by (with_reducible repeat (apply Kd.R_drewN)); exact HO_1.out) (Kd.R_base ho0) hb); replace HO_2 := Aside0.mk (Kd.R_elder' (by (with_reducible repeat (apply Kd.R_drewN)); exact HO_2.out) (Kd.R_base ho0) hb); replace HK := Aside0.mk (Kept.below (S := (fun k_ => P1_ k_ ∨ P2_ k_)) (by repeat (with_reducible first | exact HK.out | apply Kept.drewN)) hb); replace HB := hb1 HB hb; (try clear hb); (try clear ho0)))
                     go_ret
                     exact ⟨_, by rfl, by exact Kd.R_mono HO1002.out (fun _ hk => hk.1.1.1), by repeat (with_reducible exact HB.out), by repeat (with_reducible exact HK.out)⟩
               ·replace c97 := Bool.eq_false_iff.mpr c97
                subst c97
                have H1 : ((maskref1_Number.f kj94 a0 l1 l2 a3).bind fun t1003 => (some t1003)) = some r := by rw [if_neg (show ¬ (false = true) by decide)] at H; exact H
                clear H
                have H := H1
                clear H1
                replace H := Option.bind_eq_some_iff.mp H
                obtain ⟨t1003, A1270, H⟩ := H
                replace H : (some t1003) = some r := H
                have A127 := Aside0.mk A1270
                clear A1270
                obtain rfl := Option.some.inj H
                obtain ⟨Ao128, co128, eo128⟩ := Kd.R_slice HO_1.out
                subst eo128
                obtain ⟨Ao129, co129, eo129⟩ := Kd.R_slice HO_2.out
                subst eo129
                go_wp2_with (((with_reducible refine gate_callee (f := 89) rfl ?_); refine goesL_ (some 125) rfl rfl Tryd.func89 (by kernel_rfl) rfl #[.int .i64 a0, .slice Ao128 l1.length co128, .slice Ao129 l2.length co129, .bool a3] rfl (by (try simp only [List.map_toArray, List.map_cons, List.map_nil]); rfl) ?_; (with_reducible refine (maskref1_Number.calls kj94 a0 (fun k_ => some k_ = (.slice Ao128 l1.length co128 : Value).ownBlock) (.slice Ao128 l1.length co128) l1 (fun k_ => some k_ = (.slice Ao129 l2.length co129 : Value).ownBlock) (.slice Ao129 l2.length co129) l2 a3 t1003 w0 _ ?side1 ?side2 ?side3 ?side4 ?side5 A127.out).mono ?_); (case side1 => repeat (with_reducible exact HB.out)); (case side2 => exact Kd.R_tight rfl HO_1.out); (case side3 => exact fun k_ e_ => (HO_1.out.1 k_ e_.symm).2); (case side4 => exact Kd.R_tight rfl HO_2.out); (case side5 => exact fun k_ e_ => (HO_2.out.1 k_ e_.symm).2); rintro e w130 ⟨v1004, rfl, ho0, hb, hkp⟩; refine ⟨_, rfl, ?_⟩; have HO1005 := Aside0.mk (Kd.R_mono (ok' := fun k_ => ((P1_ k_ ∨ P2_ k_) ∨ w.heap.size ≤ k_)) ho0 (fun k_ hk_ => Or.elim hk_ (fun hs_ => Or.elim hs_ (fun hs_ => (HO_1.out.1 k_ (hs_).symm).1) (fun hs_ => (HO_2.out.1 k_ (hs_).symm).1)) (fun hn_ => (.inr (Nat.le_trans (by exact HK.out.1) hn_))))); replace HK := Aside0.mk (Kept.then_ (S := (fun k_ => P1_ k_ ∨ P2_ k_)) HK.out hkp (fun k_ hs_ => Or.elim hs_ (fun e_ => (fun e_ => (HO_1.out.1 k_ e_.symm).1) e_) (fun e_ => (fun e_ => (HO_2.out.1 k_ e_.symm).1) e_))); replace HB := Aside0.mk (hb); clear HO_1 HO_2; (try clear hb); (try clear hkp); (try clear ho0)))
                go_ret
                exact ⟨_, by rfl, by exact HO1005.out, by repeat (with_reducible exact HB.out), by repeat (with_reducible exact HK.out)⟩
end Go.Proofs.YtfigblfjogpojaaDoor.PShift
end
section
namespace Go.Proofs.YtfigblfjogpojaaDoor.PShift
open Go.Proofs.YtfigblfjogpojaaDoor.PBits
open Go.RowKit Go.Proofs.YtfigblfjogpojaaDoorW.PrintWords Go.Proofs.YtfigblfjogpojaaDoorW.PrintLast Go.Proofs.YtfigblfjogpojaaDoorW.PrintMore
attribute [local go_sem] max2_int min2_int max_two min_two max_three min_three max_four min_four
set_option linter.unusedVariables false
set_option linter.unusedSimpArgs false
def masklaw1_binary.f (k : Nat) (a0 : Int) (a1_0 : Int) (a1_1 : Int) (a1_2 : Int) (a2_0 : Int) (a2_1 : Int) (a2_2 : Int) (a3 : Bool) : Option (Int × Int × Int) := if a0 = 13 then ((bits_And.f k a1_0 a1_1 a1_2 a2_0 a2_1 a2_2).bind fun bt1258 => (some (bt1258.1, bt1258.2.1, bt1258.2.2))) else (if a0 = 14 then ((bits_Or.f k a1_0 a1_1 a1_2 a2_0 a2_1 a2_2).bind fun bt1261 => (some (bt1261.1, bt1261.2.1, bt1261.2.2))) else (if a0 = 15 then ((bits_Xor.f k a1_0 a1_1 a1_2 a2_0 a2_1 a2_2).bind fun bt1264 => (some (bt1264.1, bt1264.2.1, bt1264.2.2))) else (if a0 = 11 then ((bits_LAnd.f k a1_0 a1_1 a1_2 a2_0 a2_1 a2_2).bind fun bt1267 => (some (bt1267.1, bt1267.2.1, bt1267.2.2))) else (if a0 = 12 then ((bits_LOr.f k a1_0 a1_1 a1_2 a2_0 a2_1 a2_2).bind fun bt1270 => (some (bt1270.1, bt1270.2.1, bt1270.2.2))) else (if a0 = 21 then ((bits_Shl.f k a1_0 a1_1 a1_2 a2_0 a2_1 a2_2).bind fun bt1273 => (some (bt1273.1, bt1273.2.1, bt1273.2.2))) else (if a0 = 22 then ((bits_Shr.f k a1_0 a1_1 a1_2 a2_0 a2_1 a2_2).bind fun bt1276 => (some (bt1276.1, bt1276.2.1, bt1276.2.2))) else (if a0 = 23 then ((bits_Sar.f k a1_0 a1_1 a1_2 a2_0 a2_1 a2_2).bind fun bt1279 => (some (bt1279.1, bt1279.2.1, bt1279.2.2))) else (if a0 = 24 then ((bits_Eq.f k a1_0 a1_1 a1_2 a2_0 a2_1 a2_2).bind fun bt1282 => (some (bt1282.1, bt1282.2.1, bt1282.2.2))) else (if a0 = 25 then ((bits_Ne.f k a1_0 a1_1 a1_2 a2_0 a2_1 a2_2).bind fun bt1285 => (some (bt1285.1, bt1285.2.1, bt1285.2.2))) else (if a0 = 26 then ((bits_CaseEq.f k a1_0 a1_1 a1_2 a2_0 a2_1 a2_2).bind fun bt1288 => (some (bt1288.1, bt1288.2.1, bt1288.2.2))) else (if a0 = 27 then ((bits_CaseNe.f k a1_0 a1_1 a1_2 a2_0 a2_1 a2_2).bind fun bt1291 => (some (bt1291.1, bt1291.2.1, bt1291.2.2))) else (if a0 = 28 then ((bits_Lt.f k a1_0 a1_1 a1_2 a2_0 a2_1 a2_2 a3).bind fun bt1294 => (some (bt1294.1, bt1294.2.1, bt1294.2.2))) else (if a0 = 29 then ((bits_Le.f k a1_0 a1_1 a1_2 a2_0 a2_1 a2_2 a3).bind fun bt1297 => (some (bt1297.1, bt1297.2.1, bt1297.2.2))) else (if a0 = 16 then ((bits_Add.f k a1_0 a1_1 a1_2 a2_0 a2_1 a2_2).bind fun bt1300 => (some (bt1300.1, bt1300.2.1, bt1300.2.2))) else (if a0 = 17 then ((bits_Sub.f k a1_0 a1_1 a1_2 a2_0 a2_1 a2_2).bind fun bt1303 => (some (bt1303.1, bt1303.2.1, bt1303.2.2))) else (if a0 = 18 then ((bits_Mul.f k a1_0 a1_1 a1_2 a2_0 a2_1 a2_2).bind fun bt1306 => (some (bt1306.1, bt1306.2.1, bt1306.2.2))) else (if a0 = 19 then ((bits_Div.f k a1_0 a1_1 a1_2 a2_0 a2_1 a2_2 a3).bind fun bt1309 => (some (bt1309.1, bt1309.2.1, bt1309.2.2))) else ((bits_Mod.f k a1_0 a1_1 a1_2 a2_0 a2_1 a2_2 a3).bind fun bt1312 => (some (bt1312.1, bt1312.2.1, bt1312.2.2))))))))))))))))))))
set_option maxHeartbeats 8000000 in
set_option maxRecDepth 100000 in
theorem masklaw1_binary.calls (k : Nat) (a0 : Int) (a1_0 : Int) (a1_1 : Int) (a1_2 : Int) (a2_0 : Int) (a2_1 : Int) (a2_2 : Int) (a3 : Bool) (r1 : Int) (r2 : Int) (r3 : Int) (w : World) (h : masklaw1_binary.f k a0 a1_0 a1_1 a1_2 a2_0 a2_1 a2_2 a3 = some (r1, r2, r3)) :
  Calls Tryd.prog 69 #[.int .i64 a0, .agg #[.int .i64 a1_0, .int .u64 a1_1, .int .u64 a1_2], .agg #[.int .i64 a2_0, .int .u64 a2_1, .int .u64 a2_2], .bool a3] w fun e w' => e = .returned (.agg #[.int .i64 r1, .int .u64 r2, .int .u64 r3]) ∧ Below w.heap.size w w' := by
 have hu24 := Tryd.underlying24
 have HB := Aside0.mk (Below.refl w.heap.size w)
 have H : (if a0 = 13 then ((bits_And.f k a1_0 a1_1 a1_2 a2_0 a2_1 a2_2).bind fun bt1258 => (some (bt1258.1, bt1258.2.1, bt1258.2.2))) else (if a0 = 14 then ((bits_Or.f k a1_0 a1_1 a1_2 a2_0 a2_1 a2_2).bind fun bt1261 => (some (bt1261.1, bt1261.2.1, bt1261.2.2))) else (if a0 = 15 then ((bits_Xor.f k a1_0 a1_1 a1_2 a2_0 a2_1 a2_2).bind fun bt1264 => (some (bt1264.1, bt1264.2.1, bt1264.2.2))) else (if a0 = 11 then ((bits_LAnd.f k a1_0 a1_1 a1_2 a2_0 a2_1 a2_2).bind fun bt1267 => (some (bt1267.1, bt1267.2.1, bt1267.2.2))) else (if a0 = 12 then ((bits_LOr.f k a1_0 a1_1 a1_2 a2_0 a2_1 a2_2).bind fun bt1270 => (some (bt1270.1, bt1270.2.1, bt1270.2.2))) else (if a0 = 21 then ((bits_Shl.f k a1_0 a1_1 a1_2 a2_0 a2_1 a2_2).bind fun bt1273 => (some (bt1273.1, bt1273.2.1, bt1273.2.2))) else (if a0 = 22 then ((bits_Shr.f k a1_0 a1_1 a1_2 a2_0 a2_1 a2_2).bind fun bt1276 => (some (bt1276.1, bt1276.2.1, bt1276.2.2))) else (if a0 = 23 then ((bits_Sar.f k a1_0 a1_1 a1_2 a2_0 a2_1 a2_2).bind fun bt1279 => (some (bt1279.1, bt1279.2.1, bt1279.2.2))) else (if a0 = 24 then ((bits_Eq.f k a1_0 a1_1 a1_2 a2_0 a2_1 a2_2).bind fun bt1282 => (some (bt1282.1, bt1282.2.1, bt1282.2.2))) else (if a0 = 25 then ((bits_Ne.f k a1_0 a1_1 a1_2 a2_0 a2_1 a2_2).bind fun bt1285 => (some (bt1285.1, bt1285.2.1, bt1285.2.2))) else (if a0 = 26 then ((bits_CaseEq.f k a1_0 a1_1 a1_2 a2_0 a2_1 a2_2).bind fun bt1288 => (some (bt1288.1, bt1288.2.1, bt1288.2.2))) else (if a0 = 27 then ((bits_CaseNe.f k a1_0 a1_1 a1_2 a2_0 a2_1 a2_2).bind fun bt1291 => (some (bt1291.1, bt1291.2.1, bt1291.2.2))) else (if a0 = 28 then ((bits_Lt.f k a1_0 a1_1 a1_2 a2_0 a2_1 a2_2 a3).bind fun bt1294 => (some (bt1294.1, bt1294.2.1, bt1294.2.2))) else (if a0 = 29 then ((bits_Le.f k a1_0 a1_1 a1_2 a2_0 a2_1 a2_2 a3).bind fun bt1297 => (some (bt1297.1, bt1297.2.1, bt1297.2.2))) else (if a0 = 16 then ((bits_Add.f k a1_0 a1_1 a1_2 a2_0 a2_1 a2_2).bind fun bt1300 => (some (bt1300.1, bt1300.2.1, bt1300.2.2))) else (if a0 = 17 then ((bits_Sub.f k a1_0 a1_1 a1_2 a2_0 a2_1 a2_2).bind fun bt1303 => (some (bt1303.1, bt1303.2.1, bt1303.2.2))) else (if a0 = 18 then ((bits_Mul.f k a1_0 a1_1 a1_2 a2_0 a2_1 a2_2).bind fun bt1306 => (some (bt1306.1, bt1306.2.1, bt1306.2.2))) else (if a0 = 19 then ((bits_Div.f k a1_0 a1_1 a1_2 a2_0 a2_1 a2_2 a3).bind fun bt1309 => (some (bt1309.1, bt1309.2.1, bt1309.2.2))) else ((bits_Mod.f k a1_0 a1_1 a1_2 a2_0 a2_1 a2_2 a3).bind fun bt1312 => (some (bt1312.1, bt1312.2.1, bt1312.2.2))))))))))))))))))))) = some (r1, r2, r3) := h
 clear h
 by_cases c5 : a0 = 13
 ·rw [if_pos c5] at H
  have c5b0 : (a0 == 13) = true := beq_iff_eq.mpr c5
  have c5b1 : (a0 != 13) = false := bne_eq_false_iff_eq.mpr c5
  clear c5
  replace H := Option.bind_eq_some_iff.mp H
  obtain ⟨⟨t1258, t1259, t1260⟩, A60, H⟩ := H
  replace H : (some (t1258, t1259, t1260)) = some (r1, r2, r3) := H
  have A6 := Aside0.mk A60
  clear A60
  simp only [Option.some.injEq, Prod.mk.injEq] at H
  obtain ⟨rfl, rfl, rfl⟩ := H
  go_enter Tryd.func69, Tryd.ntmps69
  go_wp2_with (first | ((with_reducible refine gate_dst (N := 5) rfl ?_); refine box_event ?hg (N := 5) ?hd (cs := #[.int .i64 a1_0, .int .u64 a1_1, .int .u64 a1_2]) (t := 24) ?hr ?_; (case hd => rfl); (case hg => rfl); (case hr => (go_simp; done)); intro gb1255 hg w7 hbox hb; have BK1255 := Aside0.mk (hbox); have GW1255 := ge1 HB hg; have GE1255 := ge1 HB hg; replace HB := hb1 HB hb; clear hb hbox hg) | ((with_reducible refine gate_dst (N := 6) rfl ?_); refine box_event ?hg (N := 6) ?hd (cs := #[.int .i64 a2_0, .int .u64 a2_1, .int .u64 a2_2]) (t := 24) ?hr ?_; (case hd => rfl); (case hg => rfl); (case hr => (go_simp; done)); intro gb1256 hg w8 hbox hb; have BK1256 := Aside0.mk (hbox); have GW1256 := ge1 HB hg; have GE1256 := ge1 HB hg; replace HB := hb1 HB hb; have NB1255_1256 := Aside0.mk ((by rw [hg]; exact Nat.ne_of_lt (blk_lt BK1255.out) : gb1255 ≠ gb1256)); have NB1256_1255 := Aside0.mk ((by rw [hg]; exact Nat.ne_of_gt (blk_lt BK1255.out) : gb1256 ≠ gb1255)); replace BK1255 := bk1 BK1255 hb; clear hb hbox hg) | ((with_reducible refine gate_dst (N := 8) rfl ?_); refine box_event ?hg (N := 8) ?hd (cs := #[.int .i64 0, .int .u64 0, .int .u64 0]) (t := 24) ?hr ?_; (case hd => rfl); (case hg => rfl); (case hr => (go_simp; done)); intro gb1257 hg w9 hbox hb; have BK1257 := Aside0.mk (hbox); have GW1257 := ge1 HB hg; have GE1257 := ge1 HB hg; replace HB := hb1 HB hb; have NB1255_1257 := Aside0.mk ((by rw [hg]; exact Nat.ne_of_lt (blk_lt BK1255.out) : gb1255 ≠ gb1257)); have NB1257_1255 := Aside0.mk ((by rw [hg]; exact Nat.ne_of_gt (blk_lt BK1255.out) : gb1257 ≠ gb1255)); replace BK1255 := bk1 BK1255 hb; have NB1256_1257 := Aside0.mk ((by rw [hg]; exact Nat.ne_of_lt (blk_lt BK1256.out) : gb1256 ≠ gb1257)); have NB1257_1256 := Aside0.mk ((by rw [hg]; exact Nat.ne_of_gt (blk_lt BK1256.out) : gb1257 ≠ gb1256)); replace BK1256 := bk1 BK1256 hb; clear hb hbox hg; have hnb10 := NB1255_1256.out; have hnc10 := NB1256_1255.out; have hnb11 := NB1255_1257.out; have hnc11 := NB1257_1255.out; have hcz12_0 : w9.cell? ⟨gb1255, 0, none⟩ = some (.int .i64 a1_0) := (blk_cell BK1255.out 0).trans rfl; have hcz12_1 : w9.cell? ⟨gb1255, 1, none⟩ = some (.int .u64 a1_1) := (blk_cell BK1255.out 1).trans rfl; have hcz12_2 : w9.cell? ⟨gb1255, 2, none⟩ = some (.int .u64 a1_2) := (blk_cell BK1255.out 2).trans rfl; have hfz12_0 := blk_frozen BK1255.out 0; have hfz12_1 := blk_frozen BK1255.out 1; have hfz12_2 := blk_frozen BK1255.out 2; have hnb13 := NB1256_1257.out; have hnc13 := NB1257_1256.out; have hcz14_0 : w9.cell? ⟨gb1256, 0, none⟩ = some (.int .i64 a2_0) := (blk_cell BK1256.out 0).trans rfl; have hcz14_1 : w9.cell? ⟨gb1256, 1, none⟩ = some (.int .u64 a2_1) := (blk_cell BK1256.out 1).trans rfl; have hcz14_2 : w9.cell? ⟨gb1256, 2, none⟩ = some (.int .u64 a2_2) := (blk_cell BK1256.out 2).trans rfl; have hfz14_0 := blk_frozen BK1256.out 0; have hfz14_1 := blk_frozen BK1256.out 1; have hfz14_2 := blk_frozen BK1256.out 2) | ((with_reducible refine gate_callee (f := 90) rfl ?_); refine goesL_ (some 14) rfl rfl Tryd.func90 (by kernel_rfl) rfl #[.agg #[.int .i64 a1_0, .int .u64 a1_1, .int .u64 a1_2], .agg #[.int .i64 a2_0, .int .u64 a2_1, .int .u64 a2_2]] rfl (by (try simp only [List.map_toArray, List.map_cons, List.map_nil]); rfl) ?_; (with_reducible refine (bits_And.calls k a1_0 a1_1 a1_2 a2_0 a2_1 a2_2 t1258 t1259 t1260 _ A6.out).mono ?_); rintro e w15 ⟨rfl, hb⟩; refine ⟨_, rfl, ?_⟩; replace BK1255 := bk1 BK1255 hb; replace BK1256 := bk1 BK1256 hb; replace BK1257 := bk1 BK1257 hb; replace HB := hb1 HB hb; (try clear hb); have hcz16_0 : w15.cell? ⟨gb1257, 0, none⟩ = some (.int .i64 0) := (blk_cell BK1257.out 0).trans rfl; have hcz16_1 : w15.cell? ⟨gb1257, 1, none⟩ = some (.int .u64 0) := (blk_cell BK1257.out 1).trans rfl; have hcz16_2 : w15.cell? ⟨gb1257, 2, none⟩ = some (.int .u64 0) := (blk_cell BK1257.out 2).trans rfl; have hfz16_0 := blk_frozen BK1257.out 0; have hfz16_1 := blk_frozen BK1257.out 1; have hfz16_2 := blk_frozen BK1257.out 2))
  refine bodyPost_ret (results_cell_row rfl _ _ gb1257 24 #[.int .i64 t1258, .int .u64 t1259, .int .u64 t1260] (0, 0) _ rfl (by refine blk_put (cs := #[.int .i64 t1258, .int .u64 t1259, .int .u64 0]) ?_ 2 _ rfl; refine blk_put (cs := #[.int .i64 t1258, .int .u64 0, .int .u64 0]) ?_ 1 _ rfl; refine blk_put (cs := #[.int .i64 0, .int .u64 0, .int .u64 0]) ?_ 0 _ rfl; exact BK1257.out) Tryd.underlying24 rfl (by kernel_rfl)) rfl ?_
  exact ⟨by rfl, by repeat (with_reducible first | exact HB.out | refine below_set ?_ GE1257.out)⟩
 ·rw [if_neg c5] at H
  have c5b0 : (a0 == 13) = false := beq_eq_false_iff_ne.mpr c5
  have c5b1 : (a0 != 13) = true := bne_iff_ne.mpr c5
  by_cases c17 : a0 = 14
  ·rw [if_pos c17] at H
   have c17b0 : (a0 == 14) = true := beq_iff_eq.mpr c17
   have c17b1 : (a0 != 14) = false := bne_eq_false_iff_eq.mpr c17
   clear c17
   replace H := Option.bind_eq_some_iff.mp H
   obtain ⟨⟨t1261, t1262, t1263⟩, A180, H⟩ := H
   replace H : (some (t1261, t1262, t1263)) = some (r1, r2, r3) := H
   have A18 := Aside0.mk A180
   clear A180
   simp only [Option.some.injEq, Prod.mk.injEq] at H
   obtain ⟨rfl, rfl, rfl⟩ := H
   go_enter Tryd.func69, Tryd.ntmps69
   go_wp2_with (first | ((with_reducible refine gate_dst (N := 5) rfl ?_); refine box_event ?hg (N := 5) ?hd (cs := #[.int .i64 a1_0, .int .u64 a1_1, .int .u64 a1_2]) (t := 24) ?hr ?_; (case hd => rfl); (case hg => rfl); (case hr => (go_simp; done)); intro gb1255 hg w19 hbox hb; have BK1255 := Aside0.mk (hbox); have GW1255 := ge1 HB hg; have GE1255 := ge1 HB hg; replace HB := hb1 HB hb; clear hb hbox hg) | ((with_reducible refine gate_dst (N := 6) rfl ?_); refine box_event ?hg (N := 6) ?hd (cs := #[.int .i64 a2_0, .int .u64 a2_1, .int .u64 a2_2]) (t := 24) ?hr ?_; (case hd => rfl); (case hg => rfl); (case hr => (go_simp; done)); intro gb1256 hg w20 hbox hb; have BK1256 := Aside0.mk (hbox); have GW1256 := ge1 HB hg; have GE1256 := ge1 HB hg; replace HB := hb1 HB hb; have NB1255_1256 := Aside0.mk ((by rw [hg]; exact Nat.ne_of_lt (blk_lt BK1255.out) : gb1255 ≠ gb1256)); have NB1256_1255 := Aside0.mk ((by rw [hg]; exact Nat.ne_of_gt (blk_lt BK1255.out) : gb1256 ≠ gb1255)); replace BK1255 := bk1 BK1255 hb; clear hb hbox hg) | ((with_reducible refine gate_dst (N := 8) rfl ?_); refine box_event ?hg (N := 8) ?hd (cs := #[.int .i64 0, .int .u64 0, .int .u64 0]) (t := 24) ?hr ?_; (case hd => rfl); (case hg => rfl); (case hr => (go_simp; done)); intro gb1257 hg w21 hbox hb; have BK1257 := Aside0.mk (hbox); have GW1257 := ge1 HB hg; have GE1257 := ge1 HB hg; replace HB := hb1 HB hb; have NB1255_1257 := Aside0.mk ((by rw [hg]; exact Nat.ne_of_lt (blk_lt BK1255.out) : gb1255 ≠ gb1257)); have NB1257_1255 := Aside0.mk ((by rw [hg]; exact Nat.ne_of_gt (blk_lt BK1255.out) : gb1257 ≠ gb1255)); replace BK1255 := bk1 BK1255 hb; have NB1256_1257 := Aside0.mk ((by rw [hg]; exact Nat.ne_of_lt (blk_lt BK1256.out) : gb1256 ≠ gb1257)); have NB1257_1256 := Aside0.mk ((by rw [hg]; exact Nat.ne_of_gt (blk_lt BK1256.out) : gb1257 ≠ gb1256)); replace BK1256 := bk1 BK1256 hb; clear hb hbox hg; have hnb22 := NB1255_1256.out; have hnc22 := NB1256_1255.out; have hnb23 := NB1255_1257.out; have hnc23 := NB1257_1255.out; have hcz24_0 : w21.cell? ⟨gb1255, 0, none⟩ = some (.int .i64 a1_0) := (blk_cell BK1255.out 0).trans rfl; have hcz24_1 : w21.cell? ⟨gb1255, 1, none⟩ = some (.int .u64 a1_1) := (blk_cell BK1255.out 1).trans rfl; have hcz24_2 : w21.cell? ⟨gb1255, 2, none⟩ = some (.int .u64 a1_2) := (blk_cell BK1255.out 2).trans rfl; have hfz24_0 := blk_frozen BK1255.out 0; have hfz24_1 := blk_frozen BK1255.out 1; have hfz24_2 := blk_frozen BK1255.out 2; have hnb25 := NB1256_1257.out; have hnc25 := NB1257_1256.out; have hcz26_0 : w21.cell? ⟨gb1256, 0, none⟩ = some (.int .i64 a2_0) := (blk_cell BK1256.out 0).trans rfl; have hcz26_1 : w21.cell? ⟨gb1256, 1, none⟩ = some (.int .u64 a2_1) := (blk_cell BK1256.out 1).trans rfl; have hcz26_2 : w21.cell? ⟨gb1256, 2, none⟩ = some (.int .u64 a2_2) := (blk_cell BK1256.out 2).trans rfl; have hfz26_0 := blk_frozen BK1256.out 0; have hfz26_1 := blk_frozen BK1256.out 1; have hfz26_2 := blk_frozen BK1256.out 2) | ((with_reducible refine gate_callee (f := 91) rfl ?_); refine goesL_ (some 19) rfl rfl Tryd.func91 (by kernel_rfl) rfl #[.agg #[.int .i64 a1_0, .int .u64 a1_1, .int .u64 a1_2], .agg #[.int .i64 a2_0, .int .u64 a2_1, .int .u64 a2_2]] rfl (by (try simp only [List.map_toArray, List.map_cons, List.map_nil]); rfl) ?_; (with_reducible refine (bits_Or.calls k a1_0 a1_1 a1_2 a2_0 a2_1 a2_2 t1261 t1262 t1263 _ A18.out).mono ?_); rintro e w27 ⟨rfl, hb⟩; refine ⟨_, rfl, ?_⟩; replace BK1255 := bk1 BK1255 hb; replace BK1256 := bk1 BK1256 hb; replace BK1257 := bk1 BK1257 hb; replace HB := hb1 HB hb; (try clear hb); have hcz28_0 : w27.cell? ⟨gb1257, 0, none⟩ = some (.int .i64 0) := (blk_cell BK1257.out 0).trans rfl; have hcz28_1 : w27.cell? ⟨gb1257, 1, none⟩ = some (.int .u64 0) := (blk_cell BK1257.out 1).trans rfl; have hcz28_2 : w27.cell? ⟨gb1257, 2, none⟩ = some (.int .u64 0) := (blk_cell BK1257.out 2).trans rfl; have hfz28_0 := blk_frozen BK1257.out 0; have hfz28_1 := blk_frozen BK1257.out 1; have hfz28_2 := blk_frozen BK1257.out 2))
   refine bodyPost_ret (results_cell_row rfl _ _ gb1257 24 #[.int .i64 t1261, .int .u64 t1262, .int .u64 t1263] (0, 0) _ rfl (by refine blk_put (cs := #[.int .i64 t1261, .int .u64 t1262, .int .u64 0]) ?_ 2 _ rfl; refine blk_put (cs := #[.int .i64 t1261, .int .u64 0, .int .u64 0]) ?_ 1 _ rfl; refine blk_put (cs := #[.int .i64 0, .int .u64 0, .int .u64 0]) ?_ 0 _ rfl; exact BK1257.out) Tryd.underlying24 rfl (by kernel_rfl)) rfl ?_
   exact ⟨by rfl, by repeat (with_reducible first | exact HB.out | refine below_set ?_ GE1257.out)⟩
  ·rw [if_neg c17] at H
   have c17b0 : (a0 == 14) = false := beq_eq_false_iff_ne.mpr c17
   have c17b1 : (a0 != 14) = true := bne_iff_ne.mpr c17
   by_cases c29 : a0 = 15
   ·rw [if_pos c29] at H
    have c29b0 : (a0 == 15) = true := beq_iff_eq.mpr c29
    have c29b1 : (a0 != 15) = false := bne_eq_false_iff_eq.mpr c29
    clear c29
    replace H := Option.bind_eq_some_iff.mp H
    obtain ⟨⟨t1264, t1265, t1266⟩, A300, H⟩ := H
    replace H : (some (t1264, t1265, t1266)) = some (r1, r2, r3) := H
    have A30 := Aside0.mk A300
    clear A300
    simp only [Option.some.injEq, Prod.mk.injEq] at H
    obtain ⟨rfl, rfl, rfl⟩ := H
    go_enter Tryd.func69, Tryd.ntmps69
    go_wp2_with (first | ((with_reducible refine gate_dst (N := 5) rfl ?_); refine box_event ?hg (N := 5) ?hd (cs := #[.int .i64 a1_0, .int .u64 a1_1, .int .u64 a1_2]) (t := 24) ?hr ?_; (case hd => rfl); (case hg => rfl); (case hr => (go_simp; done)); intro gb1255 hg w31 hbox hb; have BK1255 := Aside0.mk (hbox); have GW1255 := ge1 HB hg; have GE1255 := ge1 HB hg; replace HB := hb1 HB hb; clear hb hbox hg) | ((with_reducible refine gate_dst (N := 6) rfl ?_); refine box_event ?hg (N := 6) ?hd (cs := #[.int .i64 a2_0, .int .u64 a2_1, .int .u64 a2_2]) (t := 24) ?hr ?_; (case hd => rfl); (case hg => rfl); (case hr => (go_simp; done)); intro gb1256 hg w32 hbox hb; have BK1256 := Aside0.mk (hbox); have GW1256 := ge1 HB hg; have GE1256 := ge1 HB hg; replace HB := hb1 HB hb; have NB1255_1256 := Aside0.mk ((by rw [hg]; exact Nat.ne_of_lt (blk_lt BK1255.out) : gb1255 ≠ gb1256)); have NB1256_1255 := Aside0.mk ((by rw [hg]; exact Nat.ne_of_gt (blk_lt BK1255.out) : gb1256 ≠ gb1255)); replace BK1255 := bk1 BK1255 hb; clear hb hbox hg) | ((with_reducible refine gate_dst (N := 8) rfl ?_); refine box_event ?hg (N := 8) ?hd (cs := #[.int .i64 0, .int .u64 0, .int .u64 0]) (t := 24) ?hr ?_; (case hd => rfl); (case hg => rfl); (case hr => (go_simp; done)); intro gb1257 hg w33 hbox hb; have BK1257 := Aside0.mk (hbox); have GW1257 := ge1 HB hg; have GE1257 := ge1 HB hg; replace HB := hb1 HB hb; have NB1255_1257 := Aside0.mk ((by rw [hg]; exact Nat.ne_of_lt (blk_lt BK1255.out) : gb1255 ≠ gb1257)); have NB1257_1255 := Aside0.mk ((by rw [hg]; exact Nat.ne_of_gt (blk_lt BK1255.out) : gb1257 ≠ gb1255)); replace BK1255 := bk1 BK1255 hb; have NB1256_1257 := Aside0.mk ((by rw [hg]; exact Nat.ne_of_lt (blk_lt BK1256.out) : gb1256 ≠ gb1257)); have NB1257_1256 := Aside0.mk ((by rw [hg]; exact Nat.ne_of_gt (blk_lt BK1256.out) : gb1257 ≠ gb1256)); replace BK1256 := bk1 BK1256 hb; clear hb hbox hg; have hnb34 := NB1255_1256.out; have hnc34 := NB1256_1255.out; have hnb35 := NB1255_1257.out; have hnc35 := NB1257_1255.out; have hcz36_0 : w33.cell? ⟨gb1255, 0, none⟩ = some (.int .i64 a1_0) := (blk_cell BK1255.out 0).trans rfl; have hcz36_1 : w33.cell? ⟨gb1255, 1, none⟩ = some (.int .u64 a1_1) := (blk_cell BK1255.out 1).trans rfl; have hcz36_2 : w33.cell? ⟨gb1255, 2, none⟩ = some (.int .u64 a1_2) := (blk_cell BK1255.out 2).trans rfl; have hfz36_0 := blk_frozen BK1255.out 0; have hfz36_1 := blk_frozen BK1255.out 1; have hfz36_2 := blk_frozen BK1255.out 2; have hnb37 := NB1256_1257.out; have hnc37 := NB1257_1256.out; have hcz38_0 : w33.cell? ⟨gb1256, 0, none⟩ = some (.int .i64 a2_0) := (blk_cell BK1256.out 0).trans rfl; have hcz38_1 : w33.cell? ⟨gb1256, 1, none⟩ = some (.int .u64 a2_1) := (blk_cell BK1256.out 1).trans rfl; have hcz38_2 : w33.cell? ⟨gb1256, 2, none⟩ = some (.int .u64 a2_2) := (blk_cell BK1256.out 2).trans rfl; have hfz38_0 := blk_frozen BK1256.out 0; have hfz38_1 := blk_frozen BK1256.out 1; have hfz38_2 := blk_frozen BK1256.out 2) | ((with_reducible refine gate_callee (f := 92) rfl ?_); refine goesL_ (some 24) rfl rfl Tryd.func92 (by kernel_rfl) rfl #[.agg #[.int .i64 a1_0, .int .u64 a1_1, .int .u64 a1_2], .agg #[.int .i64 a2_0, .int .u64 a2_1, .int .u64 a2_2]] rfl (by (try simp only [List.map_toArray, List.map_cons, List.map_nil]); rfl) ?_; (with_reducible refine (bits_Xor.calls k a1_0 a1_1 a1_2 a2_0 a2_1 a2_2 t1264 t1265 t1266 _ A30.out).mono ?_); rintro e w39 ⟨rfl, hb⟩; refine ⟨_, rfl, ?_⟩; replace BK1255 := bk1 BK1255 hb; replace BK1256 := bk1 BK1256 hb; replace BK1257 := bk1 BK1257 hb; replace HB := hb1 HB hb; (try clear hb); have hcz40_0 : w39.cell? ⟨gb1257, 0, none⟩ = some (.int .i64 0) := (blk_cell BK1257.out 0).trans rfl; have hcz40_1 : w39.cell? ⟨gb1257, 1, none⟩ = some (.int .u64 0) := (blk_cell BK1257.out 1).trans rfl; have hcz40_2 : w39.cell? ⟨gb1257, 2, none⟩ = some (.int .u64 0) := (blk_cell BK1257.out 2).trans rfl; have hfz40_0 := blk_frozen BK1257.out 0; have hfz40_1 := blk_frozen BK1257.out 1; have hfz40_2 := blk_frozen BK1257.out 2))
    refine bodyPost_ret (results_cell_row rfl _ _ gb1257 24 #[.int .i64 t1264, .int .u64 t1265, .int .u64 t1266] (0, 0) _ rfl (by refine blk_put (cs := #[.int .i64 t1264, .int .u64 t1265, .int .u64 0]) ?_ 2 _ rfl; refine blk_put (cs := #[.int .i64 t1264, .int .u64 0, .int .u64 0]) ?_ 1 _ rfl; refine blk_put (cs := #[.int .i64 0, .int .u64 0, .int .u64 0]) ?_ 0 _ rfl; exact BK1257.out) Tryd.underlying24 rfl (by kernel_rfl)) rfl ?_
    exact ⟨by rfl, by repeat (with_reducible first | exact HB.out | refine below_set ?_ GE1257.out)⟩
   ·rw [if_neg c29] at H
    have c29b0 : (a0 == 15) = false := beq_eq_false_iff_ne.mpr c29
    have c29b1 : (a0 != 15) = true := bne_iff_ne.mpr c29
    by_cases c41 : a0 = 11
    ·rw [if_pos c41] at H
     have c41b0 : (a0 == 11) = true := beq_iff_eq.mpr c41
     have c41b1 : (a0 != 11) = false := bne_eq_false_iff_eq.mpr c41
     clear c41
     replace H := Option.bind_eq_some_iff.mp H
     obtain ⟨⟨t1267, t1268, t1269⟩, A420, H⟩ := H
     replace H : (some (t1267, t1268, t1269)) = some (r1, r2, r3) := H
     have A42 := Aside0.mk A420
     clear A420
     simp only [Option.some.injEq, Prod.mk.injEq] at H
     obtain ⟨rfl, rfl, rfl⟩ := H
     go_enter Tryd.func69, Tryd.ntmps69
     go_wp2_with (first | ((with_reducible refine gate_dst (N := 5) rfl ?_); refine box_event ?hg (N := 5) ?hd (cs := #[.int .i64 a1_0, .int .u64 a1_1, .int .u64 a1_2]) (t := 24) ?hr ?_; (case hd => rfl); (case hg => rfl); (case hr => (go_simp; done)); intro gb1255 hg w43 hbox hb; have BK1255 := Aside0.mk (hbox); have GW1255 := ge1 HB hg; have GE1255 := ge1 HB hg; replace HB := hb1 HB hb; clear hb hbox hg) | ((with_reducible refine gate_dst (N := 6) rfl ?_); refine box_event ?hg (N := 6) ?hd (cs := #[.int .i64 a2_0, .int .u64 a2_1, .int .u64 a2_2]) (t := 24) ?hr ?_; (case hd => rfl); (case hg => rfl); (case hr => (go_simp; done)); intro gb1256 hg w44 hbox hb; have BK1256 := Aside0.mk (hbox); have GW1256 := ge1 HB hg; have GE1256 := ge1 HB hg; replace HB := hb1 HB hb; have NB1255_1256 := Aside0.mk ((by rw [hg]; exact Nat.ne_of_lt (blk_lt BK1255.out) : gb1255 ≠ gb1256)); have NB1256_1255 := Aside0.mk ((by rw [hg]; exact Nat.ne_of_gt (blk_lt BK1255.out) : gb1256 ≠ gb1255)); replace BK1255 := bk1 BK1255 hb; clear hb hbox hg) | ((with_reducible refine gate_dst (N := 8) rfl ?_); refine box_event ?hg (N := 8) ?hd (cs := #[.int .i64 0, .int .u64 0, .int .u64 0]) (t := 24) ?hr ?_; (case hd => rfl); (case hg => rfl); (case hr => (go_simp; done)); intro gb1257 hg w45 hbox hb; have BK1257 := Aside0.mk (hbox); have GW1257 := ge1 HB hg; have GE1257 := ge1 HB hg; replace HB := hb1 HB hb; have NB1255_1257 := Aside0.mk ((by rw [hg]; exact Nat.ne_of_lt (blk_lt BK1255.out) : gb1255 ≠ gb1257)); have NB1257_1255 := Aside0.mk ((by rw [hg]; exact Nat.ne_of_gt (blk_lt BK1255.out) : gb1257 ≠ gb1255)); replace BK1255 := bk1 BK1255 hb; have NB1256_1257 := Aside0.mk ((by rw [hg]; exact Nat.ne_of_lt (blk_lt BK1256.out) : gb1256 ≠ gb1257)); have NB1257_1256 := Aside0.mk ((by rw [hg]; exact Nat.ne_of_gt (blk_lt BK1256.out) : gb1257 ≠ gb1256)); replace BK1256 := bk1 BK1256 hb; clear hb hbox hg; have hnb46 := NB1255_1256.out; have hnc46 := NB1256_1255.out; have hnb47 := NB1255_1257.out; have hnc47 := NB1257_1255.out; have hcz48_0 : w45.cell? ⟨gb1255, 0, none⟩ = some (.int .i64 a1_0) := (blk_cell BK1255.out 0).trans rfl; have hcz48_1 : w45.cell? ⟨gb1255, 1, none⟩ = some (.int .u64 a1_1) := (blk_cell BK1255.out 1).trans rfl; have hcz48_2 : w45.cell? ⟨gb1255, 2, none⟩ = some (.int .u64 a1_2) := (blk_cell BK1255.out 2).trans rfl; have hfz48_0 := blk_frozen BK1255.out 0; have hfz48_1 := blk_frozen BK1255.out 1; have hfz48_2 := blk_frozen BK1255.out 2; have hnb49 := NB1256_1257.out; have hnc49 := NB1257_1256.out; have hcz50_0 : w45.cell? ⟨gb1256, 0, none⟩ = some (.int .i64 a2_0) := (blk_cell BK1256.out 0).trans rfl; have hcz50_1 : w45.cell? ⟨gb1256, 1, none⟩ = some (.int .u64 a2_1) := (blk_cell BK1256.out 1).trans rfl; have hcz50_2 : w45.cell? ⟨gb1256, 2, none⟩ = some (.int .u64 a2_2) := (blk_cell BK1256.out 2).trans rfl; have hfz50_0 := blk_frozen BK1256.out 0; have hfz50_1 := blk_frozen BK1256.out 1; have hfz50_2 := blk_frozen BK1256.out 2) | ((with_reducible refine gate_callee (f := 93) rfl ?_); refine goesL_ (some 29) rfl rfl Tryd.func93 (by kernel_rfl) rfl #[.agg #[.int .i64 a1_0, .int .u64 a1_1, .int .u64 a1_2], .agg #[.int .i64 a2_0, .int .u64 a2_1, .int .u64 a2_2]] rfl (by (try simp only [List.map_toArray, List.map_cons, List.map_nil]); rfl) ?_; (with_reducible refine (bits_LAnd.calls k a1_0 a1_1 a1_2 a2_0 a2_1 a2_2 t1267 t1268 t1269 _ A42.out).mono ?_); rintro e w51 ⟨rfl, hb⟩; refine ⟨_, rfl, ?_⟩; replace BK1255 := bk1 BK1255 hb; replace BK1256 := bk1 BK1256 hb; replace BK1257 := bk1 BK1257 hb; replace HB := hb1 HB hb; (try clear hb); have hcz52_0 : w51.cell? ⟨gb1257, 0, none⟩ = some (.int .i64 0) := (blk_cell BK1257.out 0).trans rfl; have hcz52_1 : w51.cell? ⟨gb1257, 1, none⟩ = some (.int .u64 0) := (blk_cell BK1257.out 1).trans rfl; have hcz52_2 : w51.cell? ⟨gb1257, 2, none⟩ = some (.int .u64 0) := (blk_cell BK1257.out 2).trans rfl; have hfz52_0 := blk_frozen BK1257.out 0; have hfz52_1 := blk_frozen BK1257.out 1; have hfz52_2 := blk_frozen BK1257.out 2))
     refine bodyPost_ret (results_cell_row rfl _ _ gb1257 24 #[.int .i64 t1267, .int .u64 t1268, .int .u64 t1269] (0, 0) _ rfl (by refine blk_put (cs := #[.int .i64 t1267, .int .u64 t1268, .int .u64 0]) ?_ 2 _ rfl; refine blk_put (cs := #[.int .i64 t1267, .int .u64 0, .int .u64 0]) ?_ 1 _ rfl; refine blk_put (cs := #[.int .i64 0, .int .u64 0, .int .u64 0]) ?_ 0 _ rfl; exact BK1257.out) Tryd.underlying24 rfl (by kernel_rfl)) rfl ?_
     exact ⟨by rfl, by repeat (with_reducible first | exact HB.out | refine below_set ?_ GE1257.out)⟩
    ·rw [if_neg c41] at H
     have c41b0 : (a0 == 11) = false := beq_eq_false_iff_ne.mpr c41
     have c41b1 : (a0 != 11) = true := bne_iff_ne.mpr c41
     by_cases c53 : a0 = 12
     ·rw [if_pos c53] at H
      have c53b0 : (a0 == 12) = true := beq_iff_eq.mpr c53
      have c53b1 : (a0 != 12) = false := bne_eq_false_iff_eq.mpr c53
      clear c53
      replace H := Option.bind_eq_some_iff.mp H
      obtain ⟨⟨t1270, t1271, t1272⟩, A540, H⟩ := H
      replace H : (some (t1270, t1271, t1272)) = some (r1, r2, r3) := H
      have A54 := Aside0.mk A540
      clear A540
      simp only [Option.some.injEq, Prod.mk.injEq] at H
      obtain ⟨rfl, rfl, rfl⟩ := H
      go_enter Tryd.func69, Tryd.ntmps69
      go_wp2_with (first | ((with_reducible refine gate_dst (N := 5) rfl ?_); refine box_event ?hg (N := 5) ?hd (cs := #[.int .i64 a1_0, .int .u64 a1_1, .int .u64 a1_2]) (t := 24) ?hr ?_; (case hd => rfl); (case hg => rfl); (case hr => (go_simp; done)); intro gb1255 hg w55 hbox hb; have BK1255 := Aside0.mk (hbox); have GW1255 := ge1 HB hg; have GE1255 := ge1 HB hg; replace HB := hb1 HB hb; clear hb hbox hg) | ((with_reducible refine gate_dst (N := 6) rfl ?_); refine box_event ?hg (N := 6) ?hd (cs := #[.int .i64 a2_0, .int .u64 a2_1, .int .u64 a2_2]) (t := 24) ?hr ?_; (case hd => rfl); (case hg => rfl); (case hr => (go_simp; done)); intro gb1256 hg w56 hbox hb; have BK1256 := Aside0.mk (hbox); have GW1256 := ge1 HB hg; have GE1256 := ge1 HB hg; replace HB := hb1 HB hb; have NB1255_1256 := Aside0.mk ((by rw [hg]; exact Nat.ne_of_lt (blk_lt BK1255.out) : gb1255 ≠ gb1256)); have NB1256_1255 := Aside0.mk ((by rw [hg]; exact Nat.ne_of_gt (blk_lt BK1255.out) : gb1256 ≠ gb1255)); replace BK1255 := bk1 BK1255 hb; clear hb hbox hg) | ((with_reducible refine gate_dst (N := 8) rfl ?_); refine box_event ?hg (N := 8) ?hd (cs := #[.int .i64 0, .int .u64 0, .int .u64 0]) (t := 24) ?hr ?_; (case hd => rfl); (case hg => rfl); (case hr => (go_simp; done)); intro gb1257 hg w57 hbox hb; have BK1257 := Aside0.mk (hbox); have GW1257 := ge1 HB hg; have GE1257 := ge1 HB hg; replace HB := hb1 HB hb; have NB1255_1257 := Aside0.mk ((by rw [hg]; exact Nat.ne_of_lt (blk_lt BK1255.out) : gb1255 ≠ gb1257)); have NB1257_1255 := Aside0.mk ((by rw [hg]; exact Nat.ne_of_gt (blk_lt BK1255.out) : gb1257 ≠ gb1255)); replace BK1255 := bk1 BK1255 hb; have NB1256_1257 := Aside0.mk ((by rw [hg]; exact Nat.ne_of_lt (blk_lt BK1256.out) : gb1256 ≠ gb1257)); have NB1257_1256 := Aside0.mk ((by rw [hg]; exact Nat.ne_of_gt (blk_lt BK1256.out) : gb1257 ≠ gb1256)); replace BK1256 := bk1 BK1256 hb; clear hb hbox hg; have hnb58 := NB1255_1256.out; have hnc58 := NB1256_1255.out; have hnb59 := NB1255_1257.out; have hnc59 := NB1257_1255.out; have hcz60_0 : w57.cell? ⟨gb1255, 0, none⟩ = some (.int .i64 a1_0) := (blk_cell BK1255.out 0).trans rfl; have hcz60_1 : w57.cell? ⟨gb1255, 1, none⟩ = some (.int .u64 a1_1) := (blk_cell BK1255.out 1).trans rfl; have hcz60_2 : w57.cell? ⟨gb1255, 2, none⟩ = some (.int .u64 a1_2) := (blk_cell BK1255.out 2).trans rfl; have hfz60_0 := blk_frozen BK1255.out 0; have hfz60_1 := blk_frozen BK1255.out 1; have hfz60_2 := blk_frozen BK1255.out 2; have hnb61 := NB1256_1257.out; have hnc61 := NB1257_1256.out; have hcz62_0 : w57.cell? ⟨gb1256, 0, none⟩ = some (.int .i64 a2_0) := (blk_cell BK1256.out 0).trans rfl; have hcz62_1 : w57.cell? ⟨gb1256, 1, none⟩ = some (.int .u64 a2_1) := (blk_cell BK1256.out 1).trans rfl; have hcz62_2 : w57.cell? ⟨gb1256, 2, none⟩ = some (.int .u64 a2_2) := (blk_cell BK1256.out 2).trans rfl; have hfz62_0 := blk_frozen BK1256.out 0; have hfz62_1 := blk_frozen BK1256.out 1; have hfz62_2 := blk_frozen BK1256.out 2) | ((with_reducible refine gate_callee (f := 94) rfl ?_); refine goesL_ (some 34) rfl rfl Tryd.func94 (by kernel_rfl) rfl #[.agg #[.int .i64 a1_0, .int .u64 a1_1, .int .u64 a1_2], .agg #[.int .i64 a2_0, .int .u64 a2_1, .int .u64 a2_2]] rfl (by (try simp only [List.map_toArray, List.map_cons, List.map_nil]); rfl) ?_; (with_reducible refine (bits_LOr.calls k a1_0 a1_1 a1_2 a2_0 a2_1 a2_2 t1270 t1271 t1272 _ A54.out).mono ?_); rintro e w63 ⟨rfl, hb⟩; refine ⟨_, rfl, ?_⟩; replace BK1255 := bk1 BK1255 hb; replace BK1256 := bk1 BK1256 hb; replace BK1257 := bk1 BK1257 hb; replace HB := hb1 HB hb; (try clear hb); have hcz64_0 : w63.cell? ⟨gb1257, 0, none⟩ = some (.int .i64 0) := (blk_cell BK1257.out 0).trans rfl; have hcz64_1 : w63.cell? ⟨gb1257, 1, none⟩ = some (.int .u64 0) := (blk_cell BK1257.out 1).trans rfl; have hcz64_2 : w63.cell? ⟨gb1257, 2, none⟩ = some (.int .u64 0) := (blk_cell BK1257.out 2).trans rfl; have hfz64_0 := blk_frozen BK1257.out 0; have hfz64_1 := blk_frozen BK1257.out 1; have hfz64_2 := blk_frozen BK1257.out 2))
      refine bodyPost_ret (results_cell_row rfl _ _ gb1257 24 #[.int .i64 t1270, .int .u64 t1271, .int .u64 t1272] (0, 0) _ rfl (by refine blk_put (cs := #[.int .i64 t1270, .int .u64 t1271, .int .u64 0]) ?_ 2 _ rfl; refine blk_put (cs := #[.int .i64 t1270, .int .u64 0, .int .u64 0]) ?_ 1 _ rfl; refine blk_put (cs := #[.int .i64 0, .int .u64 0, .int .u64 0]) ?_ 0 _ rfl; exact BK1257.out) Tryd.underlying24 rfl (by kernel_rfl)) rfl ?_
      exact ⟨by rfl, by repeat (with_reducible first | exact HB.out | refine below_set ?_ GE1257.out)⟩
     ·rw [if_neg c53] at H
      have c53b0 : (a0 == 12) = false := beq_eq_false_iff_ne.mpr c53
      have c53b1 : (a0 != 12) = true := bne_iff_ne.mpr c53
      by_cases c65 : a0 = 21
      ·rw [if_pos c65] at H
       have c65b0 : (a0 == 21) = true := beq_iff_eq.mpr c65
       have c65b1 : (a0 != 21) = false := bne_eq_false_iff_eq.mpr c65
       clear c65
       replace H := Option.bind_eq_some_iff.mp H
       obtain ⟨⟨t1273, t1274, t1275⟩, A660, H⟩ := H
       replace H : (some (t1273, t1274, t1275)) = some (r1, r2, r3) := H
       have A66 := Aside0.mk A660
       clear A660
       simp only [Option.some.injEq, Prod.mk.injEq] at H
       obtain ⟨rfl, rfl, rfl⟩ := H
       go_enter Tryd.func69, Tryd.ntmps69
       go_wp2_with (first | ((with_reducible refine gate_dst (N := 5) rfl ?_); refine box_event ?hg (N := 5) ?hd (cs := #[.int .i64 a1_0, .int .u64 a1_1, .int .u64 a1_2]) (t := 24) ?hr ?_; (case hd => rfl); (case hg => rfl); (case hr => (go_simp; done)); intro gb1255 hg w67 hbox hb; have BK1255 := Aside0.mk (hbox); have GW1255 := ge1 HB hg; have GE1255 := ge1 HB hg; replace HB := hb1 HB hb; clear hb hbox hg) | ((with_reducible refine gate_dst (N := 6) rfl ?_); refine box_event ?hg (N := 6) ?hd (cs := #[.int .i64 a2_0, .int .u64 a2_1, .int .u64 a2_2]) (t := 24) ?hr ?_; (case hd => rfl); (case hg => rfl); (case hr => (go_simp; done)); intro gb1256 hg w68 hbox hb; have BK1256 := Aside0.mk (hbox); have GW1256 := ge1 HB hg; have GE1256 := ge1 HB hg; replace HB := hb1 HB hb; have NB1255_1256 := Aside0.mk ((by rw [hg]; exact Nat.ne_of_lt (blk_lt BK1255.out) : gb1255 ≠ gb1256)); have NB1256_1255 := Aside0.mk ((by rw [hg]; exact Nat.ne_of_gt (blk_lt BK1255.out) : gb1256 ≠ gb1255)); replace BK1255 := bk1 BK1255 hb; clear hb hbox hg) | ((with_reducible refine gate_dst (N := 8) rfl ?_); refine box_event ?hg (N := 8) ?hd (cs := #[.int .i64 0, .int .u64 0, .int .u64 0]) (t := 24) ?hr ?_; (case hd => rfl); (case hg => rfl); (case hr => (go_simp; done)); intro gb1257 hg w69 hbox hb; have BK1257 := Aside0.mk (hbox); have GW1257 := ge1 HB hg; have GE1257 := ge1 HB hg; replace HB := hb1 HB hb; have NB1255_1257 := Aside0.mk ((by rw [hg]; exact Nat.ne_of_lt (blk_lt BK1255.out) : gb1255 ≠ gb1257)); have NB1257_1255 := Aside0.mk ((by rw [hg]; exact Nat.ne_of_gt (blk_lt BK1255.out) : gb1257 ≠ gb1255)); replace BK1255 := bk1 BK1255 hb; have NB1256_1257 := Aside0.mk ((by rw [hg]; exact Nat.ne_of_lt (blk_lt BK1256.out) : gb1256 ≠ gb1257)); have NB1257_1256 := Aside0.mk ((by rw [hg]; exact Nat.ne_of_gt (blk_lt BK1256.out) : gb1257 ≠ gb1256)); replace BK1256 := bk1 BK1256 hb; clear hb hbox hg; have hnb70 := NB1255_1256.out; have hnc70 := NB1256_1255.out; have hnb71 := NB1255_1257.out; have hnc71 := NB1257_1255.out; have hcz72_0 : w69.cell? ⟨gb1255, 0, none⟩ = some (.int .i64 a1_0) := (blk_cell BK1255.out 0).trans rfl; have hcz72_1 : w69.cell? ⟨gb1255, 1, none⟩ = some (.int .u64 a1_1) := (blk_cell BK1255.out 1).trans rfl; have hcz72_2 : w69.cell? ⟨gb1255, 2, none⟩ = some (.int .u64 a1_2) := (blk_cell BK1255.out 2).trans rfl; have hfz72_0 := blk_frozen BK1255.out 0; have hfz72_1 := blk_frozen BK1255.out 1; have hfz72_2 := blk_frozen BK1255.out 2; have hnb73 := NB1256_1257.out; have hnc73 := NB1257_1256.out; have hcz74_0 : w69.cell? ⟨gb1256, 0, none⟩ = some (.int .i64 a2_0) := (blk_cell BK1256.out 0).trans rfl; have hcz74_1 : w69.cell? ⟨gb1256, 1, none⟩ = some (.int .u64 a2_1) := (blk_cell BK1256.out 1).trans rfl; have hcz74_2 : w69.cell? ⟨gb1256, 2, none⟩ = some (.int .u64 a2_2) := (blk_cell BK1256.out 2).trans rfl; have hfz74_0 := blk_frozen BK1256.out 0; have hfz74_1 := blk_frozen BK1256.out 1; have hfz74_2 := blk_frozen BK1256.out 2) | ((with_reducible refine gate_callee (f := 95) rfl ?_); refine goesL_ (some 39) rfl rfl Tryd.func95 (by kernel_rfl) rfl #[.agg #[.int .i64 a1_0, .int .u64 a1_1, .int .u64 a1_2], .agg #[.int .i64 a2_0, .int .u64 a2_1, .int .u64 a2_2]] rfl (by (try simp only [List.map_toArray, List.map_cons, List.map_nil]); rfl) ?_; (with_reducible refine (bits_Shl.calls k a1_0 a1_1 a1_2 a2_0 a2_1 a2_2 t1273 t1274 t1275 _ A66.out).mono ?_); rintro e w75 ⟨rfl, hb⟩; refine ⟨_, rfl, ?_⟩; replace BK1255 := bk1 BK1255 hb; replace BK1256 := bk1 BK1256 hb; replace BK1257 := bk1 BK1257 hb; replace HB := hb1 HB hb; (try clear hb); have hcz76_0 : w75.cell? ⟨gb1257, 0, none⟩ = some (.int .i64 0) := (blk_cell BK1257.out 0).trans rfl; have hcz76_1 : w75.cell? ⟨gb1257, 1, none⟩ = some (.int .u64 0) := (blk_cell BK1257.out 1).trans rfl; have hcz76_2 : w75.cell? ⟨gb1257, 2, none⟩ = some (.int .u64 0) := (blk_cell BK1257.out 2).trans rfl; have hfz76_0 := blk_frozen BK1257.out 0; have hfz76_1 := blk_frozen BK1257.out 1; have hfz76_2 := blk_frozen BK1257.out 2))
       refine bodyPost_ret (results_cell_row rfl _ _ gb1257 24 #[.int .i64 t1273, .int .u64 t1274, .int .u64 t1275] (0, 0) _ rfl (by refine blk_put (cs := #[.int .i64 t1273, .int .u64 t1274, .int .u64 0]) ?_ 2 _ rfl; refine blk_put (cs := #[.int .i64 t1273, .int .u64 0, .int .u64 0]) ?_ 1 _ rfl; refine blk_put (cs := #[.int .i64 0, .int .u64 0, .int .u64 0]) ?_ 0 _ rfl; exact BK1257.out) Tryd.underlying24 rfl (by kernel_rfl)) rfl ?_
       exact ⟨by rfl, by repeat (with_reducible first | exact HB.out | refine below_set ?_ GE1257.out)⟩
      ·rw [if_neg c65] at H
       have c65b0 : (a0 == 21) = false := beq_eq_false_iff_ne.mpr c65
       have c65b1 : (a0 != 21) = true := bne_iff_ne.mpr c65
       by_cases c77 : a0 = 22
       ·rw [if_pos c77] at H
        have c77b0 : (a0 == 22) = true := beq_iff_eq.mpr c77
        have c77b1 : (a0 != 22) = false := bne_eq_false_iff_eq.mpr c77
        clear c77
        replace H := Option.bind_eq_some_iff.mp H
        obtain ⟨⟨t1276, t1277, t1278⟩, A780, H⟩ := H
        replace H : (some (t1276, t1277, t1278)) = some (r1, r2, r3) := H
        have A78 := Aside0.mk A780
        clear A780
        simp only [Option.some.injEq, Prod.mk.injEq] at H
        obtain ⟨rfl, rfl, rfl⟩ := H
        go_enter Tryd.func69, Tryd.ntmps69
        go_wp2_with (first | ((with_reducible refine gate_dst (N := 5) rfl ?_); refine box_event ?hg (N := 5) ?hd (cs := #[.int .i64 a1_0, .int .u64 a1_1, .int .u64 a1_2]) (t := 24) ?hr ?_; (case hd => rfl); (case hg => rfl); (case hr => (go_simp; done)); intro gb1255 hg w79 hbox hb; have BK1255 := Aside0.mk (hbox); have GW1255 := ge1 HB hg; have GE1255 := ge1 HB hg; replace HB := hb1 HB hb; clear hb hbox hg) | ((with_reducible refine gate_dst (N := 6) rfl ?_); refine box_event ?hg (N := 6) ?hd (cs := #[.int .i64 a2_0, .int .u64 a2_1, .int .u64 a2_2]) (t := 24) ?hr ?_; (case hd => rfl); (case hg => rfl); (case hr => (go_simp; done)); intro gb1256 hg w80 hbox hb; have BK1256 := Aside0.mk (hbox); have GW1256 := ge1 HB hg; have GE1256 := ge1 HB hg; replace HB := hb1 HB hb; have NB1255_1256 := Aside0.mk ((by rw [hg]; exact Nat.ne_of_lt (blk_lt BK1255.out) : gb1255 ≠ gb1256)); have NB1256_1255 := Aside0.mk ((by rw [hg]; exact Nat.ne_of_gt (blk_lt BK1255.out) : gb1256 ≠ gb1255)); replace BK1255 := bk1 BK1255 hb; clear hb hbox hg) | ((with_reducible refine gate_dst (N := 8) rfl ?_); refine box_event ?hg (N := 8) ?hd (cs := #[.int .i64 0, .int .u64 0, .int .u64 0]) (t := 24) ?hr ?_; (case hd => rfl); (case hg => rfl); (case hr => (go_simp; done)); intro gb1257 hg w81 hbox hb; have BK1257 := Aside0.mk (hbox); have GW1257 := ge1 HB hg; have GE1257 := ge1 HB hg; replace HB := hb1 HB hb; have NB1255_1257 := Aside0.mk ((by rw [hg]; exact Nat.ne_of_lt (blk_lt BK1255.out) : gb1255 ≠ gb1257)); have NB1257_1255 := Aside0.mk ((by rw [hg]; exact Nat.ne_of_gt (blk_lt BK1255.out) : gb1257 ≠ gb1255)); replace BK1255 := bk1 BK1255 hb; have NB1256_1257 := Aside0.mk ((by rw [hg]; exact Nat.ne_of_lt (blk_lt BK1256.out) : gb1256 ≠ gb1257)); have NB1257_1256 := Aside0.mk ((by rw [hg]; exact Nat.ne_of_gt (blk_lt BK1256.out) : gb1257 ≠ gb1256)); replace BK1256 := bk1 BK1256 hb; clear hb hbox hg; have hnb82 := NB1255_1256.out; have hnc82 := NB1256_1255.out; have hnb83 := NB1255_1257.out; have hnc83 := NB1257_1255.out; have hcz84_0 : w81.cell? ⟨gb1255, 0, none⟩ = some (.int .i64 a1_0) := (blk_cell BK1255.out 0).trans rfl; have hcz84_1 : w81.cell? ⟨gb1255, 1, none⟩ = some (.int .u64 a1_1) := (blk_cell BK1255.out 1).trans rfl; have hcz84_2 : w81.cell? ⟨gb1255, 2, none⟩ = some (.int .u64 a1_2) := (blk_cell BK1255.out 2).trans rfl; have hfz84_0 := blk_frozen BK1255.out 0; have hfz84_1 := blk_frozen BK1255.out 1; have hfz84_2 := blk_frozen BK1255.out 2; have hnb85 := NB1256_1257.out; have hnc85 := NB1257_1256.out; have hcz86_0 : w81.cell? ⟨gb1256, 0, none⟩ = some (.int .i64 a2_0) := (blk_cell BK1256.out 0).trans rfl; have hcz86_1 : w81.cell? ⟨gb1256, 1, none⟩ = some (.int .u64 a2_1) := (blk_cell BK1256.out 1).trans rfl; have hcz86_2 : w81.cell? ⟨gb1256, 2, none⟩ = some (.int .u64 a2_2) := (blk_cell BK1256.out 2).trans rfl; have hfz86_0 := blk_frozen BK1256.out 0; have hfz86_1 := blk_frozen BK1256.out 1; have hfz86_2 := blk_frozen BK1256.out 2) | ((with_reducible refine gate_callee (f := 96) rfl ?_); refine goesL_ (some 44) rfl rfl Tryd.func96 (by kernel_rfl) rfl #[.agg #[.int .i64 a1_0, .int .u64 a1_1, .int .u64 a1_2], .agg #[.int .i64 a2_0, .int .u64 a2_1, .int .u64 a2_2]] rfl (by (try simp only [List.map_toArray, List.map_cons, List.map_nil]); rfl) ?_; (with_reducible refine (bits_Shr.calls k a1_0 a1_1 a1_2 a2_0 a2_1 a2_2 t1276 t1277 t1278 _ A78.out).mono ?_); rintro e w87 ⟨rfl, hb⟩; refine ⟨_, rfl, ?_⟩; replace BK1255 := bk1 BK1255 hb; replace BK1256 := bk1 BK1256 hb; replace BK1257 := bk1 BK1257 hb; replace HB := hb1 HB hb; (try clear hb); have hcz88_0 : w87.cell? ⟨gb1257, 0, none⟩ = some (.int .i64 0) := (blk_cell BK1257.out 0).trans rfl; have hcz88_1 : w87.cell? ⟨gb1257, 1, none⟩ = some (.int .u64 0) := (blk_cell BK1257.out 1).trans rfl; have hcz88_2 : w87.cell? ⟨gb1257, 2, none⟩ = some (.int .u64 0) := (blk_cell BK1257.out 2).trans rfl; have hfz88_0 := blk_frozen BK1257.out 0; have hfz88_1 := blk_frozen BK1257.out 1; have hfz88_2 := blk_frozen BK1257.out 2))
        refine bodyPost_ret (results_cell_row rfl _ _ gb1257 24 #[.int .i64 t1276, .int .u64 t1277, .int .u64 t1278] (0, 0) _ rfl (by refine blk_put (cs := #[.int .i64 t1276, .int .u64 t1277, .int .u64 0]) ?_ 2 _ rfl; refine blk_put (cs := #[.int .i64 t1276, .int .u64 0, .int .u64 0]) ?_ 1 _ rfl; refine blk_put (cs := #[.int .i64 0, .int .u64 0, .int .u64 0]) ?_ 0 _ rfl; exact BK1257.out) Tryd.underlying24 rfl (by kernel_rfl)) rfl ?_
        exact ⟨by rfl, by repeat (with_reducible first | exact HB.out | refine below_set ?_ GE1257.out)⟩
       ·rw [if_neg c77] at H
        have c77b0 : (a0 == 22) = false := beq_eq_false_iff_ne.mpr c77
        have c77b1 : (a0 != 22) = true := bne_iff_ne.mpr c77
        by_cases c89 : a0 = 23
        ·rw [if_pos c89] at H
         have c89b0 : (a0 == 23) = true := beq_iff_eq.mpr c89
         have c89b1 : (a0 != 23) = false := bne_eq_false_iff_eq.mpr c89
         clear c89
         replace H := Option.bind_eq_some_iff.mp H
         obtain ⟨⟨t1279, t1280, t1281⟩, A900, H⟩ := H
         replace H : (some (t1279, t1280, t1281)) = some (r1, r2, r3) := H
         have A90 := Aside0.mk A900
         clear A900
         simp only [Option.some.injEq, Prod.mk.injEq] at H
         obtain ⟨rfl, rfl, rfl⟩ := H
         go_enter Tryd.func69, Tryd.ntmps69
         go_wp2_with (first | ((with_reducible refine gate_dst (N := 5) rfl ?_); refine box_event ?hg (N := 5) ?hd (cs := #[.int .i64 a1_0, .int .u64 a1_1, .int .u64 a1_2]) (t := 24) ?hr ?_; (case hd => rfl); (case hg => rfl); (case hr => (go_simp; done)); intro gb1255 hg w91 hbox hb; have BK1255 := Aside0.mk (hbox); have GW1255 := ge1 HB hg; have GE1255 := ge1 HB hg; replace HB := hb1 HB hb; clear hb hbox hg) | ((with_reducible refine gate_dst (N := 6) rfl ?_); refine box_event ?hg (N := 6) ?hd (cs := #[.int .i64 a2_0, .int .u64 a2_1, .int .u64 a2_2]) (t := 24) ?hr ?_; (case hd => rfl); (case hg => rfl); (case hr => (go_simp; done)); intro gb1256 hg w92 hbox hb; have BK1256 := Aside0.mk (hbox); have GW1256 := ge1 HB hg; have GE1256 := ge1 HB hg; replace HB := hb1 HB hb; have NB1255_1256 := Aside0.mk ((by rw [hg]; exact Nat.ne_of_lt (blk_lt BK1255.out) : gb1255 ≠ gb1256)); have NB1256_1255 := Aside0.mk ((by rw [hg]; exact Nat.ne_of_gt (blk_lt BK1255.out) : gb1256 ≠ gb1255)); replace BK1255 := bk1 BK1255 hb; clear hb hbox hg) | ((with_reducible refine gate_dst (N := 8) rfl ?_); refine box_event ?hg (N := 8) ?hd (cs := #[.int .i64 0, .int .u64 0, .int .u64 0]) (t := 24) ?hr ?_; (case hd => rfl); (case hg => rfl); (case hr => (go_simp; done)); intro gb1257 hg w93 hbox hb; have BK1257 := Aside0.mk (hbox); have GW1257 := ge1 HB hg; have GE1257 := ge1 HB hg; replace HB := hb1 HB hb; have NB1255_1257 := Aside0.mk ((by rw [hg]; exact Nat.ne_of_lt (blk_lt BK1255.out) : gb1255 ≠ gb1257)); have NB1257_1255 := Aside0.mk ((by rw [hg]; exact Nat.ne_of_gt (blk_lt BK1255.out) : gb1257 ≠ gb1255)); replace BK1255 := bk1 BK1255 hb; have NB1256_1257 := Aside0.mk ((by rw [hg]; exact Nat.ne_of_lt (blk_lt BK1256.out) : gb1256 ≠ gb1257)); have NB1257_1256 := Aside0.mk ((by rw [hg]; exact Nat.ne_of_gt (blk_lt BK1256.out) : gb1257 ≠ gb1256)); replace BK1256 := bk1 BK1256 hb; clear hb hbox hg; have hnb94 := NB1255_1256.out; have hnc94 := NB1256_1255.out; have hnb95 := NB1255_1257.out; have hnc95 := NB1257_1255.out; have hcz96_0 : w93.cell? ⟨gb1255, 0, none⟩ = some (.int .i64 a1_0) := (blk_cell BK1255.out 0).trans rfl; have hcz96_1 : w93.cell? ⟨gb1255, 1, none⟩ = some (.int .u64 a1_1) := (blk_cell BK1255.out 1).trans rfl; have hcz96_2 : w93.cell? ⟨gb1255, 2, none⟩ = some (.int .u64 a1_2) := (blk_cell BK1255.out 2).trans rfl; have hfz96_0 := blk_frozen BK1255.out 0; have hfz96_1 := blk_frozen BK1255.out 1; have hfz96_2 := blk_frozen BK1255.out 2; have hnb97 := NB1256_1257.out; have hnc97 := NB1257_1256.out; have hcz98_0 : w93.cell? ⟨gb1256, 0, none⟩ = some (.int .i64 a2_0) := (blk_cell BK1256.out 0).trans rfl; have hcz98_1 : w93.cell? ⟨gb1256, 1, none⟩ = some (.int .u64 a2_1) := (blk_cell BK1256.out 1).trans rfl; have hcz98_2 : w93.cell? ⟨gb1256, 2, none⟩ = some (.int .u64 a2_2) := (blk_cell BK1256.out 2).trans rfl; have hfz98_0 := blk_frozen BK1256.out 0; have hfz98_1 := blk_frozen BK1256.out 1; have hfz98_2 := blk_frozen BK1256.out 2) | ((with_reducible refine gate_callee (f := 97) rfl ?_); refine goesL_ (some 49) rfl rfl Tryd.func97 (by kernel_rfl) rfl #[.agg #[.int .i64 a1_0, .int .u64 a1_1, .int .u64 a1_2], .agg #[.int .i64 a2_0, .int .u64 a2_1, .int .u64 a2_2]] rfl (by (try simp only [List.map_toArray, List.map_cons, List.map_nil]); rfl) ?_; (with_reducible refine (bits_Sar.calls k a1_0 a1_1 a1_2 a2_0 a2_1 a2_2 t1279 t1280 t1281 _ A90.out).mono ?_); rintro e w99 ⟨rfl, hb⟩; refine ⟨_, rfl, ?_⟩; replace BK1255 := bk1 BK1255 hb; replace BK1256 := bk1 BK1256 hb; replace BK1257 := bk1 BK1257 hb; replace HB := hb1 HB hb; (try clear hb); have hcz100_0 : w99.cell? ⟨gb1257, 0, none⟩ = some (.int .i64 0) := (blk_cell BK1257.out 0).trans rfl; have hcz100_1 : w99.cell? ⟨gb1257, 1, none⟩ = some (.int .u64 0) := (blk_cell BK1257.out 1).trans rfl; have hcz100_2 : w99.cell? ⟨gb1257, 2, none⟩ = some (.int .u64 0) := (blk_cell BK1257.out 2).trans rfl; have hfz100_0 := blk_frozen BK1257.out 0; have hfz100_1 := blk_frozen BK1257.out 1; have hfz100_2 := blk_frozen BK1257.out 2))
         refine bodyPost_ret (results_cell_row rfl _ _ gb1257 24 #[.int .i64 t1279, .int .u64 t1280, .int .u64 t1281] (0, 0) _ rfl (by refine blk_put (cs := #[.int .i64 t1279, .int .u64 t1280, .int .u64 0]) ?_ 2 _ rfl; refine blk_put (cs := #[.int .i64 t1279, .int .u64 0, .int .u64 0]) ?_ 1 _ rfl; refine blk_put (cs := #[.int .i64 0, .int .u64 0, .int .u64 0]) ?_ 0 _ rfl; exact BK1257.out) Tryd.underlying24 rfl (by kernel_rfl)) rfl ?_
         exact ⟨by rfl, by repeat (with_reducible first | exact HB.out | refine below_set ?_ GE1257.out)⟩
        ·rw [if_neg c89] at H
         have c89b0 : (a0 == 23) = false := beq_eq_false_iff_ne.mpr c89
         have c89b1 : (a0 != 23) = true := bne_iff_ne.mpr c89
         by_cases c101 : a0 = 24
         ·rw [if_pos c101] at H
          have c101b0 : (a0 == 24) = true := beq_iff_eq.mpr c101
          have c101b1 : (a0 != 24) = false := bne_eq_false_iff_eq.mpr c101
          clear c101
          replace H := Option.bind_eq_some_iff.mp H
          obtain ⟨⟨t1282, t1283, t1284⟩, A1020, H⟩ := H
          replace H : (some (t1282, t1283, t1284)) = some (r1, r2, r3) := H
          have A102 := Aside0.mk A1020
          clear A1020
          simp only [Option.some.injEq, Prod.mk.injEq] at H
          obtain ⟨rfl, rfl, rfl⟩ := H
          go_enter Tryd.func69, Tryd.ntmps69
          go_wp2_with (first | ((with_reducible refine gate_dst (N := 5) rfl ?_); refine box_event ?hg (N := 5) ?hd (cs := #[.int .i64 a1_0, .int .u64 a1_1, .int .u64 a1_2]) (t := 24) ?hr ?_; (case hd => rfl); (case hg => rfl); (case hr => (go_simp; done)); intro gb1255 hg w103 hbox hb; have BK1255 := Aside0.mk (hbox); have GW1255 := ge1 HB hg; have GE1255 := ge1 HB hg; replace HB := hb1 HB hb; clear hb hbox hg) | ((with_reducible refine gate_dst (N := 6) rfl ?_); refine box_event ?hg (N := 6) ?hd (cs := #[.int .i64 a2_0, .int .u64 a2_1, .int .u64 a2_2]) (t := 24) ?hr ?_; (case hd => rfl); (case hg => rfl); (case hr => (go_simp; done)); intro gb1256 hg w104 hbox hb; have BK1256 := Aside0.mk (hbox); have GW1256 := ge1 HB hg; have GE1256 := ge1 HB hg; replace HB := hb1 HB hb; have NB1255_1256 := Aside0.mk ((by rw [hg]; exact Nat.ne_of_lt (blk_lt BK1255.out) : gb1255 ≠ gb1256)); have NB1256_1255 := Aside0.mk ((by rw [hg]; exact Nat.ne_of_gt (blk_lt BK1255.out) : gb1256 ≠ gb1255)); replace BK1255 := bk1 BK1255 hb; clear hb hbox hg) | ((with_reducible refine gate_dst (N := 8) rfl ?_); refine box_event ?hg (N := 8) ?hd (cs := #[.int .i64 0, .int .u64 0, .int .u64 0]) (t := 24) ?hr ?_; (case hd => rfl); (case hg => rfl); (case hr => (go_simp; done)); intro gb1257 hg w105 hbox hb; have BK1257 := Aside0.mk (hbox); have GW1257 := ge1 HB hg; have GE1257 := ge1 HB hg; replace HB := hb1 HB hb; have NB1255_1257 := Aside0.mk ((by rw [hg]; exact Nat.ne_of_lt (blk_lt BK1255.out) : gb1255 ≠ gb1257)); have NB1257_1255 := Aside0.mk ((by rw [hg]; exact Nat.ne_of_gt (blk_lt BK1255.out) : gb1257 ≠ gb1255)); replace BK1255 := bk1 BK1255 hb; have NB1256_1257 := Aside0.mk ((by rw [hg]; exact Nat.ne_of_lt (blk_lt BK1256.out) : gb1256 ≠ gb1257)); have NB1257_1256 := Aside0.mk ((by rw [hg]; exact Nat.ne_of_gt (blk_lt BK1256.out) : gb1257 ≠ gb1256)); replace BK1256 := bk1 BK1256 hb; clear hb hbox hg; have hnb106 := NB1255_1256.out; have hnc106 := NB1256_1255.out; have hnb107 := NB1255_1257.out; have hnc107 := NB1257_1255.out; have hcz108_0 : w105.cell? ⟨gb1255, 0, none⟩ = some (.int .i64 a1_0) := (blk_cell BK1255.out 0).trans rfl; have hcz108_1 : w105.cell? ⟨gb1255, 1, none⟩ = some (.int .u64 a1_1) := (blk_cell BK1255.out 1).trans rfl; have hcz108_2 : w105.cell? ⟨gb1255, 2, none⟩ = some (.int .u64 a1_2) := (blk_cell BK1255.out 2).trans rfl; have hfz108_0 := blk_frozen BK1255.out 0; have hfz108_1 := blk_frozen BK1255.out 1; have hfz108_2 := blk_frozen BK1255.out 2; have hnb109 := NB1256_1257.out; have hnc109 := NB1257_1256.out; have hcz110_0 : w105.cell? ⟨gb1256, 0, none⟩ = some (.int .i64 a2_0) := (blk_cell BK1256.out 0).trans rfl; have hcz110_1 : w105.cell? ⟨gb1256, 1, none⟩ = some (.int .u64 a2_1) := (blk_cell BK1256.out 1).trans rfl; have hcz110_2 : w105.cell? ⟨gb1256, 2, none⟩ = some (.int .u64 a2_2) := (blk_cell BK1256.out 2).trans rfl; have hfz110_0 := blk_frozen BK1256.out 0; have hfz110_1 := blk_frozen BK1256.out 1; have hfz110_2 := blk_frozen BK1256.out 2) | ((with_reducible refine gate_callee (f := 98) rfl ?_); refine goesL_ (some 54) rfl rfl Tryd.func98 (by kernel_rfl) rfl #[.agg #[.int .i64 a1_0, .int .u64 a1_1, .int .u64 a1_2], .agg #[.int .i64 a2_0, .int .u64 a2_1, .int .u64 a2_2]] rfl (by (try simp only [List.map_toArray, List.map_cons, List.map_nil]); rfl) ?_; (with_reducible refine (bits_Eq.calls k a1_0 a1_1 a1_2 a2_0 a2_1 a2_2 t1282 t1283 t1284 _ A102.out).mono ?_); rintro e w111 ⟨rfl, hb⟩; refine ⟨_, rfl, ?_⟩; replace BK1255 := bk1 BK1255 hb; replace BK1256 := bk1 BK1256 hb; replace BK1257 := bk1 BK1257 hb; replace HB := hb1 HB hb; (try clear hb); have hcz112_0 : w111.cell? ⟨gb1257, 0, none⟩ = some (.int .i64 0) := (blk_cell BK1257.out 0).trans rfl; have hcz112_1 : w111.cell? ⟨gb1257, 1, none⟩ = some (.int .u64 0) := (blk_cell BK1257.out 1).trans rfl; have hcz112_2 : w111.cell? ⟨gb1257, 2, none⟩ = some (.int .u64 0) := (blk_cell BK1257.out 2).trans rfl; have hfz112_0 := blk_frozen BK1257.out 0; have hfz112_1 := blk_frozen BK1257.out 1; have hfz112_2 := blk_frozen BK1257.out 2))
          refine bodyPost_ret (results_cell_row rfl _ _ gb1257 24 #[.int .i64 t1282, .int .u64 t1283, .int .u64 t1284] (0, 0) _ rfl (by refine blk_put (cs := #[.int .i64 t1282, .int .u64 t1283, .int .u64 0]) ?_ 2 _ rfl; refine blk_put (cs := #[.int .i64 t1282, .int .u64 0, .int .u64 0]) ?_ 1 _ rfl; refine blk_put (cs := #[.int .i64 0, .int .u64 0, .int .u64 0]) ?_ 0 _ rfl; exact BK1257.out) Tryd.underlying24 rfl (by kernel_rfl)) rfl ?_
          exact ⟨by rfl, by repeat (with_reducible first | exact HB.out | refine below_set ?_ GE1257.out)⟩
         ·rw [if_neg c101] at H
          have c101b0 : (a0 == 24) = false := beq_eq_false_iff_ne.mpr c101
          have c101b1 : (a0 != 24) = true := bne_iff_ne.mpr c101
          by_cases c113 : a0 = 25
          ·rw [if_pos c113] at H
           have c113b0 : (a0 == 25) = true := beq_iff_eq.mpr c113
           have c113b1 : (a0 != 25) = false := bne_eq_false_iff_eq.mpr c113
           clear c113
           replace H := Option.bind_eq_some_iff.mp H
           obtain ⟨⟨t1285, t1286, t1287⟩, A1140, H⟩ := H
           replace H : (some (t1285, t1286, t1287)) = some (r1, r2, r3) := H
           have A114 := Aside0.mk A1140
           clear A1140
           simp only [Option.some.injEq, Prod.mk.injEq] at H
           obtain ⟨rfl, rfl, rfl⟩ := H
           go_enter Tryd.func69, Tryd.ntmps69
           go_wp2_with (first | ((with_reducible refine gate_dst (N := 5) rfl ?_); refine box_event ?hg (N := 5) ?hd (cs := #[.int .i64 a1_0, .int .u64 a1_1, .int .u64 a1_2]) (t := 24) ?hr ?_; (case hd => rfl); (case hg => rfl); (case hr => (go_simp; done)); intro gb1255 hg w115 hbox hb; have BK1255 := Aside0.mk (hbox); have GW1255 := ge1 HB hg; have GE1255 := ge1 HB hg; replace HB := hb1 HB hb; clear hb hbox hg) | ((with_reducible refine gate_dst (N := 6) rfl ?_); refine box_event ?hg (N := 6) ?hd (cs := #[.int .i64 a2_0, .int .u64 a2_1, .int .u64 a2_2]) (t := 24) ?hr ?_; (case hd => rfl); (case hg => rfl); (case hr => (go_simp; done)); intro gb1256 hg w116 hbox hb; have BK1256 := Aside0.mk (hbox); have GW1256 := ge1 HB hg; have GE1256 := ge1 HB hg; replace HB := hb1 HB hb; have NB1255_1256 := Aside0.mk ((by rw [hg]; exact Nat.ne_of_lt (blk_lt BK1255.out) : gb1255 ≠ gb1256)); have NB1256_1255 := Aside0.mk ((by rw [hg]; exact Nat.ne_of_gt (blk_lt BK1255.out) : gb1256 ≠ gb1255)); replace BK1255 := bk1 BK1255 hb; clear hb hbox hg) | ((with_reducible refine gate_dst (N := 8) rfl ?_); refine box_event ?hg (N := 8) ?hd (cs := #[.int .i64 0, .int .u64 0, .int .u64 0]) (t := 24) ?hr ?_; (case hd => rfl); (case hg => rfl); (case hr => (go_simp; done)); intro gb1257 hg w117 hbox hb; have BK1257 := Aside0.mk (hbox); have GW1257 := ge1 HB hg; have GE1257 := ge1 HB hg; replace HB := hb1 HB hb; have NB1255_1257 := Aside0.mk ((by rw [hg]; exact Nat.ne_of_lt (blk_lt BK1255.out) : gb1255 ≠ gb1257)); have NB1257_1255 := Aside0.mk ((by rw [hg]; exact Nat.ne_of_gt (blk_lt BK1255.out) : gb1257 ≠ gb1255)); replace BK1255 := bk1 BK1255 hb; have NB1256_1257 := Aside0.mk ((by rw [hg]; exact Nat.ne_of_lt (blk_lt BK1256.out) : gb1256 ≠ gb1257)); have NB1257_1256 := Aside0.mk ((by rw [hg]; exact Nat.ne_of_gt (blk_lt BK1256.out) : gb1257 ≠ gb1256)); replace BK1256 := bk1 BK1256 hb; clear hb hbox hg; have hnb118 := NB1255_1256.out; have hnc118 := NB1256_1255.out; have hnb119 := NB1255_1257.out; have hnc119 := NB1257_1255.out; have hcz120_0 : w117.cell? ⟨gb1255, 0, none⟩ = some (.int .i64 a1_0) := (blk_cell BK1255.out 0).trans rfl; have hcz120_1 : w117.cell? ⟨gb1255, 1, none⟩ = some (.int .u64 a1_1) := (blk_cell BK1255.out 1).trans rfl; have hcz120_2 : w117.cell? ⟨gb1255, 2, none⟩ = some (.int .u64 a1_2) := (blk_cell BK1255.out 2).trans rfl; have hfz120_0 := blk_frozen BK1255.out 0; have hfz120_1 := blk_frozen BK1255.out 1; have hfz120_2 := blk_frozen BK1255.out 2; have hnb121 := NB1256_1257.out; have hnc121 := NB1257_1256.out; have hcz122_0 : w117.cell? ⟨gb1256, 0, none⟩ = some (.int .i64 a2_0) := (blk_cell BK1256.out 0).trans rfl; have hcz122_1 : w117.cell? ⟨gb1256, 1, none⟩ = some (.int .u64 a2_1) := (blk_cell BK1256.out 1).trans rfl; have hcz122_2 : w117.cell? ⟨gb1256, 2, none⟩ = some (.int .u64 a2_2) := (blk_cell BK1256.out 2).trans rfl; have hfz122_0 := blk_frozen BK1256.out 0; have hfz122_1 := blk_frozen BK1256.out 1; have hfz122_2 := blk_frozen BK1256.out 2) | ((with_reducible refine gate_callee (f := 99) rfl ?_); refine goesL_ (some 59) rfl rfl Tryd.func99 (by kernel_rfl) rfl #[.agg #[.int .i64 a1_0, .int .u64 a1_1, .int .u64 a1_2], .agg #[.int .i64 a2_0, .int .u64 a2_1, .int .u64 a2_2]] rfl (by (try simp only [List.map_toArray, List.map_cons, List.map_nil]); rfl) ?_; (with_reducible refine (bits_Ne.calls k a1_0 a1_1 a1_2 a2_0 a2_1 a2_2 t1285 t1286 t1287 _ A114.out).mono ?_); rintro e w123 ⟨rfl, hb⟩; refine ⟨_, rfl, ?_⟩; replace BK1255 := bk1 BK1255 hb; replace BK1256 := bk1 BK1256 hb; replace BK1257 := bk1 BK1257 hb; replace HB := hb1 HB hb; (try clear hb); have hcz124_0 : w123.cell? ⟨gb1257, 0, none⟩ = some (.int .i64 0) := (blk_cell BK1257.out 0).trans rfl; have hcz124_1 : w123.cell? ⟨gb1257, 1, none⟩ = some (.int .u64 0) := (blk_cell BK1257.out 1).trans rfl; have hcz124_2 : w123.cell? ⟨gb1257, 2, none⟩ = some (.int .u64 0) := (blk_cell BK1257.out 2).trans rfl; have hfz124_0 := blk_frozen BK1257.out 0; have hfz124_1 := blk_frozen BK1257.out 1; have hfz124_2 := blk_frozen BK1257.out 2))
           refine bodyPost_ret (results_cell_row rfl _ _ gb1257 24 #[.int .i64 t1285, .int .u64 t1286, .int .u64 t1287] (0, 0) _ rfl (by refine blk_put (cs := #[.int .i64 t1285, .int .u64 t1286, .int .u64 0]) ?_ 2 _ rfl; refine blk_put (cs := #[.int .i64 t1285, .int .u64 0, .int .u64 0]) ?_ 1 _ rfl; refine blk_put (cs := #[.int .i64 0, .int .u64 0, .int .u64 0]) ?_ 0 _ rfl; exact BK1257.out) Tryd.underlying24 rfl (by kernel_rfl)) rfl ?_
           exact ⟨by rfl, by repeat (with_reducible first | exact HB.out | refine below_set ?_ GE1257.out)⟩
          ·rw [if_neg c113] at H
           have c113b0 : (a0 == 25) = false := beq_eq_false_iff_ne.mpr c113
           have c113b1 : (a0 != 25) = true := bne_iff_ne.mpr c113
           by_cases c125 : a0 = 26
           ·rw [if_pos c125] at H
            have c125b0 : (a0 == 26) = true := beq_iff_eq.mpr c125
            have c125b1 : (a0 != 26) = false := bne_eq_false_iff_eq.mpr c125
            clear c125
            replace H := Option.bind_eq_some_iff.mp H
            obtain ⟨⟨t1288, t1289, t1290⟩, A1260, H⟩ := H
            replace H : (some (t1288, t1289, t1290)) = some (r1, r2, r3) := H
            have A126 := Aside0.mk A1260
            clear A1260
            simp only [Option.some.injEq, Prod.mk.injEq] at H
            obtain ⟨rfl, rfl, rfl⟩ := H
            go_enter Tryd.func69, Tryd.ntmps69
            go_wp2_with (first | ((with_reducible refine gate_dst (N := 5) rfl ?_); refine box_event ?hg (N := 5) ?hd (cs := #[.int .i64 a1_0, .int .u64 a1_1, .int .u64 a1_2]) (t := 24) ?hr ?_; (case hd => rfl); (case hg => rfl); (case hr => (go_simp; done)); intro gb1255 hg w127 hbox hb; have BK1255 := Aside0.mk (hbox); have GW1255 := ge1 HB hg; have GE1255 := ge1 HB hg; replace HB := hb1 HB hb; clear hb hbox hg) | ((with_reducible refine gate_dst (N := 6) rfl ?_); refine box_event ?hg (N := 6) ?hd (cs := #[.int .i64 a2_0, .int .u64 a2_1, .int .u64 a2_2]) (t := 24) ?hr ?_; (case hd => rfl); (case hg => rfl); (case hr => (go_simp; done)); intro gb1256 hg w128 hbox hb; have BK1256 := Aside0.mk (hbox); have GW1256 := ge1 HB hg; have GE1256 := ge1 HB hg; replace HB := hb1 HB hb; have NB1255_1256 := Aside0.mk ((by rw [hg]; exact Nat.ne_of_lt (blk_lt BK1255.out) : gb1255 ≠ gb1256)); have NB1256_1255 := Aside0.mk ((by rw [hg]; exact Nat.ne_of_gt (blk_lt BK1255.out) : gb1256 ≠ gb1255)); replace BK1255 := bk1 BK1255 hb; clear hb hbox hg) | ((with_reducible refine gate_dst (N := 8) rfl ?_); refine box_event ?hg (N := 8) ?hd (cs := #[.int .i64 0, .int .u64 0, .int .u64 0]) (t := 24) ?hr ?_; (case hd => rfl); (case hg => rfl); (case hr => (go_simp; done)); intro gb1257 hg w129 hbox hb; have BK1257 := Aside0.mk (hbox); have GW1257 := ge1 HB hg; have GE1257 := ge1 HB hg; replace HB := hb1 HB hb; have NB1255_1257 := Aside0.mk ((by rw [hg]; exact Nat.ne_of_lt (blk_lt BK1255.out) : gb1255 ≠ gb1257)); have NB1257_1255 := Aside0.mk ((by rw [hg]; exact Nat.ne_of_gt (blk_lt BK1255.out) : gb1257 ≠ gb1255)); replace BK1255 := bk1 BK1255 hb; have NB1256_1257 := Aside0.mk ((by rw [hg]; exact Nat.ne_of_lt (blk_lt BK1256.out) : gb1256 ≠ gb1257)); have NB1257_1256 := Aside0.mk ((by rw [hg]; exact Nat.ne_of_gt (blk_lt BK1256.out) : gb1257 ≠ gb1256)); replace BK1256 := bk1 BK1256 hb; clear hb hbox hg; have hnb130 := NB1255_1256.out; have hnc130 := NB1256_1255.out; have hnb131 := NB1255_1257.out; have hnc131 := NB1257_1255.out; have hcz132_0 : w129.cell? ⟨gb1255, 0, none⟩ = some (.int .i64 a1_0) := (blk_cell BK1255.out 0).trans rfl; have hcz132_1 : w129.cell? ⟨gb1255, 1, none⟩ = some (.int .u64 a1_1) := (blk_cell BK1255.out 1).trans rfl; have hcz132_2 : w129.cell? ⟨gb1255, 2, none⟩ = some (.int .u64 a1_2) := (blk_cell BK1255.out 2).trans rfl; have hfz132_0 := blk_frozen BK1255.out 0; have hfz132_1 := blk_frozen BK1255.out 1; have hfz132_2 := blk_frozen BK1255.out 2; have hnb133 := NB1256_1257.out; have hnc133 := NB1257_1256.out; have hcz134_0 : w129.cell? ⟨gb1256, 0, none⟩ = some (.int .i64 a2_0) := (blk_cell BK1256.out 0).trans rfl; have hcz134_1 : w129.cell? ⟨gb1256, 1, none⟩ = some (.int .u64 a2_1) := (blk_cell BK1256.out 1).trans rfl; have hcz134_2 : w129.cell? ⟨gb1256, 2, none⟩ = some (.int .u64 a2_2) := (blk_cell BK1256.out 2).trans rfl; have hfz134_0 := blk_frozen BK1256.out 0; have hfz134_1 := blk_frozen BK1256.out 1; have hfz134_2 := blk_frozen BK1256.out 2) | ((with_reducible refine gate_callee (f := 100) rfl ?_); refine goesL_ (some 64) rfl rfl Tryd.func100 (by kernel_rfl) rfl #[.agg #[.int .i64 a1_0, .int .u64 a1_1, .int .u64 a1_2], .agg #[.int .i64 a2_0, .int .u64 a2_1, .int .u64 a2_2]] rfl (by (try simp only [List.map_toArray, List.map_cons, List.map_nil]); rfl) ?_; (with_reducible refine (bits_CaseEq.calls k a1_0 a1_1 a1_2 a2_0 a2_1 a2_2 t1288 t1289 t1290 _ A126.out).mono ?_); rintro e w135 ⟨rfl, hb⟩; refine ⟨_, rfl, ?_⟩; replace BK1255 := bk1 BK1255 hb; replace BK1256 := bk1 BK1256 hb; replace BK1257 := bk1 BK1257 hb; replace HB := hb1 HB hb; (try clear hb); have hcz136_0 : w135.cell? ⟨gb1257, 0, none⟩ = some (.int .i64 0) := (blk_cell BK1257.out 0).trans rfl; have hcz136_1 : w135.cell? ⟨gb1257, 1, none⟩ = some (.int .u64 0) := (blk_cell BK1257.out 1).trans rfl; have hcz136_2 : w135.cell? ⟨gb1257, 2, none⟩ = some (.int .u64 0) := (blk_cell BK1257.out 2).trans rfl; have hfz136_0 := blk_frozen BK1257.out 0; have hfz136_1 := blk_frozen BK1257.out 1; have hfz136_2 := blk_frozen BK1257.out 2))
            refine bodyPost_ret (results_cell_row rfl _ _ gb1257 24 #[.int .i64 t1288, .int .u64 t1289, .int .u64 t1290] (0, 0) _ rfl (by refine blk_put (cs := #[.int .i64 t1288, .int .u64 t1289, .int .u64 0]) ?_ 2 _ rfl; refine blk_put (cs := #[.int .i64 t1288, .int .u64 0, .int .u64 0]) ?_ 1 _ rfl; refine blk_put (cs := #[.int .i64 0, .int .u64 0, .int .u64 0]) ?_ 0 _ rfl; exact BK1257.out) Tryd.underlying24 rfl (by kernel_rfl)) rfl ?_
            exact ⟨by rfl, by repeat (with_reducible first | exact HB.out | refine below_set ?_ GE1257.out)⟩
           ·rw [if_neg c125] at H
            have c125b0 : (a0 == 26) = false := beq_eq_false_iff_ne.mpr c125
            have c125b1 : (a0 != 26) = true := bne_iff_ne.mpr c125
            by_cases c137 : a0 = 27
            ·rw [if_pos c137] at H
             have c137b0 : (a0 == 27) = true := beq_iff_eq.mpr c137
             have c137b1 : (a0 != 27) = false := bne_eq_false_iff_eq.mpr c137
             clear c137
             replace H := Option.bind_eq_some_iff.mp H
             obtain ⟨⟨t1291, t1292, t1293⟩, A1380, H⟩ := H
             replace H : (some (t1291, t1292, t1293)) = some (r1, r2, r3) := H
             have A138 := Aside0.mk A1380
             clear A1380
             simp only [Option.some.injEq, Prod.mk.injEq] at H
             obtain ⟨rfl, rfl, rfl⟩ := H
             go_enter Tryd.func69, Tryd.ntmps69
             go_wp2_with (first | ((with_reducible refine gate_dst (N := 5) rfl ?_); refine box_event ?hg (N := 5) ?hd (cs := #[.int .i64 a1_0, .int .u64 a1_1, .int .u64 a1_2]) (t := 24) ?hr ?_; (case hd => rfl); (case hg => rfl); (case hr => (go_simp; done)); intro gb1255 hg w139 hbox hb; have BK1255 := Aside0.mk (hbox); have GW1255 := ge1 HB hg; have GE1255 := ge1 HB hg; replace HB := hb1 HB hb; clear hb hbox hg) | ((with_reducible refine gate_dst (N := 6) rfl ?_); refine box_event ?hg (N := 6) ?hd (cs := #[.int .i64 a2_0, .int .u64 a2_1, .int .u64 a2_2]) (t := 24) ?hr ?_; (case hd => rfl); (case hg => rfl); (case hr => (go_simp; done)); intro gb1256 hg w140 hbox hb; have BK1256 := Aside0.mk (hbox); have GW1256 := ge1 HB hg; have GE1256 := ge1 HB hg; replace HB := hb1 HB hb; have NB1255_1256 := Aside0.mk ((by rw [hg]; exact Nat.ne_of_lt (blk_lt BK1255.out) : gb1255 ≠ gb1256)); have NB1256_1255 := Aside0.mk ((by rw [hg]; exact Nat.ne_of_gt (blk_lt BK1255.out) : gb1256 ≠ gb1255)); replace BK1255 := bk1 BK1255 hb; clear hb hbox hg) | ((with_reducible refine gate_dst (N := 8) rfl ?_); refine box_event ?hg (N := 8) ?hd (cs := #[.int .i64 0, .int .u64 0, .int .u64 0]) (t := 24) ?hr ?_; (case hd => rfl); (case hg => rfl); (case hr => (go_simp; done)); intro gb1257 hg w141 hbox hb; have BK1257 := Aside0.mk (hbox); have GW1257 := ge1 HB hg; have GE1257 := ge1 HB hg; replace HB := hb1 HB hb; have NB1255_1257 := Aside0.mk ((by rw [hg]; exact Nat.ne_of_lt (blk_lt BK1255.out) : gb1255 ≠ gb1257)); have NB1257_1255 := Aside0.mk ((by rw [hg]; exact Nat.ne_of_gt (blk_lt BK1255.out) : gb1257 ≠ gb1255)); replace BK1255 := bk1 BK1255 hb; have NB1256_1257 := Aside0.mk ((by rw [hg]; exact Nat.ne_of_lt (blk_lt BK1256.out) : gb1256 ≠ gb1257)); have NB1257_1256 := Aside0.mk ((by rw [hg]; exact Nat.ne_of_gt (blk_lt BK1256.out) : gb1257 ≠ gb1256)); replace BK1256 := bk1 BK1256 hb; clear hb hbox hg; have hnb142 := NB1255_1256.out; have hnc142 := NB1256_1255.out; have hnb143 := NB1255_1257.out; have hnc143 := NB1257_1255.out; have hcz144_0 : w141.cell? ⟨gb1255, 0, none⟩ = some (.int .i64 a1_0) := (blk_cell BK1255.out 0).trans rfl; have hcz144_1 : w141.cell? ⟨gb1255, 1, none⟩ = some (.int .u64 a1_1) := (blk_cell BK1255.out 1).trans rfl; have hcz144_2 : w141.cell? ⟨gb1255, 2, none⟩ = some (.int .u64 a1_2) := (blk_cell BK1255.out 2).trans rfl; have hfz144_0 := blk_frozen BK1255.out 0; have hfz144_1 := blk_frozen BK1255.out 1; have hfz144_2 := blk_frozen BK1255.out 2; have hnb145 := NB1256_1257.out; have hnc145 := NB1257_1256.out; have hcz146_0 : w141.cell? ⟨gb1256, 0, none⟩ = some (.int .i64 a2_0) := (blk_cell BK1256.out 0).trans rfl; have hcz146_1 : w141.cell? ⟨gb1256, 1, none⟩ = some (.int .u64 a2_1) := (blk_cell BK1256.out 1).trans rfl; have hcz146_2 : w141.cell? ⟨gb1256, 2, none⟩ = some (.int .u64 a2_2) := (blk_cell BK1256.out 2).trans rfl; have hfz146_0 := blk_frozen BK1256.out 0; have hfz146_1 := blk_frozen BK1256.out 1; have hfz146_2 := blk_frozen BK1256.out 2) | ((with_reducible refine gate_callee (f := 101) rfl ?_); refine goesL_ (some 69) rfl rfl Tryd.func101 (by kernel_rfl) rfl #[.agg #[.int .i64 a1_0, .int .u64 a1_1, .int .u64 a1_2], .agg #[.int .i64 a2_0, .int .u64 a2_1, .int .u64 a2_2]] rfl (by (try simp only [List.map_toArray, List.map_cons, List.map_nil]); rfl) ?_; (with_reducible refine (bits_CaseNe.calls k a1_0 a1_1 a1_2 a2_0 a2_1 a2_2 t1291 t1292 t1293 _ A138.out).mono ?_); rintro e w147 ⟨rfl, hb⟩; refine ⟨_, rfl, ?_⟩; replace BK1255 := bk1 BK1255 hb; replace BK1256 := bk1 BK1256 hb; replace BK1257 := bk1 BK1257 hb; replace HB := hb1 HB hb; (try clear hb); have hcz148_0 : w147.cell? ⟨gb1257, 0, none⟩ = some (.int .i64 0) := (blk_cell BK1257.out 0).trans rfl; have hcz148_1 : w147.cell? ⟨gb1257, 1, none⟩ = some (.int .u64 0) := (blk_cell BK1257.out 1).trans rfl; have hcz148_2 : w147.cell? ⟨gb1257, 2, none⟩ = some (.int .u64 0) := (blk_cell BK1257.out 2).trans rfl; have hfz148_0 := blk_frozen BK1257.out 0; have hfz148_1 := blk_frozen BK1257.out 1; have hfz148_2 := blk_frozen BK1257.out 2))
             refine bodyPost_ret (results_cell_row rfl _ _ gb1257 24 #[.int .i64 t1291, .int .u64 t1292, .int .u64 t1293] (0, 0) _ rfl (by refine blk_put (cs := #[.int .i64 t1291, .int .u64 t1292, .int .u64 0]) ?_ 2 _ rfl; refine blk_put (cs := #[.int .i64 t1291, .int .u64 0, .int .u64 0]) ?_ 1 _ rfl; refine blk_put (cs := #[.int .i64 0, .int .u64 0, .int .u64 0]) ?_ 0 _ rfl; exact BK1257.out) Tryd.underlying24 rfl (by kernel_rfl)) rfl ?_
             exact ⟨by rfl, by repeat (with_reducible first | exact HB.out | refine below_set ?_ GE1257.out)⟩
            ·rw [if_neg c137] at H
             have c137b0 : (a0 == 27) = false := beq_eq_false_iff_ne.mpr c137
             have c137b1 : (a0 != 27) = true := bne_iff_ne.mpr c137
             by_cases c149 : a0 = 28
             ·rw [if_pos c149] at H
              have c149b0 : (a0 == 28) = true := beq_iff_eq.mpr c149
              have c149b1 : (a0 != 28) = false := bne_eq_false_iff_eq.mpr c149
              clear c149
              replace H := Option.bind_eq_some_iff.mp H
              obtain ⟨⟨t1294, t1295, t1296⟩, A1500, H⟩ := H
              replace H : (some (t1294, t1295, t1296)) = some (r1, r2, r3) := H
              have A150 := Aside0.mk A1500
              clear A1500
              simp only [Option.some.injEq, Prod.mk.injEq] at H
              obtain ⟨rfl, rfl, rfl⟩ := H
              go_enter Tryd.func69, Tryd.ntmps69
              go_wp2_with (first | ((with_reducible refine gate_dst (N := 5) rfl ?_); refine box_event ?hg (N := 5) ?hd (cs := #[.int .i64 a1_0, .int .u64 a1_1, .int .u64 a1_2]) (t := 24) ?hr ?_; (case hd => rfl); (case hg => rfl); (case hr => (go_simp; done)); intro gb1255 hg w151 hbox hb; have BK1255 := Aside0.mk (hbox); have GW1255 := ge1 HB hg; have GE1255 := ge1 HB hg; replace HB := hb1 HB hb; clear hb hbox hg) | ((with_reducible refine gate_dst (N := 6) rfl ?_); refine box_event ?hg (N := 6) ?hd (cs := #[.int .i64 a2_0, .int .u64 a2_1, .int .u64 a2_2]) (t := 24) ?hr ?_; (case hd => rfl); (case hg => rfl); (case hr => (go_simp; done)); intro gb1256 hg w152 hbox hb; have BK1256 := Aside0.mk (hbox); have GW1256 := ge1 HB hg; have GE1256 := ge1 HB hg; replace HB := hb1 HB hb; have NB1255_1256 := Aside0.mk ((by rw [hg]; exact Nat.ne_of_lt (blk_lt BK1255.out) : gb1255 ≠ gb1256)); have NB1256_1255 := Aside0.mk ((by rw [hg]; exact Nat.ne_of_gt (blk_lt BK1255.out) : gb1256 ≠ gb1255)); replace BK1255 := bk1 BK1255 hb; clear hb hbox hg) | ((with_reducible refine gate_dst (N := 8) rfl ?_); refine box_event ?hg (N := 8) ?hd (cs := #[.int .i64 0, .int .u64 0, .int .u64 0]) (t := 24) ?hr ?_; (case hd => rfl); (case hg => rfl); (case hr => (go_simp; done)); intro gb1257 hg w153 hbox hb; have BK1257 := Aside0.mk (hbox); have GW1257 := ge1 HB hg; have GE1257 := ge1 HB hg; replace HB := hb1 HB hb; have NB1255_1257 := Aside0.mk ((by rw [hg]; exact Nat.ne_of_lt (blk_lt BK1255.out) : gb1255 ≠ gb1257)); have NB1257_1255 := Aside0.mk ((by rw [hg]; exact Nat.ne_of_gt (blk_lt BK1255.out) : gb1257 ≠ gb1255)); replace BK1255 := bk1 BK1255 hb; have NB1256_1257 := Aside0.mk ((by rw [hg]; exact Nat.ne_of_lt (blk_lt BK1256.out) : gb1256 ≠ gb1257)); have NB1257_1256 := Aside0.mk ((by rw [hg]; exact Nat.ne_of_gt (blk_lt BK1256.out) : gb1257 ≠ gb1256)); replace BK1256 := bk1 BK1256 hb; clear hb hbox hg; have hnb154 := NB1255_1256.out; have hnc154 := NB1256_1255.out; have hnb155 := NB1255_1257.out; have hnc155 := NB1257_1255.out; have hcz156_0 : w153.cell? ⟨gb1255, 0, none⟩ = some (.int .i64 a1_0) := (blk_cell BK1255.out 0).trans rfl; have hcz156_1 : w153.cell? ⟨gb1255, 1, none⟩ = some (.int .u64 a1_1) := (blk_cell BK1255.out 1).trans rfl; have hcz156_2 : w153.cell? ⟨gb1255, 2, none⟩ = some (.int .u64 a1_2) := (blk_cell BK1255.out 2).trans rfl; have hfz156_0 := blk_frozen BK1255.out 0; have hfz156_1 := blk_frozen BK1255.out 1; have hfz156_2 := blk_frozen BK1255.out 2; have hnb157 := NB1256_1257.out; have hnc157 := NB1257_1256.out; have hcz158_0 : w153.cell? ⟨gb1256, 0, none⟩ = some (.int .i64 a2_0) := (blk_cell BK1256.out 0).trans rfl; have hcz158_1 : w153.cell? ⟨gb1256, 1, none⟩ = some (.int .u64 a2_1) := (blk_cell BK1256.out 1).trans rfl; have hcz158_2 : w153.cell? ⟨gb1256, 2, none⟩ = some (.int .u64 a2_2) := (blk_cell BK1256.out 2).trans rfl; have hfz158_0 := blk_frozen BK1256.out 0; have hfz158_1 := blk_frozen BK1256.out 1; have hfz158_2 := blk_frozen BK1256.out 2) | ((with_reducible refine gate_callee (f := 102) rfl ?_); refine goesL_ (some 75) rfl rfl Tryd.func102 (by kernel_rfl) rfl #[.agg #[.int .i64 a1_0, .int .u64 a1_1, .int .u64 a1_2], .agg #[.int .i64 a2_0, .int .u64 a2_1, .int .u64 a2_2], .bool a3] rfl (by (try simp only [List.map_toArray, List.map_cons, List.map_nil]); rfl) ?_; (with_reducible refine (bits_Lt.calls k a1_0 a1_1 a1_2 a2_0 a2_1 a2_2 a3 t1294 t1295 t1296 _ A150.out).mono ?_); rintro e w159 ⟨rfl, hb⟩; refine ⟨_, rfl, ?_⟩; replace BK1255 := bk1 BK1255 hb; replace BK1256 := bk1 BK1256 hb; replace BK1257 := bk1 BK1257 hb; replace HB := hb1 HB hb; (try clear hb); have hcz160_0 : w159.cell? ⟨gb1257, 0, none⟩ = some (.int .i64 0) := (blk_cell BK1257.out 0).trans rfl; have hcz160_1 : w159.cell? ⟨gb1257, 1, none⟩ = some (.int .u64 0) := (blk_cell BK1257.out 1).trans rfl; have hcz160_2 : w159.cell? ⟨gb1257, 2, none⟩ = some (.int .u64 0) := (blk_cell BK1257.out 2).trans rfl; have hfz160_0 := blk_frozen BK1257.out 0; have hfz160_1 := blk_frozen BK1257.out 1; have hfz160_2 := blk_frozen BK1257.out 2))
              refine bodyPost_ret (results_cell_row rfl _ _ gb1257 24 #[.int .i64 t1294, .int .u64 t1295, .int .u64 t1296] (0, 0) _ rfl (by refine blk_put (cs := #[.int .i64 t1294, .int .u64 t1295, .int .u64 0]) ?_ 2 _ rfl; refine blk_put (cs := #[.int .i64 t1294, .int .u64 0, .int .u64 0]) ?_ 1 _ rfl; refine blk_put (cs := #[.int .i64 0, .int .u64 0, .int .u64 0]) ?_ 0 _ rfl; exact BK1257.out) Tryd.underlying24 rfl (by kernel_rfl)) rfl ?_
              exact ⟨by rfl, by repeat (with_reducible first | exact HB.out | refine below_set ?_ GE1257.out)⟩
             ·rw [if_neg c149] at H
              have c149b0 : (a0 == 28) = false := beq_eq_false_iff_ne.mpr c149
              have c149b1 : (a0 != 28) = true := bne_iff_ne.mpr c149
              by_cases c161 : a0 = 29
              ·rw [if_pos c161] at H
               have c161b0 : (a0 == 29) = true := beq_iff_eq.mpr c161
               have c161b1 : (a0 != 29) = false := bne_eq_false_iff_eq.mpr c161
               clear c161
               replace H := Option.bind_eq_some_iff.mp H
               obtain ⟨⟨t1297, t1298, t1299⟩, A1620, H⟩ := H
               replace H : (some (t1297, t1298, t1299)) = some (r1, r2, r3) := H
               have A162 := Aside0.mk A1620
               clear A1620
               simp only [Option.some.injEq, Prod.mk.injEq] at H
               obtain ⟨rfl, rfl, rfl⟩ := H
               go_enter Tryd.func69, Tryd.ntmps69
               go_wp2_with (first | ((with_reducible refine gate_dst (N := 5) rfl ?_); refine box_event ?hg (N := 5) ?hd (cs := #[.int .i64 a1_0, .int .u64 a1_1, .int .u64 a1_2]) (t := 24) ?hr ?_; (case hd => rfl); (case hg => rfl); (case hr => (go_simp; done)); intro gb1255 hg w163 hbox hb; have BK1255 := Aside0.mk (hbox); have GW1255 := ge1 HB hg; have GE1255 := ge1 HB hg; replace HB := hb1 HB hb; clear hb hbox hg) | ((with_reducible refine gate_dst (N := 6) rfl ?_); refine box_event ?hg (N := 6) ?hd (cs := #[.int .i64 a2_0, .int .u64 a2_1, .int .u64 a2_2]) (t := 24) ?hr ?_; (case hd => rfl); (case hg => rfl); (case hr => (go_simp; done)); intro gb1256 hg w164 hbox hb; have BK1256 := Aside0.mk (hbox); have GW1256 := ge1 HB hg; have GE1256 := ge1 HB hg; replace HB := hb1 HB hb; have NB1255_1256 := Aside0.mk ((by rw [hg]; exact Nat.ne_of_lt (blk_lt BK1255.out) : gb1255 ≠ gb1256)); have NB1256_1255 := Aside0.mk ((by rw [hg]; exact Nat.ne_of_gt (blk_lt BK1255.out) : gb1256 ≠ gb1255)); replace BK1255 := bk1 BK1255 hb; clear hb hbox hg) | ((with_reducible refine gate_dst (N := 8) rfl ?_); refine box_event ?hg (N := 8) ?hd (cs := #[.int .i64 0, .int .u64 0, .int .u64 0]) (t := 24) ?hr ?_; (case hd => rfl); (case hg => rfl); (case hr => (go_simp; done)); intro gb1257 hg w165 hbox hb; have BK1257 := Aside0.mk (hbox); have GW1257 := ge1 HB hg; have GE1257 := ge1 HB hg; replace HB := hb1 HB hb; have NB1255_1257 := Aside0.mk ((by rw [hg]; exact Nat.ne_of_lt (blk_lt BK1255.out) : gb1255 ≠ gb1257)); have NB1257_1255 := Aside0.mk ((by rw [hg]; exact Nat.ne_of_gt (blk_lt BK1255.out) : gb1257 ≠ gb1255)); replace BK1255 := bk1 BK1255 hb; have NB1256_1257 := Aside0.mk ((by rw [hg]; exact Nat.ne_of_lt (blk_lt BK1256.out) : gb1256 ≠ gb1257)); have NB1257_1256 := Aside0.mk ((by rw [hg]; exact Nat.ne_of_gt (blk_lt BK1256.out) : gb1257 ≠ gb1256)); replace BK1256 := bk1 BK1256 hb; clear hb hbox hg; have hnb166 := NB1255_1256.out; have hnc166 := NB1256_1255.out; have hnb167 := NB1255_1257.out; have hnc167 := NB1257_1255.out; have hcz168_0 : w165.cell? ⟨gb1255, 0, none⟩ = some (.int .i64 a1_0) := (blk_cell BK1255.out 0).trans rfl; have hcz168_1 : w165.cell? ⟨gb1255, 1, none⟩ = some (.int .u64 a1_1) := (blk_cell BK1255.out 1).trans rfl; have hcz168_2 : w165.cell? ⟨gb1255, 2, none⟩ = some (.int .u64 a1_2) := (blk_cell BK1255.out 2).trans rfl; have hfz168_0 := blk_frozen BK1255.out 0; have hfz168_1 := blk_frozen BK1255.out 1; have hfz168_2 := blk_frozen BK1255.out 2; have hnb169 := NB1256_1257.out; have hnc169 := NB1257_1256.out; have hcz170_0 : w165.cell? ⟨gb1256, 0, none⟩ = some (.int .i64 a2_0) := (blk_cell BK1256.out 0).trans rfl; have hcz170_1 : w165.cell? ⟨gb1256, 1, none⟩ = some (.int .u64 a2_1) := (blk_cell BK1256.out 1).trans rfl; have hcz170_2 : w165.cell? ⟨gb1256, 2, none⟩ = some (.int .u64 a2_2) := (blk_cell BK1256.out 2).trans rfl; have hfz170_0 := blk_frozen BK1256.out 0; have hfz170_1 := blk_frozen BK1256.out 1; have hfz170_2 := blk_frozen BK1256.out 2) | ((with_reducible refine gate_callee (f := 103) rfl ?_); refine goesL_ (some 81) rfl rfl Tryd.func103 (by kernel_rfl) rfl #[.agg #[.int .i64 a1_0, .int .u64 a1_1, .int .u64 a1_2], .agg #[.int .i64 a2_0, .int .u64 a2_1, .int .u64 a2_2], .bool a3] rfl (by (try simp only [List.map_toArray, List.map_cons, List.map_nil]); rfl) ?_; (with_reducible refine (bits_Le.calls k a1_0 a1_1 a1_2 a2_0 a2_1 a2_2 a3 t1297 t1298 t1299 _ A162.out).mono ?_); rintro e w171 ⟨rfl, hb⟩; refine ⟨_, rfl, ?_⟩; replace BK1255 := bk1 BK1255 hb; replace BK1256 := bk1 BK1256 hb; replace BK1257 := bk1 BK1257 hb; replace HB := hb1 HB hb; (try clear hb); have hcz172_0 : w171.cell? ⟨gb1257, 0, none⟩ = some (.int .i64 0) := (blk_cell BK1257.out 0).trans rfl; have hcz172_1 : w171.cell? ⟨gb1257, 1, none⟩ = some (.int .u64 0) := (blk_cell BK1257.out 1).trans rfl; have hcz172_2 : w171.cell? ⟨gb1257, 2, none⟩ = some (.int .u64 0) := (blk_cell BK1257.out 2).trans rfl; have hfz172_0 := blk_frozen BK1257.out 0; have hfz172_1 := blk_frozen BK1257.out 1; have hfz172_2 := blk_frozen BK1257.out 2))
               refine bodyPost_ret (results_cell_row rfl _ _ gb1257 24 #[.int .i64 t1297, .int .u64 t1298, .int .u64 t1299] (0, 0) _ rfl (by refine blk_put (cs := #[.int .i64 t1297, .int .u64 t1298, .int .u64 0]) ?_ 2 _ rfl; refine blk_put (cs := #[.int .i64 t1297, .int .u64 0, .int .u64 0]) ?_ 1 _ rfl; refine blk_put (cs := #[.int .i64 0, .int .u64 0, .int .u64 0]) ?_ 0 _ rfl; exact BK1257.out) Tryd.underlying24 rfl (by kernel_rfl)) rfl ?_
               exact ⟨by rfl, by repeat (with_reducible first | exact HB.out | refine below_set ?_ GE1257.out)⟩
              ·rw [if_neg c161] at H
               have c161b0 : (a0 == 29) = false := beq_eq_false_iff_ne.mpr c161
               have c161b1 : (a0 != 29) = true := bne_iff_ne.mpr c161
               by_cases c173 : a0 = 16
               ·rw [if_pos c173] at H
                have c173b0 : (a0 == 16) = true := beq_iff_eq.mpr c173
                have c173b1 : (a0 != 16) = false := bne_eq_false_iff_eq.mpr c173
                clear c173
                replace H := Option.bind_eq_some_iff.mp H
                obtain ⟨⟨t1300, t1301, t1302⟩, A1740, H⟩ := H
                replace H : (some (t1300, t1301, t1302)) = some (r1, r2, r3) := H
                have A174 := Aside0.mk A1740
                clear A1740
                simp only [Option.some.injEq, Prod.mk.injEq] at H
                obtain ⟨rfl, rfl, rfl⟩ := H
                go_enter Tryd.func69, Tryd.ntmps69
                go_wp2_with (first | ((with_reducible refine gate_dst (N := 5) rfl ?_); refine box_event ?hg (N := 5) ?hd (cs := #[.int .i64 a1_0, .int .u64 a1_1, .int .u64 a1_2]) (t := 24) ?hr ?_; (case hd => rfl); (case hg => rfl); (case hr => (go_simp; done)); intro gb1255 hg w175 hbox hb; have BK1255 := Aside0.mk (hbox); have GW1255 := ge1 HB hg; have GE1255 := ge1 HB hg; replace HB := hb1 HB hb; clear hb hbox hg) | ((with_reducible refine gate_dst (N := 6) rfl ?_); refine box_event ?hg (N := 6) ?hd (cs := #[.int .i64 a2_0, .int .u64 a2_1, .int .u64 a2_2]) (t := 24) ?hr ?_; (case hd => rfl); (case hg => rfl); (case hr => (go_simp; done)); intro gb1256 hg w176 hbox hb; have BK1256 := Aside0.mk (hbox); have GW1256 := ge1 HB hg; have GE1256 := ge1 HB hg; replace HB := hb1 HB hb; have NB1255_1256 := Aside0.mk ((by rw [hg]; exact Nat.ne_of_lt (blk_lt BK1255.out) : gb1255 ≠ gb1256)); have NB1256_1255 := Aside0.mk ((by rw [hg]; exact Nat.ne_of_gt (blk_lt BK1255.out) : gb1256 ≠ gb1255)); replace BK1255 := bk1 BK1255 hb; clear hb hbox hg) | ((with_reducible refine gate_dst (N := 8) rfl ?_); refine box_event ?hg (N := 8) ?hd (cs := #[.int .i64 0, .int .u64 0, .int .u64 0]) (t := 24) ?hr ?_; (case hd => rfl); (case hg => rfl); (case hr => (go_simp; done)); intro gb1257 hg w177 hbox hb; have BK1257 := Aside0.mk (hbox); have GW1257 := ge1 HB hg; have GE1257 := ge1 HB hg; replace HB := hb1 HB hb; have NB1255_1257 := Aside0.mk ((by rw [hg]; exact Nat.ne_of_lt (blk_lt BK1255.out) : gb1255 ≠ gb1257)); have NB1257_1255 := Aside0.mk ((by rw [hg]; exact Nat.ne_of_gt (blk_lt BK1255.out) : gb1257 ≠ gb1255)); replace BK1255 := bk1 BK1255 hb; have NB1256_1257 := Aside0.mk ((by rw [hg]; exact Nat.ne_of_lt (blk_lt BK1256.out) : gb1256 ≠ gb1257)); have NB1257_1256 := Aside0.mk ((by rw [hg]; exact Nat.ne_of_gt (blk_lt BK1256.out) : gb1257 ≠ gb1256)); replace BK1256 := bk1 BK1256 hb; clear hb hbox hg; have hnb178 := NB1255_1256.out; have hnc178 := NB1256_1255.out; have hnb179 := NB1255_1257.out; have hnc179 := NB1257_1255.out; have hcz180_0 : w177.cell? ⟨gb1255, 0, none⟩ = some (.int .i64 a1_0) := (blk_cell BK1255.out 0).trans rfl; have hcz180_1 : w177.cell? ⟨gb1255, 1, none⟩ = some (.int .u64 a1_1) := (blk_cell BK1255.out 1).trans rfl; have hcz180_2 : w177.cell? ⟨gb1255, 2, none⟩ = some (.int .u64 a1_2) := (blk_cell BK1255.out 2).trans rfl; have hfz180_0 := blk_frozen BK1255.out 0; have hfz180_1 := blk_frozen BK1255.out 1; have hfz180_2 := blk_frozen BK1255.out 2; have hnb181 := NB1256_1257.out; have hnc181 := NB1257_1256.out; have hcz182_0 : w177.cell? ⟨gb1256, 0, none⟩ = some (.int .i64 a2_0) := (blk_cell BK1256.out 0).trans rfl; have hcz182_1 : w177.cell? ⟨gb1256, 1, none⟩ = some (.int .u64 a2_1) := (blk_cell BK1256.out 1).trans rfl; have hcz182_2 : w177.cell? ⟨gb1256, 2, none⟩ = some (.int .u64 a2_2) := (blk_cell BK1256.out 2).trans rfl; have hfz182_0 := blk_frozen BK1256.out 0; have hfz182_1 := blk_frozen BK1256.out 1; have hfz182_2 := blk_frozen BK1256.out 2) | ((with_reducible refine gate_callee (f := 49) rfl ?_); refine goesL_ (some 86) rfl rfl Tryd.func49 (by kernel_rfl) rfl #[.agg #[.int .i64 a1_0, .int .u64 a1_1, .int .u64 a1_2], .agg #[.int .i64 a2_0, .int .u64 a2_1, .int .u64 a2_2]] rfl (by (try simp only [List.map_toArray, List.map_cons, List.map_nil]); rfl) ?_; (with_reducible refine (bits_Add.calls k a1_0 a1_1 a1_2 a2_0 a2_1 a2_2 t1300 t1301 t1302 _ A174.out).mono ?_); rintro e w183 ⟨rfl, hb⟩; refine ⟨_, rfl, ?_⟩; replace BK1255 := bk1 BK1255 hb; replace BK1256 := bk1 BK1256 hb; replace BK1257 := bk1 BK1257 hb; replace HB := hb1 HB hb; (try clear hb); have hcz184_0 : w183.cell? ⟨gb1257, 0, none⟩ = some (.int .i64 0) := (blk_cell BK1257.out 0).trans rfl; have hcz184_1 : w183.cell? ⟨gb1257, 1, none⟩ = some (.int .u64 0) := (blk_cell BK1257.out 1).trans rfl; have hcz184_2 : w183.cell? ⟨gb1257, 2, none⟩ = some (.int .u64 0) := (blk_cell BK1257.out 2).trans rfl; have hfz184_0 := blk_frozen BK1257.out 0; have hfz184_1 := blk_frozen BK1257.out 1; have hfz184_2 := blk_frozen BK1257.out 2))
                refine bodyPost_ret (results_cell_row rfl _ _ gb1257 24 #[.int .i64 t1300, .int .u64 t1301, .int .u64 t1302] (0, 0) _ rfl (by refine blk_put (cs := #[.int .i64 t1300, .int .u64 t1301, .int .u64 0]) ?_ 2 _ rfl; refine blk_put (cs := #[.int .i64 t1300, .int .u64 0, .int .u64 0]) ?_ 1 _ rfl; refine blk_put (cs := #[.int .i64 0, .int .u64 0, .int .u64 0]) ?_ 0 _ rfl; exact BK1257.out) Tryd.underlying24 rfl (by kernel_rfl)) rfl ?_
                exact ⟨by rfl, by repeat (with_reducible first | exact HB.out | refine below_set ?_ GE1257.out)⟩
               ·rw [if_neg c173] at H
                have c173b0 : (a0 == 16) = false := beq_eq_false_iff_ne.mpr c173
                have c173b1 : (a0 != 16) = true := bne_iff_ne.mpr c173
                by_cases c185 : a0 = 17
                ·rw [if_pos c185] at H
                 have c185b0 : (a0 == 17) = true := beq_iff_eq.mpr c185
                 have c185b1 : (a0 != 17) = false := bne_eq_false_iff_eq.mpr c185
                 clear c185
                 replace H := Option.bind_eq_some_iff.mp H
                 obtain ⟨⟨t1303, t1304, t1305⟩, A1860, H⟩ := H
                 replace H : (some (t1303, t1304, t1305)) = some (r1, r2, r3) := H
                 have A186 := Aside0.mk A1860
                 clear A1860
                 simp only [Option.some.injEq, Prod.mk.injEq] at H
                 obtain ⟨rfl, rfl, rfl⟩ := H
                 go_enter Tryd.func69, Tryd.ntmps69
                 go_wp2_with (first | ((with_reducible refine gate_dst (N := 5) rfl ?_); refine box_event ?hg (N := 5) ?hd (cs := #[.int .i64 a1_0, .int .u64 a1_1, .int .u64 a1_2]) (t := 24) ?hr ?_; (case hd => rfl); (case hg => rfl); (case hr => (go_simp; done)); intro gb1255 hg w187 hbox hb; have BK1255 := Aside0.mk (hbox); have GW1255 := ge1 HB hg; have GE1255 := ge1 HB hg; replace HB := hb1 HB hb; clear hb hbox hg) | ((with_reducible refine gate_dst (N := 6) rfl ?_); refine box_event ?hg (N := 6) ?hd (cs := #[.int .i64 a2_0, .int .u64 a2_1, .int .u64 a2_2]) (t := 24) ?hr ?_; (case hd => rfl); (case hg => rfl); (case hr => (go_simp; done)); intro gb1256 hg w188 hbox hb; have BK1256 := Aside0.mk (hbox); have GW1256 := ge1 HB hg; have GE1256 := ge1 HB hg; replace HB := hb1 HB hb; have NB1255_1256 := Aside0.mk ((by rw [hg]; exact Nat.ne_of_lt (blk_lt BK1255.out) : gb1255 ≠ gb1256)); have NB1256_1255 := Aside0.mk ((by rw [hg]; exact Nat.ne_of_gt (blk_lt BK1255.out) : gb1256 ≠ gb1255)); replace BK1255 := bk1 BK1255 hb; clear hb hbox hg) | ((with_reducible refine gate_dst (N := 8) rfl ?_); refine box_event ?hg (N := 8) ?hd (cs := #[.int .i64 0, .int .u64 0, .int .u64 0]) (t := 24) ?hr ?_; (case hd => rfl); (case hg => rfl); (case hr => (go_simp; done)); intro gb1257 hg w189 hbox hb; have BK1257 := Aside0.mk (hbox); have GW1257 := ge1 HB hg; have GE1257 := ge1 HB hg; replace HB := hb1 HB hb; have NB1255_1257 := Aside0.mk ((by rw [hg]; exact Nat.ne_of_lt (blk_lt BK1255.out) : gb1255 ≠ gb1257)); have NB1257_1255 := Aside0.mk ((by rw [hg]; exact Nat.ne_of_gt (blk_lt BK1255.out) : gb1257 ≠ gb1255)); replace BK1255 := bk1 BK1255 hb; have NB1256_1257 := Aside0.mk ((by rw [hg]; exact Nat.ne_of_lt (blk_lt BK1256.out) : gb1256 ≠ gb1257)); have NB1257_1256 := Aside0.mk ((by rw [hg]; exact Nat.ne_of_gt (blk_lt BK1256.out) : gb1257 ≠ gb1256)); replace BK1256 := bk1 BK1256 hb; clear hb hbox hg; have hnb190 := NB1255_1256.out; have hnc190 := NB1256_1255.out; have hnb191 := NB1255_1257.out; have hnc191 := NB1257_1255.out; have hcz192_0 : w189.cell? ⟨gb1255, 0, none⟩ = some (.int .i64 a1_0) := (blk_cell BK1255.out 0).trans rfl; have hcz192_1 : w189.cell? ⟨gb1255, 1, none⟩ = some (.int .u64 a1_1) := (blk_cell BK1255.out 1).trans rfl; have hcz192_2 : w189.cell? ⟨gb1255, 2, none⟩ = some (.int .u64 a1_2) := (blk_cell BK1255.out 2).trans rfl; have hfz192_0 := blk_frozen BK1255.out 0; have hfz192_1 := blk_frozen BK1255.out 1; have hfz192_2 := blk_frozen BK1255.out 2; have hnb193 := NB1256_1257.out; have hnc193 := NB1257_1256.out; have hcz194_0 : w189.cell? ⟨gb1256, 0, none⟩ = some (.int .i64 a2_0) := (blk_cell BK1256.out 0).trans rfl; have hcz194_1 : w189.cell? ⟨gb1256, 1, none⟩ = some (.int .u64 a2_1) := (blk_cell BK1256.out 1).trans rfl; have hcz194_2 : w189.cell? ⟨gb1256, 2, none⟩ = some (.int .u64 a2_2) := (blk_cell BK1256.out 2).trans rfl; have hfz194_0 := blk_frozen BK1256.out 0; have hfz194_1 := blk_frozen BK1256.out 1; have hfz194_2 := blk_frozen BK1256.out 2) | ((with_reducible refine gate_callee (f := 104) rfl ?_); refine goesL_ (some 91) rfl rfl Tryd.func104 (by kernel_rfl) rfl #[.agg #[.int .i64 a1_0, .int .u64 a1_1, .int .u64 a1_2], .agg #[.int .i64 a2_0, .int .u64 a2_1, .int .u64 a2_2]] rfl (by (try simp only [List.map_toArray, List.map_cons, List.map_nil]); rfl) ?_; (with_reducible refine (bits_Sub.calls k a1_0 a1_1 a1_2 a2_0 a2_1 a2_2 t1303 t1304 t1305 _ A186.out).mono ?_); rintro e w195 ⟨rfl, hb⟩; refine ⟨_, rfl, ?_⟩; replace BK1255 := bk1 BK1255 hb; replace BK1256 := bk1 BK1256 hb; replace BK1257 := bk1 BK1257 hb; replace HB := hb1 HB hb; (try clear hb); have hcz196_0 : w195.cell? ⟨gb1257, 0, none⟩ = some (.int .i64 0) := (blk_cell BK1257.out 0).trans rfl; have hcz196_1 : w195.cell? ⟨gb1257, 1, none⟩ = some (.int .u64 0) := (blk_cell BK1257.out 1).trans rfl; have hcz196_2 : w195.cell? ⟨gb1257, 2, none⟩ = some (.int .u64 0) := (blk_cell BK1257.out 2).trans rfl; have hfz196_0 := blk_frozen BK1257.out 0; have hfz196_1 := blk_frozen BK1257.out 1; have hfz196_2 := blk_frozen BK1257.out 2))
                 refine bodyPost_ret (results_cell_row rfl _ _ gb1257 24 #[.int .i64 t1303, .int .u64 t1304, .int .u64 t1305] (0, 0) _ rfl (by refine blk_put (cs := #[.int .i64 t1303, .int .u64 t1304, .int .u64 0]) ?_ 2 _ rfl; refine blk_put (cs := #[.int .i64 t1303, .int .u64 0, .int .u64 0]) ?_ 1 _ rfl; refine blk_put (cs := #[.int .i64 0, .int .u64 0, .int .u64 0]) ?_ 0 _ rfl; exact BK1257.out) Tryd.underlying24 rfl (by kernel_rfl)) rfl ?_
                 exact ⟨by rfl, by repeat (with_reducible first | exact HB.out | refine below_set ?_ GE1257.out)⟩
                ·rw [if_neg c185] at H
                 have c185b0 : (a0 == 17) = false := beq_eq_false_iff_ne.mpr c185
                 have c185b1 : (a0 != 17) = true := bne_iff_ne.mpr c185
                 by_cases c197 : a0 = 18
                 ·rw [if_pos c197] at H
                  have c197b0 : (a0 == 18) = true := beq_iff_eq.mpr c197
                  have c197b1 : (a0 != 18) = false := bne_eq_false_iff_eq.mpr c197
                  clear c197
                  replace H := Option.bind_eq_some_iff.mp H
                  obtain ⟨⟨t1306, t1307, t1308⟩, A1980, H⟩ := H
                  replace H : (some (t1306, t1307, t1308)) = some (r1, r2, r3) := H
                  have A198 := Aside0.mk A1980
                  clear A1980
                  simp only [Option.some.injEq, Prod.mk.injEq] at H
                  obtain ⟨rfl, rfl, rfl⟩ := H
                  go_enter Tryd.func69, Tryd.ntmps69
                  go_wp2_with (first | ((with_reducible refine gate_dst (N := 5) rfl ?_); refine box_event ?hg (N := 5) ?hd (cs := #[.int .i64 a1_0, .int .u64 a1_1, .int .u64 a1_2]) (t := 24) ?hr ?_; (case hd => rfl); (case hg => rfl); (case hr => (go_simp; done)); intro gb1255 hg w199 hbox hb; have BK1255 := Aside0.mk (hbox); have GW1255 := ge1 HB hg; have GE1255 := ge1 HB hg; replace HB := hb1 HB hb; clear hb hbox hg) | ((with_reducible refine gate_dst (N := 6) rfl ?_); refine box_event ?hg (N := 6) ?hd (cs := #[.int .i64 a2_0, .int .u64 a2_1, .int .u64 a2_2]) (t := 24) ?hr ?_; (case hd => rfl); (case hg => rfl); (case hr => (go_simp; done)); intro gb1256 hg w200 hbox hb; have BK1256 := Aside0.mk (hbox); have GW1256 := ge1 HB hg; have GE1256 := ge1 HB hg; replace HB := hb1 HB hb; have NB1255_1256 := Aside0.mk ((by rw [hg]; exact Nat.ne_of_lt (blk_lt BK1255.out) : gb1255 ≠ gb1256)); have NB1256_1255 := Aside0.mk ((by rw [hg]; exact Nat.ne_of_gt (blk_lt BK1255.out) : gb1256 ≠ gb1255)); replace BK1255 := bk1 BK1255 hb; clear hb hbox hg) | ((with_reducible refine gate_dst (N := 8) rfl ?_); refine box_event ?hg (N := 8) ?hd (cs := #[.int .i64 0, .int .u64 0, .int .u64 0]) (t := 24) ?hr ?_; (case hd => rfl); (case hg => rfl); (case hr => (go_simp; done)); intro gb1257 hg w201 hbox hb; have BK1257 := Aside0.mk (hbox); have GW1257 := ge1 HB hg; have GE1257 := ge1 HB hg; replace HB := hb1 HB hb; have NB1255_1257 := Aside0.mk ((by rw [hg]; exact Nat.ne_of_lt (blk_lt BK1255.out) : gb1255 ≠ gb1257)); have NB1257_1255 := Aside0.mk ((by rw [hg]; exact Nat.ne_of_gt (blk_lt BK1255.out) : gb1257 ≠ gb1255)); replace BK1255 := bk1 BK1255 hb; have NB1256_1257 := Aside0.mk ((by rw [hg]; exact Nat.ne_of_lt (blk_lt BK1256.out) : gb1256 ≠ gb1257)); have NB1257_1256 := Aside0.mk ((by rw [hg]; exact Nat.ne_of_gt (blk_lt BK1256.out) : gb1257 ≠ gb1256)); replace BK1256 := bk1 BK1256 hb; clear hb hbox hg; have hnb202 := NB1255_1256.out; have hnc202 := NB1256_1255.out; have hnb203 := NB1255_1257.out; have hnc203 := NB1257_1255.out; have hcz204_0 : w201.cell? ⟨gb1255, 0, none⟩ = some (.int .i64 a1_0) := (blk_cell BK1255.out 0).trans rfl; have hcz204_1 : w201.cell? ⟨gb1255, 1, none⟩ = some (.int .u64 a1_1) := (blk_cell BK1255.out 1).trans rfl; have hcz204_2 : w201.cell? ⟨gb1255, 2, none⟩ = some (.int .u64 a1_2) := (blk_cell BK1255.out 2).trans rfl; have hfz204_0 := blk_frozen BK1255.out 0; have hfz204_1 := blk_frozen BK1255.out 1; have hfz204_2 := blk_frozen BK1255.out 2; have hnb205 := NB1256_1257.out; have hnc205 := NB1257_1256.out; have hcz206_0 : w201.cell? ⟨gb1256, 0, none⟩ = some (.int .i64 a2_0) := (blk_cell BK1256.out 0).trans rfl; have hcz206_1 : w201.cell? ⟨gb1256, 1, none⟩ = some (.int .u64 a2_1) := (blk_cell BK1256.out 1).trans rfl; have hcz206_2 : w201.cell? ⟨gb1256, 2, none⟩ = some (.int .u64 a2_2) := (blk_cell BK1256.out 2).trans rfl; have hfz206_0 := blk_frozen BK1256.out 0; have hfz206_1 := blk_frozen BK1256.out 1; have hfz206_2 := blk_frozen BK1256.out 2) | ((with_reducible refine gate_callee (f := 105) rfl ?_); refine goesL_ (some 96) rfl rfl Tryd.func105 (by kernel_rfl) rfl #[.agg #[.int .i64 a1_0, .int .u64 a1_1, .int .u64 a1_2], .agg #[.int .i64 a2_0, .int .u64 a2_1, .int .u64 a2_2]] rfl (by (try simp only [List.map_toArray, List.map_cons, List.map_nil]); rfl) ?_; (with_reducible refine (bits_Mul.calls k a1_0 a1_1 a1_2 a2_0 a2_1 a2_2 t1306 t1307 t1308 _ A198.out).mono ?_); rintro e w207 ⟨rfl, hb⟩; refine ⟨_, rfl, ?_⟩; replace BK1255 := bk1 BK1255 hb; replace BK1256 := bk1 BK1256 hb; replace BK1257 := bk1 BK1257 hb; replace HB := hb1 HB hb; (try clear hb); have hcz208_0 : w207.cell? ⟨gb1257, 0, none⟩ = some (.int .i64 0) := (blk_cell BK1257.out 0).trans rfl; have hcz208_1 : w207.cell? ⟨gb1257, 1, none⟩ = some (.int .u64 0) := (blk_cell BK1257.out 1).trans rfl; have hcz208_2 : w207.cell? ⟨gb1257, 2, none⟩ = some (.int .u64 0) := (blk_cell BK1257.out 2).trans rfl; have hfz208_0 := blk_frozen BK1257.out 0; have hfz208_1 := blk_frozen BK1257.out 1; have hfz208_2 := blk_frozen BK1257.out 2))
                  refine bodyPost_ret (results_cell_row rfl _ _ gb1257 24 #[.int .i64 t1306, .int .u64 t1307, .int .u64 t1308] (0, 0) _ rfl (by refine blk_put (cs := #[.int .i64 t1306, .int .u64 t1307, .int .u64 0]) ?_ 2 _ rfl; refine blk_put (cs := #[.int .i64 t1306, .int .u64 0, .int .u64 0]) ?_ 1 _ rfl; refine blk_put (cs := #[.int .i64 0, .int .u64 0, .int .u64 0]) ?_ 0 _ rfl; exact BK1257.out) Tryd.underlying24 rfl (by kernel_rfl)) rfl ?_
                  exact ⟨by rfl, by repeat (with_reducible first | exact HB.out | refine below_set ?_ GE1257.out)⟩
                 ·rw [if_neg c197] at H
                  have c197b0 : (a0 == 18) = false := beq_eq_false_iff_ne.mpr c197
                  have c197b1 : (a0 != 18) = true := bne_iff_ne.mpr c197
                  by_cases c209 : a0 = 19
                  ·rw [if_pos c209] at H
                   have c209b0 : (a0 == 19) = true := beq_iff_eq.mpr c209
                   have c209b1 : (a0 != 19) = false := bne_eq_false_iff_eq.mpr c209
                   clear c209
                   replace H := Option.bind_eq_some_iff.mp H
                   obtain ⟨⟨t1309, t1310, t1311⟩, A2100, H⟩ := H
                   replace H : (some (t1309, t1310, t1311)) = some (r1, r2, r3) := H
                   have A210 := Aside0.mk A2100
                   clear A2100
                   simp only [Option.some.injEq, Prod.mk.injEq] at H
                   obtain ⟨rfl, rfl, rfl⟩ := H
                   go_enter Tryd.func69, Tryd.ntmps69
                   go_wp2_with (first | ((with_reducible refine gate_dst (N := 5) rfl ?_); refine box_event ?hg (N := 5) ?hd (cs := #[.int .i64 a1_0, .int .u64 a1_1, .int .u64 a1_2]) (t := 24) ?hr ?_; (case hd => rfl); (case hg => rfl); (case hr => (go_simp; done)); intro gb1255 hg w211 hbox hb; have BK1255 := Aside0.mk (hbox); have GW1255 := ge1 HB hg; have GE1255 := ge1 HB hg; replace HB := hb1 HB hb; clear hb hbox hg) | ((with_reducible refine gate_dst (N := 6) rfl ?_); refine box_event ?hg (N := 6) ?hd (cs := #[.int .i64 a2_0, .int .u64 a2_1, .int .u64 a2_2]) (t := 24) ?hr ?_; (case hd => rfl); (case hg => rfl); (case hr => (go_simp; done)); intro gb1256 hg w212 hbox hb; have BK1256 := Aside0.mk (hbox); have GW1256 := ge1 HB hg; have GE1256 := ge1 HB hg; replace HB := hb1 HB hb; have NB1255_1256 := Aside0.mk ((by rw [hg]; exact Nat.ne_of_lt (blk_lt BK1255.out) : gb1255 ≠ gb1256)); have NB1256_1255 := Aside0.mk ((by rw [hg]; exact Nat.ne_of_gt (blk_lt BK1255.out) : gb1256 ≠ gb1255)); replace BK1255 := bk1 BK1255 hb; clear hb hbox hg) | ((with_reducible refine gate_dst (N := 8) rfl ?_); refine box_event ?hg (N := 8) ?hd (cs := #[.int .i64 0, .int .u64 0, .int .u64 0]) (t := 24) ?hr ?_; (case hd => rfl); (case hg => rfl); (case hr => (go_simp; done)); intro gb1257 hg w213 hbox hb; have BK1257 := Aside0.mk (hbox); have GW1257 := ge1 HB hg; have GE1257 := ge1 HB hg; replace HB := hb1 HB hb; have NB1255_1257 := Aside0.mk ((by rw [hg]; exact Nat.ne_of_lt (blk_lt BK1255.out) : gb1255 ≠ gb1257)); have NB1257_1255 := Aside0.mk ((by rw [hg]; exact Nat.ne_of_gt (blk_lt BK1255.out) : gb1257 ≠ gb1255)); replace BK1255 := bk1 BK1255 hb; have NB1256_1257 := Aside0.mk ((by rw [hg]; exact Nat.ne_of_lt (blk_lt BK1256.out) : gb1256 ≠ gb1257)); have NB1257_1256 := Aside0.mk ((by rw [hg]; exact Nat.ne_of_gt (blk_lt BK1256.out) : gb1257 ≠ gb1256)); replace BK1256 := bk1 BK1256 hb; clear hb hbox hg; have hnb214 := NB1255_1256.out; have hnc214 := NB1256_1255.out; have hnb215 := NB1255_1257.out; have hnc215 := NB1257_1255.out; have hcz216_0 : w213.cell? ⟨gb1255, 0, none⟩ = some (.int .i64 a1_0) := (blk_cell BK1255.out 0).trans rfl; have hcz216_1 : w213.cell? ⟨gb1255, 1, none⟩ = some (.int .u64 a1_1) := (blk_cell BK1255.out 1).trans rfl; have hcz216_2 : w213.cell? ⟨gb1255, 2, none⟩ = some (.int .u64 a1_2) := (blk_cell BK1255.out 2).trans rfl; have hfz216_0 := blk_frozen BK1255.out 0; have hfz216_1 := blk_frozen BK1255.out 1; have hfz216_2 := blk_frozen BK1255.out 2; have hnb217 := NB1256_1257.out; have hnc217 := NB1257_1256.out; have hcz218_0 : w213.cell? ⟨gb1256, 0, none⟩ = some (.int .i64 a2_0) := (blk_cell BK1256.out 0).trans rfl; have hcz218_1 : w213.cell? ⟨gb1256, 1, none⟩ = some (.int .u64 a2_1) := (blk_cell BK1256.out 1).trans rfl; have hcz218_2 : w213.cell? ⟨gb1256, 2, none⟩ = some (.int .u64 a2_2) := (blk_cell BK1256.out 2).trans rfl; have hfz218_0 := blk_frozen BK1256.out 0; have hfz218_1 := blk_frozen BK1256.out 1; have hfz218_2 := blk_frozen BK1256.out 2) | ((with_reducible refine gate_callee (f := 106) rfl ?_); refine goesL_ (some 102) rfl rfl Tryd.func106 (by kernel_rfl) rfl #[.agg #[.int .i64 a1_0, .int .u64 a1_1, .int .u64 a1_2], .agg #[.int .i64 a2_0, .int .u64 a2_1, .int .u64 a2_2], .bool a3] rfl (by (try simp only [List.map_toArray, List.map_cons, List.map_nil]); rfl) ?_; (with_reducible refine (bits_Div.calls k a1_0 a1_1 a1_2 a2_0 a2_1 a2_2 a3 t1309 t1310 t1311 _ A210.out).mono ?_); rintro e w219 ⟨rfl, hb⟩; refine ⟨_, rfl, ?_⟩; replace BK1255 := bk1 BK1255 hb; replace BK1256 := bk1 BK1256 hb; replace BK1257 := bk1 BK1257 hb; replace HB := hb1 HB hb; (try clear hb); have hcz220_0 : w219.cell? ⟨gb1257, 0, none⟩ = some (.int .i64 0) := (blk_cell BK1257.out 0).trans rfl; have hcz220_1 : w219.cell? ⟨gb1257, 1, none⟩ = some (.int .u64 0) := (blk_cell BK1257.out 1).trans rfl; have hcz220_2 : w219.cell? ⟨gb1257, 2, none⟩ = some (.int .u64 0) := (blk_cell BK1257.out 2).trans rfl; have hfz220_0 := blk_frozen BK1257.out 0; have hfz220_1 := blk_frozen BK1257.out 1; have hfz220_2 := blk_frozen BK1257.out 2))
                   refine bodyPost_ret (results_cell_row rfl _ _ gb1257 24 #[.int .i64 t1309, .int .u64 t1310, .int .u64 t1311] (0, 0) _ rfl (by refine blk_put (cs := #[.int .i64 t1309, .int .u64 t1310, .int .u64 0]) ?_ 2 _ rfl; refine blk_put (cs := #[.int .i64 t1309, .int .u64 0, .int .u64 0]) ?_ 1 _ rfl; refine blk_put (cs := #[.int .i64 0, .int .u64 0, .int .u64 0]) ?_ 0 _ rfl; exact BK1257.out) Tryd.underlying24 rfl (by kernel_rfl)) rfl ?_
                   exact ⟨by rfl, by repeat (with_reducible first | exact HB.out | refine below_set ?_ GE1257.out)⟩
                  ·rw [if_neg c209] at H
                   have c209b0 : (a0 == 19) = false := beq_eq_false_iff_ne.mpr c209
                   have c209b1 : (a0 != 19) = true := bne_iff_ne.mpr c209
                   replace H := Option.bind_eq_some_iff.mp H
                   obtain ⟨⟨t1312, t1313, t1314⟩, A2210, H⟩ := H
                   replace H : (some (t1312, t1313, t1314)) = some (r1, r2, r3) := H
                   have A221 := Aside0.mk A2210
                   clear A2210
                   simp only [Option.some.injEq, Prod.mk.injEq] at H
                   obtain ⟨rfl, rfl, rfl⟩ := H
                   go_enter Tryd.func69, Tryd.ntmps69
                   go_wp2_with (first | ((with_reducible refine gate_dst (N := 5) rfl ?_); refine box_event ?hg (N := 5) ?hd (cs := #[.int .i64 a1_0, .int .u64 a1_1, .int .u64 a1_2]) (t := 24) ?hr ?_; (case hd => rfl); (case hg => rfl); (case hr => (go_simp; done)); intro gb1255 hg w222 hbox hb; have BK1255 := Aside0.mk (hbox); have GW1255 := ge1 HB hg; have GE1255 := ge1 HB hg; replace HB := hb1 HB hb; clear hb hbox hg) | ((with_reducible refine gate_dst (N := 6) rfl ?_); refine box_event ?hg (N := 6) ?hd (cs := #[.int .i64 a2_0, .int .u64 a2_1, .int .u64 a2_2]) (t := 24) ?hr ?_; (case hd => rfl); (case hg => rfl); (case hr => (go_simp; done)); intro gb1256 hg w223 hbox hb; have BK1256 := Aside0.mk (hbox); have GW1256 := ge1 HB hg; have GE1256 := ge1 HB hg; replace HB := hb1 HB hb; have NB1255_1256 := Aside0.mk ((by rw [hg]; exact Nat.ne_of_lt (blk_lt BK1255.out) : gb1255 ≠ gb1256)); have NB1256_1255 := Aside0.mk ((by rw [hg]; exact Nat.ne_of_gt (blk_lt BK1255.out) : gb1256 ≠ gb1255)); replace BK1255 := bk1 BK1255 hb; clear hb hbox hg) | ((with_reducible refine gate_dst (N := 8) rfl ?_); refine box_event ?hg (N := 8) ?hd (cs := #[.int .i64 0, .int .u64 0, .int .u64 0]) (t := 24) ?hr ?_; (case hd => rfl); (case hg => rfl); (case hr => (go_simp; done)); intro gb1257 hg w224 hbox hb; have BK1257 := Aside0.mk (hbox); have GW1257 := ge1 HB hg; have GE1257 := ge1 HB hg; replace HB := hb1 HB hb; have NB1255_1257 := Aside0.mk ((by rw [hg]; exact Nat.ne_of_lt (blk_lt BK1255.out) : gb1255 ≠ gb1257)); have NB1257_1255 := Aside0.mk ((by rw [hg]; exact Nat.ne_of_gt (blk_lt BK1255.out) : gb1257 ≠ gb1255)); replace BK1255 := bk1 BK1255 hb; have NB1256_1257 := Aside0.mk ((by rw [hg]; exact Nat.ne_of_lt (blk_lt BK1256.out) : gb1256 ≠ gb1257)); have NB1257_1256 := Aside0.mk ((by rw [hg]; exact Nat.ne_of_gt (blk_lt BK1256.out) : gb1257 ≠ gb1256)); replace BK1256 := bk1 BK1256 hb; clear hb hbox hg; have hnb225 := NB1255_1256.out; have hnc225 := NB1256_1255.out; have hnb226 := NB1255_1257.out; have hnc226 := NB1257_1255.out; have hcz227_0 : w224.cell? ⟨gb1255, 0, none⟩ = some (.int .i64 a1_0) := (blk_cell BK1255.out 0).trans rfl; have hcz227_1 : w224.cell? ⟨gb1255, 1, none⟩ = some (.int .u64 a1_1) := (blk_cell BK1255.out 1).trans rfl; have hcz227_2 : w224.cell? ⟨gb1255, 2, none⟩ = some (.int .u64 a1_2) := (blk_cell BK1255.out 2).trans rfl; have hfz227_0 := blk_frozen BK1255.out 0; have hfz227_1 := blk_frozen BK1255.out 1; have hfz227_2 := blk_frozen BK1255.out 2; have hnb228 := NB1256_1257.out; have hnc228 := NB1257_1256.out; have hcz229_0 : w224.cell? ⟨gb1256, 0, none⟩ = some (.int .i64 a2_0) := (blk_cell BK1256.out 0).trans rfl; have hcz229_1 : w224.cell? ⟨gb1256, 1, none⟩ = some (.int .u64 a2_1) := (blk_cell BK1256.out 1).trans rfl; have hcz229_2 : w224.cell? ⟨gb1256, 2, none⟩ = some (.int .u64 a2_2) := (blk_cell BK1256.out 2).trans rfl; have hfz229_0 := blk_frozen BK1256.out 0; have hfz229_1 := blk_frozen BK1256.out 1; have hfz229_2 := blk_frozen BK1256.out 2) | ((with_reducible refine gate_callee (f := 107) rfl ?_); refine goesL_ (some 106) rfl rfl Tryd.func107 (by kernel_rfl) rfl #[.agg #[.int .i64 a1_0, .int .u64 a1_1, .int .u64 a1_2], .agg #[.int .i64 a2_0, .int .u64 a2_1, .int .u64 a2_2], .bool a3] rfl (by (try simp only [List.map_toArray, List.map_cons, List.map_nil]); rfl) ?_; (with_reducible refine (bits_Mod.calls k a1_0 a1_1 a1_2 a2_0 a2_1 a2_2 a3 t1312 t1313 t1314 _ A221.out).mono ?_); rintro e w230 ⟨rfl, hb⟩; refine ⟨_, rfl, ?_⟩; replace BK1255 := bk1 BK1255 hb; replace BK1256 := bk1 BK1256 hb; replace BK1257 := bk1 BK1257 hb; replace HB := hb1 HB hb; (try clear hb); have hcz231_0 : w230.cell? ⟨gb1257, 0, none⟩ = some (.int .i64 0) := (blk_cell BK1257.out 0).trans rfl; have hcz231_1 : w230.cell? ⟨gb1257, 1, none⟩ = some (.int .u64 0) := (blk_cell BK1257.out 1).trans rfl; have hcz231_2 : w230.cell? ⟨gb1257, 2, none⟩ = some (.int .u64 0) := (blk_cell BK1257.out 2).trans rfl; have hfz231_0 := blk_frozen BK1257.out 0; have hfz231_1 := blk_frozen BK1257.out 1; have hfz231_2 := blk_frozen BK1257.out 2))
                   refine bodyPost_ret (results_cell_row rfl _ _ gb1257 24 #[.int .i64 t1312, .int .u64 t1313, .int .u64 t1314] (0, 0) _ rfl (by refine blk_put (cs := #[.int .i64 t1312, .int .u64 t1313, .int .u64 0]) ?_ 2 _ rfl; refine blk_put (cs := #[.int .i64 t1312, .int .u64 0, .int .u64 0]) ?_ 1 _ rfl; refine blk_put (cs := #[.int .i64 0, .int .u64 0, .int .u64 0]) ?_ 0 _ rfl; exact BK1257.out) Tryd.underlying24 rfl (by kernel_rfl)) rfl ?_
                   exact ⟨by rfl, by repeat (with_reducible first | exact HB.out | refine below_set ?_ GE1257.out)⟩
end Go.Proofs.YtfigblfjogpojaaDoor.PShift
end
