/- Part 44 of the proof of BitsNumbersCardSaid: The law BitsNumbers: for all arguments it returns true; each argument reads behind the call as it read before. Out of the plain theorem of YtfigblfjogpojaaDoorPureBitsNumbers and the printed contract. -/
import Derived.Test.YtfigblfjogpojaaDoorQBitsNumbers15
import Derived.Test.YtfigblfjogpojaaDoorQBitsNumbers28
import Derived.Test.YtfigblfjogpojaaDoorQBitsNumbers36
import Derived.Test.YtfigblfjogpojaaDoorQBitsNumbers41
import Derived.Test.YtfigblfjogpojaaDoorQBitsNumbers21
import Derived.Test.YtfigblfjogpojaaDoorQBitsNumbers18
import Derived.Test.YtfigblfjogpojaaDoorQBitsNumbers31
import Derived.Test.YtfigblfjogpojaaDoorQBitsNumbers14
section
namespace Go.Proofs.YtfigblfjogpojaaDoor.PNum
open Go.Proofs.YtfigblfjogpojaaDoor.PBits
open Go.RowKit Go.Proofs.YtfigblfjogpojaaDoorW.PrintWords Go.Proofs.YtfigblfjogpojaaDoorW.PrintLast Go.Proofs.YtfigblfjogpojaaDoorW.PrintMore
attribute [local go_sem] max2_int min2_int max_two min_two max_three min_three max_four min_four
set_option linter.unusedVariables false
set_option linter.unusedSimpArgs false
def bits_And.f (k : Nat) (a0_0 : Int) (a0_1 : Int) (a0_2 : Int) (a1_0 : Int) (a1_1 : Int) (a1_2 : Int) : Option (Int × Int × Int) := none
theorem bits_And.calls (k : Nat) (a0_0 : Int) (a0_1 : Int) (a0_2 : Int) (a1_0 : Int) (a1_1 : Int) (a1_2 : Int) (r1 : Int) (r2 : Int) (r3 : Int) (w : World) (h : bits_And.f k a0_0 a0_1 a0_2 a1_0 a1_1 a1_2 = some (r1, r2, r3)) :
  Calls Tryd.prog 90 #[.agg #[.int .i64 a0_0, .int .u64 a0_1, .int .u64 a0_2], .agg #[.int .i64 a1_0, .int .u64 a1_1, .int .u64 a1_2]] w fun e w' => e = .returned (.agg #[.int .i64 r1, .int .u64 r2, .int .u64 r3]) ∧ Below w.heap.size w w' := by cases h
def bits_Or.f (k : Nat) (a0_0 : Int) (a0_1 : Int) (a0_2 : Int) (a1_0 : Int) (a1_1 : Int) (a1_2 : Int) : Option (Int × Int × Int) := none
theorem bits_Or.calls (k : Nat) (a0_0 : Int) (a0_1 : Int) (a0_2 : Int) (a1_0 : Int) (a1_1 : Int) (a1_2 : Int) (r1 : Int) (r2 : Int) (r3 : Int) (w : World) (h : bits_Or.f k a0_0 a0_1 a0_2 a1_0 a1_1 a1_2 = some (r1, r2, r3)) :
  Calls Tryd.prog 91 #[.agg #[.int .i64 a0_0, .int .u64 a0_1, .int .u64 a0_2], .agg #[.int .i64 a1_0, .int .u64 a1_1, .int .u64 a1_2]] w fun e w' => e = .returned (.agg #[.int .i64 r1, .int .u64 r2, .int .u64 r3]) ∧ Below w.heap.size w w' := by cases h
def bits_Xor.f (k : Nat) (a0_0 : Int) (a0_1 : Int) (a0_2 : Int) (a1_0 : Int) (a1_1 : Int) (a1_2 : Int) : Option (Int × Int × Int) := none
theorem bits_Xor.calls (k : Nat) (a0_0 : Int) (a0_1 : Int) (a0_2 : Int) (a1_0 : Int) (a1_1 : Int) (a1_2 : Int) (r1 : Int) (r2 : Int) (r3 : Int) (w : World) (h : bits_Xor.f k a0_0 a0_1 a0_2 a1_0 a1_1 a1_2 = some (r1, r2, r3)) :
  Calls Tryd.prog 92 #[.agg #[.int .i64 a0_0, .int .u64 a0_1, .int .u64 a0_2], .agg #[.int .i64 a1_0, .int .u64 a1_1, .int .u64 a1_2]] w fun e w' => e = .returned (.agg #[.int .i64 r1, .int .u64 r2, .int .u64 r3]) ∧ Below w.heap.size w w' := by cases h
def bits_LAnd.f (k : Nat) (a0_0 : Int) (a0_1 : Int) (a0_2 : Int) (a1_0 : Int) (a1_1 : Int) (a1_2 : Int) : Option (Int × Int × Int) := none
theorem bits_LAnd.calls (k : Nat) (a0_0 : Int) (a0_1 : Int) (a0_2 : Int) (a1_0 : Int) (a1_1 : Int) (a1_2 : Int) (r1 : Int) (r2 : Int) (r3 : Int) (w : World) (h : bits_LAnd.f k a0_0 a0_1 a0_2 a1_0 a1_1 a1_2 = some (r1, r2, r3)) :
  Calls Tryd.prog 93 #[.agg #[.int .i64 a0_0, .int .u64 a0_1, .int .u64 a0_2], .agg #[.int .i64 a1_0, .int .u64 a1_1, .int .u64 a1_2]] w fun e w' => e = .returned (.agg #[.int .i64 r1, .int .u64 r2, .int .u64 r3]) ∧ Below w.heap.size w w' := by cases h
def bits_LOr.f (k : Nat) (a0_0 : Int) (a0_1 : Int) (a0_2 : Int) (a1_0 : Int) (a1_1 : Int) (a1_2 : Int) : Option (Int × Int × Int) := none
theorem bits_LOr.calls (k : Nat) (a0_0 : Int) (a0_1 : Int) (a0_2 : Int) (a1_0 : Int) (a1_1 : Int) (a1_2 : Int) (r1 : Int) (r2 : Int) (r3 : Int) (w : World) (h : bits_LOr.f k a0_0 a0_1 a0_2 a1_0 a1_1 a1_2 = some (r1, r2, r3)) :
  Calls Tryd.prog 94 #[.agg #[.int .i64 a0_0, .int .u64 a0_1, .int .u64 a0_2], .agg #[.int .i64 a1_0, .int .u64 a1_1, .int .u64 a1_2]] w fun e w' => e = .returned (.agg #[.int .i64 r1, .int .u64 r2, .int .u64 r3]) ∧ Below w.heap.size w w' := by cases h
def bits_Shl.f (k : Nat) (a0_0 : Int) (a0_1 : Int) (a0_2 : Int) (a1_0 : Int) (a1_1 : Int) (a1_2 : Int) : Option (Int × Int × Int) := none
theorem bits_Shl.calls (k : Nat) (a0_0 : Int) (a0_1 : Int) (a0_2 : Int) (a1_0 : Int) (a1_1 : Int) (a1_2 : Int) (r1 : Int) (r2 : Int) (r3 : Int) (w : World) (h : bits_Shl.f k a0_0 a0_1 a0_2 a1_0 a1_1 a1_2 = some (r1, r2, r3)) :
  Calls Tryd.prog 95 #[.agg #[.int .i64 a0_0, .int .u64 a0_1, .int .u64 a0_2], .agg #[.int .i64 a1_0, .int .u64 a1_1, .int .u64 a1_2]] w fun e w' => e = .returned (.agg #[.int .i64 r1, .int .u64 r2, .int .u64 r3]) ∧ Below w.heap.size w w' := by cases h
def bits_Shr.f (k : Nat) (a0_0 : Int) (a0_1 : Int) (a0_2 : Int) (a1_0 : Int) (a1_1 : Int) (a1_2 : Int) : Option (Int × Int × Int) := none
theorem bits_Shr.calls (k : Nat) (a0_0 : Int) (a0_1 : Int) (a0_2 : Int) (a1_0 : Int) (a1_1 : Int) (a1_2 : Int) (r1 : Int) (r2 : Int) (r3 : Int) (w : World) (h : bits_Shr.f k a0_0 a0_1 a0_2 a1_0 a1_1 a1_2 = some (r1, r2, r3)) :
  Calls Tryd.prog 96 #[.agg #[.int .i64 a0_0, .int .u64 a0_1, .int .u64 a0_2], .agg #[.int .i64 a1_0, .int .u64 a1_1, .int .u64 a1_2]] w fun e w' => e = .returned (.agg #[.int .i64 r1, .int .u64 r2, .int .u64 r3]) ∧ Below w.heap.size w w' := by cases h
def bits_Sar.f (k : Nat) (a0_0 : Int) (a0_1 : Int) (a0_2 : Int) (a1_0 : Int) (a1_1 : Int) (a1_2 : Int) : Option (Int × Int × Int) := none
theorem bits_Sar.calls (k : Nat) (a0_0 : Int) (a0_1 : Int) (a0_2 : Int) (a1_0 : Int) (a1_1 : Int) (a1_2 : Int) (r1 : Int) (r2 : Int) (r3 : Int) (w : World) (h : bits_Sar.f k a0_0 a0_1 a0_2 a1_0 a1_1 a1_2 = some (r1, r2, r3)) :
  Calls Tryd.prog 97 #[.agg #[.int .i64 a0_0, .int .u64 a0_1, .int .u64 a0_2], .agg #[.int .i64 a1_0, .int .u64 a1_1, .int .u64 a1_2]] w fun e w' => e = .returned (.agg #[.int .i64 r1, .int .u64 r2, .int .u64 r3]) ∧ Below w.heap.size w w' := by cases h
def bits_Eq.f (k : Nat) (a0_0 : Int) (a0_1 : Int) (a0_2 : Int) (a1_0 : Int) (a1_1 : Int) (a1_2 : Int) : Option (Int × Int × Int) := none
theorem bits_Eq.calls (k : Nat) (a0_0 : Int) (a0_1 : Int) (a0_2 : Int) (a1_0 : Int) (a1_1 : Int) (a1_2 : Int) (r1 : Int) (r2 : Int) (r3 : Int) (w : World) (h : bits_Eq.f k a0_0 a0_1 a0_2 a1_0 a1_1 a1_2 = some (r1, r2, r3)) :
  Calls Tryd.prog 98 #[.agg #[.int .i64 a0_0, .int .u64 a0_1, .int .u64 a0_2], .agg #[.int .i64 a1_0, .int .u64 a1_1, .int .u64 a1_2]] w fun e w' => e = .returned (.agg #[.int .i64 r1, .int .u64 r2, .int .u64 r3]) ∧ Below w.heap.size w w' := by cases h
def bits_Ne.f (k : Nat) (a0_0 : Int) (a0_1 : Int) (a0_2 : Int) (a1_0 : Int) (a1_1 : Int) (a1_2 : Int) : Option (Int × Int × Int) := none
theorem bits_Ne.calls (k : Nat) (a0_0 : Int) (a0_1 : Int) (a0_2 : Int) (a1_0 : Int) (a1_1 : Int) (a1_2 : Int) (r1 : Int) (r2 : Int) (r3 : Int) (w : World) (h : bits_Ne.f k a0_0 a0_1 a0_2 a1_0 a1_1 a1_2 = some (r1, r2, r3)) :
  Calls Tryd.prog 99 #[.agg #[.int .i64 a0_0, .int .u64 a0_1, .int .u64 a0_2], .agg #[.int .i64 a1_0, .int .u64 a1_1, .int .u64 a1_2]] w fun e w' => e = .returned (.agg #[.int .i64 r1, .int .u64 r2, .int .u64 r3]) ∧ Below w.heap.size w w' := by cases h
def bits_CaseEq.f (k : Nat) (a0_0 : Int) (a0_1 : Int) (a0_2 : Int) (a1_0 : Int) (a1_1 : Int) (a1_2 : Int) : Option (Int × Int × Int) := none
theorem bits_CaseEq.calls (k : Nat) (a0_0 : Int) (a0_1 : Int) (a0_2 : Int) (a1_0 : Int) (a1_1 : Int) (a1_2 : Int) (r1 : Int) (r2 : Int) (r3 : Int) (w : World) (h : bits_CaseEq.f k a0_0 a0_1 a0_2 a1_0 a1_1 a1_2 = some (r1, r2, r3)) :
  Calls Tryd.prog 100 #[.agg #[.int .i64 a0_0, .int .u64 a0_1, .int .u64 a0_2], .agg #[.int .i64 a1_0, .int .u64 a1_1, .int .u64 a1_2]] w fun e w' => e = .returned (.agg #[.int .i64 r1, .int .u64 r2, .int .u64 r3]) ∧ Below w.heap.size w w' := by cases h
def bits_CaseNe.f (k : Nat) (a0_0 : Int) (a0_1 : Int) (a0_2 : Int) (a1_0 : Int) (a1_1 : Int) (a1_2 : Int) : Option (Int × Int × Int) := none
theorem bits_CaseNe.calls (k : Nat) (a0_0 : Int) (a0_1 : Int) (a0_2 : Int) (a1_0 : Int) (a1_1 : Int) (a1_2 : Int) (r1 : Int) (r2 : Int) (r3 : Int) (w : World) (h : bits_CaseNe.f k a0_0 a0_1 a0_2 a1_0 a1_1 a1_2 = some (r1, r2, r3)) :
  Calls Tryd.prog 101 #[.agg #[.int .i64 a0_0, .int .u64 a0_1, .int .u64 a0_2], .agg #[.int .i64 a1_0, .int .u64 a1_1, .int .u64 a1_2]] w fun e w' => e = .returned (.agg #[.int .i64 r1, .int .u64 r2, .int .u64 r3]) ∧ Below w.heap.size w w' := by cases h
def bits_Lt.f (k : Nat) (a0_0 : Int) (a0_1 : Int) (a0_2 : Int) (a1_0 : Int) (a1_1 : Int) (a1_2 : Int) (a2 : Bool) : Option (Int × Int × Int) := none
theorem bits_Lt.calls (k : Nat) (a0_0 : Int) (a0_1 : Int) (a0_2 : Int) (a1_0 : Int) (a1_1 : Int) (a1_2 : Int) (a2 : Bool) (r1 : Int) (r2 : Int) (r3 : Int) (w : World) (h : bits_Lt.f k a0_0 a0_1 a0_2 a1_0 a1_1 a1_2 a2 = some (r1, r2, r3)) :
  Calls Tryd.prog 102 #[.agg #[.int .i64 a0_0, .int .u64 a0_1, .int .u64 a0_2], .agg #[.int .i64 a1_0, .int .u64 a1_1, .int .u64 a1_2], .bool a2] w fun e w' => e = .returned (.agg #[.int .i64 r1, .int .u64 r2, .int .u64 r3]) ∧ Below w.heap.size w w' := by cases h
def bits_Le.f (k : Nat) (a0_0 : Int) (a0_1 : Int) (a0_2 : Int) (a1_0 : Int) (a1_1 : Int) (a1_2 : Int) (a2 : Bool) : Option (Int × Int × Int) := none
theorem bits_Le.calls (k : Nat) (a0_0 : Int) (a0_1 : Int) (a0_2 : Int) (a1_0 : Int) (a1_1 : Int) (a1_2 : Int) (a2 : Bool) (r1 : Int) (r2 : Int) (r3 : Int) (w : World) (h : bits_Le.f k a0_0 a0_1 a0_2 a1_0 a1_1 a1_2 a2 = some (r1, r2, r3)) :
  Calls Tryd.prog 103 #[.agg #[.int .i64 a0_0, .int .u64 a0_1, .int .u64 a0_2], .agg #[.int .i64 a1_0, .int .u64 a1_1, .int .u64 a1_2], .bool a2] w fun e w' => e = .returned (.agg #[.int .i64 r1, .int .u64 r2, .int .u64 r3]) ∧ Below w.heap.size w w' := by cases h
def maskref1_each__AndOf.f (k : Nat) (l0 : List Int) (l1 : List Int)  : Option (List Int) := none
theorem maskref1_each__AndOf.calls (k : Nat) (A0 : Option Addr) (c0 : Nat) (l0 : List Int) (A1 : Option Addr) (c1 : Nat) (l1 : List Int)  (r : List Int) (w : World) (hr0 : Kd.C (Kd.int .u8) w A0 l0.length l0) (hc0 : l0.length ≤ c0) (hr1 : Kd.C (Kd.int .u8) w A1 l1.length l1) (hc1 : l1.length ≤ c1) (h : maskref1_each__AndOf.f k l0 l1 = some r) :
  Calls Tryd.prog 63 #[.slice A0 l0.length c0, .slice A1 l1.length c1, .func (.func 78) #[] #[]] w fun e w' => ∃ v0_ : Value, e = .returned (v0_) ∧ Kd.R (Kd.int .u8) 5 w' w.heap.size (fun _ => True) v0_ r ∧ Below w.heap.size w w' := by cases h
def maskref1_each__OrOf.f (k : Nat) (l0 : List Int) (l1 : List Int)  : Option (List Int) := none
theorem maskref1_each__OrOf.calls (k : Nat) (A0 : Option Addr) (c0 : Nat) (l0 : List Int) (A1 : Option Addr) (c1 : Nat) (l1 : List Int)  (r : List Int) (w : World) (hr0 : Kd.C (Kd.int .u8) w A0 l0.length l0) (hc0 : l0.length ≤ c0) (hr1 : Kd.C (Kd.int .u8) w A1 l1.length l1) (hc1 : l1.length ≤ c1) (h : maskref1_each__OrOf.f k l0 l1 = some r) :
  Calls Tryd.prog 63 #[.slice A0 l0.length c0, .slice A1 l1.length c1, .func (.func 79) #[] #[]] w fun e w' => ∃ v0_ : Value, e = .returned (v0_) ∧ Kd.R (Kd.int .u8) 5 w' w.heap.size (fun _ => True) v0_ r ∧ Below w.heap.size w w' := by cases h
def maskref1_each__XorOf.f (k : Nat) (l0 : List Int) (l1 : List Int)  : Option (List Int) := none
theorem maskref1_each__XorOf.calls (k : Nat) (A0 : Option Addr) (c0 : Nat) (l0 : List Int) (A1 : Option Addr) (c1 : Nat) (l1 : List Int)  (r : List Int) (w : World) (hr0 : Kd.C (Kd.int .u8) w A0 l0.length l0) (hc0 : l0.length ≤ c0) (hr1 : Kd.C (Kd.int .u8) w A1 l1.length l1) (hc1 : l1.length ≤ c1) (h : maskref1_each__XorOf.f k l0 l1 = some r) :
  Calls Tryd.prog 63 #[.slice A0 l0.length c0, .slice A1 l1.length c1, .func (.func 80) #[] #[]] w fun e w' => ∃ v0_ : Value, e = .returned (v0_) ∧ Kd.R (Kd.int .u8) 5 w' w.heap.size (fun _ => True) v0_ r ∧ Below w.heap.size w w' := by cases h
def maskref1_fold__AndOf.f (k : Nat) (l0 : List Int)  : Option (List Int) := none
theorem maskref1_fold__AndOf.calls (k : Nat) (A0 : Option Addr) (c0 : Nat) (l0 : List Int)  (r : List Int) (w : World) (hr0 : Kd.C (Kd.int .u8) w A0 l0.length l0) (hc0 : l0.length ≤ c0) (h : maskref1_fold__AndOf.f k l0 = some r) :
  Calls Tryd.prog 81 #[.slice A0 l0.length c0, .func (.func 78) #[] #[]] w fun e w' => ∃ v0_ : Value, e = .returned (v0_) ∧ Kd.R (Kd.int .u8) 5 w' w.heap.size (fun _ => True) v0_ r ∧ Below w.heap.size w w' := by cases h
def maskref1_fold__OrOf.f (k : Nat) (l0 : List Int)  : Option (List Int) := none
theorem maskref1_fold__OrOf.calls (k : Nat) (A0 : Option Addr) (c0 : Nat) (l0 : List Int)  (r : List Int) (w : World) (hr0 : Kd.C (Kd.int .u8) w A0 l0.length l0) (hc0 : l0.length ≤ c0) (h : maskref1_fold__OrOf.f k l0 = some r) :
  Calls Tryd.prog 81 #[.slice A0 l0.length c0, .func (.func 79) #[] #[]] w fun e w' => ∃ v0_ : Value, e = .returned (v0_) ∧ Kd.R (Kd.int .u8) 5 w' w.heap.size (fun _ => True) v0_ r ∧ Below w.heap.size w w' := by cases h
def maskref1_fold__XorOf.f (k : Nat) (l0 : List Int)  : Option (List Int) := none
theorem maskref1_fold__XorOf.calls (k : Nat) (A0 : Option Addr) (c0 : Nat) (l0 : List Int)  (r : List Int) (w : World) (hr0 : Kd.C (Kd.int .u8) w A0 l0.length l0) (hc0 : l0.length ≤ c0) (h : maskref1_fold__XorOf.f k l0 = some r) :
  Calls Tryd.prog 81 #[.slice A0 l0.length c0, .func (.func 80) #[] #[]] w fun e w' => ∃ v0_ : Value, e = .returned (v0_) ∧ Kd.R (Kd.int .u8) 5 w' w.heap.size (fun _ => True) v0_ r ∧ Below w.heap.size w w' := by cases h
def maskref1_One.f (a0 : Int) : Option (List Int) := none
theorem maskref1_One.calls (a0 : Int) (r : List Int) (w : World) (h : maskref1_One.f a0 = some r) :
  Calls Tryd.prog 82 #[.int .u8 a0] w fun e w' => ∃ v0_ : Value, e = .returned (v0_) ∧ Kd.R (Kd.int .u8) 5 w' w.heap.size (fun _ => True) v0_ r ∧ Below w.heap.size w w' := by cases h
def maskref1_moved.f (k : Nat) (l0 : List Int) (l1 : List Int) (a2 : Bool) (a3 : Int) : Option (List Int) := none
theorem maskref1_moved.calls (k : Nat) (A0 : Option Addr) (c0 : Nat) (l0 : List Int) (A1 : Option Addr) (c1 : Nat) (l1 : List Int) (a2 : Bool) (a3 : Int) (r : List Int) (w : World) (hr0 : Kd.C (Kd.int .u8) w A0 l0.length l0) (hc0 : l0.length ≤ c0) (hr1 : Kd.C (Kd.int .u8) w A1 l1.length l1) (hc1 : l1.length ≤ c1) (h : maskref1_moved.f k l0 l1 a2 a3 = some r) :
  Calls Tryd.prog 83 #[.slice A0 l0.length c0, .slice A1 l1.length c1, .bool a2, .int .u8 a3] w fun e w' => ∃ v0_ : Value, e = .returned (v0_) ∧ Kd.R (Kd.int .u8) 5 w' w.heap.size (fun _ => True) v0_ r ∧ Below w.heap.size w w' := by cases h
def maskref1_Compared.f (k : Nat) (l0 : List Int) (l1 : List Int) : Option (Int) := none
theorem maskref1_Compared.calls (k : Nat) (A0 : Option Addr) (c0 : Nat) (l0 : List Int) (A1 : Option Addr) (c1 : Nat) (l1 : List Int) (r : Int) (w : World) (hr0 : Kd.C (Kd.int .u8) w A0 l0.length l0) (hc0 : l0.length ≤ c0) (hr1 : Kd.C (Kd.int .u8) w A1 l1.length l1) (hc1 : l1.length ≤ c1) (h : maskref1_Compared.f k l0 l1 = some r) :
  Calls Tryd.prog 84 #[.slice A0 l0.length c0, .slice A1 l1.length c1] w fun e w' => e = .returned (.int .u8 r) ∧ Drawn0 w w' := by cases h
def maskref1_Opposite.f (a0 : Int) : Option (Int) := none
theorem maskref1_Opposite.calls (a0 : Int) (r : Int) (w : World) (h : maskref1_Opposite.f a0 = some r) :
  Calls Tryd.prog 85 #[.int .u8 a0] w fun e w' => e = .returned (.int .u8 r) ∧ Drawn0 w w' := by cases h
def maskref1_truthOf.f (a0 : Bool) : Option (Int) := none
theorem maskref1_truthOf.calls (a0 : Bool) (r : Int) (w : World) (h : maskref1_truthOf.f a0 = some r) :
  Calls Tryd.prog 86 #[.bool a0] w fun e w' => e = .returned (.int .u8 r) ∧ Drawn0 w w' := by cases h
def maskref1_same.f (l0 : List Int) (l1 : List Int) : Option (Bool) := none
theorem maskref1_same.calls (A0 : Option Addr) (c0 : Nat) (l0 : List Int) (A1 : Option Addr) (c1 : Nat) (l1 : List Int) (r : Bool) (w : World) (hr0 : Kd.C (Kd.int .u8) w A0 l0.length l0) (hc0 : l0.length ≤ c0) (hr1 : Kd.C (Kd.int .u8) w A1 l1.length l1) (hc1 : l1.length ≤ c1) (h : maskref1_same.f l0 l1 = some r) :
  Calls Tryd.prog 87 #[.slice A0 l0.length c0, .slice A1 l1.length c1] w fun e w' => e = .returned (.bool r) ∧ Drawn0 w w' := by cases h
end Go.Proofs.YtfigblfjogpojaaDoor.PNum
end
section
namespace Go.Proofs.YtfigblfjogpojaaDoor.PNum
open Go.Proofs.YtfigblfjogpojaaDoor.PBits
open Go.RowKit Go.Proofs.YtfigblfjogpojaaDoorW.PrintWords Go.Proofs.YtfigblfjogpojaaDoorW.PrintLast Go.Proofs.YtfigblfjogpojaaDoorW.PrintMore
attribute [local go_sem] max2_int min2_int max_two min_two max_three min_three max_four min_four
set_option linter.unusedVariables false
set_option linter.unusedSimpArgs false
mutual
def maskref1_Binary.j0 : Nat → Int → List Int → List Int → Bool → Bool → Option (List Int)
 | 0, _, _, _, _, _ => none
 | k + 1, x0, x1, x2, x3, x94 => if x94 = true then ((maskref1_Known.f k x1).bind fun t984 => (if t984 = true then ((maskref1_Known.f k x2).bind fun t985 => (maskref1_Binary.j1 k x0 x1 x2 x3 (!t985))) else (maskref1_Binary.j1 k x0 x1 x2 x3 true))) else ((maskref1_Number.f k x0 x1 x2 x3).bind fun t1003 => (some t1003))
def maskref1_Binary.j1 : Nat → Int → List Int → List Int → Bool → Bool → Option (List Int)
 | 0, _, _, _, _, _ => none
 | k + 1, x0, x1, x2, x3, x104 => if x104 = true then ((maskref1_One.f 117).bind fun t986 => (some t986)) else ((maskref1_below.f k x1 x2 x3).bind fun t989 => (if t989 = true then ((maskref1_truthOf.f true).bind fun t990 => ((maskref1_One.f t990).bind fun t991 => (some t991))) else (if x0 = 29 then ((maskref1_same.f x1 x2).bind fun t994 => ((maskref1_truthOf.f t994).bind fun t995 => ((maskref1_One.f t995).bind fun t996 => (some t996)))) else ((maskref1_truthOf.f false).bind fun t999 => ((maskref1_One.f t999).bind fun t1000 => (some t1000))))))
end
def maskref1_Binary.f (k : Nat) (a0 : Int) (l1 : List Int) (l2 : List Int) (a3 : Bool) : Option (List Int) := if a0 = 13 then ((maskref1_each__AndOf.f k l1 l2).bind fun t918 => (some t918)) else (if a0 = 14 then ((maskref1_each__OrOf.f k l1 l2).bind fun t921 => (some t921)) else (if a0 = 15 then ((maskref1_each__XorOf.f k l1 l2).bind fun t924 => (some t924)) else (if a0 = 11 then ((maskref1_Truth.f k l1).bind fun t927 => ((maskref1_One.f t927).bind fun t928 => ((maskref1_Truth.f k l2).bind fun t931 => ((maskref1_One.f t931).bind fun t932 => (if t928.length + t932.length < 140737488355328 then ((maskref1_fold__AndOf.f k (t928 ++ t932)).bind fun t938 => (some t938)) else (none)))))) else (if a0 = 12 then ((maskref1_Truth.f k l1).bind fun t941 => ((maskref1_One.f t941).bind fun t942 => ((maskref1_Truth.f k l2).bind fun t945 => ((maskref1_One.f t945).bind fun t946 => (if t942.length + t946.length < 140737488355328 then ((maskref1_fold__OrOf.f k (t942 ++ t946)).bind fun t952 => (some t952)) else (none)))))) else (if a0 = 21 then ((maskref1_moved.f k l1 l2 true 48).bind fun t955 => (some t955)) else (if a0 = 22 then ((maskref1_moved.f k l1 l2 false 48).bind fun t958 => (some t958)) else (if a0 = 23 then (if 0 ≤ (wrap64 ((l1.length : Int) - 1)) then (if (wrap64 ((l1.length : Int) - 1)) < (l1.length : Int) then ((maskref1_moved.f k l1 l2 false (rd l1 (wrap64 ((l1.length : Int) - 1)))).bind fun t962 => (some t962)) else (none)) else (none)) else (if a0 = 24 then ((maskref1_Compared.f k l1 l2).bind fun t965 => ((maskref1_One.f t965).bind fun t966 => (some t966))) else (if a0 = 25 then ((maskref1_Compared.f k l1 l2).bind fun t969 => ((maskref1_Opposite.f t969).bind fun t970 => ((maskref1_One.f t970).bind fun t971 => (some t971)))) else (if a0 = 26 then ((maskref1_same.f l1 l2).bind fun t974 => ((maskref1_truthOf.f t974).bind fun t975 => ((maskref1_One.f t975).bind fun t976 => (some t976)))) else (if a0 = 27 then ((maskref1_same.f l1 l2).bind fun t979 => ((maskref1_truthOf.f (!t979)).bind fun t980 => ((maskref1_One.f t980).bind fun t981 => (some t981)))) else (if a0 = 28 then (maskref1_Binary.j0 k a0 l1 l2 a3 (a0 == 28)) else (maskref1_Binary.j0 k a0 l1 l2 a3 (a0 == 29))))))))))))))
set_option maxHeartbeats 8000000 in
set_option maxRecDepth 100000 in
theorem maskref1_Binary.calls (k : Nat) (a0 : Int) (P1_ : Nat → Prop) (u9000_ : Value) (l1 : List Int) (P2_ : Nat → Prop) (u9001_ : Value) (l2 : List Int) (a3 : Bool) (r : List Int) (w0 w : World) (hB : Below w0.heap.size w0 w) (ho1 : Kd.R (Kd.int .u8) 5 w w0.heap.size P1_ u9000_ l1) (hp1_2 : ∀ k_, P1_ k_ → ¬ P2_ k_) (ho2 : Kd.R (Kd.int .u8) 5 w w0.heap.size P2_ u9001_ l2) (hp2_1 : ∀ k_, P2_ k_ → ¬ P1_ k_) (h : maskref1_Binary.f k a0 l1 l2 a3 = some r) :
  Calls Tryd.prog 68 #[.int .i64 a0, u9000_, u9001_, .bool a3] w fun e w' => ∃ v0_ : Value, e = .returned (v0_) ∧ Kd.R (Kd.int .u8) 5 w' w0.heap.size (fun k_ => ((P1_ k_ ∨ P2_ k_) ∨ w.heap.size ≤ k_)) v0_ r ∧ Below w0.heap.size w0 w' ∧ Kept w w' (fun k_ => P1_ k_ ∨ P2_ k_) := by
 have HO1 := Aside0.mk (show Kd.R (Kd.int .u8) 5 w w0.heap.size (fun k_ => ((P1_ k_ ∨ P2_ k_) ∨ w.heap.size ≤ k_) ∧ some k_ ≠ (u9001_ : Value).ownBlock) u9000_ l1 from Kd.R_mono ho1 (fun k_ hk => ⟨(.inl (.inl hk)), fun e_ => hp1_2 k_ hk (ho2.1 k_ e_.symm)⟩))
 have HO2 := Aside0.mk (show Kd.R (Kd.int .u8) 5 w w0.heap.size (fun k_ => ((P1_ k_ ∨ P2_ k_) ∨ w.heap.size ≤ k_) ∧ some k_ ≠ (u9000_ : Value).ownBlock) u9001_ l2 from Kd.R_mono ho2 (fun k_ hk => ⟨(.inl (.inr hk)), fun e_ => hp2_1 k_ hk (ho1.1 k_ e_.symm)⟩))
 have HK := Aside0.mk (Kept.refl w (fun k_ => P1_ k_ ∨ P2_ k_))
 have HW0 := Aside0.mk hB.size
 have HB := Aside0.mk hB
 clear hB
 have H := h
 clear h
 unfold maskref1_Binary.f at H
 replace H := iE H; rcases H with ⟨c5b0, c5b1, H⟩ | ⟨c5, c5b0, c5b1, H⟩
 ·replace H := bN H; obtain ⟨t918, A6, H⟩ := H
  obtain rfl := Option.some.inj H
  obtain ⟨Ao7, co7, eo7⟩ := Kd.R_slice HO1.out
  subst eo7
  obtain ⟨Ao8, co8, eo8⟩ := Kd.R_slice HO2.out
  subst eo8
  go_enter Tryd.func68, Tryd.ntmps68
  go_wp2_with ((refine callA (some 14) Tryd.func63 #[.slice Ao7 l1.length co7, .slice Ao8 l2.length co8, (.func (.func 78) #[] #[])] ?_; (with_reducible refine (maskref1_each__AndOf.calls k _ _ l1 _ _ l2  t918 _ ?side1 ?side2 ?side3 ?side4 A6.out).mono ?_); (case side1 => exact (Kd.R_reads' HO1.out).2.2); (case side2 => exact (Kd.R_reads' HO1.out).2.1); (case side3 => exact (Kd.R_reads' HO2.out).2.2); (case side4 => exact (Kd.R_reads' HO2.out).2.1); rintro e w9 ⟨v919, rfl, ho0, hb⟩; refine ⟨_, rfl, ?_⟩; have HO920 := Aside0.mk (Kd.R_lower (Kd.R_new' (Kd.R_new' (Kd.R_newM (M := fun k_ => ((P1_ k_ ∨ P2_ k_) ∨ w.heap.size ≤ k_)) ho0 (by exact HK.out.1) (fun k_ h_ => .inr h_)) (Kd.R_lt HO1.out)) (Kd.R_lt HO2.out)) (below_size HB.out)); replace HO1 := Aside0.mk (Kd.R_elder' HO1.out (Kd.R_base ho0) hb); replace HO2 := Aside0.mk (Kd.R_elder' HO2.out (Kd.R_base ho0) hb); replace HK := Aside0.mk (Kept.below (S := (fun k_ => P1_ k_ ∨ P2_ k_)) HK.out hb); replace HB := hb1 HB hb; (try clear hb); (try clear ho0)))
  go_ret
  exact ⟨_, by rfl, by exact Kd.R_mono HO920.out (fun _ hk => hk.1.1.1), by repeat (with_reducible exact HB.out), by repeat (with_reducible exact HK.out)⟩
 ·replace H := iE H; rcases H with ⟨c10b0, c10b1, H⟩ | ⟨c10, c10b0, c10b1, H⟩
  ·replace H := bN H; obtain ⟨t921, A11, H⟩ := H
   obtain rfl := Option.some.inj H
   obtain ⟨Ao12, co12, eo12⟩ := Kd.R_slice HO1.out
   subst eo12
   obtain ⟨Ao13, co13, eo13⟩ := Kd.R_slice HO2.out
   subst eo13
   go_enter Tryd.func68, Tryd.ntmps68
   go_wp2_with ((refine callA (some 19) Tryd.func63 #[.slice Ao12 l1.length co12, .slice Ao13 l2.length co13, (.func (.func 79) #[] #[])] ?_; (with_reducible refine (maskref1_each__OrOf.calls k _ _ l1 _ _ l2  t921 _ ?side1 ?side2 ?side3 ?side4 A11.out).mono ?_); (case side1 => exact (Kd.R_reads' HO1.out).2.2); (case side2 => exact (Kd.R_reads' HO1.out).2.1); (case side3 => exact (Kd.R_reads' HO2.out).2.2); (case side4 => exact (Kd.R_reads' HO2.out).2.1); rintro e w14 ⟨v922, rfl, ho0, hb⟩; refine ⟨_, rfl, ?_⟩; have HO923 := Aside0.mk (Kd.R_lower (Kd.R_new' (Kd.R_new' (Kd.R_newM (M := fun k_ => ((P1_ k_ ∨ P2_ k_) ∨ w.heap.size ≤ k_)) ho0 (by exact HK.out.1) (fun k_ h_ => .inr h_)) (Kd.R_lt HO1.out)) (Kd.R_lt HO2.out)) (below_size HB.out)); replace HO1 := Aside0.mk (Kd.R_elder' HO1.out (Kd.R_base ho0) hb); replace HO2 := Aside0.mk (Kd.R_elder' HO2.out (Kd.R_base ho0) hb); replace HK := Aside0.mk (Kept.below (S := (fun k_ => P1_ k_ ∨ P2_ k_)) HK.out hb); replace HB := hb1 HB hb; (try clear hb); (try clear ho0)))
   go_ret
   exact ⟨_, by rfl, by exact Kd.R_mono HO923.out (fun _ hk => hk.1.1.1), by repeat (with_reducible exact HB.out), by repeat (with_reducible exact HK.out)⟩
  ·replace H := iE H; rcases H with ⟨c15b0, c15b1, H⟩ | ⟨c15, c15b0, c15b1, H⟩
   ·replace H := bN H; obtain ⟨t924, A16, H⟩ := H
    obtain rfl := Option.some.inj H
    obtain ⟨Ao17, co17, eo17⟩ := Kd.R_slice HO1.out
    subst eo17
    obtain ⟨Ao18, co18, eo18⟩ := Kd.R_slice HO2.out
    subst eo18
    go_enter Tryd.func68, Tryd.ntmps68
    go_wp2_with ((refine callA (some 24) Tryd.func63 #[.slice Ao17 l1.length co17, .slice Ao18 l2.length co18, (.func (.func 80) #[] #[])] ?_; (with_reducible refine (maskref1_each__XorOf.calls k _ _ l1 _ _ l2  t924 _ ?side1 ?side2 ?side3 ?side4 A16.out).mono ?_); (case side1 => exact (Kd.R_reads' HO1.out).2.2); (case side2 => exact (Kd.R_reads' HO1.out).2.1); (case side3 => exact (Kd.R_reads' HO2.out).2.2); (case side4 => exact (Kd.R_reads' HO2.out).2.1); rintro e w19 ⟨v925, rfl, ho0, hb⟩; refine ⟨_, rfl, ?_⟩; have HO926 := Aside0.mk (Kd.R_lower (Kd.R_new' (Kd.R_new' (Kd.R_newM (M := fun k_ => ((P1_ k_ ∨ P2_ k_) ∨ w.heap.size ≤ k_)) ho0 (by exact HK.out.1) (fun k_ h_ => .inr h_)) (Kd.R_lt HO1.out)) (Kd.R_lt HO2.out)) (below_size HB.out)); replace HO1 := Aside0.mk (Kd.R_elder' HO1.out (Kd.R_base ho0) hb); replace HO2 := Aside0.mk (Kd.R_elder' HO2.out (Kd.R_base ho0) hb); replace HK := Aside0.mk (Kept.below (S := (fun k_ => P1_ k_ ∨ P2_ k_)) HK.out hb); replace HB := hb1 HB hb; (try clear hb); (try clear ho0)))
    go_ret
    exact ⟨_, by rfl, by exact Kd.R_mono HO926.out (fun _ hk => hk.1.1.1), by repeat (with_reducible exact HB.out), by repeat (with_reducible exact HK.out)⟩
   ·replace H := iE H; rcases H with ⟨c20b0, c20b1, H⟩ | ⟨c20, c20b0, c20b1, H⟩
    ·replace H := bN H; obtain ⟨t927, A21, H⟩ := H
     replace H := bN H; obtain ⟨t928, A22, H⟩ := H
     replace H := bN H; obtain ⟨t931, A23, H⟩ := H
     replace H := bN H; obtain ⟨t932, A24, H⟩ := H
     by_cases c25 : t928.length + t932.length < 140737488355328
     ·rw [if_pos c25] at H
      have LMc25 := Aside0.mk c25
      clear c25
      obtain ⟨y935, hy935⟩ : ∃ y_ : List Int, y_ = (t928 ++ t932) := ⟨_, rfl⟩
      replace H : ((maskref1_fold__AndOf.f k y935).bind fun t938 => (some t938)) = some r := by (rw [hy935]; with_reducible exact H)
      have Ny935 := Aside0.mk hy935
      clear hy935
      replace H := bN H; obtain ⟨t938, A26, H⟩ := H
      obtain rfl := Option.some.inj H
      obtain ⟨Ao27, co27, eo27⟩ := Kd.R_slice HO1.out
      subst eo27
      go_enter Tryd.func68, Tryd.ntmps68
      go_wp2_with (first | (refine callA (some 28) Tryd.func59 #[.slice Ao27 l1.length co27] ?_; (with_reducible refine (maskref1_Truth.calls k _ _ l1 t927 _ ?side1 ?side2 A21.out).mono ?_); (case side1 => exact (Kd.R_reads' HO1.out).2.2); (case side2 => exact (Kd.R_reads' HO1.out).2.1); rintro e w' ⟨rfl, ⟨nd, rfl⟩⟩; refine ⟨_, rfl, ?_⟩) | (refine callA (some 29) Tryd.func82 #[.int .u8 t927] ?_; (with_reducible refine (maskref1_One.calls t927 t928 _ A22.out).mono ?_); rintro e w28 ⟨v929, rfl, ho0, hb⟩; refine ⟨_, rfl, ?_⟩; have HO930 := Aside0.mk (Kd.R_lower (Kd.R_new' (Kd.R_new' (Kd.R_newM (M := fun k_ => ((P1_ k_ ∨ P2_ k_) ∨ w.heap.size ≤ k_)) ho0 (by exact HK.out.1) (fun k_ h_ => .inr h_)) (Kd.R_lt (by (with_reducible repeat (apply Kd.R_drewN)); exact HO1.out))) (Kd.R_lt (by (with_reducible repeat (apply Kd.R_drewN)); exact HO2.out))) (below_size (by repeat (with_reducible first | exact HB.out | apply pw_below_drewN)))); replace HO1 := Aside0.mk (Kd.R_elder' (by (with_reducible repeat (apply Kd.R_drewN)); exact HO1.out) (Kd.R_base ho0) hb); replace HO2 := Aside0.mk (Kd.R_elder' (by (with_reducible repeat (apply Kd.R_drewN)); exact HO2.out) (Kd.R_base ho0) hb); replace HK := Aside0.mk (Kept.below (S := (fun k_ => P1_ k_ ∨ P2_ k_)) (by repeat (with_reducible first | exact HK.out | apply Kept.drewN)) hb); replace HB := hb1 HB hb; (try clear hb); (try clear ho0); obtain ⟨Ao29, co29, eo29⟩ := Kd.R_slice HO2.out; subst eo29) | (refine callA (some 31) Tryd.func59 #[.slice Ao29 l2.length co29] ?_; (with_reducible refine (maskref1_Truth.calls k _ _ l2 t931 _ ?side1 ?side2 A23.out).mono ?_); (case side1 => exact (Kd.R_reads' HO2.out).2.2); (case side2 => exact (Kd.R_reads' HO2.out).2.1); rintro e w' ⟨rfl, ⟨nd, rfl⟩⟩; refine ⟨_, rfl, ?_⟩) | (refine callA (some 32) Tryd.func82 #[.int .u8 t931] ?_; (with_reducible refine (maskref1_One.calls t931 t932 _ A24.out).mono ?_); rintro e w30 ⟨v933, rfl, ho0, hb⟩; refine ⟨_, rfl, ?_⟩; have HO934 := Aside0.mk (Kd.R_lower (Kd.R_new' (Kd.R_new' (Kd.R_new' (Kd.R_newM (M := fun k_ => ((P1_ k_ ∨ P2_ k_) ∨ w.heap.size ≤ k_)) ho0 (by exact HK.out.1) (fun k_ h_ => .inr h_)) (Kd.R_lt (by (with_reducible repeat (apply Kd.R_drewN)); exact HO1.out))) (Kd.R_lt (by (with_reducible repeat (apply Kd.R_drewN)); exact HO2.out))) (Kd.R_lt (by (with_reducible repeat (apply Kd.R_drewN)); exact HO930.out))) (below_size (by repeat (with_reducible first | exact HB.out | apply pw_below_drewN)))); replace HO1 := Aside0.mk (Kd.R_elder' (by (with_reducible repeat (apply Kd.R_drewN)); exact HO1.out) (Kd.R_base ho0) hb); replace HO2 := Aside0.mk (Kd.R_elder' (by (with_reducible repeat (apply Kd.R_drewN)); exact HO2.out) (Kd.R_base ho0) hb); replace HO930 := Aside0.mk (Kd.R_elder' (by (with_reducible repeat (apply Kd.R_drewN)); exact HO930.out) (Kd.R_base ho0) hb); replace HK := Aside0.mk (Kept.below (S := (fun k_ => P1_ k_ ∨ P2_ k_)) (by repeat (with_reducible first | exact HK.out | apply Kept.drewN)) hb); replace HB := hb1 HB hb; (try clear hb); (try clear ho0); obtain ⟨Ao32, co32, eo32⟩ := Kd.R_slice HO934.out; subst eo32) | ((with_reducible refine gate_builtin (b := .append) (xs := #[.tmp 29, .tmp 32]) rfl ?_); at_builtin; refine Kd.R_append_rows (Kd.int .u8) (w0 := w0) w0.heap.size rfl (.tmp 29) (.tmp 32) 43 5 (.int .u8 0) 1 rfl Tryd.underlying43 info5 rfl (by decide) (by omega) v929 t928 t932 _ _ _ (fun k_ => ((P1_ k_ ∨ P2_ k_) ∨ w.heap.size ≤ k_) ∧ some k_ ≠ (.slice Ao27 l1.length co27 : Value).ownBlock ∧ some k_ ≠ (.slice Ao29 l2.length co29 : Value).ownBlock ∧ some k_ ≠ (.slice Ao32 t932.length co32 : Value).ownBlock) (fun _ => False) rfl rfl ?aO ?aR (fun _ _ h => h) (fun _ h => h.elim) ?aF ?aB ?aS ?aL ?_; (case aR => repeat (exact (Kd.R_reads' HO934.out).2.2)); (case aB => exact HB.out); (case aF => exact (fun k_ hk => ⟨(.inr (Nat.le_trans (by exact HK.out.1) hk)), Kd.fresh' (Kd.R_lt HO1.out) k_ hk, Kd.fresh' (Kd.R_lt HO2.out) k_ hk, Kd.fresh' (Kd.R_lt HO934.out) k_ hk⟩)); (case aO => exact (by exact Kd.R_mono HO930.out (fun _ hk => ⟨hk.1.1.1.1, ⟨hk.1.1.2, ⟨hk.1.2, hk.2⟩⟩⟩))); (case aS => exact (below_size HB.out)); (case aL => have := LMc25.out; omega); intro v936 w31 ho hb hg hat; rw [← Ny935.out] at ho; replace HO1 := Aside0.mk (Kd.R_after (ok := (fun k_ => ((P1_ k_ ∨ P2_ k_) ∨ w.heap.size ≤ k_) ∧ some k_ ≠ (.slice Ao29 l2.length co29 : Value).ownBlock ∧ some k_ ≠ (.slice Ao32 t932.length co32 : Value).ownBlock)) (by exact Kd.R_mono HO1.out (fun _ hk => ⟨⟨hk.1.1.1, ⟨hk.1.1.2, hk.2⟩⟩, hk.1.2⟩)) hg hat); replace HO2 := Aside0.mk (Kd.R_after (ok := (fun k_ => ((P1_ k_ ∨ P2_ k_) ∨ w.heap.size ≤ k_) ∧ some k_ ≠ (.slice Ao27 l1.length co27 : Value).ownBlock ∧ some k_ ≠ (.slice Ao32 t932.length co32 : Value).ownBlock)) (by exact Kd.R_mono HO2.out (fun _ hk => ⟨⟨hk.1.1.1, ⟨hk.1.1.2, hk.2⟩⟩, hk.1.2⟩)) hg hat); replace HO934 := Aside0.mk (Kd.R_after (ok := (fun k_ => ((P1_ k_ ∨ P2_ k_) ∨ w.heap.size ≤ k_) ∧ some k_ ≠ (.slice Ao27 l1.length co27 : Value).ownBlock ∧ some k_ ≠ (.slice Ao29 l2.length co29 : Value).ownBlock)) (by exact Kd.R_mono HO934.out (fun _ hk => ⟨⟨hk.1.1.1.1, ⟨hk.1.1.2, hk.1.2⟩⟩, hk.2⟩)) hg hat); replace HB := Aside0.mk (hb); replace HK := Aside0.mk (Kept.of_grown (S := (fun k_ => P1_ k_ ∨ P2_ k_)) hg HK.out (fun k_ e_ => (HO930.out.1 k_ e_).1.1.1.1)); have HO937 := Aside0.mk (ho); clear HO930; clear ho hb hg hat; obtain ⟨Ao33, co33, eo33⟩ := Kd.R_slice HO937.out; subst eo33) | (refine callA (some 34) Tryd.func81 #[.slice Ao33 y935.length co33, (.func (.func 78) #[] #[])] ?_; (with_reducible refine (maskref1_fold__AndOf.calls k _ _ y935  t938 _ ?side1 ?side2 A26.out).mono ?_); (case side1 => exact (Kd.R_reads' HO937.out).2.2); (case side2 => exact (Kd.R_reads' HO937.out).2.1); rintro e w34 ⟨v939, rfl, ho0, hb⟩; refine ⟨_, rfl, ?_⟩; have HO940 := Aside0.mk (Kd.R_lower (Kd.R_new' (Kd.R_new' (Kd.R_new' (Kd.R_new' (Kd.R_newM (M := fun k_ => ((P1_ k_ ∨ P2_ k_) ∨ w.heap.size ≤ k_)) ho0 (by exact HK.out.1) (fun k_ h_ => .inr h_)) (Kd.R_lt HO1.out)) (Kd.R_lt HO2.out)) (Kd.R_lt HO934.out)) (Kd.R_lt HO937.out)) (below_size HB.out)); replace HO1 := Aside0.mk (Kd.R_elder' HO1.out (Kd.R_base ho0) hb); replace HO2 := Aside0.mk (Kd.R_elder' HO2.out (Kd.R_base ho0) hb); replace HO934 := Aside0.mk (Kd.R_elder' HO934.out (Kd.R_base ho0) hb); replace HO937 := Aside0.mk (Kd.R_elder' HO937.out (Kd.R_base ho0) hb); replace HK := Aside0.mk (Kept.below (S := (fun k_ => P1_ k_ ∨ P2_ k_)) HK.out hb); replace HB := hb1 HB hb; (try clear hb); (try clear ho0)))
      go_ret
      exact ⟨_, by rfl, by exact Kd.R_mono HO940.out (fun _ hk => hk.1.1.1.1.1), by repeat (with_reducible exact HB.out), by repeat (with_reducible exact HK.out)⟩
     ·rw [if_neg c25] at H
      exact absurd H (by simp)
    ·replace H := iE H; rcases H with ⟨c35b0, c35b1, H⟩ | ⟨c35, c35b0, c35b1, H⟩
     ·replace H := bN H; obtain ⟨t941, A36, H⟩ := H
      replace H := bN H; obtain ⟨t942, A37, H⟩ := H
      replace H := bN H; obtain ⟨t945, A38, H⟩ := H
      replace H := bN H; obtain ⟨t946, A39, H⟩ := H
      by_cases c40 : t942.length + t946.length < 140737488355328
      ·rw [if_pos c40] at H
       have LMc40 := Aside0.mk c40
       clear c40
       obtain ⟨y949, hy949⟩ : ∃ y_ : List Int, y_ = (t942 ++ t946) := ⟨_, rfl⟩
       replace H : ((maskref1_fold__OrOf.f k y949).bind fun t952 => (some t952)) = some r := by (rw [hy949]; with_reducible exact H)
       have Ny949 := Aside0.mk hy949
       clear hy949
       replace H := bN H; obtain ⟨t952, A41, H⟩ := H
       obtain rfl := Option.some.inj H
       obtain ⟨Ao42, co42, eo42⟩ := Kd.R_slice HO1.out
       subst eo42
       go_enter Tryd.func68, Tryd.ntmps68
       go_wp2_with (first | (refine callA (some 38) Tryd.func59 #[.slice Ao42 l1.length co42] ?_; (with_reducible refine (maskref1_Truth.calls k _ _ l1 t941 _ ?side1 ?side2 A36.out).mono ?_); (case side1 => exact (Kd.R_reads' HO1.out).2.2); (case side2 => exact (Kd.R_reads' HO1.out).2.1); rintro e w' ⟨rfl, ⟨nd, rfl⟩⟩; refine ⟨_, rfl, ?_⟩) | (refine callA (some 39) Tryd.func82 #[.int .u8 t941] ?_; (with_reducible refine (maskref1_One.calls t941 t942 _ A37.out).mono ?_); rintro e w43 ⟨v943, rfl, ho0, hb⟩; refine ⟨_, rfl, ?_⟩; have HO944 := Aside0.mk (Kd.R_lower (Kd.R_new' (Kd.R_new' (Kd.R_newM (M := fun k_ => ((P1_ k_ ∨ P2_ k_) ∨ w.heap.size ≤ k_)) ho0 (by exact HK.out.1) (fun k_ h_ => .inr h_)) (Kd.R_lt (by (with_reducible repeat (apply Kd.R_drewN)); exact HO1.out))) (Kd.R_lt (by (with_reducible repeat (apply Kd.R_drewN)); exact HO2.out))) (below_size (by repeat (with_reducible first | exact HB.out | apply pw_below_drewN)))); replace HO1 := Aside0.mk (Kd.R_elder' (by (with_reducible repeat (apply Kd.R_drewN)); exact HO1.out) (Kd.R_base ho0) hb); replace HO2 := Aside0.mk (Kd.R_elder' (by (with_reducible repeat (apply Kd.R_drewN)); exact HO2.out) (Kd.R_base ho0) hb); replace HK := Aside0.mk (Kept.below (S := (fun k_ => P1_ k_ ∨ P2_ k_)) (by repeat (with_reducible first | exact HK.out | apply Kept.drewN)) hb); replace HB := hb1 HB hb; (try clear hb); (try clear ho0); obtain ⟨Ao44, co44, eo44⟩ := Kd.R_slice HO2.out; subst eo44) | (refine callA (some 41) Tryd.func59 #[.slice Ao44 l2.length co44] ?_; (with_reducible refine (maskref1_Truth.calls k _ _ l2 t945 _ ?side1 ?side2 A38.out).mono ?_); (case side1 => exact (Kd.R_reads' HO2.out).2.2); (case side2 => exact (Kd.R_reads' HO2.out).2.1); rintro e w' ⟨rfl, ⟨nd, rfl⟩⟩; refine ⟨_, rfl, ?_⟩) | (refine callA (some 42) Tryd.func82 #[.int .u8 t945] ?_; (with_reducible refine (maskref1_One.calls t945 t946 _ A39.out).mono ?_); rintro e w45 ⟨v947, rfl, ho0, hb⟩; refine ⟨_, rfl, ?_⟩; have HO948 := Aside0.mk (Kd.R_lower (Kd.R_new' (Kd.R_new' (Kd.R_new' (Kd.R_newM (M := fun k_ => ((P1_ k_ ∨ P2_ k_) ∨ w.heap.size ≤ k_)) ho0 (by exact HK.out.1) (fun k_ h_ => .inr h_)) (Kd.R_lt (by (with_reducible repeat (apply Kd.R_drewN)); exact HO1.out))) (Kd.R_lt (by (with_reducible repeat (apply Kd.R_drewN)); exact HO2.out))) (Kd.R_lt (by (with_reducible repeat (apply Kd.R_drewN)); exact HO944.out))) (below_size (by repeat (with_reducible first | exact HB.out | apply pw_below_drewN)))); replace HO1 := Aside0.mk (Kd.R_elder' (by (with_reducible repeat (apply Kd.R_drewN)); exact HO1.out) (Kd.R_base ho0) hb); replace HO2 := Aside0.mk (Kd.R_elder' (by (with_reducible repeat (apply Kd.R_drewN)); exact HO2.out) (Kd.R_base ho0) hb); replace HO944 := Aside0.mk (Kd.R_elder' (by (with_reducible repeat (apply Kd.R_drewN)); exact HO944.out) (Kd.R_base ho0) hb); replace HK := Aside0.mk (Kept.below (S := (fun k_ => P1_ k_ ∨ P2_ k_)) (by repeat (with_reducible first | exact HK.out | apply Kept.drewN)) hb); replace HB := hb1 HB hb; (try clear hb); (try clear ho0); obtain ⟨Ao47, co47, eo47⟩ := Kd.R_slice HO948.out; subst eo47) | ((with_reducible refine gate_builtin (b := .append) (xs := #[.tmp 39, .tmp 42]) rfl ?_); at_builtin; refine Kd.R_append_rows (Kd.int .u8) (w0 := w0) w0.heap.size rfl (.tmp 39) (.tmp 42) 43 5 (.int .u8 0) 1 rfl Tryd.underlying43 info5 rfl (by decide) (by omega) v943 t942 t946 _ _ _ (fun k_ => ((P1_ k_ ∨ P2_ k_) ∨ w.heap.size ≤ k_) ∧ some k_ ≠ (.slice Ao42 l1.length co42 : Value).ownBlock ∧ some k_ ≠ (.slice Ao44 l2.length co44 : Value).ownBlock ∧ some k_ ≠ (.slice Ao47 t946.length co47 : Value).ownBlock) (fun _ => False) rfl rfl ?aO ?aR (fun _ _ h => h) (fun _ h => h.elim) ?aF ?aB ?aS ?aL ?_; (case aR => repeat (exact (Kd.R_reads' HO948.out).2.2)); (case aB => exact HB.out); (case aF => exact (fun k_ hk => ⟨(.inr (Nat.le_trans (by exact HK.out.1) hk)), Kd.fresh' (Kd.R_lt HO1.out) k_ hk, Kd.fresh' (Kd.R_lt HO2.out) k_ hk, Kd.fresh' (Kd.R_lt HO948.out) k_ hk⟩)); (case aO => exact (by exact Kd.R_mono HO944.out (fun _ hk => ⟨hk.1.1.1.1, ⟨hk.1.1.2, ⟨hk.1.2, hk.2⟩⟩⟩))); (case aS => exact (below_size HB.out)); (case aL => have := LMc40.out; omega); intro v950 w46 ho hb hg hat; rw [← Ny949.out] at ho; replace HO1 := Aside0.mk (Kd.R_after (ok := (fun k_ => ((P1_ k_ ∨ P2_ k_) ∨ w.heap.size ≤ k_) ∧ some k_ ≠ (.slice Ao44 l2.length co44 : Value).ownBlock ∧ some k_ ≠ (.slice Ao47 t946.length co47 : Value).ownBlock)) (by exact Kd.R_mono HO1.out (fun _ hk => ⟨⟨hk.1.1.1, ⟨hk.1.1.2, hk.2⟩⟩, hk.1.2⟩)) hg hat); replace HO2 := Aside0.mk (Kd.R_after (ok := (fun k_ => ((P1_ k_ ∨ P2_ k_) ∨ w.heap.size ≤ k_) ∧ some k_ ≠ (.slice Ao42 l1.length co42 : Value).ownBlock ∧ some k_ ≠ (.slice Ao47 t946.length co47 : Value).ownBlock)) (by exact Kd.R_mono HO2.out (fun _ hk => ⟨⟨hk.1.1.1, ⟨hk.1.1.2, hk.2⟩⟩, hk.1.2⟩)) hg hat); replace HO948 := Aside0.mk (Kd.R_after (ok := (fun k_ => ((P1_ k_ ∨ P2_ k_) ∨ w.heap.size ≤ k_) ∧ some k_ ≠ (.slice Ao42 l1.length co42 : Value).ownBlock ∧ some k_ ≠ (.slice Ao44 l2.length co44 : Value).ownBlock)) (by exact Kd.R_mono HO948.out (fun _ hk => ⟨⟨hk.1.1.1.1, ⟨hk.1.1.2, hk.1.2⟩⟩, hk.2⟩)) hg hat); replace HB := Aside0.mk (hb); replace HK := Aside0.mk (Kept.of_grown (S := (fun k_ => P1_ k_ ∨ P2_ k_)) hg HK.out (fun k_ e_ => (HO944.out.1 k_ e_).1.1.1.1)); have HO951 := Aside0.mk (ho); clear HO944; clear ho hb hg hat; obtain ⟨Ao48, co48, eo48⟩ := Kd.R_slice HO951.out; subst eo48) | (refine callA (some 44) Tryd.func81 #[.slice Ao48 y949.length co48, (.func (.func 79) #[] #[])] ?_; (with_reducible refine (maskref1_fold__OrOf.calls k _ _ y949  t952 _ ?side1 ?side2 A41.out).mono ?_); (case side1 => exact (Kd.R_reads' HO951.out).2.2); (case side2 => exact (Kd.R_reads' HO951.out).2.1); rintro e w49 ⟨v953, rfl, ho0, hb⟩; refine ⟨_, rfl, ?_⟩; have HO954 := Aside0.mk (Kd.R_lower (Kd.R_new' (Kd.R_new' (Kd.R_new' (Kd.R_new' (Kd.R_newM (M := fun k_ => ((P1_ k_ ∨ P2_ k_) ∨ w.heap.size ≤ k_)) ho0 (by exact HK.out.1) (fun k_ h_ => .inr h_)) (Kd.R_lt HO1.out)) (Kd.R_lt HO2.out)) (Kd.R_lt HO948.out)) (Kd.R_lt HO951.out)) (below_size HB.out)); replace HO1 := Aside0.mk (Kd.R_elder' HO1.out (Kd.R_base ho0) hb); replace HO2 := Aside0.mk (Kd.R_elder' HO2.out (Kd.R_base ho0) hb); replace HO948 := Aside0.mk (Kd.R_elder' HO948.out (Kd.R_base ho0) hb); replace HO951 := Aside0.mk (Kd.R_elder' HO951.out (Kd.R_base ho0) hb); replace HK := Aside0.mk (Kept.below (S := (fun k_ => P1_ k_ ∨ P2_ k_)) HK.out hb); replace HB := hb1 HB hb; (try clear hb); (try clear ho0)))
       go_ret
       exact ⟨_, by rfl, by exact Kd.R_mono HO954.out (fun _ hk => hk.1.1.1.1.1), by repeat (with_reducible exact HB.out), by repeat (with_reducible exact HK.out)⟩
      ·rw [if_neg c40] at H
       exact absurd H (by simp)
     ·replace H := iE H; rcases H with ⟨c50b0, c50b1, H⟩ | ⟨c50, c50b0, c50b1, H⟩
      ·replace H := bN H; obtain ⟨t955, A51, H⟩ := H
       obtain rfl := Option.some.inj H
       obtain ⟨Ao52, co52, eo52⟩ := Kd.R_slice HO1.out
       subst eo52
       obtain ⟨Ao53, co53, eo53⟩ := Kd.R_slice HO2.out
       subst eo53
       go_enter Tryd.func68, Tryd.ntmps68
       go_wp2_with ((refine callA (some 49) Tryd.func83 #[.slice Ao52 l1.length co52, .slice Ao53 l2.length co53, .bool true, .int .u8 48] ?_; (with_reducible refine (maskref1_moved.calls k _ _ l1 _ _ l2 true 48 t955 _ ?side1 ?side2 ?side3 ?side4 A51.out).mono ?_); (case side1 => exact (Kd.R_reads' HO1.out).2.2); (case side2 => exact (Kd.R_reads' HO1.out).2.1); (case side3 => exact (Kd.R_reads' HO2.out).2.2); (case side4 => exact (Kd.R_reads' HO2.out).2.1); rintro e w54 ⟨v956, rfl, ho0, hb⟩; refine ⟨_, rfl, ?_⟩; have HO957 := Aside0.mk (Kd.R_lower (Kd.R_new' (Kd.R_new' (Kd.R_newM (M := fun k_ => ((P1_ k_ ∨ P2_ k_) ∨ w.heap.size ≤ k_)) ho0 (by exact HK.out.1) (fun k_ h_ => .inr h_)) (Kd.R_lt HO1.out)) (Kd.R_lt HO2.out)) (below_size HB.out)); replace HO1 := Aside0.mk (Kd.R_elder' HO1.out (Kd.R_base ho0) hb); replace HO2 := Aside0.mk (Kd.R_elder' HO2.out (Kd.R_base ho0) hb); replace HK := Aside0.mk (Kept.below (S := (fun k_ => P1_ k_ ∨ P2_ k_)) HK.out hb); replace HB := hb1 HB hb; (try clear hb); (try clear ho0)))
       go_ret
       exact ⟨_, by rfl, by exact Kd.R_mono HO957.out (fun _ hk => hk.1.1.1), by repeat (with_reducible exact HB.out), by repeat (with_reducible exact HK.out)⟩
      ·replace H := iE H; rcases H with ⟨c55b0, c55b1, H⟩ | ⟨c55, c55b0, c55b1, H⟩
       ·replace H := bN H; obtain ⟨t958, A56, H⟩ := H
        obtain rfl := Option.some.inj H
        obtain ⟨Ao57, co57, eo57⟩ := Kd.R_slice HO1.out
        subst eo57
        obtain ⟨Ao58, co58, eo58⟩ := Kd.R_slice HO2.out
        subst eo58
        go_enter Tryd.func68, Tryd.ntmps68
        go_wp2_with ((refine callA (some 54) Tryd.func83 #[.slice Ao57 l1.length co57, .slice Ao58 l2.length co58, .bool false, .int .u8 48] ?_; (with_reducible refine (maskref1_moved.calls k _ _ l1 _ _ l2 false 48 t958 _ ?side1 ?side2 ?side3 ?side4 A56.out).mono ?_); (case side1 => exact (Kd.R_reads' HO1.out).2.2); (case side2 => exact (Kd.R_reads' HO1.out).2.1); (case side3 => exact (Kd.R_reads' HO2.out).2.2); (case side4 => exact (Kd.R_reads' HO2.out).2.1); rintro e w59 ⟨v959, rfl, ho0, hb⟩; refine ⟨_, rfl, ?_⟩; have HO960 := Aside0.mk (Kd.R_lower (Kd.R_new' (Kd.R_new' (Kd.R_newM (M := fun k_ => ((P1_ k_ ∨ P2_ k_) ∨ w.heap.size ≤ k_)) ho0 (by exact HK.out.1) (fun k_ h_ => .inr h_)) (Kd.R_lt HO1.out)) (Kd.R_lt HO2.out)) (below_size HB.out)); replace HO1 := Aside0.mk (Kd.R_elder' HO1.out (Kd.R_base ho0) hb); replace HO2 := Aside0.mk (Kd.R_elder' HO2.out (Kd.R_base ho0) hb); replace HK := Aside0.mk (Kept.below (S := (fun k_ => P1_ k_ ∨ P2_ k_)) HK.out hb); replace HB := hb1 HB hb; (try clear hb); (try clear ho0)))
        go_ret
        exact ⟨_, by rfl, by exact Kd.R_mono HO960.out (fun _ hk => hk.1.1.1), by repeat (with_reducible exact HB.out), by repeat (with_reducible exact HK.out)⟩
       ·replace H := iE H; rcases H with ⟨c60b0, c60b1, H⟩ | ⟨c60, c60b0, c60b1, H⟩
        ·obtain ⟨ji61, hji61⟩ : ∃ j_ : Int, (wrap64 ((l1.length : Int) - 1)) = j_ := ⟨_, rfl⟩
         replace H : (if 0 ≤ (ji61) then (if (ji61) < (l1.length : Int) then ((maskref1_moved.f k l1 l2 false (rd l1 (ji61))).bind fun t962 => (some t962)) else (none)) else (none)) = some r := by (rw [hji61] at H; exact H)
         have hji61w : (IntKind.i64.wrap ((l1.length : Int) - 1)) = ji61 := (i64_w _).trans hji61
         replace H := iN H; obtain ⟨c62b0, H⟩ := H
         replace H := iN H; obtain ⟨c63b0, H⟩ := H
         replace H := bN H; obtain ⟨t962, A64, H⟩ := H
         obtain rfl := Option.some.inj H
         obtain ⟨Ao65, co65, eo65⟩ := Kd.R_slice HO1.out
         subst eo65
         have p961 : 0 ≤ ((ji61) : Int) := of_decide_eq_true (by (with_reducible assumption))
         have q961 : (ji61) < (l1.length : Int) := of_decide_eq_true (by (with_reducible assumption))
         obtain ⟨ad961, e961, hx961_0⟩ := Kd.at_int (Kd.R_reads' HO1.out).2.2 (ji61) p961 q961
         cases e961
         replace p961 := eq_true p961
         replace q961 := eq_true q961
         obtain ⟨Ao66, co66, eo66⟩ := Kd.R_slice HO2.out
         subst eo66
         go_enter Tryd.func68, Tryd.ntmps68
         go_wp2_with ((refine callA (some 65) Tryd.func83 #[.slice (some ad961) l1.length co65, .slice Ao66 l2.length co66, .bool false, .int .u8 (rd l1 (ji61))] ?_; (with_reducible refine (maskref1_moved.calls k _ _ l1 _ _ l2 false (rd l1 (ji61)) t962 _ ?side1 ?side2 ?side3 ?side4 A64.out).mono ?_); (case side1 => exact (Kd.R_reads' HO1.out).2.2); (case side2 => exact (Kd.R_reads' HO1.out).2.1); (case side3 => exact (Kd.R_reads' HO2.out).2.2); (case side4 => exact (Kd.R_reads' HO2.out).2.1); rintro e w67 ⟨v963, rfl, ho0, hb⟩; refine ⟨_, rfl, ?_⟩; have HO964 := Aside0.mk (Kd.R_lower (Kd.R_new' (Kd.R_new' (Kd.R_newM (M := fun k_ => ((P1_ k_ ∨ P2_ k_) ∨ w.heap.size ≤ k_)) ho0 (by exact HK.out.1) (fun k_ h_ => .inr h_)) (Kd.R_lt HO1.out)) (Kd.R_lt HO2.out)) (below_size HB.out)); replace HO1 := Aside0.mk (Kd.R_elder' HO1.out (Kd.R_base ho0) hb); replace HO2 := Aside0.mk (Kd.R_elder' HO2.out (Kd.R_base ho0) hb); replace HK := Aside0.mk (Kept.below (S := (fun k_ => P1_ k_ ∨ P2_ k_)) HK.out hb); replace HB := hb1 HB hb; (try clear hb); (try clear ho0)))
         go_ret
         exact ⟨_, by rfl, by exact Kd.R_mono HO964.out (fun _ hk => hk.1.1.1), by repeat (with_reducible exact HB.out), by repeat (with_reducible exact HK.out)⟩
        ·replace H := iE H; rcases H with ⟨c68b0, c68b1, H⟩ | ⟨c68, c68b0, c68b1, H⟩
         ·replace H := bN H; obtain ⟨t965, A69, H⟩ := H
          replace H := bN H; obtain ⟨t966, A70, H⟩ := H
          obtain rfl := Option.some.inj H
          obtain ⟨Ao71, co71, eo71⟩ := Kd.R_slice HO1.out
          subst eo71
          obtain ⟨Ao72, co72, eo72⟩ := Kd.R_slice HO2.out
          subst eo72
          go_enter Tryd.func68, Tryd.ntmps68
          go_wp2_with (first | (refine callA (some 70) Tryd.func84 #[.slice Ao71 l1.length co71, .slice Ao72 l2.length co72] ?_; (with_reducible refine (maskref1_Compared.calls k _ _ l1 _ _ l2 t965 _ ?side1 ?side2 ?side3 ?side4 A69.out).mono ?_); (case side1 => exact (Kd.R_reads' HO1.out).2.2); (case side2 => exact (Kd.R_reads' HO1.out).2.1); (case side3 => exact (Kd.R_reads' HO2.out).2.2); (case side4 => exact (Kd.R_reads' HO2.out).2.1); rintro e w' ⟨rfl, ⟨nd, rfl⟩⟩; refine ⟨_, rfl, ?_⟩) | (refine callA (some 71) Tryd.func82 #[.int .u8 t965] ?_; (with_reducible refine (maskref1_One.calls t965 t966 _ A70.out).mono ?_); rintro e w73 ⟨v967, rfl, ho0, hb⟩; refine ⟨_, rfl, ?_⟩; have HO968 := Aside0.mk (Kd.R_lower (Kd.R_new' (Kd.R_new' (Kd.R_newM (M := fun k_ => ((P1_ k_ ∨ P2_ k_) ∨ w.heap.size ≤ k_)) ho0 (by exact HK.out.1) (fun k_ h_ => .inr h_)) (Kd.R_lt (by (with_reducible repeat (apply Kd.R_drewN)); exact HO1.out))) (Kd.R_lt (by (with_reducible repeat (apply Kd.R_drewN)); exact HO2.out))) (below_size (by repeat (with_reducible first | exact HB.out | apply pw_below_drewN)))); replace HO1 := Aside0.mk (Kd.R_elder' (by (with_reducible repeat (apply Kd.R_drewN)); exact HO1.out) (Kd.R_base ho0) hb); replace HO2 := Aside0.mk (Kd.R_elder' (by (with_reducible repeat (apply Kd.R_drewN)); exact HO2.out) (Kd.R_base ho0) hb); replace HK := Aside0.mk (Kept.below (S := (fun k_ => P1_ k_ ∨ P2_ k_)) (by repeat (with_reducible first | exact HK.out | apply Kept.drewN)) hb); replace HB := hb1 HB hb; (try clear hb); (try clear ho0)))
          go_ret
          exact ⟨_, by rfl, by exact Kd.R_mono HO968.out (fun _ hk => hk.1.1.1), by repeat (with_reducible exact HB.out), by repeat (with_reducible exact HK.out)⟩
         ·replace H := iE H; rcases H with ⟨c74b0, c74b1, H⟩ | ⟨c74, c74b0, c74b1, H⟩
          ·replace H := bN H; obtain ⟨t969, A75, H⟩ := H
           replace H := bN H; obtain ⟨t970, A76, H⟩ := H
           replace H := bN H; obtain ⟨t971, A77, H⟩ := H
           obtain rfl := Option.some.inj H
           obtain ⟨Ao78, co78, eo78⟩ := Kd.R_slice HO1.out
           subst eo78
           obtain ⟨Ao79, co79, eo79⟩ := Kd.R_slice HO2.out
           subst eo79
           go_enter Tryd.func68, Tryd.ntmps68
           go_wp2_with (first | (refine callA (some 76) Tryd.func84 #[.slice Ao78 l1.length co78, .slice Ao79 l2.length co79] ?_; (with_reducible refine (maskref1_Compared.calls k _ _ l1 _ _ l2 t969 _ ?side1 ?side2 ?side3 ?side4 A75.out).mono ?_); (case side1 => exact (Kd.R_reads' HO1.out).2.2); (case side2 => exact (Kd.R_reads' HO1.out).2.1); (case side3 => exact (Kd.R_reads' HO2.out).2.2); (case side4 => exact (Kd.R_reads' HO2.out).2.1); rintro e w' ⟨rfl, ⟨nd, rfl⟩⟩; refine ⟨_, rfl, ?_⟩) | (refine callA (some 77) Tryd.func85 #[.int .u8 t969] ?_; (with_reducible refine (maskref1_Opposite.calls t969 t970 _ A76.out).mono ?_); rintro e w' ⟨rfl, ⟨nd, rfl⟩⟩; refine ⟨_, rfl, ?_⟩) | (refine callA (some 78) Tryd.func82 #[.int .u8 t970] ?_; (with_reducible refine (maskref1_One.calls t970 t971 _ A77.out).mono ?_); rintro e w80 ⟨v972, rfl, ho0, hb⟩; refine ⟨_, rfl, ?_⟩; have HO973 := Aside0.mk (Kd.R_lower (Kd.R_new' (Kd.R_new' (Kd.R_newM (M := fun k_ => ((P1_ k_ ∨ P2_ k_) ∨ w.heap.size ≤ k_)) ho0 (by exact HK.out.1) (fun k_ h_ => .inr h_)) (Kd.R_lt (by (with_reducible repeat (apply Kd.R_drewN)); exact HO1.out))) (Kd.R_lt (by (with_reducible repeat (apply Kd.R_drewN)); exact HO2.out))) (below_size (by repeat (with_reducible first | exact HB.out | apply pw_below_drewN)))); replace HO1 := Aside0.mk (Kd.R_elder' (by (with_reducible repeat (apply Kd.R_drewN)); exact HO1.out) (Kd.R_base ho0) hb); replace HO2 := Aside0.mk (Kd.R_elder' (by (with_reducible repeat (apply Kd.R_drewN)); exact HO2.out) (Kd.R_base ho0) hb); replace HK := Aside0.mk (Kept.below (S := (fun k_ => P1_ k_ ∨ P2_ k_)) (by repeat (with_reducible first | exact HK.out | apply Kept.drewN)) hb); replace HB := hb1 HB hb; (try clear hb); (try clear ho0)))
           go_ret
           exact ⟨_, by rfl, by exact Kd.R_mono HO973.out (fun _ hk => hk.1.1.1), by repeat (with_reducible exact HB.out), by repeat (with_reducible exact HK.out)⟩
          ·replace H := iE H; rcases H with ⟨c81b0, c81b1, H⟩ | ⟨c81, c81b0, c81b1, H⟩
           ·replace H := bN H; obtain ⟨t974, A82, H⟩ := H
            replace H := bN H; obtain ⟨t975, A83, H⟩ := H
            replace H := bN H; obtain ⟨t976, A84, H⟩ := H
            obtain rfl := Option.some.inj H
            obtain ⟨Ao85, co85, eo85⟩ := Kd.R_slice HO1.out
            subst eo85
            obtain ⟨Ao86, co86, eo86⟩ := Kd.R_slice HO2.out
            subst eo86
            go_enter Tryd.func68, Tryd.ntmps68
            go_wp2_with (first | (refine callA (some 83) Tryd.func87 #[.slice Ao85 l1.length co85, .slice Ao86 l2.length co86] ?_; (with_reducible refine (maskref1_same.calls _ _ l1 _ _ l2 t974 _ ?side1 ?side2 ?side3 ?side4 A82.out).mono ?_); (case side1 => exact (Kd.R_reads' HO1.out).2.2); (case side2 => exact (Kd.R_reads' HO1.out).2.1); (case side3 => exact (Kd.R_reads' HO2.out).2.2); (case side4 => exact (Kd.R_reads' HO2.out).2.1); rintro e w' ⟨rfl, ⟨nd, rfl⟩⟩; refine ⟨_, rfl, ?_⟩) | (refine callA (some 84) Tryd.func86 #[.bool t974] ?_; (with_reducible refine (maskref1_truthOf.calls t974 t975 _ A83.out).mono ?_); rintro e w' ⟨rfl, ⟨nd, rfl⟩⟩; refine ⟨_, rfl, ?_⟩) | (refine callA (some 85) Tryd.func82 #[.int .u8 t975] ?_; (with_reducible refine (maskref1_One.calls t975 t976 _ A84.out).mono ?_); rintro e w87 ⟨v977, rfl, ho0, hb⟩; refine ⟨_, rfl, ?_⟩; have HO978 := Aside0.mk (Kd.R_lower (Kd.R_new' (Kd.R_new' (Kd.R_newM (M := fun k_ => ((P1_ k_ ∨ P2_ k_) ∨ w.heap.size ≤ k_)) ho0 (by exact HK.out.1) (fun k_ h_ => .inr h_)) (Kd.R_lt (by (with_reducible repeat (apply Kd.R_drewN)); exact HO1.out))) (Kd.R_lt (by (with_reducible repeat (apply Kd.R_drewN)); exact HO2.out))) (below_size (by repeat (with_reducible first | exact HB.out | apply pw_below_drewN)))); replace HO1 := Aside0.mk (Kd.R_elder' (by (with_reducible repeat (apply Kd.R_drewN)); exact HO1.out) (Kd.R_base ho0) hb); replace HO2 := Aside0.mk (Kd.R_elder' (by (with_reducible repeat (apply Kd.R_drewN)); exact HO2.out) (Kd.R_base ho0) hb); replace HK := Aside0.mk (Kept.below (S := (fun k_ => P1_ k_ ∨ P2_ k_)) (by repeat (with_reducible first | exact HK.out | apply Kept.drewN)) hb); replace HB := hb1 HB hb; (try clear hb); (try clear ho0)))
            go_ret
            exact ⟨_, by rfl, by exact Kd.R_mono HO978.out (fun _ hk => hk.1.1.1), by repeat (with_reducible exact HB.out), by repeat (with_reducible exact HK.out)⟩
           ·replace H := iE H; rcases H with ⟨c88b0, c88b1, H⟩ | ⟨c88, c88b0, c88b1, H⟩
            ·replace H := bN H; obtain ⟨t979, A89, H⟩ := H
             replace H := bN H; obtain ⟨t980, A90, H⟩ := H
             replace H := bN H; obtain ⟨t981, A91, H⟩ := H
             obtain rfl := Option.some.inj H
             obtain ⟨Ao92, co92, eo92⟩ := Kd.R_slice HO1.out
             subst eo92
             obtain ⟨Ao93, co93, eo93⟩ := Kd.R_slice HO2.out
             subst eo93
             go_enter Tryd.func68, Tryd.ntmps68
             go_wp2_with (first | (refine callA (some 90) Tryd.func87 #[.slice Ao92 l1.length co92, .slice Ao93 l2.length co93] ?_; (with_reducible refine (maskref1_same.calls _ _ l1 _ _ l2 t979 _ ?side1 ?side2 ?side3 ?side4 A89.out).mono ?_); (case side1 => exact (Kd.R_reads' HO1.out).2.2); (case side2 => exact (Kd.R_reads' HO1.out).2.1); (case side3 => exact (Kd.R_reads' HO2.out).2.2); (case side4 => exact (Kd.R_reads' HO2.out).2.1); rintro e w' ⟨rfl, ⟨nd, rfl⟩⟩; refine ⟨_, rfl, ?_⟩) | (refine callA (some 92) Tryd.func86 #[.bool (!t979)] ?_; (with_reducible refine (maskref1_truthOf.calls (!t979) t980 _ A90.out).mono ?_); rintro e w' ⟨rfl, ⟨nd, rfl⟩⟩; refine ⟨_, rfl, ?_⟩) | (refine callA (some 93) Tryd.func82 #[.int .u8 t980] ?_; (with_reducible refine (maskref1_One.calls t980 t981 _ A91.out).mono ?_); rintro e w94 ⟨v982, rfl, ho0, hb⟩; refine ⟨_, rfl, ?_⟩; have HO983 := Aside0.mk (Kd.R_lower (Kd.R_new' (Kd.R_new' (Kd.R_newM (M := fun k_ => ((P1_ k_ ∨ P2_ k_) ∨ w.heap.size ≤ k_)) ho0 (by exact HK.out.1) (fun k_ h_ => .inr h_)) (Kd.R_lt (by (with_reducible repeat (apply Kd.R_drewN)); exact HO1.out))) (Kd.R_lt (by (with_reducible repeat (apply Kd.R_drewN)); exact HO2.out))) (below_size (by repeat (with_reducible first | exact HB.out | apply pw_below_drewN)))); replace HO1 := Aside0.mk (Kd.R_elder' (by (with_reducible repeat (apply Kd.R_drewN)); exact HO1.out) (Kd.R_base ho0) hb); replace HO2 := Aside0.mk (Kd.R_elder' (by (with_reducible repeat (apply Kd.R_drewN)); exact HO2.out) (Kd.R_base ho0) hb); replace HK := Aside0.mk (Kept.below (S := (fun k_ => P1_ k_ ∨ P2_ k_)) (by repeat (with_reducible first | exact HK.out | apply Kept.drewN)) hb); replace HB := hb1 HB hb; (try clear hb); (try clear ho0)))
             go_ret
             exact ⟨_, by rfl, by exact Kd.R_mono HO983.out (fun _ hk => hk.1.1.1), by repeat (with_reducible exact HB.out), by repeat (with_reducible exact HK.out)⟩
            ·have HC95 := Aside0.mk H
             clear H
             go_enter Tryd.func68, Tryd.ntmps68
             go_upto_if 94 with (fail)
             go_cut [94] (fun v94 wc => ∃ (kq : Nat) (x94_94 : Bool), v94 = .bool x94_94 ∧ Aside0 (maskref1_Binary.j0 kq a0 l1 l2 a3 x94_94 = some r) ∧ Aside0 (kq ≤ k) ∧ Aside0 (Kd.R (Kd.int .u8) 5 wc w0.heap.size (fun k_ => ((P1_ k_ ∨ P2_ k_) ∨ w.heap.size ≤ k_) ∧ some k_ ≠ (u9001_ : Value).ownBlock) u9000_ l1) ∧ Aside0 (Kd.R (Kd.int .u8) 5 wc w0.heap.size (fun k_ => ((P1_ k_ ∨ P2_ k_) ∨ w.heap.size ≤ k_) ∧ some k_ ≠ (u9000_ : Value).ownBlock) u9001_ l2) ∧ Aside0 (Kept w wc (fun k_ => P1_ k_ ∨ P2_ k_)) ∧ Aside0 (Below w0.heap.size w0 wc))
             case first =>
              have H := HC95.out
              clear HC95
              replace H := iE H; rcases H with ⟨c96b0, c96b1, H⟩ | ⟨c96, c96b0, c96b1, H⟩
              ·(rw [c96b0])
               have H' := Aside0.mk H
               clear H
               go_wp2
               go_meet
               case rel => exact ⟨_, (a0 == 28), (by (simp [*]; done)), H', ⟨by omega⟩, ⟨by exact HO1.out⟩, ⟨by exact HO2.out⟩, ⟨by repeat (with_reducible exact HK.out)⟩, ⟨by repeat (with_reducible exact HB.out)⟩⟩
              ·(rw [c96b0])
               have H' := Aside0.mk H
               clear H
               go_wp2
               go_meet
               case rel => exact ⟨_, (a0 == 29), (by rfl), H', ⟨by omega⟩, ⟨by exact HO1.out⟩, ⟨by exact HO2.out⟩, ⟨by repeat (with_reducible exact HK.out)⟩, ⟨by repeat (with_reducible exact HB.out)⟩⟩
             case rest =>
              clear HC95
              (try clear c5); (try clear c5b0); (try clear c5b1); (try clear c10); (try clear c10b0); (try clear c10b1); (try clear c15); (try clear c15b0); (try clear c15b1); (try clear c20); (try clear c20b0); (try clear c20b1); (try clear c35); (try clear c35b0); (try clear c35b1); (try clear c50); (try clear c50b0); (try clear c50b1); (try clear c55); (try clear c55b0); (try clear c55b1); (try clear c60); (try clear c60b0); (try clear c60b1); (try clear c68); (try clear c68b0); (try clear c68b1); (try clear c74); (try clear c74b0); (try clear c74b1); (try clear c81); (try clear c81b0); (try clear c81b1); (try clear c88); (try clear c88b0); (try clear c88b1)
              obtain ⟨kq, x94_94, rfl, HA, HJ94, HO_1, HO_2, HK, HB⟩ := hcut
              cases kq with
              | zero => exact absurd HA.out (by simp [maskref1_Binary.j0])
              | succ kj94 =>
               have H := HA.out
               clear HA
               simp only [maskref1_Binary.j0] at H
               replace H := iB H; rcases H with ⟨rfl, H⟩ | ⟨rfl, H⟩
               ·have HC98 := Aside0.mk H
                clear H
                go_upto_region 28 with (fail)
                go_cut [104] (fun v104 wc => ∃ (kq : Nat) (x104_97 : Bool), v104 = .bool x104_97 ∧ Aside0 (maskref1_Binary.j1 kq a0 l1 l2 a3 x104_97 = some r) ∧ Aside0 (kq ≤ kj94) ∧ Aside0 (Kd.R (Kd.int .u8) 5 wc w0.heap.size (fun k_ => ((P1_ k_ ∨ P2_ k_) ∨ w.heap.size ≤ k_) ∧ some k_ ≠ (u9001_ : Value).ownBlock) u9000_ l1) ∧ Aside0 (Kd.R (Kd.int .u8) 5 wc w0.heap.size (fun k_ => ((P1_ k_ ∨ P2_ k_) ∨ w.heap.size ≤ k_) ∧ some k_ ≠ (u9000_ : Value).ownBlock) u9001_ l2) ∧ Aside0 (Kept w wc (fun k_ => P1_ k_ ∨ P2_ k_)) ∧ Aside0 (Below w0.heap.size w0 wc))
                case first =>
                 have H := HC98.out
                 clear HC98
                 replace H := bN H; obtain ⟨t984, A99, H⟩ := H
                 replace H := iB H; rcases H with ⟨rfl, H⟩ | ⟨rfl, H⟩
                 ·replace H := bN H; obtain ⟨t985, A101, H⟩ := H
                  have H' := Aside0.mk H
                  clear H
                  obtain ⟨Ao102, co102, eo102⟩ := Kd.R_slice HO_1.out
                  subst eo102
                  go_wp2_with (first | (refine callA (some 98) Tryd.func33 #[.slice Ao102 l1.length co102] ?_; (with_reducible refine (maskref1_Known.calls kj94 _ _ l1 true _ ?side1 ?side2 A99.out).mono ?_); (case side1 => exact (Kd.R_reads' HO_1.out).2.2); (case side2 => exact (Kd.R_reads' HO_1.out).2.1); rintro e w' ⟨rfl, ⟨nd, rfl⟩⟩; refine ⟨_, rfl, ?_⟩; obtain ⟨Ao103, co103, eo103⟩ := Kd.R_slice HO_2.out; subst eo103) | (go_at_call 33; (with_reducible refine (maskref1_Known.calls kj94 _ _ l2 t985 _ ?side1 ?side2 A101.out).mono ?_); (case side1 => exact (Kd.R_reads' HO_2.out).2.2); (case side2 => exact (Kd.R_reads' HO_2.out).2.1); rintro e w' ⟨rfl, ⟨nd, rfl⟩⟩))
                  go_meet
                  case rel => exact ⟨_, (!t985), (by rfl), H', ⟨by have := HJ94.out; omega⟩, ⟨by (with_reducible repeat (apply Kd.R_drewN)); exact HO_1.out⟩, ⟨by (with_reducible repeat (apply Kd.R_drewN)); exact HO_2.out⟩, ⟨by repeat (with_reducible first | exact HK.out | apply Kept.drewN)⟩, ⟨by repeat (with_reducible first | exact HB.out | apply pw_below_drewN)⟩⟩
                 ·have H' := Aside0.mk H
                  clear H
                  obtain ⟨Ao104, co104, eo104⟩ := Kd.R_slice HO_1.out
                  subst eo104
                  go_wp2_with ((refine callA (some 98) Tryd.func33 #[.slice Ao104 l1.length co104] ?_; (with_reducible refine (maskref1_Known.calls kj94 _ _ l1 false _ ?side1 ?side2 A99.out).mono ?_); (case side1 => exact (Kd.R_reads' HO_1.out).2.2); (case side2 => exact (Kd.R_reads' HO_1.out).2.1); rintro e w' ⟨rfl, ⟨nd, rfl⟩⟩; refine ⟨_, rfl, ?_⟩))
                  go_meet
                  case rel => exact ⟨_, (true), (by rfl), H', ⟨by have := HJ94.out; omega⟩, ⟨by (with_reducible repeat (apply Kd.R_drewN)); exact HO_1.out⟩, ⟨by (with_reducible repeat (apply Kd.R_drewN)); exact HO_2.out⟩, ⟨by repeat (with_reducible first | exact HK.out | apply Kept.drewN)⟩, ⟨by repeat (with_reducible first | exact HB.out | apply pw_below_drewN)⟩⟩
                case rest =>
                 clear HC98
                 obtain ⟨kq, x104_97, rfl, HA, HJ97, HO_1, HO_2, HK, HB⟩ := hcut
                 cases kq with
                 | zero => exact absurd HA.out (by simp [maskref1_Binary.j1])
                 | succ kj97 =>
                  have H := HA.out
                  clear HA
                  simp only [maskref1_Binary.j1] at H
                  replace H := iB H; rcases H with ⟨rfl, H⟩ | ⟨rfl, H⟩
                  ·replace H := bN H; obtain ⟨t986, A106, H⟩ := H
                   obtain rfl := Option.some.inj H
                   go_wp2_with ((refine callA (some 105) Tryd.func82 #[.int .u8 117] ?_; (with_reducible refine (maskref1_One.calls 117 t986 _ A106.out).mono ?_); rintro e w107 ⟨v987, rfl, ho0, hb⟩; refine ⟨_, rfl, ?_⟩; have HO988 := Aside0.mk (Kd.R_lower (Kd.R_new' (Kd.R_new' (Kd.R_newM (M := fun k_ => ((P1_ k_ ∨ P2_ k_) ∨ w.heap.size ≤ k_)) ho0 (by exact HK.out.1) (fun k_ h_ => .inr h_)) (Kd.R_lt HO_1.out)) (Kd.R_lt HO_2.out)) (below_size HB.out)); replace HO_1 := Aside0.mk (Kd.R_elder' HO_1.out (Kd.R_base ho0) hb); replace HO_2 := Aside0.mk (Kd.R_elder' HO_2.out (Kd.R_base ho0) hb); replace HK := Aside0.mk (Kept.below (S := (fun k_ => P1_ k_ ∨ P2_ k_)) HK.out hb); replace HB := hb1 HB hb; (try clear hb); (try clear ho0)))
                   go_ret
                   exact ⟨_, by rfl, by exact Kd.R_mono HO988.out (fun _ hk => hk.1.1.1), by repeat (with_reducible exact HB.out), by repeat (with_reducible exact HK.out)⟩
                  ·replace H := bN H; obtain ⟨t989, A108, H⟩ := H
                   replace H := iB H; rcases H with ⟨rfl, H⟩ | ⟨rfl, H⟩
                   ·replace H := bN H; obtain ⟨t990, A110, H⟩ := H
                    replace H := bN H; obtain ⟨t991, A111, H⟩ := H
                    obtain rfl := Option.some.inj H
                    obtain ⟨Ao112, co112, eo112⟩ := Kd.R_slice HO_1.out
                    subst eo112
                    obtain ⟨Ao113, co113, eo113⟩ := Kd.R_slice HO_2.out
                    subst eo113
                    go_wp2_with (first | (refine callA (some 109) Tryd.func88 #[.slice Ao112 l1.length co112, .slice Ao113 l2.length co113, .bool a3] ?_; (with_reducible refine (maskref1_below.calls kj97 _ _ l1 _ _ l2 a3 true _ ?side1 ?side2 ?side3 ?side4 A108.out).mono ?_); (case side1 => exact (Kd.R_reads' HO_1.out).2.2); (case side2 => exact (Kd.R_reads' HO_1.out).2.1); (case side3 => exact (Kd.R_reads' HO_2.out).2.2); (case side4 => exact (Kd.R_reads' HO_2.out).2.1); rintro e w' ⟨rfl, ⟨nd, rfl⟩⟩; refine ⟨_, rfl, ?_⟩) | (refine callA (some 119) Tryd.func86 #[.bool true] ?_; (with_reducible refine (maskref1_truthOf.calls true t990 _ A110.out).mono ?_); rintro e w' ⟨rfl, ⟨nd, rfl⟩⟩; refine ⟨_, rfl, ?_⟩) | (refine callA (some 120) Tryd.func82 #[.int .u8 t990] ?_; (with_reducible refine (maskref1_One.calls t990 t991 _ A111.out).mono ?_); rintro e w114 ⟨v992, rfl, ho0, hb⟩; refine ⟨_, rfl, ?_⟩; have HO993 := Aside0.mk (Kd.R_lower (Kd.R_new' (Kd.R_new' (Kd.R_newM (M := fun k_ => ((P1_ k_ ∨ P2_ k_) ∨ w.heap.size ≤ k_)) ho0 (by exact HK.out.1) (fun k_ h_ => .inr h_)) (Kd.R_lt (by (with_reducible repeat (apply Kd.R_drewN)); exact HO_1.out))) (Kd.R_lt (by (with_reducible repeat (apply Kd.R_drewN)); exact HO_2.out))) (below_size (by repeat (with_reducible first | exact HB.out | apply pw_below_drewN)))); replace HO_1 := Aside0.mk (Kd.R_elder' (by (with_reducible repeat (apply Kd.R_drewN)); exact HO_1.out) (Kd.R_base ho0) hb); replace HO_2 := Aside0.mk (Kd.R_elder' (by (with_reducible repeat (apply Kd.R_drewN)); exact HO_2.out) (Kd.R_base ho0) hb); replace HK := Aside0.mk (Kept.below (S := (fun k_ => P1_ k_ ∨ P2_ k_)) (by repeat (with_reducible first | exact HK.out | apply Kept.drewN)) hb); replace HB := hb1 HB hb; (try clear hb); (try clear ho0)))
                    go_ret
                    exact ⟨_, by rfl, by exact Kd.R_mono HO993.out (fun _ hk => hk.1.1.1), by repeat (with_reducible exact HB.out), by repeat (with_reducible exact HK.out)⟩
                   ·replace H := iE H; rcases H with ⟨c115b0, c115b1, H⟩ | ⟨c115, c115b0, c115b1, H⟩
                    ·replace H := bN H; obtain ⟨t994, A116, H⟩ := H
                     replace H := bN H; obtain ⟨t995, A117, H⟩ := H
                     replace H := bN H; obtain ⟨t996, A118, H⟩ := H
                     obtain rfl := Option.some.inj H
                     obtain ⟨Ao119, co119, eo119⟩ := Kd.R_slice HO_1.out
                     subst eo119
                     obtain ⟨Ao120, co120, eo120⟩ := Kd.R_slice HO_2.out
                     subst eo120
                     go_wp2_with (first | (refine callA (some 109) Tryd.func88 #[.slice Ao119 l1.length co119, .slice Ao120 l2.length co120, .bool a3] ?_; (with_reducible refine (maskref1_below.calls kj97 _ _ l1 _ _ l2 a3 false _ ?side1 ?side2 ?side3 ?side4 A108.out).mono ?_); (case side1 => exact (Kd.R_reads' HO_1.out).2.2); (case side2 => exact (Kd.R_reads' HO_1.out).2.1); (case side3 => exact (Kd.R_reads' HO_2.out).2.2); (case side4 => exact (Kd.R_reads' HO_2.out).2.1); rintro e w' ⟨rfl, ⟨nd, rfl⟩⟩; refine ⟨_, rfl, ?_⟩) | (go_at_call 87; (with_reducible refine (maskref1_same.calls _ _ l1 _ _ l2 t994 _ ?side1 ?side2 ?side3 ?side4 A116.out).mono ?_); (case side1 => exact (Kd.R_reads' HO_1.out).2.2); (case side2 => exact (Kd.R_reads' HO_1.out).2.1); (case side3 => exact (Kd.R_reads' HO_2.out).2.2); (case side4 => exact (Kd.R_reads' HO_2.out).2.1); rintro e w' ⟨rfl, ⟨nd, rfl⟩⟩) | (refine callA (some 119) Tryd.func86 #[.bool t994] ?_; (with_reducible refine (maskref1_truthOf.calls t994 t995 _ A117.out).mono ?_); rintro e w' ⟨rfl, ⟨nd, rfl⟩⟩; refine ⟨_, rfl, ?_⟩) | (refine callA (some 120) Tryd.func82 #[.int .u8 t995] ?_; (with_reducible refine (maskref1_One.calls t995 t996 _ A118.out).mono ?_); rintro e w121 ⟨v997, rfl, ho0, hb⟩; refine ⟨_, rfl, ?_⟩; have HO998 := Aside0.mk (Kd.R_lower (Kd.R_new' (Kd.R_new' (Kd.R_newM (M := fun k_ => ((P1_ k_ ∨ P2_ k_) ∨ w.heap.size ≤ k_)) ho0 (by exact HK.out.1) (fun k_ h_ => .inr h_)) (Kd.R_lt (by (with_reducible repeat (apply Kd.R_drewN)); exact HO_1.out))) (Kd.R_lt (by (with_reducible repeat (apply Kd.R_drewN)); exact HO_2.out))) (below_size (by repeat (with_reducible first | exact HB.out | apply pw_below_drewN)))); replace HO_1 := Aside0.mk (Kd.R_elder' (by (with_reducible repeat (apply Kd.R_drewN)); exact HO_1.out) (Kd.R_base ho0) hb); replace HO_2 := Aside0.mk (Kd.R_elder' (by (with_reducible repeat (apply Kd.R_drewN)); exact HO_2.out) (Kd.R_base ho0) hb); replace HK := Aside0.mk (Kept.below (S := (fun k_ => P1_ k_ ∨ P2_ k_)) (by repeat (with_reducible first | exact HK.out | apply Kept.drewN)) hb); replace HB := hb1 HB hb; (try clear hb); (try clear ho0)))
                     go_ret
                     exact ⟨_, by rfl, by exact Kd.R_mono HO998.out (fun _ hk => hk.1.1.1), by repeat (with_reducible exact HB.out), by repeat (with_reducible exact HK.out)⟩
                    ·replace H := bN H; obtain ⟨t999, A122, H⟩ := H
                     replace H := bN H; obtain ⟨t1000, A123, H⟩ := H
                     obtain rfl := Option.some.inj H
                     obtain ⟨Ao124, co124, eo124⟩ := Kd.R_slice HO_1.out
                     subst eo124
                     obtain ⟨Ao125, co125, eo125⟩ := Kd.R_slice HO_2.out
                     subst eo125
                     go_wp2_with (first | (refine callA (some 109) Tryd.func88 #[.slice Ao124 l1.length co124, .slice Ao125 l2.length co125, .bool a3] ?_; (with_reducible refine (maskref1_below.calls kj97 _ _ l1 _ _ l2 a3 false _ ?side1 ?side2 ?side3 ?side4 A108.out).mono ?_); (case side1 => exact (Kd.R_reads' HO_1.out).2.2); (case side2 => exact (Kd.R_reads' HO_1.out).2.1); (case side3 => exact (Kd.R_reads' HO_2.out).2.2); (case side4 => exact (Kd.R_reads' HO_2.out).2.1); rintro e w' ⟨rfl, ⟨nd, rfl⟩⟩; refine ⟨_, rfl, ?_⟩) | (refine callA (some 119) Tryd.func86 #[.bool false] ?_; (with_reducible refine (maskref1_truthOf.calls false t999 _ A122.out).mono ?_); rintro e w' ⟨rfl, ⟨nd, rfl⟩⟩; refine ⟨_, rfl, ?_⟩) | (refine callA (some 120) Tryd.func82 #[.int .u8 t999] ?_; (with_reducible refine (maskref1_One.calls t999 t1000 _ A123.out).mono ?_); rintro e w126 ⟨v1001, rfl, ho0, hb⟩; refine ⟨_, rfl, ?_⟩; have HO1002 := Aside0.mk (Kd.R_lower (Kd.R_new' (Kd.R_new' (Kd.R_newM (M := fun k_ => ((P1_ k_ ∨ P2_ k_) ∨ w.heap.size ≤ k_)) ho0 (by exact HK.out.1) (fun k_ h_ => .inr h_)) (Kd.R_lt (by (with_reducible repeat (apply Kd.R_drewN)); exact HO_1.out))) (Kd.R_lt (by (with_reducible repeat (apply Kd.R_drewN)); exact HO_2.out))) (below_size (by repeat (with_reducible first | exact HB.out | apply pw_below_drewN)))); replace HO_1 := Aside0.mk (Kd.R_elder' (by (with_reducible repeat (apply Kd.R_drewN)); exact HO_1.out) (Kd.R_base ho0) hb); replace HO_2 := Aside0.mk (Kd.R_elder' (by (with_reducible repeat (apply Kd.R_drewN)); exact HO_2.out) (Kd.R_base ho0) hb); replace HK := Aside0.mk (Kept.below (S := (fun k_ => P1_ k_ ∨ P2_ k_)) (by repeat (with_reducible first | exact HK.out | apply Kept.drewN)) hb); replace HB := hb1 HB hb; (try clear hb); (try clear ho0)))
                     go_ret
                     exact ⟨_, by rfl, by exact Kd.R_mono HO1002.out (fun _ hk => hk.1.1.1), by repeat (with_reducible exact HB.out), by repeat (with_reducible exact HK.out)⟩
               ·replace H := bN H; obtain ⟨t1003, A127, H⟩ := H
                obtain rfl := Option.some.inj H
                obtain ⟨Ao128, co128, eo128⟩ := Kd.R_slice HO_1.out
                subst eo128
                obtain ⟨Ao129, co129, eo129⟩ := Kd.R_slice HO_2.out
                subst eo129
                go_wp2_with ((refine callA (some 125) Tryd.func89 #[.int .i64 a0, .slice Ao128 l1.length co128, .slice Ao129 l2.length co129, .bool a3] ?_; (with_reducible refine (maskref1_Number.calls kj94 a0 (fun k_ => some k_ = (.slice Ao128 l1.length co128 : Value).ownBlock) (.slice Ao128 l1.length co128) l1 (fun k_ => some k_ = (.slice Ao129 l2.length co129 : Value).ownBlock) (.slice Ao129 l2.length co129) l2 a3 t1003 w0 _ ?side1 ?side2 ?side3 ?side4 ?side5 A127.out).mono ?_); (case side1 => repeat (with_reducible exact HB.out)); (case side2 => exact Kd.R_tight rfl HO_1.out); (case side3 => exact fun k_ e_ => (HO_1.out.1 k_ e_.symm).2); (case side4 => exact Kd.R_tight rfl HO_2.out); (case side5 => exact fun k_ e_ => (HO_2.out.1 k_ e_.symm).2); rintro e w130 ⟨v1004, rfl, ho0, hb, hkp⟩; refine ⟨_, rfl, ?_⟩; have HO1005 := Aside0.mk (Kd.R_mono (ok' := fun k_ => ((P1_ k_ ∨ P2_ k_) ∨ w.heap.size ≤ k_)) ho0 (fun k_ hk_ => Or.elim hk_ (fun hs_ => Or.elim hs_ (fun hs_ => (HO_1.out.1 k_ (hs_).symm).1) (fun hs_ => (HO_2.out.1 k_ (hs_).symm).1)) (fun hn_ => (.inr (Nat.le_trans (by exact HK.out.1) hn_))))); replace HK := Aside0.mk (Kept.then_ (S := (fun k_ => P1_ k_ ∨ P2_ k_)) HK.out hkp (fun k_ hs_ => Or.elim hs_ (fun e_ => (fun e_ => (HO_1.out.1 k_ e_.symm).1) e_) (fun e_ => (fun e_ => (HO_2.out.1 k_ e_.symm).1) e_))); replace HB := Aside0.mk (hb); clear HO_1 HO_2; (try clear hb); (try clear hkp); (try clear ho0)))
                go_ret
                exact ⟨_, by rfl, by exact HO1005.out, by repeat (with_reducible exact HB.out), by repeat (with_reducible exact HK.out)⟩
end Go.Proofs.YtfigblfjogpojaaDoor.PNum
end
section
namespace Go.Proofs.YtfigblfjogpojaaDoor.PNum
open Go.Proofs.YtfigblfjogpojaaDoor.PBits
open Go.RowKit Go.Proofs.YtfigblfjogpojaaDoorW.PrintWords Go.Proofs.YtfigblfjogpojaaDoorW.PrintLast Go.Proofs.YtfigblfjogpojaaDoorW.PrintMore
attribute [local go_sem] max2_int min2_int max_two min_two max_three min_three max_four min_four
set_option linter.unusedVariables false
set_option linter.unusedSimpArgs false
def maskref1_unaryOf.f (k : Nat) (a0 : Int) (l1 : List Int) : Option (List Int) := if a0 = 5 then ((maskref1_inverse.f k l1).bind fun t1360 => (some t1360)) else (if a0 = 6 then ((maskref1_Fill.f k (l1.length : Int) 48).bind fun t1363 => ((maskref1_Number.f k 17 t1363 l1 false).bind fun t1366 => (some t1366))) else (if a0 = 7 then ((maskref1_fold__AndOf.f k l1).bind fun t1369 => (some t1369)) else (if a0 = 8 then ((maskref1_fold__OrOf.f k l1).bind fun t1372 => (some t1372)) else (if a0 = 9 then ((maskref1_fold__XorOf.f k l1).bind fun t1375 => (some t1375)) else (if a0 = 10 then ((maskref1_Truth.f k l1).bind fun t1378 => ((maskref1_Opposite.f t1378).bind fun t1379 => ((maskref1_One.f t1379).bind fun t1380 => (some t1380)))) else (some ([] : List Int)))))))
set_option maxHeartbeats 8000000 in
set_option maxRecDepth 100000 in
theorem maskref1_unaryOf.calls (k : Nat) (a0 : Int) (P1_ : Nat → Prop) (u9000_ : Value) (l1 : List Int) (r : List Int) (w0 w : World) (hB : Below w0.heap.size w0 w) (ho1 : Kd.R (Kd.int .u8) 5 w w0.heap.size P1_ u9000_ l1) (h : maskref1_unaryOf.f k a0 l1 = some r) :
  Calls Tryd.prog 70 #[.int .i64 a0, u9000_] w fun e w' => ∃ v0_ : Value, e = .returned (v0_) ∧ Kd.R (Kd.int .u8) 5 w' w0.heap.size (fun k_ => (P1_ k_ ∨ w.heap.size ≤ k_)) v0_ r ∧ Below w0.heap.size w0 w' ∧ Kept w w' (fun k_ => P1_ k_) := by
 have HO1 := Aside0.mk (show Kd.R (Kd.int .u8) 5 w w0.heap.size (fun k_ => (P1_ k_ ∨ w.heap.size ≤ k_)) u9000_ l1 from Kd.R_mono ho1 (fun k_ hk => (.inl hk)))
 have HK := Aside0.mk (Kept.refl w (fun k_ => P1_ k_))
 have HW0 := Aside0.mk hB.size
 have HB := Aside0.mk hB
 clear hB
 have H := h
 clear h
 unfold maskref1_unaryOf.f at H
 replace H := iE H; rcases H with ⟨c3b0, c3b1, H⟩ | ⟨c3, c3b0, c3b1, H⟩
 ·replace H := bN H; obtain ⟨t1360, A4, H⟩ := H
  obtain rfl := Option.some.inj H
  obtain ⟨Ao5, co5, eo5⟩ := Kd.R_slice HO1.out
  subst eo5
  go_enter Tryd.func70, Tryd.ntmps70
  go_wp2_with ((refine callA (some 9) Tryd.func77 #[.slice Ao5 l1.length co5] ?_; (with_reducible refine (maskref1_inverse.calls k _ _ l1 t1360 _ ?side1 ?side2 A4.out).mono ?_); (case side1 => exact (Kd.R_reads' HO1.out).2.2); (case side2 => exact (Kd.R_reads' HO1.out).2.1); rintro e w6 ⟨v1361, rfl, ho0, hb⟩; refine ⟨_, rfl, ?_⟩; have HO1362 := Aside0.mk (Kd.R_lower (Kd.R_new' (Kd.R_newM (M := fun k_ => (P1_ k_ ∨ w.heap.size ≤ k_)) ho0 (by exact HK.out.1) (fun k_ h_ => .inr h_)) (Kd.R_lt HO1.out)) (below_size HB.out)); replace HO1 := Aside0.mk (Kd.R_elder' HO1.out (Kd.R_base ho0) hb); replace HK := Aside0.mk (Kept.below (S := (fun k_ => P1_ k_)) HK.out hb); replace HB := hb1 HB hb; (try clear hb); (try clear ho0)))
  go_ret
  exact ⟨_, by rfl, by exact Kd.R_mono HO1362.out (fun _ hk => hk.1.1), by repeat (with_reducible exact HB.out), by repeat (with_reducible exact HK.out)⟩
 ·replace H := iE H; rcases H with ⟨c7b0, c7b1, H⟩ | ⟨c7, c7b0, c7b1, H⟩
  ·replace H := bN H; obtain ⟨t1363, A8, H⟩ := H
   replace H := bN H; obtain ⟨t1366, A9, H⟩ := H
   obtain rfl := Option.some.inj H
   obtain ⟨Ao10, co10, eo10⟩ := Kd.R_slice HO1.out
   subst eo10
   go_enter Tryd.func70, Tryd.ntmps70
   go_wp2_with (first | (refine callA (some 14) Tryd.func27 #[.int .i64 (l1.length : Int), .int .u8 48] ?_; (with_reducible refine (maskref1_Fill.calls k (l1.length : Int) 48 t1363 _ A8.out).mono ?_); rintro e w11 ⟨v1364, rfl, ho0, hb⟩; refine ⟨_, rfl, ?_⟩; have HO1365 := Aside0.mk (Kd.R_lower (Kd.R_new' (Kd.R_newM (M := fun k_ => (P1_ k_ ∨ w.heap.size ≤ k_)) ho0 (by exact HK.out.1) (fun k_ h_ => .inr h_)) (Kd.R_lt HO1.out)) (below_size HB.out)); replace HO1 := Aside0.mk (Kd.R_elder' HO1.out (Kd.R_base ho0) hb); replace HK := Aside0.mk (Kept.below (S := (fun k_ => P1_ k_)) HK.out hb); replace HB := hb1 HB hb; (try clear hb); (try clear ho0); obtain ⟨Ao12, co12, eo12⟩ := Kd.R_slice HO1365.out; subst eo12) | (refine callA (some 16) Tryd.func89 #[.int .i64 17, .slice Ao12 t1363.length co12, .slice Ao10 l1.length co10, .bool false] ?_; (with_reducible refine (maskref1_Number.calls k 17 (fun k_ => some k_ = (.slice Ao12 t1363.length co12 : Value).ownBlock) (.slice Ao12 t1363.length co12) t1363 (fun k_ => some k_ = (.slice Ao10 l1.length co10 : Value).ownBlock) (.slice Ao10 l1.length co10) l1 false t1366 w0 _ ?side1 ?side2 ?side3 ?side4 ?side5 A9.out).mono ?_); (case side1 => repeat (with_reducible exact HB.out)); (case side2 => exact Kd.R_tight rfl HO1365.out); (case side3 => exact fun k_ e_ => (HO1365.out.1 k_ e_.symm).2); (case side4 => exact Kd.R_tight rfl HO1.out); (case side5 => exact fun k_ e_ => (HO1.out.1 k_ e_.symm).2); rintro e w13 ⟨v1367, rfl, ho0, hb, hkp⟩; refine ⟨_, rfl, ?_⟩; have HO1368 := Aside0.mk (Kd.R_mono (ok' := fun k_ => (P1_ k_ ∨ w.heap.size ≤ k_)) ho0 (fun k_ hk_ => Or.elim hk_ (fun hs_ => Or.elim hs_ (fun hs_ => (HO1365.out.1 k_ (hs_).symm).1.1) (fun hs_ => (HO1.out.1 k_ (hs_).symm).1)) (fun hn_ => (.inr (Nat.le_trans (by exact HK.out.1) hn_))))); replace HK := Aside0.mk (Kept.then_ (S := (fun k_ => P1_ k_)) HK.out hkp (fun k_ hs_ => Or.elim hs_ (fun e_ => (fun e_ => (HO1365.out.1 k_ e_.symm).1.1) e_) (fun e_ => (fun e_ => (HO1.out.1 k_ e_.symm).1) e_))); replace HB := Aside0.mk (hb); clear HO1 HO1365; (try clear hb); (try clear hkp); (try clear ho0)))
   go_ret
   exact ⟨_, by rfl, by exact HO1368.out, by repeat (with_reducible exact HB.out), by repeat (with_reducible exact HK.out)⟩
  ·replace H := iE H; rcases H with ⟨c14b0, c14b1, H⟩ | ⟨c14, c14b0, c14b1, H⟩
   ·replace H := bN H; obtain ⟨t1369, A15, H⟩ := H
    obtain rfl := Option.some.inj H
    obtain ⟨Ao16, co16, eo16⟩ := Kd.R_slice HO1.out
    subst eo16
    go_enter Tryd.func70, Tryd.ntmps70
    go_wp2_with ((refine callA (some 20) Tryd.func81 #[.slice Ao16 l1.length co16, (.func (.func 78) #[] #[])] ?_; (with_reducible refine (maskref1_fold__AndOf.calls k _ _ l1  t1369 _ ?side1 ?side2 A15.out).mono ?_); (case side1 => exact (Kd.R_reads' HO1.out).2.2); (case side2 => exact (Kd.R_reads' HO1.out).2.1); rintro e w17 ⟨v1370, rfl, ho0, hb⟩; refine ⟨_, rfl, ?_⟩; have HO1371 := Aside0.mk (Kd.R_lower (Kd.R_new' (Kd.R_newM (M := fun k_ => (P1_ k_ ∨ w.heap.size ≤ k_)) ho0 (by exact HK.out.1) (fun k_ h_ => .inr h_)) (Kd.R_lt HO1.out)) (below_size HB.out)); replace HO1 := Aside0.mk (Kd.R_elder' HO1.out (Kd.R_base ho0) hb); replace HK := Aside0.mk (Kept.below (S := (fun k_ => P1_ k_)) HK.out hb); replace HB := hb1 HB hb; (try clear hb); (try clear ho0)))
    go_ret
    exact ⟨_, by rfl, by exact Kd.R_mono HO1371.out (fun _ hk => hk.1.1), by repeat (with_reducible exact HB.out), by repeat (with_reducible exact HK.out)⟩
   ·replace H := iE H; rcases H with ⟨c18b0, c18b1, H⟩ | ⟨c18, c18b0, c18b1, H⟩
    ·replace H := bN H; obtain ⟨t1372, A19, H⟩ := H
     obtain rfl := Option.some.inj H
     obtain ⟨Ao20, co20, eo20⟩ := Kd.R_slice HO1.out
     subst eo20
     go_enter Tryd.func70, Tryd.ntmps70
     go_wp2_with ((refine callA (some 24) Tryd.func81 #[.slice Ao20 l1.length co20, (.func (.func 79) #[] #[])] ?_; (with_reducible refine (maskref1_fold__OrOf.calls k _ _ l1  t1372 _ ?side1 ?side2 A19.out).mono ?_); (case side1 => exact (Kd.R_reads' HO1.out).2.2); (case side2 => exact (Kd.R_reads' HO1.out).2.1); rintro e w21 ⟨v1373, rfl, ho0, hb⟩; refine ⟨_, rfl, ?_⟩; have HO1374 := Aside0.mk (Kd.R_lower (Kd.R_new' (Kd.R_newM (M := fun k_ => (P1_ k_ ∨ w.heap.size ≤ k_)) ho0 (by exact HK.out.1) (fun k_ h_ => .inr h_)) (Kd.R_lt HO1.out)) (below_size HB.out)); replace HO1 := Aside0.mk (Kd.R_elder' HO1.out (Kd.R_base ho0) hb); replace HK := Aside0.mk (Kept.below (S := (fun k_ => P1_ k_)) HK.out hb); replace HB := hb1 HB hb; (try clear hb); (try clear ho0)))
     go_ret
     exact ⟨_, by rfl, by exact Kd.R_mono HO1374.out (fun _ hk => hk.1.1), by repeat (with_reducible exact HB.out), by repeat (with_reducible exact HK.out)⟩
    ·replace H := iE H; rcases H with ⟨c22b0, c22b1, H⟩ | ⟨c22, c22b0, c22b1, H⟩
     ·replace H := bN H; obtain ⟨t1375, A23, H⟩ := H
      obtain rfl := Option.some.inj H
      obtain ⟨Ao24, co24, eo24⟩ := Kd.R_slice HO1.out
      subst eo24
      go_enter Tryd.func70, Tryd.ntmps70
      go_wp2_with ((refine callA (some 28) Tryd.func81 #[.slice Ao24 l1.length co24, (.func (.func 80) #[] #[])] ?_; (with_reducible refine (maskref1_fold__XorOf.calls k _ _ l1  t1375 _ ?side1 ?side2 A23.out).mono ?_); (case side1 => exact (Kd.R_reads' HO1.out).2.2); (case side2 => exact (Kd.R_reads' HO1.out).2.1); rintro e w25 ⟨v1376, rfl, ho0, hb⟩; refine ⟨_, rfl, ?_⟩; have HO1377 := Aside0.mk (Kd.R_lower (Kd.R_new' (Kd.R_newM (M := fun k_ => (P1_ k_ ∨ w.heap.size ≤ k_)) ho0 (by exact HK.out.1) (fun k_ h_ => .inr h_)) (Kd.R_lt HO1.out)) (below_size HB.out)); replace HO1 := Aside0.mk (Kd.R_elder' HO1.out (Kd.R_base ho0) hb); replace HK := Aside0.mk (Kept.below (S := (fun k_ => P1_ k_)) HK.out hb); replace HB := hb1 HB hb; (try clear hb); (try clear ho0)))
      go_ret
      exact ⟨_, by rfl, by exact Kd.R_mono HO1377.out (fun _ hk => hk.1.1), by repeat (with_reducible exact HB.out), by repeat (with_reducible exact HK.out)⟩
     ·replace H := iE H; rcases H with ⟨c26b0, c26b1, H⟩ | ⟨c26, c26b0, c26b1, H⟩
      ·replace H := bN H; obtain ⟨t1378, A27, H⟩ := H
       replace H := bN H; obtain ⟨t1379, A28, H⟩ := H
       replace H := bN H; obtain ⟨t1380, A29, H⟩ := H
       obtain rfl := Option.some.inj H
       obtain ⟨Ao30, co30, eo30⟩ := Kd.R_slice HO1.out
       subst eo30
       go_enter Tryd.func70, Tryd.ntmps70
       go_wp2_with (first | (refine callA (some 32) Tryd.func59 #[.slice Ao30 l1.length co30] ?_; (with_reducible refine (maskref1_Truth.calls k _ _ l1 t1378 _ ?side1 ?side2 A27.out).mono ?_); (case side1 => exact (Kd.R_reads' HO1.out).2.2); (case side2 => exact (Kd.R_reads' HO1.out).2.1); rintro e w' ⟨rfl, ⟨nd, rfl⟩⟩; refine ⟨_, rfl, ?_⟩) | (refine callA (some 33) Tryd.func85 #[.int .u8 t1378] ?_; (with_reducible refine (maskref1_Opposite.calls t1378 t1379 _ A28.out).mono ?_); rintro e w' ⟨rfl, ⟨nd, rfl⟩⟩; refine ⟨_, rfl, ?_⟩) | (refine callA (some 34) Tryd.func82 #[.int .u8 t1379] ?_; (with_reducible refine (maskref1_One.calls t1379 t1380 _ A29.out).mono ?_); rintro e w31 ⟨v1381, rfl, ho0, hb⟩; refine ⟨_, rfl, ?_⟩; have HO1382 := Aside0.mk (Kd.R_lower (Kd.R_new' (Kd.R_newM (M := fun k_ => (P1_ k_ ∨ w.heap.size ≤ k_)) ho0 (by exact HK.out.1) (fun k_ h_ => .inr h_)) (Kd.R_lt (by (with_reducible repeat (apply Kd.R_drewN)); exact HO1.out))) (below_size (by repeat (with_reducible first | exact HB.out | apply pw_below_drewN)))); replace HO1 := Aside0.mk (Kd.R_elder' (by (with_reducible repeat (apply Kd.R_drewN)); exact HO1.out) (Kd.R_base ho0) hb); replace HK := Aside0.mk (Kept.below (S := (fun k_ => P1_ k_)) (by repeat (with_reducible first | exact HK.out | apply Kept.drewN)) hb); replace HB := hb1 HB hb; (try clear hb); (try clear ho0)))
       go_ret
       exact ⟨_, by rfl, by exact Kd.R_mono HO1382.out (fun _ hk => hk.1.1), by repeat (with_reducible exact HB.out), by repeat (with_reducible exact HK.out)⟩
      ·obtain rfl := Option.some.inj H
       go_enter Tryd.func70, Tryd.ntmps70
       go_wp2
       go_ret
       exact ⟨_, by rfl, by exact Kd.R_nil _ _ _ _ _, by repeat (with_reducible exact HB.out), by repeat (with_reducible exact HK.out)⟩
end Go.Proofs.YtfigblfjogpojaaDoor.PNum
end
section
namespace Go.Proofs.YtfigblfjogpojaaDoor.PNum
open Go.Proofs.YtfigblfjogpojaaDoor.PBits
open Go.RowKit Go.Proofs.YtfigblfjogpojaaDoorW.PrintWords Go.Proofs.YtfigblfjogpojaaDoorW.PrintLast Go.Proofs.YtfigblfjogpojaaDoorW.PrintMore
attribute [local go_sem] max2_int min2_int max_two min_two max_three min_three max_four min_four
set_option linter.unusedVariables false
set_option linter.unusedSimpArgs false
def maskref1_Unary.f (k : Nat) (a0 : Int) (l1 : List Int) : Option (List Int) := (maskref1_unaryOf.f k a0 l1).bind fun t1383 => (some t1383)
set_option maxHeartbeats 8000000 in
set_option maxRecDepth 100000 in
theorem maskref1_Unary.calls (k : Nat) (a0 : Int) (P1_ : Nat → Prop) (u9000_ : Value) (l1 : List Int) (r : List Int) (w0 w : World) (hB : Below w0.heap.size w0 w) (ho1 : Kd.R (Kd.int .u8) 5 w w0.heap.size P1_ u9000_ l1) (h : maskref1_Unary.f k a0 l1 = some r) :
  Calls Tryd.prog 47 #[.int .i64 a0, u9000_] w fun e w' => ∃ v0_ : Value, e = .returned (v0_) ∧ Kd.R (Kd.int .u8) 5 w' w0.heap.size (fun k_ => (P1_ k_ ∨ w.heap.size ≤ k_)) v0_ r ∧ Below w0.heap.size w0 w' ∧ Kept w w' (fun k_ => P1_ k_) := by
 have HO1 := Aside0.mk (show Kd.R (Kd.int .u8) 5 w w0.heap.size (fun k_ => (P1_ k_ ∨ w.heap.size ≤ k_)) u9000_ l1 from Kd.R_mono ho1 (fun k_ hk => (.inl hk)))
 have HK := Aside0.mk (Kept.refl w (fun k_ => P1_ k_))
 have HW0 := Aside0.mk hB.size
 have HB := Aside0.mk hB
 clear hB
 have H := h
 clear h
 unfold maskref1_Unary.f at H
 replace H := bN H; obtain ⟨t1383, A3, H⟩ := H
 obtain rfl := Option.some.inj H
 obtain ⟨Ao4, co4, eo4⟩ := Kd.R_slice HO1.out
 subst eo4
 go_enter Tryd.func47, Tryd.ntmps47
 go_wp2_with ((refine callA (some 7) Tryd.func70 #[.int .i64 a0, .slice Ao4 l1.length co4] ?_; (with_reducible refine (maskref1_unaryOf.calls k a0 (fun k_ => some k_ = (.slice Ao4 l1.length co4 : Value).ownBlock) (.slice Ao4 l1.length co4) l1 t1383 w0 _ ?side1 ?side2 A3.out).mono ?_); (case side1 => repeat (with_reducible exact HB.out)); (case side2 => exact Kd.R_tight rfl HO1.out); rintro e w5 ⟨v1384, rfl, ho0, hb, hkp⟩; refine ⟨_, rfl, ?_⟩; have HO1385 := Aside0.mk (Kd.R_mono (ok' := fun k_ => (P1_ k_ ∨ w.heap.size ≤ k_)) ho0 (fun k_ hk_ => Or.elim hk_ (fun hs_ => (HO1.out.1 k_ (hs_).symm)) (fun hn_ => (.inr (Nat.le_trans (by exact HK.out.1) hn_))))); replace HK := Aside0.mk (Kept.then_ (S := (fun k_ => P1_ k_)) HK.out hkp (fun k_ hs_ => (fun e_ => (HO1.out.1 k_ e_.symm)) hs_)); replace HB := Aside0.mk (hb); clear HO1; (try clear hb); (try clear hkp); (try clear ho0)))
 go_ret
 exact ⟨_, by rfl, by exact HO1385.out, by repeat (with_reducible exact HB.out), by repeat (with_reducible exact HK.out)⟩
end Go.Proofs.YtfigblfjogpojaaDoor.PNum
end
section
namespace Go.Proofs.YtfigblfjogpojaaDoor.PNum
open Go.Proofs.YtfigblfjogpojaaDoor.PBits
open Go.RowKit Go.Proofs.YtfigblfjogpojaaDoorW.PrintWords Go.Proofs.YtfigblfjogpojaaDoorW.PrintLast Go.Proofs.YtfigblfjogpojaaDoorW.PrintMore
attribute [local go_sem] max2_int min2_int max_two min_two max_three min_three max_four min_four
set_option linter.unusedVariables false
set_option linter.unusedSimpArgs false
def masklaw1_binary.f (k : Nat) (a0 : Int) (a1_0 : Int) (a1_1 : Int) (a1_2 : Int) (a2_0 : Int) (a2_1 : Int) (a2_2 : Int) (a3 : Bool) : Option (Int × Int × Int) := if a0 = 13 then ((bits_And.f k a1_0 a1_1 a1_2 a2_0 a2_1 a2_2).bind fun bt1258 => (some (bt1258.1, bt1258.2.1, bt1258.2.2))) else (if a0 = 14 then ((bits_Or.f k a1_0 a1_1 a1_2 a2_0 a2_1 a2_2).bind fun bt1261 => (some (bt1261.1, bt1261.2.1, bt1261.2.2))) else (if a0 = 15 then ((bits_Xor.f k a1_0 a1_1 a1_2 a2_0 a2_1 a2_2).bind fun bt1264 => (some (bt1264.1, bt1264.2.1, bt1264.2.2))) else (if a0 = 11 then ((bits_LAnd.f k a1_0 a1_1 a1_2 a2_0 a2_1 a2_2).bind fun bt1267 => (some (bt1267.1, bt1267.2.1, bt1267.2.2))) else (if a0 = 12 then ((bits_LOr.f k a1_0 a1_1 a1_2 a2_0 a2_1 a2_2).bind fun bt1270 => (some (bt1270.1, bt1270.2.1, bt1270.2.2))) else (if a0 = 21 then ((bits_Shl.f k a1_0 a1_1 a1_2 a2_0 a2_1 a2_2).bind fun bt1273 => (some (bt1273.1, bt1273.2.1, bt1273.2.2))) else (if a0 = 22 then ((bits_Shr.f k a1_0 a1_1 a1_2 a2_0 a2_1 a2_2).bind fun bt1276 => (some (bt1276.1, bt1276.2.1, bt1276.2.2))) else (if a0 = 23 then ((bits_Sar.f k a1_0 a1_1 a1_2 a2_0 a2_1 a2_2).bind fun bt1279 => (some (bt1279.1, bt1279.2.1, bt1279.2.2))) else (if a0 = 24 then ((bits_Eq.f k a1_0 a1_1 a1_2 a2_0 a2_1 a2_2).bind fun bt1282 => (some (bt1282.1, bt1282.2.1, bt1282.2.2))) else (if a0 = 25 then ((bits_Ne.f k a1_0 a1_1 a1_2 a2_0 a2_1 a2_2).bind fun bt1285 => (some (bt1285.1, bt1285.2.1, bt1285.2.2))) else (if a0 = 26 then ((bits_CaseEq.f k a1_0 a1_1 a1_2 a2_0 a2_1 a2_2).bind fun bt1288 => (some (bt1288.1, bt1288.2.1, bt1288.2.2))) else (if a0 = 27 then ((bits_CaseNe.f k a1_0 a1_1 a1_2 a2_0 a2_1 a2_2).bind fun bt1291 => (some (bt1291.1, bt1291.2.1, bt1291.2.2))) else (if a0 = 28 then ((bits_Lt.f k a1_0 a1_1 a1_2 a2_0 a2_1 a2_2 a3).bind fun bt1294 => (some (bt1294.1, bt1294.2.1, bt1294.2.2))) else (if a0 = 29 then ((bits_Le.f k a1_0 a1_1 a1_2 a2_0 a2_1 a2_2 a3).bind fun bt1297 => (some (bt1297.1, bt1297.2.1, bt1297.2.2))) else (if a0 = 16 then ((bits_Add.f k a1_0 a1_1 a1_2 a2_0 a2_1 a2_2).bind fun bt1300 => (some (bt1300.1, bt1300.2.1, bt1300.2.2))) else (if a0 = 17 then ((bits_Sub.f k a1_0 a1_1 a1_2 a2_0 a2_1 a2_2).bind fun bt1303 => (some (bt1303.1, bt1303.2.1, bt1303.2.2))) else (if a0 = 18 then ((bits_Mul.f k a1_0 a1_1 a1_2 a2_0 a2_1 a2_2).bind fun bt1306 => (some (bt1306.1, bt1306.2.1, bt1306.2.2))) else (if a0 = 19 then ((bits_Div.f k a1_0 a1_1 a1_2 a2_0 a2_1 a2_2 a3).bind fun bt1309 => (some (bt1309.1, bt1309.2.1, bt1309.2.2))) else ((bits_Mod.f k a1_0 a1_1 a1_2 a2_0 a2_1 a2_2 a3).bind fun bt1312 => (some (bt1312.1, bt1312.2.1, bt1312.2.2))))))))))))))))))))
set_option maxHeartbeats 8000000 in
set_option maxRecDepth 100000 in
theorem masklaw1_binary.calls (k : Nat) (a0 : Int) (a1_0 : Int) (a1_1 : Int) (a1_2 : Int) (a2_0 : Int) (a2_1 : Int) (a2_2 : Int) (a3 : Bool) (r1 : Int) (r2 : Int) (r3 : Int) (w : World) (h : masklaw1_binary.f k a0 a1_0 a1_1 a1_2 a2_0 a2_1 a2_2 a3 = some (r1, r2, r3)) :
  Calls Tryd.prog 69 #[.int .i64 a0, .agg #[.int .i64 a1_0, .int .u64 a1_1, .int .u64 a1_2], .agg #[.int .i64 a2_0, .int .u64 a2_1, .int .u64 a2_2], .bool a3] w fun e w' => e = .returned (.agg #[.int .i64 r1, .int .u64 r2, .int .u64 r3]) ∧ Below w.heap.size w w' := by
 have hu24 := Tryd.underlying24
 have HB := Aside0.mk (Below.refl w.heap.size w)
 have H := h
 clear h
 unfold masklaw1_binary.f at H
 replace H := iE H; rcases H with ⟨c5b0, c5b1, H⟩ | ⟨c5, c5b0, c5b1, H⟩
 ·replace H := bN H; obtain ⟨⟨t1258, t1259, t1260⟩, A6, H⟩ := H; dsimp only at H
  replace H := s3 H; obtain ⟨rfl, rfl, rfl⟩ := H
  go_enter Tryd.func69, Tryd.ntmps69
  go_wp2_with (first | (refine boxA HB 5 #[.int .i64 a1_0, .int .u64 a1_1, .int .u64 a1_2] 24 ?_; clear HB; intro gb1255 w7 BK1255 GE1255 hg hb HB; clear hb hg) | (refine boxA HB 6 #[.int .i64 a2_0, .int .u64 a2_1, .int .u64 a2_2] 24 ?_; clear HB; intro gb1256 w8 BK1256 GE1256 hg hb HB; have NB1255_1256 := nbA BK1255 hg; have NB1256_1255 := nbB BK1255 hg; replace BK1255 := bk1 BK1255 hb; clear hb hg) | (refine boxA HB 8 #[.int .i64 0, .int .u64 0, .int .u64 0] 24 ?_; clear HB; intro gb1257 w9 BK1257 GE1257 hg hb HB; have NB1255_1257 := nbA BK1255 hg; have NB1257_1255 := nbB BK1255 hg; replace BK1255 := bk1 BK1255 hb; have NB1256_1257 := nbA BK1256 hg; have NB1257_1256 := nbB BK1256 hg; replace BK1256 := bk1 BK1256 hb; clear hb hg; have hnb10 := NB1255_1256.out; have hnc10 := NB1256_1255.out; have hnb11 := NB1255_1257.out; have hnc11 := NB1257_1255.out; obtain ⟨hcz12_0, hcz12_1, hcz12_2, hfz12_0, hfz12_1, hfz12_2⟩ := cf3 BK1255; have hnb13 := NB1256_1257.out; have hnc13 := NB1257_1256.out; obtain ⟨hcz14_0, hcz14_1, hcz14_2, hfz14_0, hfz14_1, hfz14_2⟩ := cf3 BK1256) | (refine callA (some 14) Tryd.func90 #[.agg #[.int .i64 a1_0, .int .u64 a1_1, .int .u64 a1_2], .agg #[.int .i64 a2_0, .int .u64 a2_1, .int .u64 a2_2]] ?_; (with_reducible refine (bits_And.calls k a1_0 a1_1 a1_2 a2_0 a2_1 a2_2 t1258 t1259 t1260 _ A6.out).mono ?_); rintro e w15 ⟨rfl, hb⟩; refine ⟨_, rfl, ?_⟩; replace BK1255 := bk1 BK1255 hb; replace BK1256 := bk1 BK1256 hb; replace BK1257 := bk1 BK1257 hb; replace HB := hb1 HB hb; (try clear hb); obtain ⟨hcz16_0, hcz16_1, hcz16_2, hfz16_0, hfz16_1, hfz16_2⟩ := cf3 BK1257))
  refine retA gb1257 24 #[.int .i64 t1258, .int .u64 t1259, .int .u64 t1260] (put3 BK1257) Tryd.underlying24 ?_
  exact ⟨by rfl, by repeat (with_reducible first | exact HB.out | refine below_set ?_ GE1257.out)⟩
 ·replace H := iE H; rcases H with ⟨c17b0, c17b1, H⟩ | ⟨c17, c17b0, c17b1, H⟩
  ·replace H := bN H; obtain ⟨⟨t1261, t1262, t1263⟩, A18, H⟩ := H; dsimp only at H
   replace H := s3 H; obtain ⟨rfl, rfl, rfl⟩ := H
   go_enter Tryd.func69, Tryd.ntmps69
   go_wp2_with (first | (refine boxA HB 5 #[.int .i64 a1_0, .int .u64 a1_1, .int .u64 a1_2] 24 ?_; clear HB; intro gb1255 w19 BK1255 GE1255 hg hb HB; clear hb hg) | (refine boxA HB 6 #[.int .i64 a2_0, .int .u64 a2_1, .int .u64 a2_2] 24 ?_; clear HB; intro gb1256 w20 BK1256 GE1256 hg hb HB; have NB1255_1256 := nbA BK1255 hg; have NB1256_1255 := nbB BK1255 hg; replace BK1255 := bk1 BK1255 hb; clear hb hg) | (refine boxA HB 8 #[.int .i64 0, .int .u64 0, .int .u64 0] 24 ?_; clear HB; intro gb1257 w21 BK1257 GE1257 hg hb HB; have NB1255_1257 := nbA BK1255 hg; have NB1257_1255 := nbB BK1255 hg; replace BK1255 := bk1 BK1255 hb; have NB1256_1257 := nbA BK1256 hg; have NB1257_1256 := nbB BK1256 hg; replace BK1256 := bk1 BK1256 hb; clear hb hg; have hnb22 := NB1255_1256.out; have hnc22 := NB1256_1255.out; have hnb23 := NB1255_1257.out; have hnc23 := NB1257_1255.out; obtain ⟨hcz24_0, hcz24_1, hcz24_2, hfz24_0, hfz24_1, hfz24_2⟩ := cf3 BK1255; have hnb25 := NB1256_1257.out; have hnc25 := NB1257_1256.out; obtain ⟨hcz26_0, hcz26_1, hcz26_2, hfz26_0, hfz26_1, hfz26_2⟩ := cf3 BK1256) | (refine callA (some 19) Tryd.func91 #[.agg #[.int .i64 a1_0, .int .u64 a1_1, .int .u64 a1_2], .agg #[.int .i64 a2_0, .int .u64 a2_1, .int .u64 a2_2]] ?_; (with_reducible refine (bits_Or.calls k a1_0 a1_1 a1_2 a2_0 a2_1 a2_2 t1261 t1262 t1263 _ A18.out).mono ?_); rintro e w27 ⟨rfl, hb⟩; refine ⟨_, rfl, ?_⟩; replace BK1255 := bk1 BK1255 hb; replace BK1256 := bk1 BK1256 hb; replace BK1257 := bk1 BK1257 hb; replace HB := hb1 HB hb; (try clear hb); obtain ⟨hcz28_0, hcz28_1, hcz28_2, hfz28_0, hfz28_1, hfz28_2⟩ := cf3 BK1257))
   refine retA gb1257 24 #[.int .i64 t1261, .int .u64 t1262, .int .u64 t1263] (put3 BK1257) Tryd.underlying24 ?_
   exact ⟨by rfl, by repeat (with_reducible first | exact HB.out | refine below_set ?_ GE1257.out)⟩
  ·replace H := iE H; rcases H with ⟨c29b0, c29b1, H⟩ | ⟨c29, c29b0, c29b1, H⟩
   ·replace H := bN H; obtain ⟨⟨t1264, t1265, t1266⟩, A30, H⟩ := H; dsimp only at H
    replace H := s3 H; obtain ⟨rfl, rfl, rfl⟩ := H
    go_enter Tryd.func69, Tryd.ntmps69
    go_wp2_with (first | (refine boxA HB 5 #[.int .i64 a1_0, .int .u64 a1_1, .int .u64 a1_2] 24 ?_; clear HB; intro gb1255 w31 BK1255 GE1255 hg hb HB; clear hb hg) | (refine boxA HB 6 #[.int .i64 a2_0, .int .u64 a2_1, .int .u64 a2_2] 24 ?_; clear HB; intro gb1256 w32 BK1256 GE1256 hg hb HB; have NB1255_1256 := nbA BK1255 hg; have NB1256_1255 := nbB BK1255 hg; replace BK1255 := bk1 BK1255 hb; clear hb hg) | (refine boxA HB 8 #[.int .i64 0, .int .u64 0, .int .u64 0] 24 ?_; clear HB; intro gb1257 w33 BK1257 GE1257 hg hb HB; have NB1255_1257 := nbA BK1255 hg; have NB1257_1255 := nbB BK1255 hg; replace BK1255 := bk1 BK1255 hb; have NB1256_1257 := nbA BK1256 hg; have NB1257_1256 := nbB BK1256 hg; replace BK1256 := bk1 BK1256 hb; clear hb hg; have hnb34 := NB1255_1256.out; have hnc34 := NB1256_1255.out; have hnb35 := NB1255_1257.out; have hnc35 := NB1257_1255.out; obtain ⟨hcz36_0, hcz36_1, hcz36_2, hfz36_0, hfz36_1, hfz36_2⟩ := cf3 BK1255; have hnb37 := NB1256_1257.out; have hnc37 := NB1257_1256.out; obtain ⟨hcz38_0, hcz38_1, hcz38_2, hfz38_0, hfz38_1, hfz38_2⟩ := cf3 BK1256) | (refine callA (some 24) Tryd.func92 #[.agg #[.int .i64 a1_0, .int .u64 a1_1, .int .u64 a1_2], .agg #[.int .i64 a2_0, .int .u64 a2_1, .int .u64 a2_2]] ?_; (with_reducible refine (bits_Xor.calls k a1_0 a1_1 a1_2 a2_0 a2_1 a2_2 t1264 t1265 t1266 _ A30.out).mono ?_); rintro e w39 ⟨rfl, hb⟩; refine ⟨_, rfl, ?_⟩; replace BK1255 := bk1 BK1255 hb; replace BK1256 := bk1 BK1256 hb; replace BK1257 := bk1 BK1257 hb; replace HB := hb1 HB hb; (try clear hb); obtain ⟨hcz40_0, hcz40_1, hcz40_2, hfz40_0, hfz40_1, hfz40_2⟩ := cf3 BK1257))
    refine retA gb1257 24 #[.int .i64 t1264, .int .u64 t1265, .int .u64 t1266] (put3 BK1257) Tryd.underlying24 ?_
    exact ⟨by rfl, by repeat (with_reducible first | exact HB.out | refine below_set ?_ GE1257.out)⟩
   ·replace H := iE H; rcases H with ⟨c41b0, c41b1, H⟩ | ⟨c41, c41b0, c41b1, H⟩
    ·replace H := bN H; obtain ⟨⟨t1267, t1268, t1269⟩, A42, H⟩ := H; dsimp only at H
     replace H := s3 H; obtain ⟨rfl, rfl, rfl⟩ := H
     go_enter Tryd.func69, Tryd.ntmps69
     go_wp2_with (first | (refine boxA HB 5 #[.int .i64 a1_0, .int .u64 a1_1, .int .u64 a1_2] 24 ?_; clear HB; intro gb1255 w43 BK1255 GE1255 hg hb HB; clear hb hg) | (refine boxA HB 6 #[.int .i64 a2_0, .int .u64 a2_1, .int .u64 a2_2] 24 ?_; clear HB; intro gb1256 w44 BK1256 GE1256 hg hb HB; have NB1255_1256 := nbA BK1255 hg; have NB1256_1255 := nbB BK1255 hg; replace BK1255 := bk1 BK1255 hb; clear hb hg) | (refine boxA HB 8 #[.int .i64 0, .int .u64 0, .int .u64 0] 24 ?_; clear HB; intro gb1257 w45 BK1257 GE1257 hg hb HB; have NB1255_1257 := nbA BK1255 hg; have NB1257_1255 := nbB BK1255 hg; replace BK1255 := bk1 BK1255 hb; have NB1256_1257 := nbA BK1256 hg; have NB1257_1256 := nbB BK1256 hg; replace BK1256 := bk1 BK1256 hb; clear hb hg; have hnb46 := NB1255_1256.out; have hnc46 := NB1256_1255.out; have hnb47 := NB1255_1257.out; have hnc47 := NB1257_1255.out; obtain ⟨hcz48_0, hcz48_1, hcz48_2, hfz48_0, hfz48_1, hfz48_2⟩ := cf3 BK1255; have hnb49 := NB1256_1257.out; have hnc49 := NB1257_1256.out; obtain ⟨hcz50_0, hcz50_1, hcz50_2, hfz50_0, hfz50_1, hfz50_2⟩ := cf3 BK1256) | (refine callA (some 29) Tryd.func93 #[.agg #[.int .i64 a1_0, .int .u64 a1_1, .int .u64 a1_2], .agg #[.int .i64 a2_0, .int .u64 a2_1, .int .u64 a2_2]] ?_; (with_reducible refine (bits_LAnd.calls k a1_0 a1_1 a1_2 a2_0 a2_1 a2_2 t1267 t1268 t1269 _ A42.out).mono ?_); rintro e w51 ⟨rfl, hb⟩; refine ⟨_, rfl, ?_⟩; replace BK1255 := bk1 BK1255 hb; replace BK1256 := bk1 BK1256 hb; replace BK1257 := bk1 BK1257 hb; replace HB := hb1 HB hb; (try clear hb); obtain ⟨hcz52_0, hcz52_1, hcz52_2, hfz52_0, hfz52_1, hfz52_2⟩ := cf3 BK1257))
     refine retA gb1257 24 #[.int .i64 t1267, .int .u64 t1268, .int .u64 t1269] (put3 BK1257) Tryd.underlying24 ?_
     exact ⟨by rfl, by repeat (with_reducible first | exact HB.out | refine below_set ?_ GE1257.out)⟩
    ·replace H := iE H; rcases H with ⟨c53b0, c53b1, H⟩ | ⟨c53, c53b0, c53b1, H⟩
     ·replace H := bN H; obtain ⟨⟨t1270, t1271, t1272⟩, A54, H⟩ := H; dsimp only at H
      replace H := s3 H; obtain ⟨rfl, rfl, rfl⟩ := H
      go_enter Tryd.func69, Tryd.ntmps69
      go_wp2_with (first | (refine boxA HB 5 #[.int .i64 a1_0, .int .u64 a1_1, .int .u64 a1_2] 24 ?_; clear HB; intro gb1255 w55 BK1255 GE1255 hg hb HB; clear hb hg) | (refine boxA HB 6 #[.int .i64 a2_0, .int .u64 a2_1, .int .u64 a2_2] 24 ?_; clear HB; intro gb1256 w56 BK1256 GE1256 hg hb HB; have NB1255_1256 := nbA BK1255 hg; have NB1256_1255 := nbB BK1255 hg; replace BK1255 := bk1 BK1255 hb; clear hb hg) | (refine boxA HB 8 #[.int .i64 0, .int .u64 0, .int .u64 0] 24 ?_; clear HB; intro gb1257 w57 BK1257 GE1257 hg hb HB; have NB1255_1257 := nbA BK1255 hg; have NB1257_1255 := nbB BK1255 hg; replace BK1255 := bk1 BK1255 hb; have NB1256_1257 := nbA BK1256 hg; have NB1257_1256 := nbB BK1256 hg; replace BK1256 := bk1 BK1256 hb; clear hb hg; have hnb58 := NB1255_1256.out; have hnc58 := NB1256_1255.out; have hnb59 := NB1255_1257.out; have hnc59 := NB1257_1255.out; obtain ⟨hcz60_0, hcz60_1, hcz60_2, hfz60_0, hfz60_1, hfz60_2⟩ := cf3 BK1255; have hnb61 := NB1256_1257.out; have hnc61 := NB1257_1256.out; obtain ⟨hcz62_0, hcz62_1, hcz62_2, hfz62_0, hfz62_1, hfz62_2⟩ := cf3 BK1256) | (refine callA (some 34) Tryd.func94 #[.agg #[.int .i64 a1_0, .int .u64 a1_1, .int .u64 a1_2], .agg #[.int .i64 a2_0, .int .u64 a2_1, .int .u64 a2_2]] ?_; (with_reducible refine (bits_LOr.calls k a1_0 a1_1 a1_2 a2_0 a2_1 a2_2 t1270 t1271 t1272 _ A54.out).mono ?_); rintro e w63 ⟨rfl, hb⟩; refine ⟨_, rfl, ?_⟩; replace BK1255 := bk1 BK1255 hb; replace BK1256 := bk1 BK1256 hb; replace BK1257 := bk1 BK1257 hb; replace HB := hb1 HB hb; (try clear hb); obtain ⟨hcz64_0, hcz64_1, hcz64_2, hfz64_0, hfz64_1, hfz64_2⟩ := cf3 BK1257))
      refine retA gb1257 24 #[.int .i64 t1270, .int .u64 t1271, .int .u64 t1272] (put3 BK1257) Tryd.underlying24 ?_
      exact ⟨by rfl, by repeat (with_reducible first | exact HB.out | refine below_set ?_ GE1257.out)⟩
     ·replace H := iE H; rcases H with ⟨c65b0, c65b1, H⟩ | ⟨c65, c65b0, c65b1, H⟩
      ·replace H := bN H; obtain ⟨⟨t1273, t1274, t1275⟩, A66, H⟩ := H; dsimp only at H
       replace H := s3 H; obtain ⟨rfl, rfl, rfl⟩ := H
       go_enter Tryd.func69, Tryd.ntmps69
       go_wp2_with (first | (refine boxA HB 5 #[.int .i64 a1_0, .int .u64 a1_1, .int .u64 a1_2] 24 ?_; clear HB; intro gb1255 w67 BK1255 GE1255 hg hb HB; clear hb hg) | (refine boxA HB 6 #[.int .i64 a2_0, .int .u64 a2_1, .int .u64 a2_2] 24 ?_; clear HB; intro gb1256 w68 BK1256 GE1256 hg hb HB; have NB1255_1256 := nbA BK1255 hg; have NB1256_1255 := nbB BK1255 hg; replace BK1255 := bk1 BK1255 hb; clear hb hg) | (refine boxA HB 8 #[.int .i64 0, .int .u64 0, .int .u64 0] 24 ?_; clear HB; intro gb1257 w69 BK1257 GE1257 hg hb HB; have NB1255_1257 := nbA BK1255 hg; have NB1257_1255 := nbB BK1255 hg; replace BK1255 := bk1 BK1255 hb; have NB1256_1257 := nbA BK1256 hg; have NB1257_1256 := nbB BK1256 hg; replace BK1256 := bk1 BK1256 hb; clear hb hg; have hnb70 := NB1255_1256.out; have hnc70 := NB1256_1255.out; have hnb71 := NB1255_1257.out; have hnc71 := NB1257_1255.out; obtain ⟨hcz72_0, hcz72_1, hcz72_2, hfz72_0, hfz72_1, hfz72_2⟩ := cf3 BK1255; have hnb73 := NB1256_1257.out; have hnc73 := NB1257_1256.out; obtain ⟨hcz74_0, hcz74_1, hcz74_2, hfz74_0, hfz74_1, hfz74_2⟩ := cf3 BK1256) | (refine callA (some 39) Tryd.func95 #[.agg #[.int .i64 a1_0, .int .u64 a1_1, .int .u64 a1_2], .agg #[.int .i64 a2_0, .int .u64 a2_1, .int .u64 a2_2]] ?_; (with_reducible refine (bits_Shl.calls k a1_0 a1_1 a1_2 a2_0 a2_1 a2_2 t1273 t1274 t1275 _ A66.out).mono ?_); rintro e w75 ⟨rfl, hb⟩; refine ⟨_, rfl, ?_⟩; replace BK1255 := bk1 BK1255 hb; replace BK1256 := bk1 BK1256 hb; replace BK1257 := bk1 BK1257 hb; replace HB := hb1 HB hb; (try clear hb); obtain ⟨hcz76_0, hcz76_1, hcz76_2, hfz76_0, hfz76_1, hfz76_2⟩ := cf3 BK1257))
       refine retA gb1257 24 #[.int .i64 t1273, .int .u64 t1274, .int .u64 t1275] (put3 BK1257) Tryd.underlying24 ?_
       exact ⟨by rfl, by repeat (with_reducible first | exact HB.out | refine below_set ?_ GE1257.out)⟩
      ·replace H := iE H; rcases H with ⟨c77b0, c77b1, H⟩ | ⟨c77, c77b0, c77b1, H⟩
       ·replace H := bN H; obtain ⟨⟨t1276, t1277, t1278⟩, A78, H⟩ := H; dsimp only at H
        replace H := s3 H; obtain ⟨rfl, rfl, rfl⟩ := H
        go_enter Tryd.func69, Tryd.ntmps69
        go_wp2_with (first | (refine boxA HB 5 #[.int .i64 a1_0, .int .u64 a1_1, .int .u64 a1_2] 24 ?_; clear HB; intro gb1255 w79 BK1255 GE1255 hg hb HB; clear hb hg) | (refine boxA HB 6 #[.int .i64 a2_0, .int .u64 a2_1, .int .u64 a2_2] 24 ?_; clear HB; intro gb1256 w80 BK1256 GE1256 hg hb HB; have NB1255_1256 := nbA BK1255 hg; have NB1256_1255 := nbB BK1255 hg; replace BK1255 := bk1 BK1255 hb; clear hb hg) | (refine boxA HB 8 #[.int .i64 0, .int .u64 0, .int .u64 0] 24 ?_; clear HB; intro gb1257 w81 BK1257 GE1257 hg hb HB; have NB1255_1257 := nbA BK1255 hg; have NB1257_1255 := nbB BK1255 hg; replace BK1255 := bk1 BK1255 hb; have NB1256_1257 := nbA BK1256 hg; have NB1257_1256 := nbB BK1256 hg; replace BK1256 := bk1 BK1256 hb; clear hb hg; have hnb82 := NB1255_1256.out; have hnc82 := NB1256_1255.out; have hnb83 := NB1255_1257.out; have hnc83 := NB1257_1255.out; obtain ⟨hcz84_0, hcz84_1, hcz84_2, hfz84_0, hfz84_1, hfz84_2⟩ := cf3 BK1255; have hnb85 := NB1256_1257.out; have hnc85 := NB1257_1256.out; obtain ⟨hcz86_0, hcz86_1, hcz86_2, hfz86_0, hfz86_1, hfz86_2⟩ := cf3 BK1256) | (refine callA (some 44) Tryd.func96 #[.agg #[.int .i64 a1_0, .int .u64 a1_1, .int .u64 a1_2], .agg #[.int .i64 a2_0, .int .u64 a2_1, .int .u64 a2_2]] ?_; (with_reducible refine (bits_Shr.calls k a1_0 a1_1 a1_2 a2_0 a2_1 a2_2 t1276 t1277 t1278 _ A78.out).mono ?_); rintro e w87 ⟨rfl, hb⟩; refine ⟨_, rfl, ?_⟩; replace BK1255 := bk1 BK1255 hb; replace BK1256 := bk1 BK1256 hb; replace BK1257 := bk1 BK1257 hb; replace HB := hb1 HB hb; (try clear hb); obtain ⟨hcz88_0, hcz88_1, hcz88_2, hfz88_0, hfz88_1, hfz88_2⟩ := cf3 BK1257))
        refine retA gb1257 24 #[.int .i64 t1276, .int .u64 t1277, .int .u64 t1278] (put3 BK1257) Tryd.underlying24 ?_
        exact ⟨by rfl, by repeat (with_reducible first | exact HB.out | refine below_set ?_ GE1257.out)⟩
       ·replace H := iE H; rcases H with ⟨c89b0, c89b1, H⟩ | ⟨c89, c89b0, c89b1, H⟩
        ·replace H := bN H; obtain ⟨⟨t1279, t1280, t1281⟩, A90, H⟩ := H; dsimp only at H
         replace H := s3 H; obtain ⟨rfl, rfl, rfl⟩ := H
         go_enter Tryd.func69, Tryd.ntmps69
         go_wp2_with (first | (refine boxA HB 5 #[.int .i64 a1_0, .int .u64 a1_1, .int .u64 a1_2] 24 ?_; clear HB; intro gb1255 w91 BK1255 GE1255 hg hb HB; clear hb hg) | (refine boxA HB 6 #[.int .i64 a2_0, .int .u64 a2_1, .int .u64 a2_2] 24 ?_; clear HB; intro gb1256 w92 BK1256 GE1256 hg hb HB; have NB1255_1256 := nbA BK1255 hg; have NB1256_1255 := nbB BK1255 hg; replace BK1255 := bk1 BK1255 hb; clear hb hg) | (refine boxA HB 8 #[.int .i64 0, .int .u64 0, .int .u64 0] 24 ?_; clear HB; intro gb1257 w93 BK1257 GE1257 hg hb HB; have NB1255_1257 := nbA BK1255 hg; have NB1257_1255 := nbB BK1255 hg; replace BK1255 := bk1 BK1255 hb; have NB1256_1257 := nbA BK1256 hg; have NB1257_1256 := nbB BK1256 hg; replace BK1256 := bk1 BK1256 hb; clear hb hg; have hnb94 := NB1255_1256.out; have hnc94 := NB1256_1255.out; have hnb95 := NB1255_1257.out; have hnc95 := NB1257_1255.out; obtain ⟨hcz96_0, hcz96_1, hcz96_2, hfz96_0, hfz96_1, hfz96_2⟩ := cf3 BK1255; have hnb97 := NB1256_1257.out; have hnc97 := NB1257_1256.out; obtain ⟨hcz98_0, hcz98_1, hcz98_2, hfz98_0, hfz98_1, hfz98_2⟩ := cf3 BK1256) | (refine callA (some 49) Tryd.func97 #[.agg #[.int .i64 a1_0, .int .u64 a1_1, .int .u64 a1_2], .agg #[.int .i64 a2_0, .int .u64 a2_1, .int .u64 a2_2]] ?_; (with_reducible refine (bits_Sar.calls k a1_0 a1_1 a1_2 a2_0 a2_1 a2_2 t1279 t1280 t1281 _ A90.out).mono ?_); rintro e w99 ⟨rfl, hb⟩; refine ⟨_, rfl, ?_⟩; replace BK1255 := bk1 BK1255 hb; replace BK1256 := bk1 BK1256 hb; replace BK1257 := bk1 BK1257 hb; replace HB := hb1 HB hb; (try clear hb); obtain ⟨hcz100_0, hcz100_1, hcz100_2, hfz100_0, hfz100_1, hfz100_2⟩ := cf3 BK1257))
         refine retA gb1257 24 #[.int .i64 t1279, .int .u64 t1280, .int .u64 t1281] (put3 BK1257) Tryd.underlying24 ?_
         exact ⟨by rfl, by repeat (with_reducible first | exact HB.out | refine below_set ?_ GE1257.out)⟩
        ·replace H := iE H; rcases H with ⟨c101b0, c101b1, H⟩ | ⟨c101, c101b0, c101b1, H⟩
         ·replace H := bN H; obtain ⟨⟨t1282, t1283, t1284⟩, A102, H⟩ := H; dsimp only at H
          replace H := s3 H; obtain ⟨rfl, rfl, rfl⟩ := H
          go_enter Tryd.func69, Tryd.ntmps69
          go_wp2_with (first | (refine boxA HB 5 #[.int .i64 a1_0, .int .u64 a1_1, .int .u64 a1_2] 24 ?_; clear HB; intro gb1255 w103 BK1255 GE1255 hg hb HB; clear hb hg) | (refine boxA HB 6 #[.int .i64 a2_0, .int .u64 a2_1, .int .u64 a2_2] 24 ?_; clear HB; intro gb1256 w104 BK1256 GE1256 hg hb HB; have NB1255_1256 := nbA BK1255 hg; have NB1256_1255 := nbB BK1255 hg; replace BK1255 := bk1 BK1255 hb; clear hb hg) | (refine boxA HB 8 #[.int .i64 0, .int .u64 0, .int .u64 0] 24 ?_; clear HB; intro gb1257 w105 BK1257 GE1257 hg hb HB; have NB1255_1257 := nbA BK1255 hg; have NB1257_1255 := nbB BK1255 hg; replace BK1255 := bk1 BK1255 hb; have NB1256_1257 := nbA BK1256 hg; have NB1257_1256 := nbB BK1256 hg; replace BK1256 := bk1 BK1256 hb; clear hb hg; have hnb106 := NB1255_1256.out; have hnc106 := NB1256_1255.out; have hnb107 := NB1255_1257.out; have hnc107 := NB1257_1255.out; obtain ⟨hcz108_0, hcz108_1, hcz108_2, hfz108_0, hfz108_1, hfz108_2⟩ := cf3 BK1255; have hnb109 := NB1256_1257.out; have hnc109 := NB1257_1256.out; obtain ⟨hcz110_0, hcz110_1, hcz110_2, hfz110_0, hfz110_1, hfz110_2⟩ := cf3 BK1256) | (refine callA (some 54) Tryd.func98 #[.agg #[.int .i64 a1_0, .int .u64 a1_1, .int .u64 a1_2], .agg #[.int .i64 a2_0, .int .u64 a2_1, .int .u64 a2_2]] ?_; (with_reducible refine (bits_Eq.calls k a1_0 a1_1 a1_2 a2_0 a2_1 a2_2 t1282 t1283 t1284 _ A102.out).mono ?_); rintro e w111 ⟨rfl, hb⟩; refine ⟨_, rfl, ?_⟩; replace BK1255 := bk1 BK1255 hb; replace BK1256 := bk1 BK1256 hb; replace BK1257 := bk1 BK1257 hb; replace HB := hb1 HB hb; (try clear hb); obtain ⟨hcz112_0, hcz112_1, hcz112_2, hfz112_0, hfz112_1, hfz112_2⟩ := cf3 BK1257))
          refine retA gb1257 24 #[.int .i64 t1282, .int .u64 t1283, .int .u64 t1284] (put3 BK1257) Tryd.underlying24 ?_
          exact ⟨by rfl, by repeat (with_reducible first | exact HB.out | refine below_set ?_ GE1257.out)⟩
         ·replace H := iE H; rcases H with ⟨c113b0, c113b1, H⟩ | ⟨c113, c113b0, c113b1, H⟩
          ·replace H := bN H; obtain ⟨⟨t1285, t1286, t1287⟩, A114, H⟩ := H; dsimp only at H
           replace H := s3 H; obtain ⟨rfl, rfl, rfl⟩ := H
           go_enter Tryd.func69, Tryd.ntmps69
           go_wp2_with (first | (refine boxA HB 5 #[.int .i64 a1_0, .int .u64 a1_1, .int .u64 a1_2] 24 ?_; clear HB; intro gb1255 w115 BK1255 GE1255 hg hb HB; clear hb hg) | (refine boxA HB 6 #[.int .i64 a2_0, .int .u64 a2_1, .int .u64 a2_2] 24 ?_; clear HB; intro gb1256 w116 BK1256 GE1256 hg hb HB; have NB1255_1256 := nbA BK1255 hg; have NB1256_1255 := nbB BK1255 hg; replace BK1255 := bk1 BK1255 hb; clear hb hg) | (refine boxA HB 8 #[.int .i64 0, .int .u64 0, .int .u64 0] 24 ?_; clear HB; intro gb1257 w117 BK1257 GE1257 hg hb HB; have NB1255_1257 := nbA BK1255 hg; have NB1257_1255 := nbB BK1255 hg; replace BK1255 := bk1 BK1255 hb; have NB1256_1257 := nbA BK1256 hg; have NB1257_1256 := nbB BK1256 hg; replace BK1256 := bk1 BK1256 hb; clear hb hg; have hnb118 := NB1255_1256.out; have hnc118 := NB1256_1255.out; have hnb119 := NB1255_1257.out; have hnc119 := NB1257_1255.out; obtain ⟨hcz120_0, hcz120_1, hcz120_2, hfz120_0, hfz120_1, hfz120_2⟩ := cf3 BK1255; have hnb121 := NB1256_1257.out; have hnc121 := NB1257_1256.out; obtain ⟨hcz122_0, hcz122_1, hcz122_2, hfz122_0, hfz122_1, hfz122_2⟩ := cf3 BK1256) | (refine callA (some 59) Tryd.func99 #[.agg #[.int .i64 a1_0, .int .u64 a1_1, .int .u64 a1_2], .agg #[.int .i64 a2_0, .int .u64 a2_1, .int .u64 a2_2]] ?_; (with_reducible refine (bits_Ne.calls k a1_0 a1_1 a1_2 a2_0 a2_1 a2_2 t1285 t1286 t1287 _ A114.out).mono ?_); rintro e w123 ⟨rfl, hb⟩; refine ⟨_, rfl, ?_⟩; replace BK1255 := bk1 BK1255 hb; replace BK1256 := bk1 BK1256 hb; replace BK1257 := bk1 BK1257 hb; replace HB := hb1 HB hb; (try clear hb); obtain ⟨hcz124_0, hcz124_1, hcz124_2, hfz124_0, hfz124_1, hfz124_2⟩ := cf3 BK1257))
           refine retA gb1257 24 #[.int .i64 t1285, .int .u64 t1286, .int .u64 t1287] (put3 BK1257) Tryd.underlying24 ?_
           exact ⟨by rfl, by repeat (with_reducible first | exact HB.out | refine below_set ?_ GE1257.out)⟩
          ·replace H := iE H; rcases H with ⟨c125b0, c125b1, H⟩ | ⟨c125, c125b0, c125b1, H⟩
           ·replace H := bN H; obtain ⟨⟨t1288, t1289, t1290⟩, A126, H⟩ := H; dsimp only at H
            replace H := s3 H; obtain ⟨rfl, rfl, rfl⟩ := H
            go_enter Tryd.func69, Tryd.ntmps69
            go_wp2_with (first | (refine boxA HB 5 #[.int .i64 a1_0, .int .u64 a1_1, .int .u64 a1_2] 24 ?_; clear HB; intro gb1255 w127 BK1255 GE1255 hg hb HB; clear hb hg) | (refine boxA HB 6 #[.int .i64 a2_0, .int .u64 a2_1, .int .u64 a2_2] 24 ?_; clear HB; intro gb1256 w128 BK1256 GE1256 hg hb HB; have NB1255_1256 := nbA BK1255 hg; have NB1256_1255 := nbB BK1255 hg; replace BK1255 := bk1 BK1255 hb; clear hb hg) | (refine boxA HB 8 #[.int .i64 0, .int .u64 0, .int .u64 0] 24 ?_; clear HB; intro gb1257 w129 BK1257 GE1257 hg hb HB; have NB1255_1257 := nbA BK1255 hg; have NB1257_1255 := nbB BK1255 hg; replace BK1255 := bk1 BK1255 hb; have NB1256_1257 := nbA BK1256 hg; have NB1257_1256 := nbB BK1256 hg; replace BK1256 := bk1 BK1256 hb; clear hb hg; have hnb130 := NB1255_1256.out; have hnc130 := NB1256_1255.out; have hnb131 := NB1255_1257.out; have hnc131 := NB1257_1255.out; obtain ⟨hcz132_0, hcz132_1, hcz132_2, hfz132_0, hfz132_1, hfz132_2⟩ := cf3 BK1255; have hnb133 := NB1256_1257.out; have hnc133 := NB1257_1256.out; obtain ⟨hcz134_0, hcz134_1, hcz134_2, hfz134_0, hfz134_1, hfz134_2⟩ := cf3 BK1256) | (refine callA (some 64) Tryd.func100 #[.agg #[.int .i64 a1_0, .int .u64 a1_1, .int .u64 a1_2], .agg #[.int .i64 a2_0, .int .u64 a2_1, .int .u64 a2_2]] ?_; (with_reducible refine (bits_CaseEq.calls k a1_0 a1_1 a1_2 a2_0 a2_1 a2_2 t1288 t1289 t1290 _ A126.out).mono ?_); rintro e w135 ⟨rfl, hb⟩; refine ⟨_, rfl, ?_⟩; replace BK1255 := bk1 BK1255 hb; replace BK1256 := bk1 BK1256 hb; replace BK1257 := bk1 BK1257 hb; replace HB := hb1 HB hb; (try clear hb); obtain ⟨hcz136_0, hcz136_1, hcz136_2, hfz136_0, hfz136_1, hfz136_2⟩ := cf3 BK1257))
            refine retA gb1257 24 #[.int .i64 t1288, .int .u64 t1289, .int .u64 t1290] (put3 BK1257) Tryd.underlying24 ?_
            exact ⟨by rfl, by repeat (with_reducible first | exact HB.out | refine below_set ?_ GE1257.out)⟩
           ·replace H := iE H; rcases H with ⟨c137b0, c137b1, H⟩ | ⟨c137, c137b0, c137b1, H⟩
            ·replace H := bN H; obtain ⟨⟨t1291, t1292, t1293⟩, A138, H⟩ := H; dsimp only at H
             replace H := s3 H; obtain ⟨rfl, rfl, rfl⟩ := H
             go_enter Tryd.func69, Tryd.ntmps69
             go_wp2_with (first | (refine boxA HB 5 #[.int .i64 a1_0, .int .u64 a1_1, .int .u64 a1_2] 24 ?_; clear HB; intro gb1255 w139 BK1255 GE1255 hg hb HB; clear hb hg) | (refine boxA HB 6 #[.int .i64 a2_0, .int .u64 a2_1, .int .u64 a2_2] 24 ?_; clear HB; intro gb1256 w140 BK1256 GE1256 hg hb HB; have NB1255_1256 := nbA BK1255 hg; have NB1256_1255 := nbB BK1255 hg; replace BK1255 := bk1 BK1255 hb; clear hb hg) | (refine boxA HB 8 #[.int .i64 0, .int .u64 0, .int .u64 0] 24 ?_; clear HB; intro gb1257 w141 BK1257 GE1257 hg hb HB; have NB1255_1257 := nbA BK1255 hg; have NB1257_1255 := nbB BK1255 hg; replace BK1255 := bk1 BK1255 hb; have NB1256_1257 := nbA BK1256 hg; have NB1257_1256 := nbB BK1256 hg; replace BK1256 := bk1 BK1256 hb; clear hb hg; have hnb142 := NB1255_1256.out; have hnc142 := NB1256_1255.out; have hnb143 := NB1255_1257.out; have hnc143 := NB1257_1255.out; obtain ⟨hcz144_0, hcz144_1, hcz144_2, hfz144_0, hfz144_1, hfz144_2⟩ := cf3 BK1255; have hnb145 := NB1256_1257.out; have hnc145 := NB1257_1256.out; obtain ⟨hcz146_0, hcz146_1, hcz146_2, hfz146_0, hfz146_1, hfz146_2⟩ := cf3 BK1256) | (refine callA (some 69) Tryd.func101 #[.agg #[.int .i64 a1_0, .int .u64 a1_1, .int .u64 a1_2], .agg #[.int .i64 a2_0, .int .u64 a2_1, .int .u64 a2_2]] ?_; (with_reducible refine (bits_CaseNe.calls k a1_0 a1_1 a1_2 a2_0 a2_1 a2_2 t1291 t1292 t1293 _ A138.out).mono ?_); rintro e w147 ⟨rfl, hb⟩; refine ⟨_, rfl, ?_⟩; replace BK1255 := bk1 BK1255 hb; replace BK1256 := bk1 BK1256 hb; replace BK1257 := bk1 BK1257 hb; replace HB := hb1 HB hb; (try clear hb); obtain ⟨hcz148_0, hcz148_1, hcz148_2, hfz148_0, hfz148_1, hfz148_2⟩ := cf3 BK1257))
             refine retA gb1257 24 #[.int .i64 t1291, .int .u64 t1292, .int .u64 t1293] (put3 BK1257) Tryd.underlying24 ?_
             exact ⟨by rfl, by repeat (with_reducible first | exact HB.out | refine below_set ?_ GE1257.out)⟩
            ·replace H := iE H; rcases H with ⟨c149b0, c149b1, H⟩ | ⟨c149, c149b0, c149b1, H⟩
             ·replace H := bN H; obtain ⟨⟨t1294, t1295, t1296⟩, A150, H⟩ := H; dsimp only at H
              replace H := s3 H; obtain ⟨rfl, rfl, rfl⟩ := H
              go_enter Tryd.func69, Tryd.ntmps69
              go_wp2_with (first | (refine boxA HB 5 #[.int .i64 a1_0, .int .u64 a1_1, .int .u64 a1_2] 24 ?_; clear HB; intro gb1255 w151 BK1255 GE1255 hg hb HB; clear hb hg) | (refine boxA HB 6 #[.int .i64 a2_0, .int .u64 a2_1, .int .u64 a2_2] 24 ?_; clear HB; intro gb1256 w152 BK1256 GE1256 hg hb HB; have NB1255_1256 := nbA BK1255 hg; have NB1256_1255 := nbB BK1255 hg; replace BK1255 := bk1 BK1255 hb; clear hb hg) | (refine boxA HB 8 #[.int .i64 0, .int .u64 0, .int .u64 0] 24 ?_; clear HB; intro gb1257 w153 BK1257 GE1257 hg hb HB; have NB1255_1257 := nbA BK1255 hg; have NB1257_1255 := nbB BK1255 hg; replace BK1255 := bk1 BK1255 hb; have NB1256_1257 := nbA BK1256 hg; have NB1257_1256 := nbB BK1256 hg; replace BK1256 := bk1 BK1256 hb; clear hb hg; have hnb154 := NB1255_1256.out; have hnc154 := NB1256_1255.out; have hnb155 := NB1255_1257.out; have hnc155 := NB1257_1255.out; obtain ⟨hcz156_0, hcz156_1, hcz156_2, hfz156_0, hfz156_1, hfz156_2⟩ := cf3 BK1255; have hnb157 := NB1256_1257.out; have hnc157 := NB1257_1256.out; obtain ⟨hcz158_0, hcz158_1, hcz158_2, hfz158_0, hfz158_1, hfz158_2⟩ := cf3 BK1256) | (refine callA (some 75) Tryd.func102 #[.agg #[.int .i64 a1_0, .int .u64 a1_1, .int .u64 a1_2], .agg #[.int .i64 a2_0, .int .u64 a2_1, .int .u64 a2_2], .bool a3] ?_; (with_reducible refine (bits_Lt.calls k a1_0 a1_1 a1_2 a2_0 a2_1 a2_2 a3 t1294 t1295 t1296 _ A150.out).mono ?_); rintro e w159 ⟨rfl, hb⟩; refine ⟨_, rfl, ?_⟩; replace BK1255 := bk1 BK1255 hb; replace BK1256 := bk1 BK1256 hb; replace BK1257 := bk1 BK1257 hb; replace HB := hb1 HB hb; (try clear hb); obtain ⟨hcz160_0, hcz160_1, hcz160_2, hfz160_0, hfz160_1, hfz160_2⟩ := cf3 BK1257))
              refine retA gb1257 24 #[.int .i64 t1294, .int .u64 t1295, .int .u64 t1296] (put3 BK1257) Tryd.underlying24 ?_
              exact ⟨by rfl, by repeat (with_reducible first | exact HB.out | refine below_set ?_ GE1257.out)⟩
             ·replace H := iE H; rcases H with ⟨c161b0, c161b1, H⟩ | ⟨c161, c161b0, c161b1, H⟩
              ·replace H := bN H; obtain ⟨⟨t1297, t1298, t1299⟩, A162, H⟩ := H; dsimp only at H
               replace H := s3 H; obtain ⟨rfl, rfl, rfl⟩ := H
               go_enter Tryd.func69, Tryd.ntmps69
               go_wp2_with (first | (refine boxA HB 5 #[.int .i64 a1_0, .int .u64 a1_1, .int .u64 a1_2] 24 ?_; clear HB; intro gb1255 w163 BK1255 GE1255 hg hb HB; clear hb hg) | (refine boxA HB 6 #[.int .i64 a2_0, .int .u64 a2_1, .int .u64 a2_2] 24 ?_; clear HB; intro gb1256 w164 BK1256 GE1256 hg hb HB; have NB1255_1256 := nbA BK1255 hg; have NB1256_1255 := nbB BK1255 hg; replace BK1255 := bk1 BK1255 hb; clear hb hg) | (refine boxA HB 8 #[.int .i64 0, .int .u64 0, .int .u64 0] 24 ?_; clear HB; intro gb1257 w165 BK1257 GE1257 hg hb HB; have NB1255_1257 := nbA BK1255 hg; have NB1257_1255 := nbB BK1255 hg; replace BK1255 := bk1 BK1255 hb; have NB1256_1257 := nbA BK1256 hg; have NB1257_1256 := nbB BK1256 hg; replace BK1256 := bk1 BK1256 hb; clear hb hg; have hnb166 := NB1255_1256.out; have hnc166 := NB1256_1255.out; have hnb167 := NB1255_1257.out; have hnc167 := NB1257_1255.out; obtain ⟨hcz168_0, hcz168_1, hcz168_2, hfz168_0, hfz168_1, hfz168_2⟩ := cf3 BK1255; have hnb169 := NB1256_1257.out; have hnc169 := NB1257_1256.out; obtain ⟨hcz170_0, hcz170_1, hcz170_2, hfz170_0, hfz170_1, hfz170_2⟩ := cf3 BK1256) | (refine callA (some 81) Tryd.func103 #[.agg #[.int .i64 a1_0, .int .u64 a1_1, .int .u64 a1_2], .agg #[.int .i64 a2_0, .int .u64 a2_1, .int .u64 a2_2], .bool a3] ?_; (with_reducible refine (bits_Le.calls k a1_0 a1_1 a1_2 a2_0 a2_1 a2_2 a3 t1297 t1298 t1299 _ A162.out).mono ?_); rintro e w171 ⟨rfl, hb⟩; refine ⟨_, rfl, ?_⟩; replace BK1255 := bk1 BK1255 hb; replace BK1256 := bk1 BK1256 hb; replace BK1257 := bk1 BK1257 hb; replace HB := hb1 HB hb; (try clear hb); obtain ⟨hcz172_0, hcz172_1, hcz172_2, hfz172_0, hfz172_1, hfz172_2⟩ := cf3 BK1257))
               refine retA gb1257 24 #[.int .i64 t1297, .int .u64 t1298, .int .u64 t1299] (put3 BK1257) Tryd.underlying24 ?_
               exact ⟨by rfl, by repeat (with_reducible first | exact HB.out | refine below_set ?_ GE1257.out)⟩
              ·replace H := iE H; rcases H with ⟨c173b0, c173b1, H⟩ | ⟨c173, c173b0, c173b1, H⟩
               ·replace H := bN H; obtain ⟨⟨t1300, t1301, t1302⟩, A174, H⟩ := H; dsimp only at H
                replace H := s3 H; obtain ⟨rfl, rfl, rfl⟩ := H
                go_enter Tryd.func69, Tryd.ntmps69
                go_wp2_with (first | (refine boxA HB 5 #[.int .i64 a1_0, .int .u64 a1_1, .int .u64 a1_2] 24 ?_; clear HB; intro gb1255 w175 BK1255 GE1255 hg hb HB; clear hb hg) | (refine boxA HB 6 #[.int .i64 a2_0, .int .u64 a2_1, .int .u64 a2_2] 24 ?_; clear HB; intro gb1256 w176 BK1256 GE1256 hg hb HB; have NB1255_1256 := nbA BK1255 hg; have NB1256_1255 := nbB BK1255 hg; replace BK1255 := bk1 BK1255 hb; clear hb hg) | (refine boxA HB 8 #[.int .i64 0, .int .u64 0, .int .u64 0] 24 ?_; clear HB; intro gb1257 w177 BK1257 GE1257 hg hb HB; have NB1255_1257 := nbA BK1255 hg; have NB1257_1255 := nbB BK1255 hg; replace BK1255 := bk1 BK1255 hb; have NB1256_1257 := nbA BK1256 hg; have NB1257_1256 := nbB BK1256 hg; replace BK1256 := bk1 BK1256 hb; clear hb hg; have hnb178 := NB1255_1256.out; have hnc178 := NB1256_1255.out; have hnb179 := NB1255_1257.out; have hnc179 := NB1257_1255.out; obtain ⟨hcz180_0, hcz180_1, hcz180_2, hfz180_0, hfz180_1, hfz180_2⟩ := cf3 BK1255; have hnb181 := NB1256_1257.out; have hnc181 := NB1257_1256.out; obtain ⟨hcz182_0, hcz182_1, hcz182_2, hfz182_0, hfz182_1, hfz182_2⟩ := cf3 BK1256) | (refine callA (some 86) Tryd.func49 #[.agg #[.int .i64 a1_0, .int .u64 a1_1, .int .u64 a1_2], .agg #[.int .i64 a2_0, .int .u64 a2_1, .int .u64 a2_2]] ?_; (with_reducible refine (bits_Add.calls k a1_0 a1_1 a1_2 a2_0 a2_1 a2_2 t1300 t1301 t1302 _ A174.out).mono ?_); rintro e w183 ⟨rfl, hb⟩; refine ⟨_, rfl, ?_⟩; replace BK1255 := bk1 BK1255 hb; replace BK1256 := bk1 BK1256 hb; replace BK1257 := bk1 BK1257 hb; replace HB := hb1 HB hb; (try clear hb); obtain ⟨hcz184_0, hcz184_1, hcz184_2, hfz184_0, hfz184_1, hfz184_2⟩ := cf3 BK1257))
                refine retA gb1257 24 #[.int .i64 t1300, .int .u64 t1301, .int .u64 t1302] (put3 BK1257) Tryd.underlying24 ?_
                exact ⟨by rfl, by repeat (with_reducible first | exact HB.out | refine below_set ?_ GE1257.out)⟩
               ·replace H := iE H; rcases H with ⟨c185b0, c185b1, H⟩ | ⟨c185, c185b0, c185b1, H⟩
                ·replace H := bN H; obtain ⟨⟨t1303, t1304, t1305⟩, A186, H⟩ := H; dsimp only at H
                 replace H := s3 H; obtain ⟨rfl, rfl, rfl⟩ := H
                 go_enter Tryd.func69, Tryd.ntmps69
                 go_wp2_with (first | (refine boxA HB 5 #[.int .i64 a1_0, .int .u64 a1_1, .int .u64 a1_2] 24 ?_; clear HB; intro gb1255 w187 BK1255 GE1255 hg hb HB; clear hb hg) | (refine boxA HB 6 #[.int .i64 a2_0, .int .u64 a2_1, .int .u64 a2_2] 24 ?_; clear HB; intro gb1256 w188 BK1256 GE1256 hg hb HB; have NB1255_1256 := nbA BK1255 hg; have NB1256_1255 := nbB BK1255 hg; replace BK1255 := bk1 BK1255 hb; clear hb hg) | (refine boxA HB 8 #[.int .i64 0, .int .u64 0, .int .u64 0] 24 ?_; clear HB; intro gb1257 w189 BK1257 GE1257 hg hb HB; have NB1255_1257 := nbA BK1255 hg; have NB1257_1255 := nbB BK1255 hg; replace BK1255 := bk1 BK1255 hb; have NB1256_1257 := nbA BK1256 hg; have NB1257_1256 := nbB BK1256 hg; replace BK1256 := bk1 BK1256 hb; clear hb hg; have hnb190 := NB1255_1256.out; have hnc190 := NB1256_1255.out; have hnb191 := NB1255_1257.out; have hnc191 := NB1257_1255.out; obtain ⟨hcz192_0, hcz192_1, hcz192_2, hfz192_0, hfz192_1, hfz192_2⟩ := cf3 BK1255; have hnb193 := NB1256_1257.out; have hnc193 := NB1257_1256.out; obtain ⟨hcz194_0, hcz194_1, hcz194_2, hfz194_0, hfz194_1, hfz194_2⟩ := cf3 BK1256) | (refine callA (some 91) Tryd.func104 #[.agg #[.int .i64 a1_0, .int .u64 a1_1, .int .u64 a1_2], .agg #[.int .i64 a2_0, .int .u64 a2_1, .int .u64 a2_2]] ?_; (with_reducible refine (bits_Sub.calls k a1_0 a1_1 a1_2 a2_0 a2_1 a2_2 t1303 t1304 t1305 _ A186.out).mono ?_); rintro e w195 ⟨rfl, hb⟩; refine ⟨_, rfl, ?_⟩; replace BK1255 := bk1 BK1255 hb; replace BK1256 := bk1 BK1256 hb; replace BK1257 := bk1 BK1257 hb; replace HB := hb1 HB hb; (try clear hb); obtain ⟨hcz196_0, hcz196_1, hcz196_2, hfz196_0, hfz196_1, hfz196_2⟩ := cf3 BK1257))
                 refine retA gb1257 24 #[.int .i64 t1303, .int .u64 t1304, .int .u64 t1305] (put3 BK1257) Tryd.underlying24 ?_
                 exact ⟨by rfl, by repeat (with_reducible first | exact HB.out | refine below_set ?_ GE1257.out)⟩
                ·replace H := iE H; rcases H with ⟨c197b0, c197b1, H⟩ | ⟨c197, c197b0, c197b1, H⟩
                 ·replace H := bN H; obtain ⟨⟨t1306, t1307, t1308⟩, A198, H⟩ := H; dsimp only at H
                  replace H := s3 H; obtain ⟨rfl, rfl, rfl⟩ := H
                  go_enter Tryd.func69, Tryd.ntmps69
                  go_wp2_with (first | (refine boxA HB 5 #[.int .i64 a1_0, .int .u64 a1_1, .int .u64 a1_2] 24 ?_; clear HB; intro gb1255 w199 BK1255 GE1255 hg hb HB; clear hb hg) | (refine boxA HB 6 #[.int .i64 a2_0, .int .u64 a2_1, .int .u64 a2_2] 24 ?_; clear HB; intro gb1256 w200 BK1256 GE1256 hg hb HB; have NB1255_1256 := nbA BK1255 hg; have NB1256_1255 := nbB BK1255 hg; replace BK1255 := bk1 BK1255 hb; clear hb hg) | (refine boxA HB 8 #[.int .i64 0, .int .u64 0, .int .u64 0] 24 ?_; clear HB; intro gb1257 w201 BK1257 GE1257 hg hb HB; have NB1255_1257 := nbA BK1255 hg; have NB1257_1255 := nbB BK1255 hg; replace BK1255 := bk1 BK1255 hb; have NB1256_1257 := nbA BK1256 hg; have NB1257_1256 := nbB BK1256 hg; replace BK1256 := bk1 BK1256 hb; clear hb hg; have hnb202 := NB1255_1256.out; have hnc202 := NB1256_1255.out; have hnb203 := NB1255_1257.out; have hnc203 := NB1257_1255.out; obtain ⟨hcz204_0, hcz204_1, hcz204_2, hfz204_0, hfz204_1, hfz204_2⟩ := cf3 BK1255; have hnb205 := NB1256_1257.out; have hnc205 := NB1257_1256.out; obtain ⟨hcz206_0, hcz206_1, hcz206_2, hfz206_0, hfz206_1, hfz206_2⟩ := cf3 BK1256) | (refine callA (some 96) Tryd.func105 #[.agg #[.int .i64 a1_0, .int .u64 a1_1, .int .u64 a1_2], .agg #[.int .i64 a2_0, .int .u64 a2_1, .int .u64 a2_2]] ?_; (with_reducible refine (bits_Mul.calls k a1_0 a1_1 a1_2 a2_0 a2_1 a2_2 t1306 t1307 t1308 _ A198.out).mono ?_); rintro e w207 ⟨rfl, hb⟩; refine ⟨_, rfl, ?_⟩; replace BK1255 := bk1 BK1255 hb; replace BK1256 := bk1 BK1256 hb; replace BK1257 := bk1 BK1257 hb; replace HB := hb1 HB hb; (try clear hb); obtain ⟨hcz208_0, hcz208_1, hcz208_2, hfz208_0, hfz208_1, hfz208_2⟩ := cf3 BK1257))
                  refine retA gb1257 24 #[.int .i64 t1306, .int .u64 t1307, .int .u64 t1308] (put3 BK1257) Tryd.underlying24 ?_
                  exact ⟨by rfl, by repeat (with_reducible first | exact HB.out | refine below_set ?_ GE1257.out)⟩
                 ·replace H := iE H; rcases H with ⟨c209b0, c209b1, H⟩ | ⟨c209, c209b0, c209b1, H⟩
                  ·replace H := bN H; obtain ⟨⟨t1309, t1310, t1311⟩, A210, H⟩ := H; dsimp only at H
                   replace H := s3 H; obtain ⟨rfl, rfl, rfl⟩ := H
                   go_enter Tryd.func69, Tryd.ntmps69
                   go_wp2_with (first | (refine boxA HB 5 #[.int .i64 a1_0, .int .u64 a1_1, .int .u64 a1_2] 24 ?_; clear HB; intro gb1255 w211 BK1255 GE1255 hg hb HB; clear hb hg) | (refine boxA HB 6 #[.int .i64 a2_0, .int .u64 a2_1, .int .u64 a2_2] 24 ?_; clear HB; intro gb1256 w212 BK1256 GE1256 hg hb HB; have NB1255_1256 := nbA BK1255 hg; have NB1256_1255 := nbB BK1255 hg; replace BK1255 := bk1 BK1255 hb; clear hb hg) | (refine boxA HB 8 #[.int .i64 0, .int .u64 0, .int .u64 0] 24 ?_; clear HB; intro gb1257 w213 BK1257 GE1257 hg hb HB; have NB1255_1257 := nbA BK1255 hg; have NB1257_1255 := nbB BK1255 hg; replace BK1255 := bk1 BK1255 hb; have NB1256_1257 := nbA BK1256 hg; have NB1257_1256 := nbB BK1256 hg; replace BK1256 := bk1 BK1256 hb; clear hb hg; have hnb214 := NB1255_1256.out; have hnc214 := NB1256_1255.out; have hnb215 := NB1255_1257.out; have hnc215 := NB1257_1255.out; obtain ⟨hcz216_0, hcz216_1, hcz216_2, hfz216_0, hfz216_1, hfz216_2⟩ := cf3 BK1255; have hnb217 := NB1256_1257.out; have hnc217 := NB1257_1256.out; obtain ⟨hcz218_0, hcz218_1, hcz218_2, hfz218_0, hfz218_1, hfz218_2⟩ := cf3 BK1256) | (refine callA (some 102) Tryd.func106 #[.agg #[.int .i64 a1_0, .int .u64 a1_1, .int .u64 a1_2], .agg #[.int .i64 a2_0, .int .u64 a2_1, .int .u64 a2_2], .bool a3] ?_; (with_reducible refine (bits_Div.calls k a1_0 a1_1 a1_2 a2_0 a2_1 a2_2 a3 t1309 t1310 t1311 _ A210.out).mono ?_); rintro e w219 ⟨rfl, hb⟩; refine ⟨_, rfl, ?_⟩; replace BK1255 := bk1 BK1255 hb; replace BK1256 := bk1 BK1256 hb; replace BK1257 := bk1 BK1257 hb; replace HB := hb1 HB hb; (try clear hb); obtain ⟨hcz220_0, hcz220_1, hcz220_2, hfz220_0, hfz220_1, hfz220_2⟩ := cf3 BK1257))
                   refine retA gb1257 24 #[.int .i64 t1309, .int .u64 t1310, .int .u64 t1311] (put3 BK1257) Tryd.underlying24 ?_
                   exact ⟨by rfl, by repeat (with_reducible first | exact HB.out | refine below_set ?_ GE1257.out)⟩
                  ·replace H := bN H; obtain ⟨⟨t1312, t1313, t1314⟩, A221, H⟩ := H; dsimp only at H
                   replace H := s3 H; obtain ⟨rfl, rfl, rfl⟩ := H
                   go_enter Tryd.func69, Tryd.ntmps69
                   go_wp2_with (first | (refine boxA HB 5 #[.int .i64 a1_0, .int .u64 a1_1, .int .u64 a1_2] 24 ?_; clear HB; intro gb1255 w222 BK1255 GE1255 hg hb HB; clear hb hg) | (refine boxA HB 6 #[.int .i64 a2_0, .int .u64 a2_1, .int .u64 a2_2] 24 ?_; clear HB; intro gb1256 w223 BK1256 GE1256 hg hb HB; have NB1255_1256 := nbA BK1255 hg; have NB1256_1255 := nbB BK1255 hg; replace BK1255 := bk1 BK1255 hb; clear hb hg) | (refine boxA HB 8 #[.int .i64 0, .int .u64 0, .int .u64 0] 24 ?_; clear HB; intro gb1257 w224 BK1257 GE1257 hg hb HB; have NB1255_1257 := nbA BK1255 hg; have NB1257_1255 := nbB BK1255 hg; replace BK1255 := bk1 BK1255 hb; have NB1256_1257 := nbA BK1256 hg; have NB1257_1256 := nbB BK1256 hg; replace BK1256 := bk1 BK1256 hb; clear hb hg; have hnb225 := NB1255_1256.out; have hnc225 := NB1256_1255.out; have hnb226 := NB1255_1257.out; have hnc226 := NB1257_1255.out; obtain ⟨hcz227_0, hcz227_1, hcz227_2, hfz227_0, hfz227_1, hfz227_2⟩ := cf3 BK1255; have hnb228 := NB1256_1257.out; have hnc228 := NB1257_1256.out; obtain ⟨hcz229_0, hcz229_1, hcz229_2, hfz229_0, hfz229_1, hfz229_2⟩ := cf3 BK1256) | (refine callA (some 106) Tryd.func107 #[.agg #[.int .i64 a1_0, .int .u64 a1_1, .int .u64 a1_2], .agg #[.int .i64 a2_0, .int .u64 a2_1, .int .u64 a2_2], .bool a3] ?_; (with_reducible refine (bits_Mod.calls k a1_0 a1_1 a1_2 a2_0 a2_1 a2_2 a3 t1312 t1313 t1314 _ A221.out).mono ?_); rintro e w230 ⟨rfl, hb⟩; refine ⟨_, rfl, ?_⟩; replace BK1255 := bk1 BK1255 hb; replace BK1256 := bk1 BK1256 hb; replace BK1257 := bk1 BK1257 hb; replace HB := hb1 HB hb; (try clear hb); obtain ⟨hcz231_0, hcz231_1, hcz231_2, hfz231_0, hfz231_1, hfz231_2⟩ := cf3 BK1257))
                   refine retA gb1257 24 #[.int .i64 t1312, .int .u64 t1313, .int .u64 t1314] (put3 BK1257) Tryd.underlying24 ?_
                   exact ⟨by rfl, by repeat (with_reducible first | exact HB.out | refine below_set ?_ GE1257.out)⟩
end Go.Proofs.YtfigblfjogpojaaDoor.PNum
end
section
namespace Go.Proofs.YtfigblfjogpojaaDoor.PNum
open Go.Proofs.YtfigblfjogpojaaDoor.PBits
open Go.RowKit Go.Proofs.YtfigblfjogpojaaDoorW.PrintWords Go.Proofs.YtfigblfjogpojaaDoorW.PrintLast Go.Proofs.YtfigblfjogpojaaDoorW.PrintMore
attribute [local go_sem] max2_int min2_int max_two min_two max_three min_three max_four min_four
set_option linter.unusedVariables false
set_option linter.unusedSimpArgs false
attribute [local go_sem high] eqA24
mutual
def masklaw1_pair.l0 : Nat → Bool → List Int → Int → Int → Int → Int → Int → Int → Int → Int → Option (Bool)
 | 0, _, _, _, _, _, _, _, _, _, _ => none
 | k + 1, x3, x13, x14, x15, x1316000, x1316001, x1316002, x1317000, x1317001, x1317002 => if x15 < x14 then (if 0 ≤ x15 then (if x15 < (x13.length : Int) then (if (rd x13 x15) = 11 then (masklaw1_pair.j1 k x3 (rd x13 x15) true x13 x14 x15 x1316000 x1316001 x1316002 x1317000 x1317001 x1317002) else (if (rd x13 x15) = 12 then (masklaw1_pair.j1 k x3 (rd x13 x15) true x13 x14 x15 x1316000 x1316001 x1316002 x1317000 x1317001 x1317002) else (if (rd x13 x15) = 21 then (masklaw1_pair.j1 k x3 (rd x13 x15) true x13 x14 x15 x1316000 x1316001 x1316002 x1317000 x1317001 x1317002) else (if (rd x13 x15) = 22 then (masklaw1_pair.j1 k x3 (rd x13 x15) true x13 x14 x15 x1316000 x1316001 x1316002 x1317000 x1317001 x1317002) else (masklaw1_pair.j1 k x3 (rd x13 x15) ((rd x13 x15) == 23) x13 x14 x15 x1316000 x1316001 x1316002 x1317000 x1317001 x1317002))))) else (none)) else (none)) else (some true)
def masklaw1_pair.j1 : Nat → Bool → Int → Bool → List Int → Int → Int → Int → Int → Int → Int → Int → Int → Option (Bool)
 | 0, _, _, _, _, _, _, _, _, _, _, _, _ => none
 | k + 1, x3, x10, x11, x13, x14, x15, x1316000, x1316001, x1316002, x1317000, x1317001, x1317002 => (maskref1_Valid.f k x1316000 x1316001 x1316002).bind fun t1319 => (if t1319 = true then ((maskref1_Valid.f k x1317000 x1317001 x1317002).bind fun t1320 => (if t1320 = true then (if x11 = true then (masklaw1_pair.j2 k x3 x10 x13 x14 x15 true x1316000 x1316001 x1316002 x1317000 x1317001 x1317002 0 0 0) else (masklaw1_pair.j2 k x3 x10 x13 x14 x15 (x1316000 == x1317000) x1316000 x1316001 x1316002 x1317000 x1317001 x1317002 0 0 0)) else (masklaw1_pair.j2 k x3 x10 x13 x14 x15 false x1316000 x1316001 x1316002 x1317000 x1317001 x1317002 0 0 0))) else (masklaw1_pair.j2 k x3 x10 x13 x14 x15 false x1316000 x1316001 x1316002 x1317000 x1317001 x1317002 0 0 0))
def masklaw1_pair.j2 : Nat → Bool → Int → List Int → Int → Int → Bool → Int → Int → Int → Int → Int → Int → Int → Int → Int → Option (Bool)
 | 0, _, _, _, _, _, _, _, _, _, _, _, _, _, _, _ => none
 | k + 1, x3, x10, x13, x14, x15, x52, x1316000, x1316001, x1316002, x1317000, x1317001, x1317002, x1319000, x1319001, x1319002 => if x52 = true then ((maskref1_V.f k x1316000 x1316001 x1316002).bind fun t1321 => ((maskref1_V.f k x1317000 x1317001 x1317002).bind fun t1324 => ((maskref1_Binary.f k x10 t1321 t1324 x3).bind fun t1327 => ((maskref1_B.f k t1327).bind fun bt1330 => (masklaw1_pair.j3 k x3 x10 x13 x14 x15 x1316000 x1316001 x1316002 x1317000 x1317001 x1317002 bt1330.1 bt1330.2.1 bt1330.2.2))))) else (masklaw1_pair.j3 k x3 x10 x13 x14 x15 x1316000 x1316001 x1316002 x1317000 x1317001 x1317002 x1319000 x1319001 x1319002)
def masklaw1_pair.j3 : Nat → Bool → Int → List Int → Int → Int → Int → Int → Int → Int → Int → Int → Int → Int → Int → Option (Bool)
 | 0, _, _, _, _, _, _, _, _, _, _, _, _, _, _ => none
 | k + 1, x3, x10, x13, x14, x15, x1316000, x1316001, x1316002, x1317000, x1317001, x1317002, x1319000, x1319001, x1319002 => (masklaw1_binary.f k x10 x1316000 x1316001 x1316002 x1317000 x1317001 x1317002 x3).bind fun bt1333 => (if (!(bt1333.1 == x1319000) || (!(bt1333.2.1 == x1319001) || (!(bt1333.2.2 == x1319002)))) = true then (some false) else (masklaw1_pair.l0 k x3 x13 x14 (wrap64 (x15 + 1)) x1316000 x1316001 x1316002 x1317000 x1317001 x1317002))
end
def masklaw1_pair.f (k : Nat) (l0 : List Int) (a1_0 : Int) (a1_1 : Int) (a1_2 : Int) (a2_0 : Int) (a2_1 : Int) (a2_2 : Int) (a3 : Bool) : Option (Bool) := masklaw1_pair.l0 k a3 l0 (l0.length : Int) 0 a1_0 a1_1 a1_2 a2_0 a2_1 a2_2
def masklaw1_pair.T7 : Bool × List (List Nat × List Nat) := (true, [([], []), ([], []), ([1], [1]), ([], []), ([3, 2], [3]), ([], []), ([0, 2, 4, 5, 4], [0, 2, 4, 5]), ([6, 6], [6]), ([7, 7, 0, 1, 2, 3, 4, 5, 6, 7], [7])])
def masklaw1_pair.B7 : List Nat := [0, 0, 2, 0, 14, 0, 63, 127, 255]
theorem masklaw1_pair.tab7 : rtab .any (opsOf Tryd.f46 7) = masklaw1_pair.T7 := by kernel_rfl
theorem masklaw1_pair.bits7 : waitsOk masklaw1_pair.T7.2 masklaw1_pair.B7 = true := by kernel_rfl
set_option maxHeartbeats 8000000 in
set_option maxRecDepth 100000 in
theorem masklaw1_pair.calls (k : Nat) (A0 : Option Addr) (c0 : Nat) (l0 : List Int) (a1_0 : Int) (a1_1 : Int) (a1_2 : Int) (a2_0 : Int) (a2_1 : Int) (a2_2 : Int) (a3 : Bool) (r : Bool) (w : World) (hr0 : Kd.C (Kd.int .i64) w A0 l0.length l0) (hc0 : l0.length ≤ c0) (h : masklaw1_pair.f k l0 a1_0 a1_1 a1_2 a2_0 a2_1 a2_2 a3 = some r) :
  Calls Tryd.prog 46 #[.slice A0 l0.length c0, .agg #[.int .i64 a1_0, .int .u64 a1_1, .int .u64 a1_2], .agg #[.int .i64 a2_0, .int .u64 a2_1, .int .u64 a2_2], .bool a3] w fun e w' => e = .returned (.bool r) ∧ Below w.heap.size w w' := by
 have hu24 := Tryd.underlying24
 have HR0 := Aside0.mk hr0
 have HC0 := Aside0.mk hc0
 clear hr0 hc0
 have HB := Aside0.mk (Below.refl w.heap.size w)
 have H := h
 clear h
 unfold masklaw1_pair.f at H
 have H' := Aside0.mk H
 clear H
 go_enter Tryd.func46, Tryd.ntmps46
 go_wp2_with (first | (refine boxA HB 5 #[.int .i64 a1_0, .int .u64 a1_1, .int .u64 a1_2] 24 ?_; clear HB; intro gb1315 w5 BK1315 GE1315 hg hb HB; clear hb hg) | (refine boxA HB 6 #[.int .i64 a2_0, .int .u64 a2_1, .int .u64 a2_2] 24 ?_; clear HB; intro gb1316 w6 BK1316 GE1316 hg hb HB; have NB1315_1316 := nbA BK1315 hg; have NB1316_1315 := nbB BK1315 hg; replace BK1315 := bk1 BK1315 hb; clear hb hg))
 go_loopg [15] k (fun kq v15 w' => ∃ (x15_1 : Int), v15 = .int .i64 x15_1 ∧ Aside0 (masklaw1_pair.l0 kq a3 l0 (l0.length : Int) x15_1 a1_0 a1_1 a1_2 a2_0 a2_1 a2_2 = some r) ∧ Aside0 (kq ≤ k) ∧ Aside0 (w'.heap[gb1315]? = some (.cells #[.int .i64 a1_0, .int .u64 a1_1, .int .u64 a1_2] 24 (0, 0))) ∧ Aside0 (w'.heap[gb1316]? = some (.cells #[.int .i64 a2_0, .int .u64 a2_1, .int .u64 a2_2] 24 (0, 0))) ∧ Aside0 (Below w.heap.size w w'))
 case atStart => exact ⟨(0), (by rfl), H', ⟨Nat.le_refl _⟩, ⟨by exact BK1315.out⟩, ⟨by exact BK1316.out⟩, ⟨by repeat (with_reducible exact HB.out)⟩⟩
 case round =>
  clear H'
  obtain ⟨x15_1, rfl, HA, HK1, BK1315, BK1316, HB⟩ := hrel
  cases gk with
  | zero => exact absurd HA.out (by simp [masklaw1_pair.l0])
  | succ k1 =>
   have H := HA.out
   clear HA
   simp only [masklaw1_pair.l0] at H
   replace H := iD H; rcases H with ⟨c7b0, H⟩ | ⟨c7b0, H⟩
   ·replace H := iN H; obtain ⟨c8b0, H⟩ := H
    replace H := iN H; obtain ⟨c9b0, H⟩ := H
    have HC10 := Aside0.mk H
    clear H
    have p1317 : 0 ≤ (x15_1 : Int) := of_decide_eq_true (by (with_reducible assumption))
    have q1317 : x15_1 < (l0.length : Int) := of_decide_eq_true (by (with_reducible assumption))
    obtain ⟨ad1317, e1317, hx1317_0⟩ := Kd.at_int HR0.out x15_1 p1317 q1317
    cases e1317
    replace hx1317_0 := (HB.out.cell (World.block_lt_of_cell? w _ hx1317_0)).trans hx1317_0
    replace p1317 := eq_true p1317
    replace q1317 := eq_true q1317
    go_upto_region 4 with (fail)
    go_cut [11] (fun v11 wc => ∃ (kq : Nat) (x11_9 : Bool), v11 = .bool x11_9 ∧ Aside0 (masklaw1_pair.j1 kq a3 (rd l0 x15_1) x11_9 l0 (l0.length : Int) x15_1 a1_0 a1_1 a1_2 a2_0 a2_1 a2_2 = some r) ∧ Aside0 (kq ≤ k1) ∧ Aside0 (wc.heap[gb1315]? = some (.cells #[.int .i64 a1_0, .int .u64 a1_1, .int .u64 a1_2] 24 (0, 0))) ∧ Aside0 (wc.heap[gb1316]? = some (.cells #[.int .i64 a2_0, .int .u64 a2_1, .int .u64 a2_2] 24 (0, 0))) ∧ Aside0 (Below w.heap.size w wc))
    case first =>
     have H := HC10.out
     clear HC10
     replace H := iE H; rcases H with ⟨c11b0, c11b1, H⟩ | ⟨c11, c11b0, c11b1, H⟩
     ·(skip)
      have H' := Aside0.mk H
      clear H
      go_wp2
      go_meet
      case rel => exact ⟨_, (true), (by rfl), H', ⟨by have := HK1.out; omega⟩, ⟨by exact BK1315.out⟩, ⟨by exact BK1316.out⟩, ⟨by repeat (with_reducible exact HB.out)⟩⟩
     ·(skip)
      replace H := iE H; rcases H with ⟨c12b0, c12b1, H⟩ | ⟨c12, c12b0, c12b1, H⟩
      ·have H' := Aside0.mk H
       clear H
       go_wp2
       go_meet
       case rel => exact ⟨_, (true), (by rfl), H', ⟨by have := HK1.out; omega⟩, ⟨by exact BK1315.out⟩, ⟨by exact BK1316.out⟩, ⟨by repeat (with_reducible exact HB.out)⟩⟩
      ·replace H := iE H; rcases H with ⟨c13b0, c13b1, H⟩ | ⟨c13, c13b0, c13b1, H⟩
       ·have H' := Aside0.mk H
        clear H
        go_wp2
        go_meet
        case rel => exact ⟨_, (true), (by rfl), H', ⟨by have := HK1.out; omega⟩, ⟨by exact BK1315.out⟩, ⟨by exact BK1316.out⟩, ⟨by repeat (with_reducible exact HB.out)⟩⟩
       ·replace H := iE H; rcases H with ⟨c14b0, c14b1, H⟩ | ⟨c14, c14b0, c14b1, H⟩
        ·have H' := Aside0.mk H
         clear H
         go_wp2
         go_meet
         case rel => exact ⟨_, (true), (by rfl), H', ⟨by have := HK1.out; omega⟩, ⟨by exact BK1315.out⟩, ⟨by exact BK1316.out⟩, ⟨by repeat (with_reducible exact HB.out)⟩⟩
        ·have H' := Aside0.mk H
         clear H
         go_wp2
         go_meet
         case rel => exact ⟨_, ((rd l0 x15_1) == 23), (by rfl), H', ⟨by have := HK1.out; omega⟩, ⟨by exact BK1315.out⟩, ⟨by exact BK1316.out⟩, ⟨by repeat (with_reducible exact HB.out)⟩⟩
    case rest =>
     clear HC10
     (try clear c7b0); (try clear c8b0); (try clear c9b0); (try clear hx1317_0); (try clear p1317); (try clear q1317)
     obtain ⟨kq, x11_9, rfl, HA, HJ9, BK1315, BK1316, HB⟩ := hcut
     cases kq with
     | zero => exact absurd HA.out (by simp [masklaw1_pair.j1])
     | succ kj9 =>
      have H := HA.out
      clear HA
      simp only [masklaw1_pair.j1] at H
      have HC15 := Aside0.mk H
      clear H
      go_upto_region 6 with ((refine boxA HB 12 #[.int .i64 0, .int .u64 0, .int .u64 0] 24 ?_; clear HB; intro gb1318 w16 BK1318 GE1318 hg hb HB; have NB1315_1318 := nbA BK1315 hg; have NB1318_1315 := nbB BK1315 hg; replace BK1315 := bk1 BK1315 hb; have NB1316_1318 := nbA BK1316 hg; have NB1318_1316 := nbB BK1316 hg; replace BK1316 := bk1 BK1316 hb; clear hb hg))
      (try simp only [Act.put, List.setIfInBounds_toArray, List.set_cons_zero, List.set_cons_succ])
      go_cut [52] (fun v52 wc => ∃ (kq : Nat) (x52_14 : Bool), v52 = .bool x52_14 ∧ Aside0 (masklaw1_pair.j2 kq a3 (rd l0 x15_1) l0 (l0.length : Int) x15_1 x52_14 a1_0 a1_1 a1_2 a2_0 a2_1 a2_2 0 0 0 = some r) ∧ Aside0 (kq ≤ kj9) ∧ Aside0 (wc.heap[gb1315]? = some (.cells #[.int .i64 a1_0, .int .u64 a1_1, .int .u64 a1_2] 24 (0, 0))) ∧ Aside0 (wc.heap[gb1316]? = some (.cells #[.int .i64 a2_0, .int .u64 a2_1, .int .u64 a2_2] 24 (0, 0))) ∧ Aside0 (wc.heap[gb1318]? = some (.cells #[.int .i64 0, .int .u64 0, .int .u64 0] 24 (0, 0))) ∧ Aside0 (Below w.heap.size w wc))
      case first =>
       have H := HC15.out
       clear HC15
       replace H := bN H; obtain ⟨t1319, A17, H⟩ := H
       replace H := iB H; rcases H with ⟨rfl, H⟩ | ⟨rfl, H⟩
       ·replace H := bN H; obtain ⟨t1320, A19, H⟩ := H
        replace H := iB H; rcases H with ⟨rfl, H⟩ | ⟨rfl, H⟩
        ·replace H := iB H; rcases H with ⟨rfl, H⟩ | ⟨rfl, H⟩
         ·have H' := Aside0.mk H
          clear H
          have hnb22 := NB1315_1316.out
          have hnc22 := NB1316_1315.out
          have hnb23 := NB1315_1318.out
          have hnc23 := NB1318_1315.out
          obtain ⟨hcz24_0, hcz24_1, hcz24_2, hfz24_0, hfz24_1, hfz24_2⟩ := cf3 BK1315
          go_wp2_with (first | (refine callA (some 38) Tryd.func14 #[.agg #[.int .i64 a1_0, .int .u64 a1_1, .int .u64 a1_2]] ?_; (with_reducible refine (maskref1_Valid.calls kj9 a1_0 a1_1 a1_2 true _ A17.out).mono ?_); rintro e w25 ⟨rfl, hb⟩; refine ⟨_, rfl, ?_⟩; replace BK1315 := bk1 BK1315 hb; replace BK1316 := bk1 BK1316 hb; replace BK1318 := bk1 BK1318 hb; replace HB := hb1 HB hb; (try clear hb); have hnb26 := NB1316_1318.out; have hnc26 := NB1318_1316.out; obtain ⟨hcz27_0, hcz27_1, hcz27_2, hfz27_0, hfz27_1, hfz27_2⟩ := cf3 BK1316) | (go_at_call 14; (with_reducible refine (maskref1_Valid.calls kj9 a2_0 a2_1 a2_2 true _ A19.out).mono ?_); rintro e w28 ⟨rfl, hb⟩; replace BK1315 := bk1 BK1315 hb; replace BK1316 := bk1 BK1316 hb; replace BK1318 := bk1 BK1318 hb; replace HB := hb1 HB hb; (try clear hb)))
          go_meet
          case rel => exact ⟨_, (true), (by rfl), H', ⟨by have := HK1.out; have := HJ9.out; omega⟩, ⟨by exact BK1315.out⟩, ⟨by exact BK1316.out⟩, ⟨by exact BK1318.out⟩, ⟨by repeat (with_reducible exact HB.out)⟩⟩
         ·have H' := Aside0.mk H
          clear H
          have hnb29 := NB1315_1316.out
          have hnc29 := NB1316_1315.out
          have hnb30 := NB1315_1318.out
          have hnc30 := NB1318_1315.out
          obtain ⟨hcz31_0, hcz31_1, hcz31_2, hfz31_0, hfz31_1, hfz31_2⟩ := cf3 BK1315
          go_wp2_with (first | (refine callA (some 38) Tryd.func14 #[.agg #[.int .i64 a1_0, .int .u64 a1_1, .int .u64 a1_2]] ?_; (with_reducible refine (maskref1_Valid.calls kj9 a1_0 a1_1 a1_2 true _ A17.out).mono ?_); rintro e w32 ⟨rfl, hb⟩; refine ⟨_, rfl, ?_⟩; replace BK1315 := bk1 BK1315 hb; replace BK1316 := bk1 BK1316 hb; replace BK1318 := bk1 BK1318 hb; replace HB := hb1 HB hb; (try clear hb); have hnb33 := NB1316_1318.out; have hnc33 := NB1318_1316.out; obtain ⟨hcz34_0, hcz34_1, hcz34_2, hfz34_0, hfz34_1, hfz34_2⟩ := cf3 BK1316) | (go_at_call 14; (with_reducible refine (maskref1_Valid.calls kj9 a2_0 a2_1 a2_2 true _ A19.out).mono ?_); rintro e w35 ⟨rfl, hb⟩; replace BK1315 := bk1 BK1315 hb; replace BK1316 := bk1 BK1316 hb; replace BK1318 := bk1 BK1318 hb; replace HB := hb1 HB hb; (try clear hb); obtain ⟨hcz36_0, hcz36_1, hcz36_2, hfz36_0, hfz36_1, hfz36_2⟩ := cf3 BK1315; obtain ⟨hcz37_0, hcz37_1, hcz37_2, hfz37_0, hfz37_1, hfz37_2⟩ := cf3 BK1316))
          go_meet
          case rel => exact ⟨_, (a1_0 == a2_0), (by rfl), H', ⟨by have := HK1.out; have := HJ9.out; omega⟩, ⟨by exact BK1315.out⟩, ⟨by exact BK1316.out⟩, ⟨by exact BK1318.out⟩, ⟨by repeat (with_reducible exact HB.out)⟩⟩
        ·have H' := Aside0.mk H
         clear H
         have hnb38 := NB1315_1316.out
         have hnc38 := NB1316_1315.out
         have hnb39 := NB1315_1318.out
         have hnc39 := NB1318_1315.out
         obtain ⟨hcz40_0, hcz40_1, hcz40_2, hfz40_0, hfz40_1, hfz40_2⟩ := cf3 BK1315
         go_wp2_with (first | (refine callA (some 38) Tryd.func14 #[.agg #[.int .i64 a1_0, .int .u64 a1_1, .int .u64 a1_2]] ?_; (with_reducible refine (maskref1_Valid.calls kj9 a1_0 a1_1 a1_2 true _ A17.out).mono ?_); rintro e w41 ⟨rfl, hb⟩; refine ⟨_, rfl, ?_⟩; replace BK1315 := bk1 BK1315 hb; replace BK1316 := bk1 BK1316 hb; replace BK1318 := bk1 BK1318 hb; replace HB := hb1 HB hb; (try clear hb); have hnb42 := NB1316_1318.out; have hnc42 := NB1318_1316.out; obtain ⟨hcz43_0, hcz43_1, hcz43_2, hfz43_0, hfz43_1, hfz43_2⟩ := cf3 BK1316) | (go_at_call 14; (with_reducible refine (maskref1_Valid.calls kj9 a2_0 a2_1 a2_2 false _ A19.out).mono ?_); rintro e w44 ⟨rfl, hb⟩; replace BK1315 := bk1 BK1315 hb; replace BK1316 := bk1 BK1316 hb; replace BK1318 := bk1 BK1318 hb; replace HB := hb1 HB hb; (try clear hb)))
         go_meet
         case rel => exact ⟨_, (false), (by rfl), H', ⟨by have := HK1.out; have := HJ9.out; omega⟩, ⟨by exact BK1315.out⟩, ⟨by exact BK1316.out⟩, ⟨by exact BK1318.out⟩, ⟨by repeat (with_reducible exact HB.out)⟩⟩
       ·have H' := Aside0.mk H
        clear H
        have hnb45 := NB1315_1316.out
        have hnc45 := NB1316_1315.out
        have hnb46 := NB1315_1318.out
        have hnc46 := NB1318_1315.out
        obtain ⟨hcz47_0, hcz47_1, hcz47_2, hfz47_0, hfz47_1, hfz47_2⟩ := cf3 BK1315
        go_wp2_with ((refine callA (some 38) Tryd.func14 #[.agg #[.int .i64 a1_0, .int .u64 a1_1, .int .u64 a1_2]] ?_; (with_reducible refine (maskref1_Valid.calls kj9 a1_0 a1_1 a1_2 false _ A17.out).mono ?_); rintro e w48 ⟨rfl, hb⟩; refine ⟨_, rfl, ?_⟩; replace BK1315 := bk1 BK1315 hb; replace BK1316 := bk1 BK1316 hb; replace BK1318 := bk1 BK1318 hb; replace HB := hb1 HB hb; (try clear hb)))
        go_meet
        case rel => exact ⟨_, (false), (by rfl), H', ⟨by have := HK1.out; have := HJ9.out; omega⟩, ⟨by exact BK1315.out⟩, ⟨by exact BK1316.out⟩, ⟨by exact BK1318.out⟩, ⟨by repeat (with_reducible exact HB.out)⟩⟩
      case rest =>
       clear HC15
       obtain ⟨kq, x52_14, rfl, HA, HJ14, BK1315, BK1316, BK1318, HB⟩ := hcut
       cases kq with
       | zero => exact absurd HA.out (by simp [masklaw1_pair.j2])
       | succ kj14 =>
        have H := HA.out
        clear HA
        simp only [masklaw1_pair.j2] at H
        have HC49 := Aside0.mk H
        clear H
        go_upto_if 52 with (fail)
        go_cut [] (fun wc => ∃ (kq : Nat) (x1319000_48 : Int) (x1319001_48 : Int) (x1319002_48 : Int), Aside0 (masklaw1_pair.j3 kq a3 (rd l0 x15_1) l0 (l0.length : Int) x15_1 a1_0 a1_1 a1_2 a2_0 a2_1 a2_2 x1319000_48 x1319001_48 x1319002_48 = some r) ∧ Aside0 (kq ≤ kj14) ∧ Aside0 (wc.heap[gb1315]? = some (.cells #[.int .i64 a1_0, .int .u64 a1_1, .int .u64 a1_2] 24 (0, 0))) ∧ Aside0 (wc.heap[gb1316]? = some (.cells #[.int .i64 a2_0, .int .u64 a2_1, .int .u64 a2_2] 24 (0, 0))) ∧ Aside0 (wc.heap[gb1318]? = some (.cells #[.int .i64 x1319000_48, .int .u64 x1319001_48, .int .u64 x1319002_48] 24 (0, 0))) ∧ Aside0 (Below w.heap.size w wc))
        case first =>
         have H := HC49.out
         clear HC49
         replace H := iB H; rcases H with ⟨rfl, H⟩ | ⟨rfl, H⟩
         ·replace H := bN H; obtain ⟨t1321, A51, H⟩ := H
          replace H := bN H; obtain ⟨t1324, A52, H⟩ := H
          replace H := bN H; obtain ⟨t1327, A53, H⟩ := H
          replace H := bN H; obtain ⟨⟨t1330, t1331, t1332⟩, A54, H⟩ := H; dsimp only at H
          have H' := Aside0.mk H
          clear H
          try go_wp2
          replace BK1315 := bkd BK1315
          replace BK1316 := bkd BK1316
          replace BK1318 := bkd BK1318
          replace HB := hbd HB
          refine start_ (n := 9) (S := fun w' => w'.cell? ⟨gb1315, 0, none⟩ = some (.int .i64 a1_0) ∧ w'.cell? ⟨gb1315, 1, none⟩ = some (.int .u64 a1_1) ∧ w'.cell? ⟨gb1315, 2, none⟩ = some (.int .u64 a1_2) ∧ w'.cell? ⟨gb1316, 0, none⟩ = some (.int .i64 a2_0) ∧ w'.cell? ⟨gb1316, 1, none⟩ = some (.int .u64 a2_1) ∧ w'.cell? ⟨gb1316, 2, none⟩ = some (.int .u64 a2_2)) (ds := []) (tb 9 0) (by kernel_rfl) rfl (by kernel_rfl) (c3 BK1315 (d3 BK1316)) (fun hHeld => ?_); refine with_tabW masklaw1_pair.tab7 masklaw1_pair.bits7 (fun HT_ HW_ => ?_)
          generalize wc.drew = w55 at BK1315 BK1316 BK1318 HB hHeld ⊢
          refine pA 0 53 (tb 9 1) HT_ ?_
          refine pA 5 58 (tb 9 33) HT_ ?_
          refine tA 1 54 (tb 9 35) HT_ HW_ hHeld ?_
          refine tA 3 56 (tb 9 43) HT_ HW_ hHeld ?_
          refine oA 2 (some 55) (tb 9 47) HT_ (fun K hK => ?_)
          refine gA Tryd.func28 #[.agg #[.int .i64 a1_0, .int .u64 a1_1, .int .u64 a1_2]] ?_
          with_reducible refine (maskref1_V.calls kj14 a1_0 a1_1 a1_2 t1321 _ A51.out).mono ?_
          rintro e w56 ⟨v1322, rfl, ho0, hb⟩
          refine ⟨_, rfl, ?_⟩
          have HO1323 := Aside0.mk (Kd.R_lower ho0 (below_size HB.out))
          replace BK1315 := bk1 BK1315 hb
          replace BK1316 := bk1 BK1316 hb
          replace BK1318 := bk1 BK1318 hb
          replace HB := hb1 HB hb
          (try clear hb)
          (try clear ho0)
          refine hK.out _ _ (c3 BK1315 (d3 BK1316)) (fun hHeld => ?_)
          clear hK K
          refine nA ?_
          refine oA 4 (some 57) (tb 9 63) HT_ (fun K hK => ?_)
          refine gA Tryd.func28 #[.agg #[.int .i64 a2_0, .int .u64 a2_1, .int .u64 a2_2]] ?_
          with_reducible refine (maskref1_V.calls kj14 a2_0 a2_1 a2_2 t1324 _ A52.out).mono ?_
          rintro e w57 ⟨v1325, rfl, ho0, hb⟩
          refine ⟨_, rfl, ?_⟩
          have HO1326 := Aside0.mk (Kd.R_lower (Kd.R_new' ho0 (Kd.R_lt HO1323.out)) (below_size HB.out))
          replace HO1323 := Aside0.mk (Kd.R_elder' HO1323.out (Kd.R_base ho0) hb)
          replace BK1315 := bk1 BK1315 hb
          replace BK1316 := bk1 BK1316 hb
          replace BK1318 := bk1 BK1318 hb
          replace HB := hb1 HB hb
          (try clear hb)
          (try clear ho0)
          obtain ⟨Ao58, co58, eo58⟩ := Kd.R_slice HO1323.out
          (subst eo58)
          obtain ⟨Ao59, co59, eo59⟩ := Kd.R_slice HO1326.out
          (subst eo59)
          refine hK.out _ _ (c3 BK1315 (d3 BK1316)) (fun hHeld => ?_)
          clear hK K
          refine nA ?_
          refine oA 6 (some 59) (tb 9 127) HT_ (fun K hK => ?_)
          refine gA Tryd.func68 #[.int .i64 (rd l0 x15_1), .slice Ao58 t1321.length co58, .slice Ao59 t1324.length co59, .bool a3] ?_
          with_reducible refine (maskref1_Binary.calls kj14 (rd l0 x15_1) (fun k_ => some k_ = (.slice Ao58 t1321.length co58 : Value).ownBlock) (.slice Ao58 t1321.length co58) t1321 (fun k_ => some k_ = (.slice Ao59 t1324.length co59 : Value).ownBlock) (.slice Ao59 t1324.length co59) t1324 a3 t1327 w _ ?side1 ?side2 ?side3 ?side4 ?side5 A53.out).mono ?_
          (case side1 => repeat (with_reducible exact HB.out))
          (case side2 => exact Kd.R_tight rfl HO1323.out)
          (case side3 => exact fun k_ e_ => (HO1323.out.1 k_ e_.symm).2)
          (case side4 => exact Kd.R_tight rfl HO1326.out)
          (case side5 => exact fun k_ e_ => (HO1326.out.1 k_ e_.symm).2)
          rintro e w60 ⟨v1328, rfl, ho0, hb, hkp⟩
          refine ⟨_, rfl, ?_⟩
          replace BK1315 := Aside0.mk (blk_kept BK1315.out hkp (fun hs_ => Or.elim hs_ (fun e_ => (fun e_ => (Kd.R_ne HO1323.out BK1315.out (by decide)) e_) e_) (fun e_ => (fun e_ => (Kd.R_ne HO1326.out BK1315.out (by decide)) e_) e_)))
          replace BK1316 := Aside0.mk (blk_kept BK1316.out hkp (fun hs_ => Or.elim hs_ (fun e_ => (fun e_ => (Kd.R_ne HO1323.out BK1316.out (by decide)) e_) e_) (fun e_ => (fun e_ => (Kd.R_ne HO1326.out BK1316.out (by decide)) e_) e_)))
          replace BK1318 := Aside0.mk (blk_kept BK1318.out hkp (fun hs_ => Or.elim hs_ (fun e_ => (fun e_ => (Kd.R_ne HO1323.out BK1318.out (by decide)) e_) e_) (fun e_ => (fun e_ => (Kd.R_ne HO1326.out BK1318.out (by decide)) e_) e_)))
          have HO1329 := Aside0.mk (Kd.R_mono (ok' := fun k_ => True) ho0 (fun k_ hk_ => trivial))
          replace HB := Aside0.mk (hb)
          clear HO1323 HO1326
          (try clear hb)
          (try clear hkp)
          (try clear ho0)
          obtain ⟨Ao61, co61, eo61⟩ := Kd.R_slice HO1329.out
          (subst eo61)
          refine hK.out _ _ (c3 BK1315 (d3 BK1316)) (fun hHeld => ?_)
          clear hK K
          refine nA ?_
          refine oA 7 (some 60) (tb 9 255) HT_ (fun K hK => ?_)
          refine gA Tryd.func26 #[.slice Ao61 t1327.length co61] ?_
          with_reducible refine (maskref1_B.calls kj14 _ _ t1327 t1330 t1331 t1332 _ ?side1 ?side2 A54.out).mono ?_
          (case side1 => exact (Kd.R_reads' HO1329.out).2.2)
          (case side2 => exact (Kd.R_reads' HO1329.out).2.1)
          rintro e w62 ⟨rfl, hb⟩
          refine ⟨_, rfl, ?_⟩
          replace HO1329 := Kd.rb1 HO1329 hb
          replace BK1315 := bk1 BK1315 hb
          replace BK1316 := bk1 BK1316 hb
          replace BK1318 := bk1 BK1318 hb
          replace HB := hb1 HB hb
          (try clear hb)
          refine hK.out _ _ (c3 BK1315 (d3 BK1316)) (fun hHeld => ?_)
          clear hK K
          refine nA ?_
          refine oA 8 (none) (tb 9 511) HT_ (fun K hK => ?_)
          have hs63 : w62.cell? ⟨gb1318, 0, none⟩ = some (.int .i64 0) := (blk_cell BK1318.out 0).trans rfl
          have hfs63 := blk_frozen BK1318.out 0
          have hns63_0 := NB1315_1318.out
          have hns63_1 := NB1316_1318.out
          have hms63_0 := NB1318_1315.out
          have hms63_1 := NB1318_1316.out
          have hs64 : w62.cell? ⟨gb1318, 1, none⟩ = some (.int .u64 0) := (blk_cell BK1318.out 1).trans rfl
          have hfs64 := blk_frozen BK1318.out 1
          have hns64_0 := NB1315_1318.out
          have hns64_1 := NB1316_1318.out
          have hms64_0 := NB1318_1315.out
          have hms64_1 := NB1318_1316.out
          have hs65 : w62.cell? ⟨gb1318, 2, none⟩ = some (.int .u64 0) := (blk_cell BK1318.out 2).trans rfl
          have hfs65 := blk_frozen BK1318.out 2
          have hns65_0 := NB1315_1318.out
          have hns65_1 := NB1316_1318.out
          have hms65_0 := NB1318_1315.out
          have hms65_1 := NB1318_1316.out
          refine skip_ (w1 := ?_) (by rfl) rfl ?_ ?_
          rotate_left
          ·go_simp
           rfl
          refine hK.out _ _ ⟨((cell_far (p := ⟨gb1318, _, none⟩) NB1315_1318.out _).trans (((cell_far (p := ⟨gb1318, _, none⟩) NB1315_1318.out _).trans (((cell_far (p := ⟨gb1318, _, none⟩) NB1315_1318.out _).trans (hHeld.1)))))), ((cell_far (p := ⟨gb1318, _, none⟩) NB1315_1318.out _).trans (((cell_far (p := ⟨gb1318, _, none⟩) NB1315_1318.out _).trans (((cell_far (p := ⟨gb1318, _, none⟩) NB1315_1318.out _).trans (hHeld.2.1)))))), ((cell_far (p := ⟨gb1318, _, none⟩) NB1315_1318.out _).trans (((cell_far (p := ⟨gb1318, _, none⟩) NB1315_1318.out _).trans (((cell_far (p := ⟨gb1318, _, none⟩) NB1315_1318.out _).trans (hHeld.2.2.1)))))), ((cell_far (p := ⟨gb1318, _, none⟩) NB1316_1318.out _).trans (((cell_far (p := ⟨gb1318, _, none⟩) NB1316_1318.out _).trans (((cell_far (p := ⟨gb1318, _, none⟩) NB1316_1318.out _).trans (hHeld.2.2.2.1)))))), ((cell_far (p := ⟨gb1318, _, none⟩) NB1316_1318.out _).trans (((cell_far (p := ⟨gb1318, _, none⟩) NB1316_1318.out _).trans (((cell_far (p := ⟨gb1318, _, none⟩) NB1316_1318.out _).trans (hHeld.2.2.2.2.1)))))), ((cell_far (p := ⟨gb1318, _, none⟩) NB1316_1318.out _).trans (((cell_far (p := ⟨gb1318, _, none⟩) NB1316_1318.out _).trans (((cell_far (p := ⟨gb1318, _, none⟩) NB1316_1318.out _).trans (hHeld.2.2.2.2.2))))))⟩ (fun hHeld => ?_)
          clear hK K
          refine done_ (done_of HT_.out (by kernel_rfl)) ?_
          try go_wp2
          go_meet
          case rel => exact ⟨_, (t1330), (t1331), (t1332), H', ⟨by have := HK1.out; have := HJ9.out; have := HJ14.out; omega⟩, ⟨by refine blk_far ?_ NB1315_1318.out _; refine blk_far ?_ NB1315_1318.out _; refine blk_far ?_ NB1315_1318.out _; exact BK1315.out⟩, ⟨by refine blk_far ?_ NB1316_1318.out _; refine blk_far ?_ NB1316_1318.out _; refine blk_far ?_ NB1316_1318.out _; exact BK1316.out⟩, ⟨by refine blk_put (cs := #[.int .i64 t1330, .int .u64 t1331, .int .u64 0]) ?_ 2 _ rfl; refine blk_put (cs := #[.int .i64 t1330, .int .u64 0, .int .u64 0]) ?_ 1 _ rfl; refine blk_put (cs := #[.int .i64 0, .int .u64 0, .int .u64 0]) ?_ 0 _ rfl; exact BK1318.out⟩, ⟨by repeat (with_reducible first | exact HB.out | refine below_set ?_ GE1318.out)⟩⟩
         ·have H' := Aside0.mk H
          clear H
          go_wp2
          go_meet
          case rel => exact ⟨_, (0), (0), (0), H', ⟨by have := HK1.out; have := HJ9.out; have := HJ14.out; omega⟩, ⟨by exact BK1315.out⟩, ⟨by exact BK1316.out⟩, ⟨by exact BK1318.out⟩, ⟨by repeat (with_reducible exact HB.out)⟩⟩
        case rest =>
         clear HC49
         obtain ⟨kq, x1319000_48, x1319001_48, x1319002_48, HA, HJ48, BK1315, BK1316, BK1318, HB⟩ := hcut
         cases kq with
         | zero => exact absurd HA.out (by simp [masklaw1_pair.j3])
         | succ kj48 =>
          have H := HA.out
          clear HA
          simp only [masklaw1_pair.j3] at H
          replace H := bN H; obtain ⟨⟨t1333, t1334, t1335⟩, A66, H⟩ := H; dsimp only at H
          by_cases c67 : (!(t1333 == x1319000_48) || (!(t1334 == x1319001_48) || (!(t1335 == x1319002_48)))) = true
          ·rw [if_pos c67] at H
           have c67b0 : (!(t1333 == x1319000_48) || (!(t1334 == x1319001_48) || (!(t1335 == x1319002_48)))) = true := c67
           clear c67
           obtain rfl := Option.some.inj H
           try go_wp2
           replace BK1315 := bkd BK1315
           replace BK1316 := bkd BK1316
           replace BK1318 := bkd BK1318
           replace HB := hbd HB
           refine start_ (n := 7) (S := fun w' => w'.cell? ⟨gb1315, 0, none⟩ = some (.int .i64 a1_0) ∧ w'.cell? ⟨gb1315, 1, none⟩ = some (.int .u64 a1_1) ∧ w'.cell? ⟨gb1315, 2, none⟩ = some (.int .u64 a1_2) ∧ w'.cell? ⟨gb1316, 0, none⟩ = some (.int .i64 a2_0) ∧ w'.cell? ⟨gb1316, 1, none⟩ = some (.int .u64 a2_1) ∧ w'.cell? ⟨gb1316, 2, none⟩ = some (.int .u64 a2_2) ∧ w'.cell? ⟨gb1318, 0, none⟩ = some (.int .i64 x1319000_48) ∧ w'.cell? ⟨gb1318, 1, none⟩ = some (.int .u64 x1319001_48) ∧ w'.cell? ⟨gb1318, 2, none⟩ = some (.int .u64 x1319002_48)) (ds := []) (tb 7 0) (by kernel_rfl) rfl (by kernel_rfl) (c3 BK1315 (c3 BK1316 (d3 BK1318))) (fun hHeld => ?_)
           generalize wc.drew = w68 at BK1315 BK1316 BK1318 HB hHeld ⊢
           refine pure_ (i := 0) (N := some 61) (v := ?_) (a' := ?_) #[true, false, false, false, false, false, false] rfl rfl (by kernel_rfl) (fun _ _ _ h => h) (Or.inl ⟨by rfl, ?_⟩) ?_ ?_
           rotate_left
           ·intro w'
            go_simp
            with_reducible rfl
           rotate_left
           ·simp only [Act.put, List.setIfInBounds_toArray, List.set_cons_zero, List.set_cons_succ, i64_w, i32_w]
            rfl
           refine pure_ (i := 3) (N := some 64) (v := ?_) (a' := ?_) #[true, false, false, true, false, false, false] rfl rfl (by kernel_rfl) (fun _ _ _ h => h) (Or.inl ⟨by rfl, ?_⟩) ?_ ?_
           rotate_left
           ·intro w'
            go_simp
            with_reducible rfl
           rotate_left
           ·simp only [Act.put, List.setIfInBounds_toArray, List.set_cons_zero, List.set_cons_succ, i64_w, i32_w]
            rfl
           refine take_ (i := 1) (N := some 62) (v := ?_) (a' := ?_) #[true, true, false, true, false, false, false] rfl rfl (by kernel_rfl) (fun _ _ _ h => h) (Or.inl ⟨by rfl, ?_⟩) hHeld ?_ ?_
           rotate_left
           ·rintro w' ⟨s0, s1, s2, s3, s4, s5, s6, s7, s8⟩
            go_simp
            with_reducible rfl
           rotate_left
           ·simp only [Act.put, List.setIfInBounds_toArray, List.set_cons_zero, List.set_cons_succ, i64_w, i32_w]
            rfl
           refine take_ (i := 2) (N := some 63) (v := ?_) (a' := ?_) #[true, true, true, true, false, false, false] rfl rfl (by kernel_rfl) (fun _ _ _ h => h) (Or.inl ⟨by rfl, ?_⟩) hHeld ?_ ?_
           rotate_left
           ·rintro w' ⟨s0, s1, s2, s3, s4, s5, s6, s7, s8⟩
            go_simp
            with_reducible rfl
           rotate_left
           ·simp only [Act.put, List.setIfInBounds_toArray, List.set_cons_zero, List.set_cons_succ, i64_w, i32_w]
            rfl
           refine take_ (i := 5) (N := some 66) (v := ?_) (a' := ?_) #[true, true, true, true, false, true, false] rfl rfl (by kernel_rfl) (fun _ _ _ h => h) (Or.inl ⟨by rfl, ?_⟩) hHeld ?_ ?_
           rotate_left
           ·rintro w' ⟨s0, s1, s2, s3, s4, s5, s6, s7, s8⟩
            go_simp
            with_reducible rfl
           rotate_left
           ·simp only [Act.put, List.setIfInBounds_toArray, List.set_cons_zero, List.set_cons_succ, i64_w, i32_w]
            rfl
           refine one_ (i := 4) (N := some 65) #[true, true, true, true, true, true, false] rfl rfl (by kernel_rfl) (by decide) (fun K hK => ?_)
           refine gA Tryd.func69 #[.int .i64 (rd l0 x15_1), .agg #[.int .i64 a1_0, .int .u64 a1_1, .int .u64 a1_2], .agg #[.int .i64 a2_0, .int .u64 a2_1, .int .u64 a2_2], .bool a3] ?_
           with_reducible refine (masklaw1_binary.calls kj48 (rd l0 x15_1) a1_0 a1_1 a1_2 a2_0 a2_1 a2_2 a3 t1333 t1334 t1335 _ A66.out).mono ?_
           rintro e w69 ⟨rfl, hb⟩
           refine ⟨_, rfl, ?_⟩
           replace BK1315 := bk1 BK1315 hb
           replace BK1316 := bk1 BK1316 hb
           replace BK1318 := bk1 BK1318 hb
           replace HB := hb1 HB hb
           (try clear hb)
           refine hK.out _ _ (c3 BK1315 (c3 BK1316 (d3 BK1318))) (fun hHeld => ?_)
           clear hK K
           refine nA ?_
           refine pure_ (i := 6) (N := some 67) (v := ?_) (a' := ?_) #[true, true, true, true, true, true, true] rfl rfl (by kernel_rfl) (fun _ _ _ h => h) (Or.inl ⟨by rfl, ?_⟩) ?_ ?_
           rotate_left
           ·intro w'
            go_simp
            with_reducible rfl
           rotate_left
           ·simp only [Act.put, List.setIfInBounds_toArray, List.set_cons_zero, List.set_cons_succ, i64_w, i32_w]
            rfl
           refine done_ (by kernel_rfl) ?_
           try go_wp2
           go_ret
           exact ⟨by rfl, by repeat (with_reducible exact HB.out)⟩
          ·rw [if_neg c67] at H
           have c67b0 : (!(t1333 == x1319000_48) || (!(t1334 == x1319001_48) || (!(t1335 == x1319002_48)))) = false := by simpa using c67
           clear c67
           have H' := Aside0.mk H
           clear H
           try go_wp2
           replace BK1315 := bkd BK1315
           replace BK1316 := bkd BK1316
           replace BK1318 := bkd BK1318
           replace HB := hbd HB
           refine start_ (n := 7) (S := fun w' => w'.cell? ⟨gb1315, 0, none⟩ = some (.int .i64 a1_0) ∧ w'.cell? ⟨gb1315, 1, none⟩ = some (.int .u64 a1_1) ∧ w'.cell? ⟨gb1315, 2, none⟩ = some (.int .u64 a1_2) ∧ w'.cell? ⟨gb1316, 0, none⟩ = some (.int .i64 a2_0) ∧ w'.cell? ⟨gb1316, 1, none⟩ = some (.int .u64 a2_1) ∧ w'.cell? ⟨gb1316, 2, none⟩ = some (.int .u64 a2_2) ∧ w'.cell? ⟨gb1318, 0, none⟩ = some (.int .i64 x1319000_48) ∧ w'.cell? ⟨gb1318, 1, none⟩ = some (.int .u64 x1319001_48) ∧ w'.cell? ⟨gb1318, 2, none⟩ = some (.int .u64 x1319002_48)) (ds := []) (tb 7 0) (by kernel_rfl) rfl (by kernel_rfl) (c3 BK1315 (c3 BK1316 (d3 BK1318))) (fun hHeld => ?_)
           generalize wc.drew = w70 at BK1315 BK1316 BK1318 HB hHeld ⊢
           refine pure_ (i := 0) (N := some 61) (v := ?_) (a' := ?_) #[true, false, false, false, false, false, false] rfl rfl (by kernel_rfl) (fun _ _ _ h => h) (Or.inl ⟨by rfl, ?_⟩) ?_ ?_
           rotate_left
           ·intro w'
            go_simp
            with_reducible rfl
           rotate_left
           ·simp only [Act.put, List.setIfInBounds_toArray, List.set_cons_zero, List.set_cons_succ, i64_w, i32_w]
            rfl
           refine pure_ (i := 3) (N := some 64) (v := ?_) (a' := ?_) #[true, false, false, true, false, false, false] rfl rfl (by kernel_rfl) (fun _ _ _ h => h) (Or.inl ⟨by rfl, ?_⟩) ?_ ?_
           rotate_left
           ·intro w'
            go_simp
            with_reducible rfl
           rotate_left
           ·simp only [Act.put, List.setIfInBounds_toArray, List.set_cons_zero, List.set_cons_succ, i64_w, i32_w]
            rfl
           refine take_ (i := 1) (N := some 62) (v := ?_) (a' := ?_) #[true, true, false, true, false, false, false] rfl rfl (by kernel_rfl) (fun _ _ _ h => h) (Or.inl ⟨by rfl, ?_⟩) hHeld ?_ ?_
           rotate_left
           ·rintro w' ⟨s0, s1, s2, s3, s4, s5, s6, s7, s8⟩
            go_simp
            with_reducible rfl
           rotate_left
           ·simp only [Act.put, List.setIfInBounds_toArray, List.set_cons_zero, List.set_cons_succ, i64_w, i32_w]
            rfl
           refine take_ (i := 2) (N := some 63) (v := ?_) (a' := ?_) #[true, true, true, true, false, false, false] rfl rfl (by kernel_rfl) (fun _ _ _ h => h) (Or.inl ⟨by rfl, ?_⟩) hHeld ?_ ?_
           rotate_left
           ·rintro w' ⟨s0, s1, s2, s3, s4, s5, s6, s7, s8⟩
            go_simp
            with_reducible rfl
           rotate_left
           ·simp only [Act.put, List.setIfInBounds_toArray, List.set_cons_zero, List.set_cons_succ, i64_w, i32_w]
            rfl
           refine take_ (i := 5) (N := some 66) (v := ?_) (a' := ?_) #[true, true, true, true, false, true, false] rfl rfl (by kernel_rfl) (fun _ _ _ h => h) (Or.inl ⟨by rfl, ?_⟩) hHeld ?_ ?_
           rotate_left
           ·rintro w' ⟨s0, s1, s2, s3, s4, s5, s6, s7, s8⟩
            go_simp
            with_reducible rfl
           rotate_left
           ·simp only [Act.put, List.setIfInBounds_toArray, List.set_cons_zero, List.set_cons_succ, i64_w, i32_w]
            rfl
           refine one_ (i := 4) (N := some 65) #[true, true, true, true, true, true, false] rfl rfl (by kernel_rfl) (by decide) (fun K hK => ?_)
           refine gA Tryd.func69 #[.int .i64 (rd l0 x15_1), .agg #[.int .i64 a1_0, .int .u64 a1_1, .int .u64 a1_2], .agg #[.int .i64 a2_0, .int .u64 a2_1, .int .u64 a2_2], .bool a3] ?_
           with_reducible refine (masklaw1_binary.calls kj48 (rd l0 x15_1) a1_0 a1_1 a1_2 a2_0 a2_1 a2_2 a3 t1333 t1334 t1335 _ A66.out).mono ?_
           rintro e w71 ⟨rfl, hb⟩
           refine ⟨_, rfl, ?_⟩
           replace BK1315 := bk1 BK1315 hb
           replace BK1316 := bk1 BK1316 hb
           replace BK1318 := bk1 BK1318 hb
           replace HB := hb1 HB hb
           (try clear hb)
           refine hK.out _ _ (c3 BK1315 (c3 BK1316 (d3 BK1318))) (fun hHeld => ?_)
           clear hK K
           refine nA ?_
           refine pure_ (i := 6) (N := some 67) (v := ?_) (a' := ?_) #[true, true, true, true, true, true, true] rfl rfl (by kernel_rfl) (fun _ _ _ h => h) (Or.inl ⟨by rfl, ?_⟩) ?_ ?_
           rotate_left
           ·intro w'
            go_simp
            with_reducible rfl
           rotate_left
           ·simp only [Act.put, List.setIfInBounds_toArray, List.set_cons_zero, List.set_cons_succ, i64_w, i32_w]
            rfl
           refine done_ (by kernel_rfl) ?_
           try go_wp2
           go_roundg kj48
           case measure => have := HK1.out; have := HJ9.out; have := HJ14.out; have := HJ48.out; omega
           case rel => exact ⟨(wrap64 (x15_1 + 1)), (by rfl), H', ⟨by have := HK1.out; have := HJ9.out; have := HJ14.out; have := HJ48.out; omega⟩, ⟨by exact BK1315.out⟩, ⟨by exact BK1316.out⟩, ⟨by repeat (with_reducible exact HB.out)⟩⟩
   ·obtain rfl := Option.some.inj H
    go_wp2
    go_ret
    exact ⟨by rfl, by repeat (with_reducible exact HB.out)⟩
end Go.Proofs.YtfigblfjogpojaaDoor.PNum
end
section
namespace Go.Proofs.YtfigblfjogpojaaDoor.PNum
open Go.Proofs.YtfigblfjogpojaaDoor.PBits
open Go.RowKit Go.Proofs.YtfigblfjogpojaaDoorW.PrintWords Go.Proofs.YtfigblfjogpojaaDoorW.PrintLast Go.Proofs.YtfigblfjogpojaaDoorW.PrintMore
attribute [local go_sem] max2_int min2_int max_two min_two max_three min_three max_four min_four
set_option linter.unusedVariables false
set_option linter.unusedSimpArgs false
attribute [local go_sem high] eqA24
def masklaw1_BitsNumbers.j0 : Nat → Bool → Int → Int → Int → Int → Int → Int → Int → Int → Int → Option (Bool)
 | 0, _, _, _, _, _, _, _, _, _, _ => none
 | k + 1, x2, x1403000, x1403001, x1403002, x1404000, x1404001, x1404002, x1405000, x1405001, x1405002 => (masklaw1_vectors.f k).bind fun t1415 => (if t1415 = true then ((bits_Neg.f k x1403000 x1403001 x1403002).bind fun bt1416 => (if (bt1416.1 == x1405000 && (bt1416.2.1 == x1405001 && (bt1416.2.2 == x1405002))) = true then ((masklaw1_pair.f k (([16, 17, 18, 19, 20] : List Int)) x1403000 x1403001 x1403002 x1404000 x1404001 x1404002 x2).bind fun t1422 => (some t1422)) else (some false))) else (some false))
def masklaw1_BitsNumbers.f (k : Nat) (a0_0 : Int) (a0_1 : Int) (a0_2 : Int) (a1_0 : Int) (a1_1 : Int) (a1_2 : Int) (a2 : Bool) : Option (Bool) := (maskref1_Valid.f k a0_0 a0_1 a0_2).bind fun t1405 => (if t1405 = true then ((maskref1_V.f k a0_0 a0_1 a0_2).bind fun t1406 => ((maskref1_Unary.f k 6 t1406).bind fun t1409 => ((maskref1_B.f k t1409).bind fun bt1412 => (masklaw1_BitsNumbers.j0 k a2 a0_0 a0_1 a0_2 a1_0 a1_1 a1_2 bt1412.1 bt1412.2.1 bt1412.2.2)))) else (masklaw1_BitsNumbers.j0 k a2 a0_0 a0_1 a0_2 a1_0 a1_1 a1_2 0 0 0))
def masklaw1_BitsNumbers.T4 : Bool × List (List Nat × List Nat) := (true, [([], []), ([0, 0], [0]), ([1], [1]), ([2, 1, 1], [1, 2]), ([1], [1]), ([3, 4, 1], [1, 3, 4]), ([1, 5], [1, 5]), ([6, 3], [6]), ([7], [7]), ([7], [7]), ([7], [7]), ([7], [7]), ([8, 9, 10, 11, 7, 7], [7, 8, 9, 10, 11]), ([7, 12], [7, 12]), ([13, 12, 0, 1, 2, 3, 4, 5, 6, 7, 8, 9, 10, 11, 12, 13], [13])])
def masklaw1_BitsNumbers.B4 : List Nat := [0, 1, 3, 7, 3, 31, 63, 127, 255, 255, 255, 255, 4095, 8191, 16383]
theorem masklaw1_BitsNumbers.tab4 : rtab .any (opsOf Tryd.f10 4) = masklaw1_BitsNumbers.T4 := by kernel_rfl
theorem masklaw1_BitsNumbers.bits4 : waitsOk masklaw1_BitsNumbers.T4.2 masklaw1_BitsNumbers.B4 = true := by kernel_rfl
set_option maxHeartbeats 8000000 in
set_option maxRecDepth 100000 in
theorem masklaw1_BitsNumbers.calls (k : Nat) (a0_0 : Int) (a0_1 : Int) (a0_2 : Int) (a1_0 : Int) (a1_1 : Int) (a1_2 : Int) (a2 : Bool) (r : Bool) (w : World) (h : masklaw1_BitsNumbers.f k a0_0 a0_1 a0_2 a1_0 a1_1 a1_2 a2 = some r) :
  Calls Tryd.prog 10 #[.agg #[.int .i64 a0_0, .int .u64 a0_1, .int .u64 a0_2], .agg #[.int .i64 a1_0, .int .u64 a1_1, .int .u64 a1_2], .bool a2] w fun e w' => e = .returned (.bool r) ∧ Below w.heap.size w w' := by
 have hu24 := Tryd.underlying24
 have HB := Aside0.mk (Below.refl w.heap.size w)
 have H := h
 clear h
 unfold masklaw1_BitsNumbers.f at H
 replace H := bN H; obtain ⟨t1405, A4, H⟩ := H
 have HC5 := Aside0.mk H
 clear H
 go_enter Tryd.func10, Tryd.ntmps10
 go_upto_if 9 with (first | ((with_reducible refine gate_dst (N := 3) rfl ?_); (try (refine gate_guard (by rfl) ?_; dsimp only)); refine box_event ?hg (N := 3) ?hd (cs := #[.int .i64 a0_0, .int .u64 a0_1, .int .u64 a0_2]) (t := 24) ?hr ?_; (case hd => rfl); (case hg => rfl); (case hr => (go_simp; done)); intro gb1402 hg w6 hbox hb; have n0_ := Aside0.mk (below_step (by repeat (with_reducible exact HB.out)) hb); have n1_ := Aside0.mk (hbox); have n2_ := Aside0.mk ((by rw [hg]; exact (below_size (by repeat (with_reducible exact HB.out))) : w.heap.size ≤ gb1402)); have n3_ := Aside0.mk ((by rw [hg]; exact (below_size (by repeat (with_reducible exact HB.out))) : w.heap.size ≤ gb1402)); clear HB; have HB := n0_; have BK1402 := n1_; have GW1402 := n2_; have GE1402 := n3_; clear n0_ n1_ n2_ n3_; clear hb hbox hg) | ((with_reducible refine gate_dst (N := 4) rfl ?_); (try (refine gate_guard (by rfl) ?_; dsimp only)); refine box_event ?hg (N := 4) ?hd (cs := #[.int .i64 a1_0, .int .u64 a1_1, .int .u64 a1_2]) (t := 24) ?hr ?_; (case hd => rfl); (case hg => rfl); (case hr => (go_simp; done)); intro gb1403 hg w7 hbox hb; have n0_ := Aside0.mk (blk_below (g := gb1402) (o := .cells #[.int .i64 a0_0, .int .u64 a0_1, .int .u64 a0_2] 24 (0, 0)) (by exact BK1402.out) hb); have n1_ := Aside0.mk (below_step (by repeat (with_reducible exact HB.out)) hb); have n2_ := Aside0.mk (hbox); have n3_ := Aside0.mk ((by rw [hg]; exact (below_size (by repeat (with_reducible exact HB.out))) : w.heap.size ≤ gb1403)); have n4_ := Aside0.mk ((by rw [hg]; exact (below_size (by repeat (with_reducible exact HB.out))) : w.heap.size ≤ gb1403)); have n5_ := Aside0.mk ((by rw [hg]; exact Nat.ne_of_lt (blk_lt (g := gb1402) (o := .cells #[.int .i64 a0_0, .int .u64 a0_1, .int .u64 a0_2] 24 (0, 0)) (by exact BK1402.out)) : gb1402 ≠ gb1403)); have n6_ := Aside0.mk ((by rw [hg]; exact Nat.ne_of_gt (blk_lt (g := gb1402) (o := .cells #[.int .i64 a0_0, .int .u64 a0_1, .int .u64 a0_2] 24 (0, 0)) (by exact BK1402.out)) : gb1403 ≠ gb1402)); clear BK1402; clear HB; have BK1402 := n0_; have HB := n1_; have BK1403 := n2_; have GW1403 := n3_; have GE1403 := n4_; have NB1402_1403 := n5_; have NB1403_1402 := n6_; clear n0_ n1_ n2_ n3_ n4_ n5_ n6_; clear hb hbox hg) | ((with_reducible refine gate_dst (N := 7) rfl ?_); (try (refine gate_guard (by rfl) ?_; dsimp only)); refine box_event ?hg (N := 7) ?hd (cs := #[.int .i64 0, .int .u64 0, .int .u64 0]) (t := 24) ?hr ?_; (case hd => rfl); (case hg => rfl); (case hr => (go_simp; done)); intro gb1404 hg w8 hbox hb; have n0_ := Aside0.mk (blk_below (g := gb1402) (o := .cells #[.int .i64 a0_0, .int .u64 a0_1, .int .u64 a0_2] 24 (0, 0)) (by exact BK1402.out) hb); have n1_ := Aside0.mk (blk_below (g := gb1403) (o := .cells #[.int .i64 a1_0, .int .u64 a1_1, .int .u64 a1_2] 24 (0, 0)) (by exact BK1403.out) hb); have n2_ := Aside0.mk (below_step (by repeat (with_reducible exact HB.out)) hb); have n3_ := Aside0.mk (hbox); have n4_ := Aside0.mk ((by rw [hg]; exact (below_size (by repeat (with_reducible exact HB.out))) : w.heap.size ≤ gb1404)); have n5_ := Aside0.mk ((by rw [hg]; exact (below_size (by repeat (with_reducible exact HB.out))) : w.heap.size ≤ gb1404)); have n6_ := Aside0.mk ((by rw [hg]; exact Nat.ne_of_lt (blk_lt (g := gb1402) (o := .cells #[.int .i64 a0_0, .int .u64 a0_1, .int .u64 a0_2] 24 (0, 0)) (by exact BK1402.out)) : gb1402 ≠ gb1404)); have n7_ := Aside0.mk ((by rw [hg]; exact Nat.ne_of_gt (blk_lt (g := gb1402) (o := .cells #[.int .i64 a0_0, .int .u64 a0_1, .int .u64 a0_2] 24 (0, 0)) (by exact BK1402.out)) : gb1404 ≠ gb1402)); have n8_ := Aside0.mk ((by rw [hg]; exact Nat.ne_of_lt (blk_lt (g := gb1403) (o := .cells #[.int .i64 a1_0, .int .u64 a1_1, .int .u64 a1_2] 24 (0, 0)) (by exact BK1403.out)) : gb1403 ≠ gb1404)); have n9_ := Aside0.mk ((by rw [hg]; exact Nat.ne_of_gt (blk_lt (g := gb1403) (o := .cells #[.int .i64 a1_0, .int .u64 a1_1, .int .u64 a1_2] 24 (0, 0)) (by exact BK1403.out)) : gb1404 ≠ gb1403)); clear BK1402; clear BK1403; clear HB; have BK1402 := n0_; have BK1403 := n1_; have HB := n2_; have BK1404 := n3_; have GW1404 := n4_; have GE1404 := n5_; have NB1402_1404 := n6_; have NB1404_1402 := n7_; have NB1403_1404 := n8_; have NB1404_1403 := n9_; clear n0_ n1_ n2_ n3_ n4_ n5_ n6_ n7_ n8_ n9_; clear hb hbox hg; have hnb9 := NB1402_1403.out; have hnc9 := NB1403_1402.out; have hnb10 := NB1402_1404.out; have hnc10 := NB1404_1402.out; obtain ⟨hcz11_0, hcz11_1, hcz11_2, hfz11_0, hfz11_1, hfz11_2⟩ := cf3 BK1402) | (refine callA (some 9) Tryd.func14 #[.agg #[.int .i64 a0_0, .int .u64 a0_1, .int .u64 a0_2]] ?_; (with_reducible refine (maskref1_Valid.calls k a0_0 a0_1 a0_2 t1405 _ A4.out).mono ?_); rintro e w12 ⟨rfl, hb⟩; refine ⟨_, rfl, ?_⟩; have n0_ := Aside0.mk (blk_below (g := gb1402) (o := .cells #[.int .i64 a0_0, .int .u64 a0_1, .int .u64 a0_2] 24 (0, 0)) (by exact BK1402.out) hb); have n1_ := Aside0.mk (blk_below (g := gb1403) (o := .cells #[.int .i64 a1_0, .int .u64 a1_1, .int .u64 a1_2] 24 (0, 0)) (by exact BK1403.out) hb); have n2_ := Aside0.mk (blk_below (g := gb1404) (o := .cells #[.int .i64 0, .int .u64 0, .int .u64 0] 24 (0, 0)) (by exact BK1404.out) hb); have n3_ := Aside0.mk (below_step (by repeat (with_reducible exact HB.out)) hb); clear BK1402; clear BK1403; clear BK1404; clear HB; have BK1402 := n0_; have BK1403 := n1_; have BK1404 := n2_; have HB := n3_; clear n0_ n1_ n2_ n3_; (try clear hb)))
 (try simp only [Act.put, List.setIfInBounds_toArray, List.set_cons_zero, List.set_cons_succ])
 go_cut [] (fun wc => ∃ (kq : Nat) (x1405000_4 : Int) (x1405001_4 : Int) (x1405002_4 : Int), Aside0 (masklaw1_BitsNumbers.j0 kq a2 a0_0 a0_1 a0_2 a1_0 a1_1 a1_2 x1405000_4 x1405001_4 x1405002_4 = some r) ∧ Aside0 (kq ≤ k) ∧ Aside0 (wc.heap[gb1402]? = some (.cells #[.int .i64 a0_0, .int .u64 a0_1, .int .u64 a0_2] 24 (0, 0))) ∧ Aside0 (wc.heap[gb1403]? = some (.cells #[.int .i64 a1_0, .int .u64 a1_1, .int .u64 a1_2] 24 (0, 0))) ∧ Aside0 (wc.heap[gb1404]? = some (.cells #[.int .i64 x1405000_4, .int .u64 x1405001_4, .int .u64 x1405002_4] 24 (0, 0))) ∧ Aside0 (Below w.heap.size w wc))
 case first =>
  have H := HC5.out
  clear HC5
  replace H := iB H; rcases H with ⟨rfl, H⟩ | ⟨rfl, H⟩
  ·replace H := bN H; obtain ⟨t1406, A14, H⟩ := H
   replace H := bN H; obtain ⟨t1409, A15, H⟩ := H
   replace H := bN H; obtain ⟨⟨t1412, t1413, t1414⟩, A16, H⟩ := H; dsimp only at H
   have H' := Aside0.mk H
   clear H
   have hnb17 := NB1402_1403.out
   have hnc17 := NB1403_1402.out
   have hnb18 := NB1402_1404.out
   have hnc18 := NB1404_1402.out
   obtain ⟨hcz19_0, hcz19_1, hcz19_2, hfz19_0, hfz19_1, hfz19_2⟩ := cf3 BK1402
   go_wp2_with (first | (refine callA (some 11) Tryd.func28 #[.agg #[.int .i64 a0_0, .int .u64 a0_1, .int .u64 a0_2]] ?_; (with_reducible refine (maskref1_V.calls k a0_0 a0_1 a0_2 t1406 _ A14.out).mono ?_); rintro e w20 ⟨v1407, rfl, ho0, hb⟩; refine ⟨_, rfl, ?_⟩; have n0_ := Aside0.mk (Kd.R_lower ho0 (below_size (by repeat (with_reducible exact HB.out)))); have n1_ := Aside0.mk (blk_below (g := gb1402) (o := .cells #[.int .i64 a0_0, .int .u64 a0_1, .int .u64 a0_2] 24 (0, 0)) (by exact BK1402.out) hb); have n2_ := Aside0.mk (blk_below (g := gb1403) (o := .cells #[.int .i64 a1_0, .int .u64 a1_1, .int .u64 a1_2] 24 (0, 0)) (by exact BK1403.out) hb); have n3_ := Aside0.mk (blk_below (g := gb1404) (o := .cells #[.int .i64 0, .int .u64 0, .int .u64 0] 24 (0, 0)) (by exact BK1404.out) hb); have n4_ := Aside0.mk (below_step (by repeat (with_reducible exact HB.out)) hb); clear BK1402; clear BK1403; clear BK1404; clear HB; have HO1408 := n0_; have BK1402 := n1_; have BK1403 := n2_; have BK1404 := n3_; have HB := n4_; clear n0_ n1_ n2_ n3_ n4_; (try clear hb); (try clear ho0); obtain ⟨Ao21, co21, eo21⟩ := Kd.R_slice HO1408.out; subst eo21) | (refine callA (some 12) Tryd.func47 #[.int .i64 6, .slice Ao21 t1406.length co21] ?_; (with_reducible refine (maskref1_Unary.calls k 6 (fun k_ => some k_ = (.slice Ao21 t1406.length co21 : Value).ownBlock) (.slice Ao21 t1406.length co21) t1406 t1409 w _ ?side1 ?side2 A15.out).mono ?_); (case side1 => repeat (with_reducible exact HB.out)); (case side2 => exact Kd.R_tight rfl HO1408.out); rintro e w22 ⟨v1410, rfl, ho0, hb, hkp⟩; refine ⟨_, rfl, ?_⟩; have n0_ := Aside0.mk (blk_kept (by exact BK1402.out) hkp (fun hs_ => (fun e_ => (Kd.R_ne HO1408.out BK1402.out (by decide)) e_) hs_)); have n1_ := Aside0.mk (blk_kept (by exact BK1403.out) hkp (fun hs_ => (fun e_ => (Kd.R_ne HO1408.out BK1403.out (by decide)) e_) hs_)); have n2_ := Aside0.mk (blk_kept (by exact BK1404.out) hkp (fun hs_ => (fun e_ => (Kd.R_ne HO1408.out BK1404.out (by decide)) e_) hs_)); have n3_ := Aside0.mk (Kd.R_mono (ok' := fun k_ => True) ho0 (fun k_ hk_ => trivial)); have n4_ := Aside0.mk (hb); clear BK1402; clear BK1403; clear BK1404; clear HB; clear HO1408; have BK1402 := n0_; have BK1403 := n1_; have BK1404 := n2_; have HO1411 := n3_; have HB := n4_; clear n0_ n1_ n2_ n3_ n4_; (try clear hb); (try clear hkp); (try clear ho0); obtain ⟨Ao23, co23, eo23⟩ := Kd.R_slice HO1411.out; subst eo23) | (refine callA (some 13) Tryd.func26 #[.slice Ao23 t1409.length co23] ?_; (with_reducible refine (maskref1_B.calls k _ _ t1409 t1412 t1413 t1414 _ ?side1 ?side2 A16.out).mono ?_); (case side1 => exact (Kd.R_reads' HO1411.out).2.2); (case side2 => exact (Kd.R_reads' HO1411.out).2.1); rintro e w24 ⟨rfl, hb⟩; refine ⟨_, rfl, ?_⟩; have n0_ := Aside0.mk (Kd.R_below (by exact HO1411.out) hb); have n1_ := Aside0.mk (blk_below (g := gb1402) (o := .cells #[.int .i64 a0_0, .int .u64 a0_1, .int .u64 a0_2] 24 (0, 0)) (by exact BK1402.out) hb); have n2_ := Aside0.mk (blk_below (g := gb1403) (o := .cells #[.int .i64 a1_0, .int .u64 a1_1, .int .u64 a1_2] 24 (0, 0)) (by exact BK1403.out) hb); have n3_ := Aside0.mk (blk_below (g := gb1404) (o := .cells #[.int .i64 0, .int .u64 0, .int .u64 0] 24 (0, 0)) (by exact BK1404.out) hb); have n4_ := Aside0.mk (below_step (by repeat (with_reducible exact HB.out)) hb); clear HO1411; clear BK1402; clear BK1403; clear BK1404; clear HB; have HO1411 := n0_; have BK1402 := n1_; have BK1403 := n2_; have BK1404 := n3_; have HB := n4_; clear n0_ n1_ n2_ n3_ n4_; (try clear hb); have hnb25 := NB1404_1403.out; have hnc25 := NB1403_1404.out; obtain ⟨hcz26_0, hcz26_1, hcz26_2, hfz26_0, hfz26_1, hfz26_2⟩ := cf3 BK1404))
   go_meet
   case rel => exact ⟨_, (t1412), (t1413), (t1414), H', ⟨by omega⟩, ⟨by refine blk_far ?_ NB1402_1404.out _; refine blk_far ?_ NB1402_1404.out _; refine blk_far ?_ NB1402_1404.out _; exact BK1402.out⟩, ⟨by refine blk_far ?_ NB1403_1404.out _; refine blk_far ?_ NB1403_1404.out _; refine blk_far ?_ NB1403_1404.out _; exact BK1403.out⟩, ⟨by refine blk_put (cs := #[.int .i64 t1412, .int .u64 t1413, .int .u64 0]) ?_ 2 _ rfl; refine blk_put (cs := #[.int .i64 t1412, .int .u64 0, .int .u64 0]) ?_ 1 _ rfl; refine blk_put (cs := #[.int .i64 0, .int .u64 0, .int .u64 0]) ?_ 0 _ rfl; exact BK1404.out⟩, ⟨by repeat (with_reducible first | exact HB.out | refine below_set ?_ GE1404.out)⟩⟩
  ·have H' := Aside0.mk H
   clear H
   go_wp2
   go_meet
   case rel => exact ⟨_, (0), (0), (0), H', ⟨by omega⟩, ⟨by exact BK1402.out⟩, ⟨by exact BK1403.out⟩, ⟨by exact BK1404.out⟩, ⟨by repeat (with_reducible exact HB.out)⟩⟩
 case rest =>
  clear HC5
  (try clear hcz11_0 hcz11_1 hcz11_2); (try clear hfz11_0 hfz11_1 hfz11_2)
  obtain ⟨kq, x1405000_4, x1405001_4, x1405002_4, HA, HJ4, BK1402, BK1403, BK1404, HB⟩ := hcut
  cases kq with
  | zero => exact absurd HA.out (by simp [masklaw1_BitsNumbers.j0])
  | succ kj4 =>
   have H := HA.out
   clear HA
   simp only [masklaw1_BitsNumbers.j0] at H
   replace H := bN H; obtain ⟨t1415, A27, H⟩ := H
   replace H := iB H; rcases H with ⟨rfl, H⟩ | ⟨rfl, H⟩
   ·replace H := bN H; obtain ⟨⟨t1416, t1417, t1418⟩, A29, H⟩ := H; dsimp only at H
    by_cases c30 : (t1416 == x1405000_4 && (t1417 == x1405001_4 && (t1418 == x1405002_4))) = true
    ·rw [if_pos c30] at H
     have c30b0 : (t1416 == x1405000_4 && (t1417 == x1405001_4 && (t1418 == x1405002_4))) = true := c30
     (try (have c30b1 : decide (t1416 = x1405000_4 && (t1417 == x1405001_4 && (t1418 == x1405002_4))) = true := by simpa using c30))
     (try (have c30b2 : (t1416 == x1405000_4 && (t1417 == x1405001_4 && (t1418 == x1405002_4))) = true := by simpa using c30))
     clear c30
     obtain ⟨y1419, hy1419⟩ : ∃ y_ : List Int, y_ = ([16, 17, 18, 19, 20] : List Int) := ⟨_, rfl⟩
     replace H : ((masklaw1_pair.f kj4 y1419 a0_0 a0_1 a0_2 a1_0 a1_1 a1_2 a2).bind fun t1422 => (some t1422)) = some r := by (rw [hy1419]; with_reducible exact H)
     have Ny1419 := Aside0.mk hy1419
     clear hy1419
     replace H := bN H; obtain ⟨t1422, A31, H⟩ := H
     obtain rfl := Option.some.inj H
     try go_wp2
     have n0_ := Aside0.mk (blk_drew BK1402.out)
     have n1_ := Aside0.mk (blk_drew BK1403.out)
     have n2_ := Aside0.mk (blk_drew BK1404.out)
     have n3_ := Aside0.mk (below_drew1 HB.out)
     clear BK1402
     clear BK1403
     clear BK1404
     clear HB
     have BK1402 := n0_
     have BK1403 := n1_
     have BK1404 := n2_
     have HB := n3_
     clear n0_ n1_ n2_ n3_
     refine start_ (n := 15) (S := fun w' => w'.cell? ⟨gb1402, 0, none⟩ = some (.int .i64 a0_0) ∧ w'.cell? ⟨gb1402, 1, none⟩ = some (.int .u64 a0_1) ∧ w'.cell? ⟨gb1402, 2, none⟩ = some (.int .u64 a0_2) ∧ w'.cell? ⟨gb1404, 0, none⟩ = some (.int .i64 x1405000_4) ∧ w'.cell? ⟨gb1404, 1, none⟩ = some (.int .u64 x1405001_4) ∧ w'.cell? ⟨gb1404, 2, none⟩ = some (.int .u64 x1405002_4) ∧ w'.cell? ⟨gb1403, 0, none⟩ = some (.int .i64 a1_0) ∧ w'.cell? ⟨gb1403, 1, none⟩ = some (.int .u64 a1_1) ∧ w'.cell? ⟨gb1403, 2, none⟩ = some (.int .u64 a1_2)) (ds := []) #[false, false, false, false, false, false, false, false, false, false, false, false, false, false, false] (by kernel_rfl) rfl rfl ⟨(blk_cell BK1402.out 0).trans rfl, (blk_cell BK1402.out 1).trans rfl, (blk_cell BK1402.out 2).trans rfl, (blk_cell BK1404.out 0).trans rfl, (blk_cell BK1404.out 1).trans rfl, (blk_cell BK1404.out 2).trans rfl, (blk_cell BK1403.out 0).trans rfl, (blk_cell BK1403.out 1).trans rfl, (blk_cell BK1403.out 2).trans rfl⟩ (fun hHeld => ?_); refine with_tabW masklaw1_BitsNumbers.tab4 masklaw1_BitsNumbers.bits4 (fun HT_ HW_ => ?_)
     generalize wc.drew = w32 at BK1402 BK1403 BK1404 HB hHeld ⊢
     refine one_ (i := 0) (N := some 14) #[true, false, false, false, false, false, false, false, false, false, false, false, false, false, false] rfl rfl (one_of HT_.out (by kernel_rfl)) (by decide) (fun K hK => ?_)
     refine goes_ Tryd.func11 (by kernel_rfl) rfl #[] (by rfl) rfl rfl (by (try simp only [List.map_toArray, List.map_cons, List.map_nil]); done) ?_
     with_reducible refine (masklaw1_vectors.calls kj4  true _ A27.out).mono ?_
     rintro e w33 ⟨rfl, hb⟩
     refine ⟨_, rfl, ?_⟩
     have n0_ := Aside0.mk (blk_below (g := gb1402) (o := .cells #[.int .i64 a0_0, .int .u64 a0_1, .int .u64 a0_2] 24 (0, 0)) (by exact BK1402.out) hb)
     have n1_ := Aside0.mk (blk_below (g := gb1403) (o := .cells #[.int .i64 a1_0, .int .u64 a1_1, .int .u64 a1_2] 24 (0, 0)) (by exact BK1403.out) hb)
     have n2_ := Aside0.mk (blk_below (g := gb1404) (o := .cells #[.int .i64 x1405000_4, .int .u64 x1405001_4, .int .u64 x1405002_4] 24 (0, 0)) (by exact BK1404.out) hb)
     have n3_ := Aside0.mk (below_step (by repeat (with_reducible exact HB.out)) hb)
     clear BK1402
     clear BK1403
     clear BK1404
     clear HB
     have BK1402 := n0_
     have BK1403 := n1_
     have BK1404 := n2_
     have HB := n3_
     clear n0_ n1_ n2_ n3_
     (try clear hb)
     refine hK.out _ _ ⟨(blk_cell BK1402.out 0).trans rfl, (blk_cell BK1402.out 1).trans rfl, (blk_cell BK1402.out 2).trans rfl, (blk_cell BK1404.out 0).trans rfl, (blk_cell BK1404.out 1).trans rfl, (blk_cell BK1404.out 2).trans rfl, (blk_cell BK1403.out 0).trans rfl, (blk_cell BK1403.out 1).trans rfl, (blk_cell BK1403.out 2).trans rfl⟩ (fun hHeld => ?_)
     clear hK K
     refine norm_ (a' := ?_) ?_ ?_
     rotate_left
     ·show Act.put _ (some 14) _ = _
      simp only [Act.put, List.setIfInBounds_toArray, List.set_cons_zero, List.set_cons_succ, i64_w, i32_w]
      rfl
     refine pure_ (i := 1) (N := some 15) (v := ?_) (a' := ?_) #[true, true, false, false, false, false, false, false, false, false, false, false, false, false, false] rfl rfl (any_of HT_.out (by kernel_rfl)) (fun _ _ _ h => h) (Or.inl ⟨by rfl, ?_⟩) ?_ ?_
     rotate_left
     ·intro w'
      go_simp
      with_reducible rfl
     rotate_left
     ·simp only [Act.put, List.setIfInBounds_toArray, List.set_cons_zero, List.set_cons_succ, i64_w, i32_w]
      rfl
     refine take_ (i := 2) (N := some 16) (v := ?_) (a' := ?_) #[true, true, true, false, false, false, false, false, false, false, false, false, false, false, false] rfl rfl (take_ofW HT_.out HW_.out (by kernel_rfl)) (fun _ _ _ h => h) (Or.inl ⟨by rfl, ?_⟩) hHeld ?_ ?_
     rotate_left
     ·rintro w' ⟨s0, s1, s2, s3, s4, s5, s6, s7, s8⟩
      go_simp
      with_reducible rfl
     rotate_left
     ·simp only [Act.put, List.setIfInBounds_toArray, List.set_cons_zero, List.set_cons_succ, i64_w, i32_w]
      rfl
     refine take_ (i := 4) (N := some 18) (v := ?_) (a' := ?_) #[true, true, true, false, true, false, false, false, false, false, false, false, false, false, false] rfl rfl (take_ofW HT_.out HW_.out (by kernel_rfl)) (fun _ _ _ h => h) (Or.inl ⟨by rfl, ?_⟩) hHeld ?_ ?_
     rotate_left
     ·rintro w' ⟨s0, s1, s2, s3, s4, s5, s6, s7, s8⟩
      go_simp
      with_reducible rfl
     rotate_left
     ·simp only [Act.put, List.setIfInBounds_toArray, List.set_cons_zero, List.set_cons_succ, i64_w, i32_w]
      rfl
     refine one_ (i := 3) (N := some 17) #[true, true, true, true, true, false, false, false, false, false, false, false, false, false, false] rfl rfl (one_of HT_.out (by kernel_rfl)) (by decide) (fun K hK => ?_)
     refine goes_ Tryd.func48 (by kernel_rfl) rfl #[.agg #[.int .i64 a0_0, .int .u64 a0_1, .int .u64 a0_2]] (by rfl) rfl rfl (by (try simp only [List.map_toArray, List.map_cons, List.map_nil]); rfl) ?_
     with_reducible refine (bits_Neg.calls kj4 a0_0 a0_1 a0_2 t1416 t1417 t1418 _ A29.out).mono ?_
     rintro e w34 ⟨rfl, hb⟩
     refine ⟨_, rfl, ?_⟩
     have n0_ := Aside0.mk (blk_below (g := gb1402) (o := .cells #[.int .i64 a0_0, .int .u64 a0_1, .int .u64 a0_2] 24 (0, 0)) (by exact BK1402.out) hb)
     have n1_ := Aside0.mk (blk_below (g := gb1403) (o := .cells #[.int .i64 a1_0, .int .u64 a1_1, .int .u64 a1_2] 24 (0, 0)) (by exact BK1403.out) hb)
     have n2_ := Aside0.mk (blk_below (g := gb1404) (o := .cells #[.int .i64 x1405000_4, .int .u64 x1405001_4, .int .u64 x1405002_4] 24 (0, 0)) (by exact BK1404.out) hb)
     have n3_ := Aside0.mk (below_step (by repeat (with_reducible exact HB.out)) hb)
     clear BK1402
     clear BK1403
     clear BK1404
     clear HB
     have BK1402 := n0_
     have BK1403 := n1_
     have BK1404 := n2_
     have HB := n3_
     clear n0_ n1_ n2_ n3_
     (try clear hb)
     refine hK.out _ _ ⟨(blk_cell BK1402.out 0).trans rfl, (blk_cell BK1402.out 1).trans rfl, (blk_cell BK1402.out 2).trans rfl, (blk_cell BK1404.out 0).trans rfl, (blk_cell BK1404.out 1).trans rfl, (blk_cell BK1404.out 2).trans rfl, (blk_cell BK1403.out 0).trans rfl, (blk_cell BK1403.out 1).trans rfl, (blk_cell BK1403.out 2).trans rfl⟩ (fun hHeld => ?_)
     clear hK K
     refine norm_ (a' := ?_) ?_ ?_
     rotate_left
     ·show Act.put _ (some 17) _ = _
      simp only [Act.put, List.setIfInBounds_toArray, List.set_cons_zero, List.set_cons_succ, i64_w, i32_w]
      rfl
     refine pure_ (i := 5) (N := some 19) (v := ?_) (a' := ?_) #[true, true, true, true, true, true, false, false, false, false, false, false, false, false, false] rfl rfl (any_of HT_.out (by kernel_rfl)) (fun _ _ _ h => h) (Or.inl ⟨by rfl, ?_⟩) ?_ ?_
     rotate_left
     ·intro w'
      go_simp
      with_reducible rfl
     rotate_left
     ·simp only [Act.put, List.setIfInBounds_toArray, List.set_cons_zero, List.set_cons_succ, i64_w, i32_w]
      rfl
     refine pure_ (i := 6) (N := some 20) (v := ?_) (a' := ?_) #[true, true, true, true, true, true, true, false, false, false, false, false, false, false, false] rfl rfl (any_of HT_.out (by kernel_rfl)) (fun _ _ _ h => h) (Or.inl ⟨by rfl, ?_⟩) ?_ ?_
     rotate_left
     ·intro w'
      go_simp
      with_reducible rfl
     rotate_left
     ·simp only [Act.put, List.setIfInBounds_toArray, List.set_cons_zero, List.set_cons_succ, i64_w, i32_w]
      rfl
     refine pure_ (i := 7) (N := some 21) (v := ?_) (a' := ?_) #[true, true, true, true, true, true, true, true, false, false, false, false, false, false, false] rfl rfl (any_of HT_.out (by kernel_rfl)) (fun _ _ _ h => h) (Or.inl ⟨by rfl, ?_⟩) ?_ ?_
     rotate_left
     ·intro w'
      go_simp
      with_reducible rfl
     rotate_left
     ·simp only [Act.put, List.setIfInBounds_toArray, List.set_cons_zero, List.set_cons_succ, i64_w, i32_w]
      rfl
     refine pure_ (i := 11) (N := some 25) (v := ?_) (a' := ?_) #[true, true, true, true, true, true, true, true, false, false, false, true, false, false, false] rfl rfl (any_of HT_.out (by kernel_rfl)) (fun _ _ _ h => h) (Or.inl ⟨by rfl, ?_⟩) ?_ ?_
     rotate_left
     ·intro w'
      go_simp
      with_reducible rfl
     rotate_left
     ·simp only [Act.put, List.setIfInBounds_toArray, List.set_cons_zero, List.set_cons_succ, i64_w, i32_w]
      rfl
     refine take_ (i := 9) (N := some 23) (v := ?_) (a' := ?_) #[true, true, true, true, true, true, true, true, false, true, false, true, false, false, false] rfl rfl (take_ofW HT_.out HW_.out (by kernel_rfl)) (fun _ _ _ h => h) (Or.inl ⟨by rfl, ?_⟩) hHeld ?_ ?_
     rotate_left
     ·rintro w' ⟨s0, s1, s2, s3, s4, s5, s6, s7, s8⟩
      go_simp
      with_reducible rfl
     rotate_left
     ·simp only [Act.put, List.setIfInBounds_toArray, List.set_cons_zero, List.set_cons_succ, i64_w, i32_w]
      rfl
     refine take_ (i := 10) (N := some 24) (v := ?_) (a' := ?_) #[true, true, true, true, true, true, true, true, false, true, true, true, false, false, false] rfl rfl (take_ofW HT_.out HW_.out (by kernel_rfl)) (fun _ _ _ h => h) (Or.inl ⟨by rfl, ?_⟩) hHeld ?_ ?_
     rotate_left
     ·rintro w' ⟨s0, s1, s2, s3, s4, s5, s6, s7, s8⟩
      go_simp
      with_reducible rfl
     rotate_left
     ·simp only [Act.put, List.setIfInBounds_toArray, List.set_cons_zero, List.set_cons_succ, i64_w, i32_w]
      rfl
     refine one_ (i := 8) (N := some 22) #[true, true, true, true, true, true, true, true, true, true, true, true, false, false, false] rfl rfl (one_of HT_.out (by kernel_rfl)) (by decide) (fun K hK => ?_)
     refine Kd.R_lit_step (Kd.int .i64) _ 3 ?hg (N := 22) ?hd (xs := ([16, 17, 18, 19, 20] : List Int)) (inner := [.int .i64 16, .int .i64 17, .int .i64 18, .int .i64 19, .int .i64 20]) (ok := fun _ => True) (okp := fun _ => True) ?hr ?hp (fun _ hk => hk) trivial (Below.refl _ _) (Nat.le_refl _) (by simp) ?_; (case hd => rfl); (case hg => rfl); (case hr => (go_simp; done)); (case hp => exact (Reps.one (show Kd.M (Kd.int .i64) _ _ _ 16 [.int .i64 16] from rfl) (Reps.one (show Kd.M (Kd.int .i64) _ _ _ 17 [.int .i64 17] from rfl) (Reps.one (show Kd.M (Kd.int .i64) _ _ _ 18 [.int .i64 18] from rfl) (Reps.one (show Kd.M (Kd.int .i64) _ _ _ 19 [.int .i64 19] from rfl) (Reps.one (show Kd.M (Kd.int .i64) _ _ _ 20 [.int .i64 20] from rfl) (Reps.none _ _)))))))
     intro v1420 w35 ho36 hb hg_ hnew_
     clear hg_ hnew_
     (rw [← Ny1419.out] at ho36)
     have n0_ := Aside0.mk (Kd.R_lower ho36 (below_size (by repeat (with_reducible exact HB.out))))
     have n1_ := Aside0.mk (blk_below (g := gb1402) (o := .cells #[.int .i64 a0_0, .int .u64 a0_1, .int .u64 a0_2] 24 (0, 0)) (by exact BK1402.out) hb)
     have n2_ := Aside0.mk (blk_below (g := gb1403) (o := .cells #[.int .i64 a1_0, .int .u64 a1_1, .int .u64 a1_2] 24 (0, 0)) (by exact BK1403.out) hb)
     have n3_ := Aside0.mk (blk_below (g := gb1404) (o := .cells #[.int .i64 x1405000_4, .int .u64 x1405001_4, .int .u64 x1405002_4] 24 (0, 0)) (by exact BK1404.out) hb)
     have n4_ := Aside0.mk (below_step (by repeat (with_reducible exact HB.out)) hb)
     clear BK1402
     clear BK1403
     clear BK1404
     clear HB
     have HO1421 := n0_
     have BK1402 := n1_
     have BK1403 := n2_
     have BK1404 := n3_
     have HB := n4_
     clear n0_ n1_ n2_ n3_ n4_
     clear hb ho36
     obtain ⟨Ao37, co37, eo37⟩ := Kd.R_slice HO1421.out
     (subst eo37)
     refine hK.out _ _ ⟨(blk_cell BK1402.out 0).trans rfl, (blk_cell BK1402.out 1).trans rfl, (blk_cell BK1402.out 2).trans rfl, (blk_cell BK1404.out 0).trans rfl, (blk_cell BK1404.out 1).trans rfl, (blk_cell BK1404.out 2).trans rfl, (blk_cell BK1403.out 0).trans rfl, (blk_cell BK1403.out 1).trans rfl, (blk_cell BK1403.out 2).trans rfl⟩ (fun hHeld => ?_)
     clear hK K
     refine norm_ (a' := ?_) ?_ ?_
     rotate_left
     ·show Act.put _ (some 22) _ = _
      simp only [Act.put, List.setIfInBounds_toArray, List.set_cons_zero, List.set_cons_succ, i64_w, i32_w]
      rfl
     refine one_ (i := 12) (N := some 26) #[true, true, true, true, true, true, true, true, true, true, true, true, true, false, false] rfl rfl (one_of HT_.out (by kernel_rfl)) (by decide) (fun K hK => ?_)
     refine goes_ Tryd.func46 (by kernel_rfl) rfl #[.slice Ao37 y1419.length co37, .agg #[.int .i64 a0_0, .int .u64 a0_1, .int .u64 a0_2], .agg #[.int .i64 a1_0, .int .u64 a1_1, .int .u64 a1_2], .bool a2] (by rfl) rfl rfl (by (try simp only [List.map_toArray, List.map_cons, List.map_nil]); rfl) ?_
     with_reducible refine (masklaw1_pair.calls kj4 _ _ y1419 a0_0 a0_1 a0_2 a1_0 a1_1 a1_2 a2 t1422 _ ?side1 ?side2 A31.out).mono ?_
     (case side1 => exact (Kd.R_reads' HO1421.out).2.2)
     (case side2 => exact (Kd.R_reads' HO1421.out).2.1)
     rintro e w38 ⟨rfl, hb⟩
     refine ⟨_, rfl, ?_⟩
     have n0_ := Aside0.mk (Kd.R_below (by exact HO1421.out) hb)
     have n1_ := Aside0.mk (blk_below (g := gb1402) (o := .cells #[.int .i64 a0_0, .int .u64 a0_1, .int .u64 a0_2] 24 (0, 0)) (by exact BK1402.out) hb)
     have n2_ := Aside0.mk (blk_below (g := gb1403) (o := .cells #[.int .i64 a1_0, .int .u64 a1_1, .int .u64 a1_2] 24 (0, 0)) (by exact BK1403.out) hb)
     have n3_ := Aside0.mk (blk_below (g := gb1404) (o := .cells #[.int .i64 x1405000_4, .int .u64 x1405001_4, .int .u64 x1405002_4] 24 (0, 0)) (by exact BK1404.out) hb)
     have n4_ := Aside0.mk (below_step (by repeat (with_reducible exact HB.out)) hb)
     clear HO1421
     clear BK1402
     clear BK1403
     clear BK1404
     clear HB
     have HO1421 := n0_
     have BK1402 := n1_
     have BK1403 := n2_
     have BK1404 := n3_
     have HB := n4_
     clear n0_ n1_ n2_ n3_ n4_
     (try clear hb)
     refine hK.out _ _ ⟨(blk_cell BK1402.out 0).trans rfl, (blk_cell BK1402.out 1).trans rfl, (blk_cell BK1402.out 2).trans rfl, (blk_cell BK1404.out 0).trans rfl, (blk_cell BK1404.out 1).trans rfl, (blk_cell BK1404.out 2).trans rfl, (blk_cell BK1403.out 0).trans rfl, (blk_cell BK1403.out 1).trans rfl, (blk_cell BK1403.out 2).trans rfl⟩ (fun hHeld => ?_)
     clear hK K
     refine norm_ (a' := ?_) ?_ ?_
     rotate_left
     ·show Act.put _ (some 26) _ = _
      simp only [Act.put, List.setIfInBounds_toArray, List.set_cons_zero, List.set_cons_succ, i64_w, i32_w]
      rfl
     refine pure_ (i := 13) (N := some 27) (v := ?_) (a' := ?_) #[true, true, true, true, true, true, true, true, true, true, true, true, true, true, false] rfl rfl (any_of HT_.out (by kernel_rfl)) (fun _ _ _ h => h) (Or.inl ⟨by rfl, ?_⟩) ?_ ?_
     rotate_left
     ·intro w'
      go_simp
      with_reducible rfl
     rotate_left
     ·simp only [Act.put, List.setIfInBounds_toArray, List.set_cons_zero, List.set_cons_succ, i64_w, i32_w]
      rfl
     refine pure_ (i := 14) (N := some 6) (v := ?_) (a' := ?_) #[true, true, true, true, true, true, true, true, true, true, true, true, true, true, true] rfl rfl (any_of HT_.out (by kernel_rfl)) (fun _ _ _ h => h) (Or.inl ⟨by rfl, ?_⟩) ?_ ?_
     rotate_left
     ·intro w'
      go_simp
      with_reducible rfl
     rotate_left
     ·simp only [Act.put, List.setIfInBounds_toArray, List.set_cons_zero, List.set_cons_succ, i64_w, i32_w]
      rfl
     refine done_ (done_of HT_.out (by kernel_rfl)) ?_
     try go_wp2
     go_ret
     exact ⟨by rfl, by repeat (with_reducible exact HB.out)⟩
    ·rw [if_neg c30] at H
     have c30b0 : (t1416 == x1405000_4 && (t1417 == x1405001_4 && (t1418 == x1405002_4))) = false := by simpa using c30
     (try (have c30b1 : decide (t1416 = x1405000_4 && (t1417 == x1405001_4 && (t1418 == x1405002_4))) = false := by simpa using c30))
     (try (have c30b2 : (t1416 == x1405000_4 && (t1417 == x1405001_4 && (t1418 == x1405002_4))) = false := by simpa using c30))
     (try (have c30b3 : ¬ (t1416 = x1405000_4 && (t1417 == x1405001_4 && (t1418 == x1405002_4))) := by simpa using c30))
     clear c30
     obtain rfl := Option.some.inj H
     try go_wp2
     have n0_ := Aside0.mk (blk_drew BK1402.out)
     have n1_ := Aside0.mk (blk_drew BK1403.out)
     have n2_ := Aside0.mk (blk_drew BK1404.out)
     have n3_ := Aside0.mk (below_drew1 HB.out)
     clear BK1402
     clear BK1403
     clear BK1404
     clear HB
     have BK1402 := n0_
     have BK1403 := n1_
     have BK1404 := n2_
     have HB := n3_
     clear n0_ n1_ n2_ n3_
     refine start_ (n := 15) (S := fun w' => w'.cell? ⟨gb1402, 0, none⟩ = some (.int .i64 a0_0) ∧ w'.cell? ⟨gb1402, 1, none⟩ = some (.int .u64 a0_1) ∧ w'.cell? ⟨gb1402, 2, none⟩ = some (.int .u64 a0_2) ∧ w'.cell? ⟨gb1404, 0, none⟩ = some (.int .i64 x1405000_4) ∧ w'.cell? ⟨gb1404, 1, none⟩ = some (.int .u64 x1405001_4) ∧ w'.cell? ⟨gb1404, 2, none⟩ = some (.int .u64 x1405002_4)) (ds := []) #[false, false, false, false, false, false, false, false, false, false, false, false, false, false, false] (by kernel_rfl) rfl rfl ⟨(blk_cell BK1402.out 0).trans rfl, (blk_cell BK1402.out 1).trans rfl, (blk_cell BK1402.out 2).trans rfl, (blk_cell BK1404.out 0).trans rfl, (blk_cell BK1404.out 1).trans rfl, (blk_cell BK1404.out 2).trans rfl⟩ (fun hHeld => ?_); refine with_tabW masklaw1_BitsNumbers.tab4 masklaw1_BitsNumbers.bits4 (fun HT_ HW_ => ?_)
     generalize wc.drew = w39 at BK1402 BK1403 BK1404 HB hHeld ⊢
     refine one_ (i := 0) (N := some 14) #[true, false, false, false, false, false, false, false, false, false, false, false, false, false, false] rfl rfl (one_of HT_.out (by kernel_rfl)) (by decide) (fun K hK => ?_)
     refine goes_ Tryd.func11 (by kernel_rfl) rfl #[] (by rfl) rfl rfl (by (try simp only [List.map_toArray, List.map_cons, List.map_nil]); done) ?_
     with_reducible refine (masklaw1_vectors.calls kj4  true _ A27.out).mono ?_
     rintro e w40 ⟨rfl, hb⟩
     refine ⟨_, rfl, ?_⟩
     have n0_ := Aside0.mk (blk_below (g := gb1402) (o := .cells #[.int .i64 a0_0, .int .u64 a0_1, .int .u64 a0_2] 24 (0, 0)) (by exact BK1402.out) hb)
     have n1_ := Aside0.mk (blk_below (g := gb1403) (o := .cells #[.int .i64 a1_0, .int .u64 a1_1, .int .u64 a1_2] 24 (0, 0)) (by exact BK1403.out) hb)
     have n2_ := Aside0.mk (blk_below (g := gb1404) (o := .cells #[.int .i64 x1405000_4, .int .u64 x1405001_4, .int .u64 x1405002_4] 24 (0, 0)) (by exact BK1404.out) hb)
     have n3_ := Aside0.mk (below_step (by repeat (with_reducible exact HB.out)) hb)
     clear BK1402
     clear BK1403
     clear BK1404
     clear HB
     have BK1402 := n0_
     have BK1403 := n1_
     have BK1404 := n2_
     have HB := n3_
     clear n0_ n1_ n2_ n3_
     (try clear hb)
     refine hK.out _ _ ⟨(blk_cell BK1402.out 0).trans rfl, (blk_cell BK1402.out 1).trans rfl, (blk_cell BK1402.out 2).trans rfl, (blk_cell BK1404.out 0).trans rfl, (blk_cell BK1404.out 1).trans rfl, (blk_cell BK1404.out 2).trans rfl⟩ (fun hHeld => ?_)
     clear hK K
     refine norm_ (a' := ?_) ?_ ?_
     rotate_left
     ·show Act.put _ (some 14) _ = _
      simp only [Act.put, List.setIfInBounds_toArray, List.set_cons_zero, List.set_cons_succ, i64_w, i32_w]
      rfl
     refine pure_ (i := 1) (N := some 15) (v := ?_) (a' := ?_) #[true, true, false, false, false, false, false, false, false, false, false, false, false, false, false] rfl rfl (any_of HT_.out (by kernel_rfl)) (fun _ _ _ h => h) (Or.inl ⟨by rfl, ?_⟩) ?_ ?_
     rotate_left
     ·intro w'
      go_simp
      with_reducible rfl
     rotate_left
     ·simp only [Act.put, List.setIfInBounds_toArray, List.set_cons_zero, List.set_cons_succ, i64_w, i32_w]
      rfl
     refine take_ (i := 2) (N := some 16) (v := ?_) (a' := ?_) #[true, true, true, false, false, false, false, false, false, false, false, false, false, false, false] rfl rfl (take_ofW HT_.out HW_.out (by kernel_rfl)) (fun _ _ _ h => h) (Or.inl ⟨by rfl, ?_⟩) hHeld ?_ ?_
     rotate_left
     ·rintro w' ⟨s0, s1, s2, s3, s4, s5⟩
      go_simp
      with_reducible rfl
     rotate_left
     ·simp only [Act.put, List.setIfInBounds_toArray, List.set_cons_zero, List.set_cons_succ, i64_w, i32_w]
      rfl
     refine take_ (i := 4) (N := some 18) (v := ?_) (a' := ?_) #[true, true, true, false, true, false, false, false, false, false, false, false, false, false, false] rfl rfl (take_ofW HT_.out HW_.out (by kernel_rfl)) (fun _ _ _ h => h) (Or.inl ⟨by rfl, ?_⟩) hHeld ?_ ?_
     rotate_left
     ·rintro w' ⟨s0, s1, s2, s3, s4, s5⟩
      go_simp
      with_reducible rfl
     rotate_left
     ·simp only [Act.put, List.setIfInBounds_toArray, List.set_cons_zero, List.set_cons_succ, i64_w, i32_w]
      rfl
     refine one_ (i := 3) (N := some 17) #[true, true, true, true, true, false, false, false, false, false, false, false, false, false, false] rfl rfl (one_of HT_.out (by kernel_rfl)) (by decide) (fun K hK => ?_)
     refine goes_ Tryd.func48 (by kernel_rfl) rfl #[.agg #[.int .i64 a0_0, .int .u64 a0_1, .int .u64 a0_2]] (by rfl) rfl rfl (by (try simp only [List.map_toArray, List.map_cons, List.map_nil]); rfl) ?_
     with_reducible refine (bits_Neg.calls kj4 a0_0 a0_1 a0_2 t1416 t1417 t1418 _ A29.out).mono ?_
     rintro e w41 ⟨rfl, hb⟩
     refine ⟨_, rfl, ?_⟩
     have n0_ := Aside0.mk (blk_below (g := gb1402) (o := .cells #[.int .i64 a0_0, .int .u64 a0_1, .int .u64 a0_2] 24 (0, 0)) (by exact BK1402.out) hb)
     have n1_ := Aside0.mk (blk_below (g := gb1403) (o := .cells #[.int .i64 a1_0, .int .u64 a1_1, .int .u64 a1_2] 24 (0, 0)) (by exact BK1403.out) hb)
     have n2_ := Aside0.mk (blk_below (g := gb1404) (o := .cells #[.int .i64 x1405000_4, .int .u64 x1405001_4, .int .u64 x1405002_4] 24 (0, 0)) (by exact BK1404.out) hb)
     have n3_ := Aside0.mk (below_step (by repeat (with_reducible exact HB.out)) hb)
     clear BK1402
     clear BK1403
     clear BK1404
     clear HB
     have BK1402 := n0_
     have BK1403 := n1_
     have BK1404 := n2_
     have HB := n3_
     clear n0_ n1_ n2_ n3_
     (try clear hb)
     refine hK.out _ _ ⟨(blk_cell BK1402.out 0).trans rfl, (blk_cell BK1402.out 1).trans rfl, (blk_cell BK1402.out 2).trans rfl, (blk_cell BK1404.out 0).trans rfl, (blk_cell BK1404.out 1).trans rfl, (blk_cell BK1404.out 2).trans rfl⟩ (fun hHeld => ?_)
     clear hK K
     refine norm_ (a' := ?_) ?_ ?_
     rotate_left
     ·show Act.put _ (some 17) _ = _
      simp only [Act.put, List.setIfInBounds_toArray, List.set_cons_zero, List.set_cons_succ, i64_w, i32_w]
      rfl
     refine pure_ (i := 5) (N := some 19) (v := ?_) (a' := ?_) #[true, true, true, true, true, true, false, false, false, false, false, false, false, false, false] rfl rfl (any_of HT_.out (by kernel_rfl)) (fun _ _ _ h => h) (Or.inl ⟨by rfl, ?_⟩) ?_ ?_
     rotate_left
     ·intro w'
      go_simp
      with_reducible rfl
     rotate_left
     ·simp only [Act.put, List.setIfInBounds_toArray, List.set_cons_zero, List.set_cons_succ, i64_w, i32_w]
      rfl
     refine pure_ (i := 6) (N := some 20) (v := ?_) (a' := ?_) #[true, true, true, true, true, true, true, false, false, false, false, false, false, false, false] rfl rfl (any_of HT_.out (by kernel_rfl)) (fun _ _ _ h => h) (Or.inl ⟨by rfl, ?_⟩) ?_ ?_
     rotate_left
     ·intro w'
      go_simp
      with_reducible rfl
     rotate_left
     ·simp only [Act.put, List.setIfInBounds_toArray, List.set_cons_zero, List.set_cons_succ, i64_w, i32_w]
      rfl
     refine pure_ (i := 7) (N := some 21) (v := ?_) (a' := ?_) #[true, true, true, true, true, true, true, true, false, false, false, false, false, false, false] rfl rfl (any_of HT_.out (by kernel_rfl)) (fun _ _ _ h => h) (Or.inl ⟨by rfl, ?_⟩) ?_ ?_
     rotate_left
     ·intro w'
      go_simp
      with_reducible rfl
     rotate_left
     ·simp only [Act.put, List.setIfInBounds_toArray, List.set_cons_zero, List.set_cons_succ, i64_w, i32_w]
      rfl
     refine pure_ (i := 8) (N := some 22) (v := undef) (a' := ?_) #[true, true, true, true, true, true, true, true, true, false, false, false, false, false, false] rfl rfl (any_of HT_.out (by kernel_rfl)) (fun _ _ _ h => h) (Or.inr ⟨by rfl, rfl⟩) ?_ ?_
     rotate_left
     ·simp only [Act.put, List.setIfInBounds_toArray, List.set_cons_zero, List.set_cons_succ, i64_w, i32_w]
      rfl
     refine pure_ (i := 9) (N := some 23) (v := undef) (a' := ?_) #[true, true, true, true, true, true, true, true, true, true, false, false, false, false, false] rfl rfl (any_of HT_.out (by kernel_rfl)) (fun _ _ _ h => h) (Or.inr ⟨by rfl, rfl⟩) ?_ ?_
     rotate_left
     ·simp only [Act.put, List.setIfInBounds_toArray, List.set_cons_zero, List.set_cons_succ, i64_w, i32_w]
      rfl
     refine pure_ (i := 10) (N := some 24) (v := undef) (a' := ?_) #[true, true, true, true, true, true, true, true, true, true, true, false, false, false, false] rfl rfl (any_of HT_.out (by kernel_rfl)) (fun _ _ _ h => h) (Or.inr ⟨by rfl, rfl⟩) ?_ ?_
     rotate_left
     ·simp only [Act.put, List.setIfInBounds_toArray, List.set_cons_zero, List.set_cons_succ, i64_w, i32_w]
      rfl
     refine pure_ (i := 11) (N := some 25) (v := undef) (a' := ?_) #[true, true, true, true, true, true, true, true, true, true, true, true, false, false, false] rfl rfl (any_of HT_.out (by kernel_rfl)) (fun _ _ _ h => h) (Or.inr ⟨by rfl, rfl⟩) ?_ ?_
     rotate_left
     ·simp only [Act.put, List.setIfInBounds_toArray, List.set_cons_zero, List.set_cons_succ, i64_w, i32_w]
      rfl
     refine pure_ (i := 12) (N := some 26) (v := undef) (a' := ?_) #[true, true, true, true, true, true, true, true, true, true, true, true, true, false, false] rfl rfl (any_of HT_.out (by kernel_rfl)) (fun _ _ _ h => h) (Or.inr ⟨by rfl, rfl⟩) ?_ ?_
     rotate_left
     ·simp only [Act.put, List.setIfInBounds_toArray, List.set_cons_zero, List.set_cons_succ, i64_w, i32_w]
      rfl
     refine pure_ (i := 13) (N := some 27) (v := ?_) (a' := ?_) #[true, true, true, true, true, true, true, true, true, true, true, true, true, true, false] rfl rfl (any_of HT_.out (by kernel_rfl)) (fun _ _ _ h => h) (Or.inl ⟨by rfl, ?_⟩) ?_ ?_
     rotate_left
     ·intro w'
      go_simp
      with_reducible rfl
     rotate_left
     ·simp only [Act.put, List.setIfInBounds_toArray, List.set_cons_zero, List.set_cons_succ, i64_w, i32_w]
      rfl
     refine pure_ (i := 14) (N := some 6) (v := ?_) (a' := ?_) #[true, true, true, true, true, true, true, true, true, true, true, true, true, true, true] rfl rfl (any_of HT_.out (by kernel_rfl)) (fun _ _ _ h => h) (Or.inl ⟨by rfl, ?_⟩) ?_ ?_
     rotate_left
     ·intro w'
      go_simp
      with_reducible rfl
     rotate_left
     ·simp only [Act.put, List.setIfInBounds_toArray, List.set_cons_zero, List.set_cons_succ, i64_w, i32_w]
      rfl
     refine done_ (done_of HT_.out (by kernel_rfl)) ?_
     try go_wp2
     go_ret
     exact ⟨by rfl, by repeat (with_reducible exact HB.out)⟩
   ·obtain rfl := Option.some.inj H
    try go_wp2
    have n0_ := Aside0.mk (blk_drew BK1402.out)
    have n1_ := Aside0.mk (blk_drew BK1403.out)
    have n2_ := Aside0.mk (blk_drew BK1404.out)
    have n3_ := Aside0.mk (below_drew1 HB.out)
    clear BK1402
    clear BK1403
    clear BK1404
    clear HB
    have BK1402 := n0_
    have BK1403 := n1_
    have BK1404 := n2_
    have HB := n3_
    clear n0_ n1_ n2_ n3_
    refine start_ (n := 15) (S := fun w' => True) (ds := []) #[false, false, false, false, false, false, false, false, false, false, false, false, false, false, false] (by kernel_rfl) rfl rfl trivial (fun hHeld => ?_); refine with_tabW masklaw1_BitsNumbers.tab4 masklaw1_BitsNumbers.bits4 (fun HT_ HW_ => ?_)
    generalize wc.drew = w42 at BK1402 BK1403 BK1404 HB hHeld ⊢
    refine one_ (i := 0) (N := some 14) #[true, false, false, false, false, false, false, false, false, false, false, false, false, false, false] rfl rfl (one_of HT_.out (by kernel_rfl)) (by decide) (fun K hK => ?_)
    refine goes_ Tryd.func11 (by kernel_rfl) rfl #[] (by rfl) rfl rfl (by (try simp only [List.map_toArray, List.map_cons, List.map_nil]); done) ?_
    with_reducible refine (masklaw1_vectors.calls kj4  false _ A27.out).mono ?_
    rintro e w43 ⟨rfl, hb⟩
    refine ⟨_, rfl, ?_⟩
    have n0_ := Aside0.mk (blk_below (g := gb1402) (o := .cells #[.int .i64 a0_0, .int .u64 a0_1, .int .u64 a0_2] 24 (0, 0)) (by exact BK1402.out) hb)
    have n1_ := Aside0.mk (blk_below (g := gb1403) (o := .cells #[.int .i64 a1_0, .int .u64 a1_1, .int .u64 a1_2] 24 (0, 0)) (by exact BK1403.out) hb)
    have n2_ := Aside0.mk (blk_below (g := gb1404) (o := .cells #[.int .i64 x1405000_4, .int .u64 x1405001_4, .int .u64 x1405002_4] 24 (0, 0)) (by exact BK1404.out) hb)
    have n3_ := Aside0.mk (below_step (by repeat (with_reducible exact HB.out)) hb)
    clear BK1402
    clear BK1403
    clear BK1404
    clear HB
    have BK1402 := n0_
    have BK1403 := n1_
    have BK1404 := n2_
    have HB := n3_
    clear n0_ n1_ n2_ n3_
    (try clear hb)
    refine hK.out _ _ trivial (fun hHeld => ?_)
    clear hK K
    refine norm_ (a' := ?_) ?_ ?_
    rotate_left
    ·show Act.put _ (some 14) _ = _
     simp only [Act.put, List.setIfInBounds_toArray, List.set_cons_zero, List.set_cons_succ, i64_w, i32_w]
     rfl
    refine pure_ (i := 1) (N := some 15) (v := ?_) (a' := ?_) #[true, true, false, false, false, false, false, false, false, false, false, false, false, false, false] rfl rfl (any_of HT_.out (by kernel_rfl)) (fun _ _ _ h => h) (Or.inl ⟨by rfl, ?_⟩) ?_ ?_
    rotate_left
    ·intro w'
     go_simp
     with_reducible rfl
    rotate_left
    ·simp only [Act.put, List.setIfInBounds_toArray, List.set_cons_zero, List.set_cons_succ, i64_w, i32_w]
     rfl
    refine pure_ (i := 2) (N := some 16) (v := undef) (a' := ?_) #[true, true, true, false, false, false, false, false, false, false, false, false, false, false, false] rfl rfl (any_of HT_.out (by kernel_rfl)) (fun _ _ _ h => h) (Or.inr ⟨by rfl, rfl⟩) ?_ ?_
    rotate_left
    ·simp only [Act.put, List.setIfInBounds_toArray, List.set_cons_zero, List.set_cons_succ, i64_w, i32_w]
     rfl
    refine pure_ (i := 3) (N := some 17) (v := undef) (a' := ?_) #[true, true, true, true, false, false, false, false, false, false, false, false, false, false, false] rfl rfl (any_of HT_.out (by kernel_rfl)) (fun _ _ _ h => h) (Or.inr ⟨by rfl, rfl⟩) ?_ ?_
    rotate_left
    ·simp only [Act.put, List.setIfInBounds_toArray, List.set_cons_zero, List.set_cons_succ, i64_w, i32_w]
     rfl
    refine pure_ (i := 4) (N := some 18) (v := undef) (a' := ?_) #[true, true, true, true, true, false, false, false, false, false, false, false, false, false, false] rfl rfl (any_of HT_.out (by kernel_rfl)) (fun _ _ _ h => h) (Or.inr ⟨by rfl, rfl⟩) ?_ ?_
    rotate_left
    ·simp only [Act.put, List.setIfInBounds_toArray, List.set_cons_zero, List.set_cons_succ, i64_w, i32_w]
     rfl
    refine pure_ (i := 5) (N := some 19) (v := undef) (a' := ?_) #[true, true, true, true, true, true, false, false, false, false, false, false, false, false, false] rfl rfl (any_of HT_.out (by kernel_rfl)) (fun _ _ _ h => h) (Or.inr ⟨by rfl, rfl⟩) ?_ ?_
    rotate_left
    ·simp only [Act.put, List.setIfInBounds_toArray, List.set_cons_zero, List.set_cons_succ, i64_w, i32_w]
     rfl
    refine pure_ (i := 6) (N := some 20) (v := ?_) (a' := ?_) #[true, true, true, true, true, true, true, false, false, false, false, false, false, false, false] rfl rfl (any_of HT_.out (by kernel_rfl)) (fun _ _ _ h => h) (Or.inl ⟨by rfl, ?_⟩) ?_ ?_
    rotate_left
    ·intro w'
     go_simp
     with_reducible rfl
    rotate_left
    ·simp only [Act.put, List.setIfInBounds_toArray, List.set_cons_zero, List.set_cons_succ, i64_w, i32_w]
     rfl
    refine pure_ (i := 7) (N := some 21) (v := ?_) (a' := ?_) #[true, true, true, true, true, true, true, true, false, false, false, false, false, false, false] rfl rfl (any_of HT_.out (by kernel_rfl)) (fun _ _ _ h => h) (Or.inl ⟨by rfl, ?_⟩) ?_ ?_
    rotate_left
    ·intro w'
     go_simp
     with_reducible rfl
    rotate_left
    ·simp only [Act.put, List.setIfInBounds_toArray, List.set_cons_zero, List.set_cons_succ, i64_w, i32_w]
     rfl
    refine pure_ (i := 8) (N := some 22) (v := undef) (a' := ?_) #[true, true, true, true, true, true, true, true, true, false, false, false, false, false, false] rfl rfl (any_of HT_.out (by kernel_rfl)) (fun _ _ _ h => h) (Or.inr ⟨by rfl, rfl⟩) ?_ ?_
    rotate_left
    ·simp only [Act.put, List.setIfInBounds_toArray, List.set_cons_zero, List.set_cons_succ, i64_w, i32_w]
     rfl
    refine pure_ (i := 9) (N := some 23) (v := undef) (a' := ?_) #[true, true, true, true, true, true, true, true, true, true, false, false, false, false, false] rfl rfl (any_of HT_.out (by kernel_rfl)) (fun _ _ _ h => h) (Or.inr ⟨by rfl, rfl⟩) ?_ ?_
    rotate_left
    ·simp only [Act.put, List.setIfInBounds_toArray, List.set_cons_zero, List.set_cons_succ, i64_w, i32_w]
     rfl
    refine pure_ (i := 10) (N := some 24) (v := undef) (a' := ?_) #[true, true, true, true, true, true, true, true, true, true, true, false, false, false, false] rfl rfl (any_of HT_.out (by kernel_rfl)) (fun _ _ _ h => h) (Or.inr ⟨by rfl, rfl⟩) ?_ ?_
    rotate_left
    ·simp only [Act.put, List.setIfInBounds_toArray, List.set_cons_zero, List.set_cons_succ, i64_w, i32_w]
     rfl
    refine pure_ (i := 11) (N := some 25) (v := undef) (a' := ?_) #[true, true, true, true, true, true, true, true, true, true, true, true, false, false, false] rfl rfl (any_of HT_.out (by kernel_rfl)) (fun _ _ _ h => h) (Or.inr ⟨by rfl, rfl⟩) ?_ ?_
    rotate_left
    ·simp only [Act.put, List.setIfInBounds_toArray, List.set_cons_zero, List.set_cons_succ, i64_w, i32_w]
     rfl
    refine pure_ (i := 12) (N := some 26) (v := undef) (a' := ?_) #[true, true, true, true, true, true, true, true, true, true, true, true, true, false, false] rfl rfl (any_of HT_.out (by kernel_rfl)) (fun _ _ _ h => h) (Or.inr ⟨by rfl, rfl⟩) ?_ ?_
    rotate_left
    ·simp only [Act.put, List.setIfInBounds_toArray, List.set_cons_zero, List.set_cons_succ, i64_w, i32_w]
     rfl
    refine pure_ (i := 13) (N := some 27) (v := ?_) (a' := ?_) #[true, true, true, true, true, true, true, true, true, true, true, true, true, true, false] rfl rfl (any_of HT_.out (by kernel_rfl)) (fun _ _ _ h => h) (Or.inl ⟨by rfl, ?_⟩) ?_ ?_
    rotate_left
    ·intro w'
     go_simp
     with_reducible rfl
    rotate_left
    ·simp only [Act.put, List.setIfInBounds_toArray, List.set_cons_zero, List.set_cons_succ, i64_w, i32_w]
     rfl
    refine pure_ (i := 14) (N := some 6) (v := ?_) (a' := ?_) #[true, true, true, true, true, true, true, true, true, true, true, true, true, true, true] rfl rfl (any_of HT_.out (by kernel_rfl)) (fun _ _ _ h => h) (Or.inl ⟨by rfl, ?_⟩) ?_ ?_
    rotate_left
    ·intro w'
     go_simp
     with_reducible rfl
    rotate_left
    ·simp only [Act.put, List.setIfInBounds_toArray, List.set_cons_zero, List.set_cons_succ, i64_w, i32_w]
     rfl
    refine done_ (done_of HT_.out (by kernel_rfl)) ?_
    try go_wp2
    go_ret
    exact ⟨by rfl, by repeat (with_reducible exact HB.out)⟩
end Go.Proofs.YtfigblfjogpojaaDoor.PNum
end
