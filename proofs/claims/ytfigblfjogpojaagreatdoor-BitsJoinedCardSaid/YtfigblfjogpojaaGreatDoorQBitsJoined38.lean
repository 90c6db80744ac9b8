/- Part 39 of the proof of BitsJoinedCardSaid: The law BitsJoined: for all arguments it returns true; each argument reads behind the call as it read before. Out of the plain theorem of YtfigblfjogpojaaGreatDoorPureBitsJoined and the printed contract. -/
import Derived.Test.YtfigblfjogpojaaGreatDoorQBitsJoined13
import Derived.Test.YtfigblfjogpojaaGreatDoorQBitsJoined33
import Derived.Test.YtfigblfjogpojaaGreatDoorQBitsJoined31
import Derived.Test.YtfigblfjogpojaaGreatDoorQBitsJoined29
import Derived.Test.YtfigblfjogpojaaGreatDoorQBitsJoined16
import Derived.Test.YtfigblfjogpojaaGreatDoorQBitsJoined23
import Derived.Test.YtfigblfjogpojaaGreatDoorQBitsJoined20
import Derived.Test.YtfigblfjogpojaaGreatDoorQBitsJoined36
import Derived.Test.YtfigblfjogpojaaGreatDoorQBitsJoined15
section
namespace Go.Proofs.YtfigblfjogpojaaGreatDoor.PJoin
open Go.Proofs.YtfigblfjogpojaaGreatDoor.PBits
open Go.RowKit Go.Proofs.YtfigblfjogpojaaGreatDoorW.PrintWords Go.Proofs.YtfigblfjogpojaaGreatDoorW.PrintLast Go.Proofs.YtfigblfjogpojaaGreatDoorW.PrintMore
attribute [local go_sem] max2_int min2_int max_two min_two max_three min_three max_four min_four
set_option linter.unusedVariables false
set_option linter.unusedSimpArgs false
def bits_Shl.f (k : Nat) (a0_0 : Int) (a0_1 : Int) (a0_2 : Int) (a1_0 : Int) (a1_1 : Int) (a1_2 : Int) : Option (Int × Int × Int) := none
theorem bits_Shl.calls (k : Nat) (a0_0 : Int) (a0_1 : Int) (a0_2 : Int) (a1_0 : Int) (a1_1 : Int) (a1_2 : Int) (r1 : Int) (r2 : Int) (r3 : Int) (w : World) (h : bits_Shl.f k a0_0 a0_1 a0_2 a1_0 a1_1 a1_2 = some (r1, r2, r3)) :
  Calls Tryz.prog 59 #[.agg #[.int .i64 a0_0, .int .u64 a0_1, .int .u64 a0_2], .agg #[.int .i64 a1_0, .int .u64 a1_1, .int .u64 a1_2]] w fun e w' => e = .returned (.agg #[.int .i64 r1, .int .u64 r2, .int .u64 r3]) ∧ Below w.heap.size w w' := by cases h
def bits_Shr.f (k : Nat) (a0_0 : Int) (a0_1 : Int) (a0_2 : Int) (a1_0 : Int) (a1_1 : Int) (a1_2 : Int) : Option (Int × Int × Int) := none
theorem bits_Shr.calls (k : Nat) (a0_0 : Int) (a0_1 : Int) (a0_2 : Int) (a1_0 : Int) (a1_1 : Int) (a1_2 : Int) (r1 : Int) (r2 : Int) (r3 : Int) (w : World) (h : bits_Shr.f k a0_0 a0_1 a0_2 a1_0 a1_1 a1_2 = some (r1, r2, r3)) :
  Calls Tryz.prog 60 #[.agg #[.int .i64 a0_0, .int .u64 a0_1, .int .u64 a0_2], .agg #[.int .i64 a1_0, .int .u64 a1_1, .int .u64 a1_2]] w fun e w' => e = .returned (.agg #[.int .i64 r1, .int .u64 r2, .int .u64 r3]) ∧ Below w.heap.size w w' := by cases h
def bits_Sar.f (k : Nat) (a0_0 : Int) (a0_1 : Int) (a0_2 : Int) (a1_0 : Int) (a1_1 : Int) (a1_2 : Int) : Option (Int × Int × Int) := none
theorem bits_Sar.calls (k : Nat) (a0_0 : Int) (a0_1 : Int) (a0_2 : Int) (a1_0 : Int) (a1_1 : Int) (a1_2 : Int) (r1 : Int) (r2 : Int) (r3 : Int) (w : World) (h : bits_Sar.f k a0_0 a0_1 a0_2 a1_0 a1_1 a1_2 = some (r1, r2, r3)) :
  Calls Tryz.prog 61 #[.agg #[.int .i64 a0_0, .int .u64 a0_1, .int .u64 a0_2], .agg #[.int .i64 a1_0, .int .u64 a1_1, .int .u64 a1_2]] w fun e w' => e = .returned (.agg #[.int .i64 r1, .int .u64 r2, .int .u64 r3]) ∧ Below w.heap.size w w' := by cases h
def bits_Eq.f (k : Nat) (a0_0 : Int) (a0_1 : Int) (a0_2 : Int) (a1_0 : Int) (a1_1 : Int) (a1_2 : Int) : Option (Int × Int × Int) := none
theorem bits_Eq.calls (k : Nat) (a0_0 : Int) (a0_1 : Int) (a0_2 : Int) (a1_0 : Int) (a1_1 : Int) (a1_2 : Int) (r1 : Int) (r2 : Int) (r3 : Int) (w : World) (h : bits_Eq.f k a0_0 a0_1 a0_2 a1_0 a1_1 a1_2 = some (r1, r2, r3)) :
  Calls Tryz.prog 62 #[.agg #[.int .i64 a0_0, .int .u64 a0_1, .int .u64 a0_2], .agg #[.int .i64 a1_0, .int .u64 a1_1, .int .u64 a1_2]] w fun e w' => e = .returned (.agg #[.int .i64 r1, .int .u64 r2, .int .u64 r3]) ∧ Below w.heap.size w w' := by cases h
def bits_Ne.f (k : Nat) (a0_0 : Int) (a0_1 : Int) (a0_2 : Int) (a1_0 : Int) (a1_1 : Int) (a1_2 : Int) : Option (Int × Int × Int) := none
theorem bits_Ne.calls (k : Nat) (a0_0 : Int) (a0_1 : Int) (a0_2 : Int) (a1_0 : Int) (a1_1 : Int) (a1_2 : Int) (r1 : Int) (r2 : Int) (r3 : Int) (w : World) (h : bits_Ne.f k a0_0 a0_1 a0_2 a1_0 a1_1 a1_2 = some (r1, r2, r3)) :
  Calls Tryz.prog 63 #[.agg #[.int .i64 a0_0, .int .u64 a0_1, .int .u64 a0_2], .agg #[.int .i64 a1_0, .int .u64 a1_1, .int .u64 a1_2]] w fun e w' => e = .returned (.agg #[.int .i64 r1, .int .u64 r2, .int .u64 r3]) ∧ Below w.heap.size w w' := by cases h
def bits_CaseEq.f (k : Nat) (a0_0 : Int) (a0_1 : Int) (a0_2 : Int) (a1_0 : Int) (a1_1 : Int) (a1_2 : Int) : Option (Int × Int × Int) := none
theorem bits_CaseEq.calls (k : Nat) (a0_0 : Int) (a0_1 : Int) (a0_2 : Int) (a1_0 : Int) (a1_1 : Int) (a1_2 : Int) (r1 : Int) (r2 : Int) (r3 : Int) (w : World) (h : bits_CaseEq.f k a0_0 a0_1 a0_2 a1_0 a1_1 a1_2 = some (r1, r2, r3)) :
  Calls Tryz.prog 64 #[.agg #[.int .i64 a0_0, .int .u64 a0_1, .int .u64 a0_2], .agg #[.int .i64 a1_0, .int .u64 a1_1, .int .u64 a1_2]] w fun e w' => e = .returned (.agg #[.int .i64 r1, .int .u64 r2, .int .u64 r3]) ∧ Below w.heap.size w w' := by cases h
def bits_CaseNe.f (k : Nat) (a0_0 : Int) (a0_1 : Int) (a0_2 : Int) (a1_0 : Int) (a1_1 : Int) (a1_2 : Int) : Option (Int × Int × Int) := none
theorem bits_CaseNe.calls (k : Nat) (a0_0 : Int) (a0_1 : Int) (a0_2 : Int) (a1_0 : Int) (a1_1 : Int) (a1_2 : Int) (r1 : Int) (r2 : Int) (r3 : Int) (w : World) (h : bits_CaseNe.f k a0_0 a0_1 a0_2 a1_0 a1_1 a1_2 = some (r1, r2, r3)) :
  Calls Tryz.prog 65 #[.agg #[.int .i64 a0_0, .int .u64 a0_1, .int .u64 a0_2], .agg #[.int .i64 a1_0, .int .u64 a1_1, .int .u64 a1_2]] w fun e w' => e = .returned (.agg #[.int .i64 r1, .int .u64 r2, .int .u64 r3]) ∧ Below w.heap.size w w' := by cases h
def bits_Lt.f (k : Nat) (a0_0 : Int) (a0_1 : Int) (a0_2 : Int) (a1_0 : Int) (a1_1 : Int) (a1_2 : Int) (a2 : Bool) : Option (Int × Int × Int) := none
theorem bits_Lt.calls (k : Nat) (a0_0 : Int) (a0_1 : Int) (a0_2 : Int) (a1_0 : Int) (a1_1 : Int) (a1_2 : Int) (a2 : Bool) (r1 : Int) (r2 : Int) (r3 : Int) (w : World) (h : bits_Lt.f k a0_0 a0_1 a0_2 a1_0 a1_1 a1_2 a2 = some (r1, r2, r3)) :
  Calls Tryz.prog 66 #[.agg #[.int .i64 a0_0, .int .u64 a0_1, .int .u64 a0_2], .agg #[.int .i64 a1_0, .int .u64 a1_1, .int .u64 a1_2], .bool a2] w fun e w' => e = .returned (.agg #[.int .i64 r1, .int .u64 r2, .int .u64 r3]) ∧ Below w.heap.size w w' := by cases h
def bits_Le.f (k : Nat) (a0_0 : Int) (a0_1 : Int) (a0_2 : Int) (a1_0 : Int) (a1_1 : Int) (a1_2 : Int) (a2 : Bool) : Option (Int × Int × Int) := none
theorem bits_Le.calls (k : Nat) (a0_0 : Int) (a0_1 : Int) (a0_2 : Int) (a1_0 : Int) (a1_1 : Int) (a1_2 : Int) (a2 : Bool) (r1 : Int) (r2 : Int) (r3 : Int) (w : World) (h : bits_Le.f k a0_0 a0_1 a0_2 a1_0 a1_1 a1_2 a2 = some (r1, r2, r3)) :
  Calls Tryz.prog 67 #[.agg #[.int .i64 a0_0, .int .u64 a0_1, .int .u64 a0_2], .agg #[.int .i64 a1_0, .int .u64 a1_1, .int .u64 a1_2], .bool a2] w fun e w' => e = .returned (.agg #[.int .i64 r1, .int .u64 r2, .int .u64 r3]) ∧ Below w.heap.size w w' := by cases h
def bits_Sub.f (k : Nat) (a0_0 : Int) (a0_1 : Int) (a0_2 : Int) (a1_0 : Int) (a1_1 : Int) (a1_2 : Int) : Option (Int × Int × Int) := none
theorem bits_Sub.calls (k : Nat) (a0_0 : Int) (a0_1 : Int) (a0_2 : Int) (a1_0 : Int) (a1_1 : Int) (a1_2 : Int) (r1 : Int) (r2 : Int) (r3 : Int) (w : World) (h : bits_Sub.f k a0_0 a0_1 a0_2 a1_0 a1_1 a1_2 = some (r1, r2, r3)) :
  Calls Tryz.prog 68 #[.agg #[.int .i64 a0_0, .int .u64 a0_1, .int .u64 a0_2], .agg #[.int .i64 a1_0, .int .u64 a1_1, .int .u64 a1_2]] w fun e w' => e = .returned (.agg #[.int .i64 r1, .int .u64 r2, .int .u64 r3]) ∧ Below w.heap.size w w' := by cases h
def bits_Mul.f (k : Nat) (a0_0 : Int) (a0_1 : Int) (a0_2 : Int) (a1_0 : Int) (a1_1 : Int) (a1_2 : Int) : Option (Int × Int × Int) := none
theorem bits_Mul.calls (k : Nat) (a0_0 : Int) (a0_1 : Int) (a0_2 : Int) (a1_0 : Int) (a1_1 : Int) (a1_2 : Int) (r1 : Int) (r2 : Int) (r3 : Int) (w : World) (h : bits_Mul.f k a0_0 a0_1 a0_2 a1_0 a1_1 a1_2 = some (r1, r2, r3)) :
  Calls Tryz.prog 69 #[.agg #[.int .i64 a0_0, .int .u64 a0_1, .int .u64 a0_2], .agg #[.int .i64 a1_0, .int .u64 a1_1, .int .u64 a1_2]] w fun e w' => e = .returned (.agg #[.int .i64 r1, .int .u64 r2, .int .u64 r3]) ∧ Below w.heap.size w w' := by cases h
def bits_Div.f (k : Nat) (a0_0 : Int) (a0_1 : Int) (a0_2 : Int) (a1_0 : Int) (a1_1 : Int) (a1_2 : Int) (a2 : Bool) : Option (Int × Int × Int) := none
theorem bits_Div.calls (k : Nat) (a0_0 : Int) (a0_1 : Int) (a0_2 : Int) (a1_0 : Int) (a1_1 : Int) (a1_2 : Int) (a2 : Bool) (r1 : Int) (r2 : Int) (r3 : Int) (w : World) (h : bits_Div.f k a0_0 a0_1 a0_2 a1_0 a1_1 a1_2 a2 = some (r1, r2, r3)) :
  Calls Tryz.prog 70 #[.agg #[.int .i64 a0_0, .int .u64 a0_1, .int .u64 a0_2], .agg #[.int .i64 a1_0, .int .u64 a1_1, .int .u64 a1_2], .bool a2] w fun e w' => e = .returned (.agg #[.int .i64 r1, .int .u64 r2, .int .u64 r3]) ∧ Below w.heap.size w w' := by cases h
def bits_Mod.f (k : Nat) (a0_0 : Int) (a0_1 : Int) (a0_2 : Int) (a1_0 : Int) (a1_1 : Int) (a1_2 : Int) (a2 : Bool) : Option (Int × Int × Int) := none
theorem bits_Mod.calls (k : Nat) (a0_0 : Int) (a0_1 : Int) (a0_2 : Int) (a1_0 : Int) (a1_1 : Int) (a1_2 : Int) (a2 : Bool) (r1 : Int) (r2 : Int) (r3 : Int) (w : World) (h : bits_Mod.f k a0_0 a0_1 a0_2 a1_0 a1_1 a1_2 a2 = some (r1, r2, r3)) :
  Calls Tryz.prog 71 #[.agg #[.int .i64 a0_0, .int .u64 a0_1, .int .u64 a0_2], .agg #[.int .i64 a1_0, .int .u64 a1_1, .int .u64 a1_2], .bool a2] w fun e w' => e = .returned (.agg #[.int .i64 r1, .int .u64 r2, .int .u64 r3]) ∧ Below w.heap.size w w' := by cases h
def maskref1_moved.f (k : Nat) (l0 : List Int) (l1 : List Int) (a2 : Bool) (a3 : Int) : Option (List Int) := none
theorem maskref1_moved.calls (k : Nat) (A0 : Option Addr) (c0 : Nat) (l0 : List Int) (A1 : Option Addr) (c1 : Nat) (l1 : List Int) (a2 : Bool) (a3 : Int) (r : List Int) (w : World) (hr0 : Kd.C (Kd.int .u8) w A0 l0.length l0) (hc0 : l0.length ≤ c0) (hr1 : Kd.C (Kd.int .u8) w A1 l1.length l1) (hc1 : l1.length ≤ c1) (h : maskref1_moved.f k l0 l1 a2 a3 = some r) :
  Calls Tryz.prog 48 #[.slice A0 l0.length c0, .slice A1 l1.length c1, .bool a2, .int .u8 a3] w fun e w' => ∃ v0_ : Value, e = .returned (v0_) ∧ Kd.R (Kd.int .u8) 5 w' w.heap.size (fun _ => True) v0_ r ∧ Below w.heap.size w w' := by cases h
def maskref1_Compared.f (k : Nat) (l0 : List Int) (l1 : List Int) : Option (Int) := none
theorem maskref1_Compared.calls (k : Nat) (A0 : Option Addr) (c0 : Nat) (l0 : List Int) (A1 : Option Addr) (c1 : Nat) (l1 : List Int) (r : Int) (w : World) (hr0 : Kd.C (Kd.int .u8) w A0 l0.length l0) (hc0 : l0.length ≤ c0) (hr1 : Kd.C (Kd.int .u8) w A1 l1.length l1) (hc1 : l1.length ≤ c1) (h : maskref1_Compared.f k l0 l1 = some r) :
  Calls Tryz.prog 49 #[.slice A0 l0.length c0, .slice A1 l1.length c1] w fun e w' => e = .returned (.int .u8 r) ∧ Drawn0 w w' := by cases h
def maskref1_truthOf.f (a0 : Bool) : Option (Int) := none
theorem maskref1_truthOf.calls (a0 : Bool) (r : Int) (w : World) (h : maskref1_truthOf.f a0 = some r) :
  Calls Tryz.prog 50 #[.bool a0] w fun e w' => e = .returned (.int .u8 r) ∧ Drawn0 w w' := by cases h
def maskref1_same.f (l0 : List Int) (l1 : List Int) : Option (Bool) := none
theorem maskref1_same.calls (A0 : Option Addr) (c0 : Nat) (l0 : List Int) (A1 : Option Addr) (c1 : Nat) (l1 : List Int) (r : Bool) (w : World) (hr0 : Kd.C (Kd.int .u8) w A0 l0.length l0) (hc0 : l0.length ≤ c0) (hr1 : Kd.C (Kd.int .u8) w A1 l1.length l1) (hc1 : l1.length ≤ c1) (h : maskref1_same.f l0 l1 = some r) :
  Calls Tryz.prog 51 #[.slice A0 l0.length c0, .slice A1 l1.length c1] w fun e w' => e = .returned (.bool r) ∧ Drawn0 w w' := by cases h
def maskref1_below.f (k : Nat) (l0 : List Int) (l1 : List Int) (a2 : Bool) : Option (Bool) := none
theorem maskref1_below.calls (k : Nat) (A0 : Option Addr) (c0 : Nat) (l0 : List Int) (A1 : Option Addr) (c1 : Nat) (l1 : List Int) (a2 : Bool) (r : Bool) (w : World) (hr0 : Kd.C (Kd.int .u8) w A0 l0.length l0) (hc0 : l0.length ≤ c0) (hr1 : Kd.C (Kd.int .u8) w A1 l1.length l1) (hc1 : l1.length ≤ c1) (h : maskref1_below.f k l0 l1 a2 = some r) :
  Calls Tryz.prog 53 #[.slice A0 l0.length c0, .slice A1 l1.length c1, .bool a2] w fun e w' => e = .returned (.bool r) ∧ Drawn0 w w' := by cases h
def maskref1_Number.f (k : Nat) (a0 : Int) (l1 : List Int) (l2 : List Int) (a3 : Bool) : Option (List Int) := none
theorem maskref1_Number.calls (k : Nat) (a0 : Int) (P1_ : Nat → Prop) (u9000_ : Value) (l1 : List Int) (P2_ : Nat → Prop) (u9001_ : Value) (l2 : List Int) (a3 : Bool) (r : List Int) (w0 w : World) (hB : Below w0.heap.size w0 w) (ho1 : Kd.R (Kd.int .u8) 5 w w0.heap.size P1_ u9000_ l1) (hp1_2 : ∀ k_, P1_ k_ → ¬ P2_ k_) (ho2 : Kd.R (Kd.int .u8) 5 w w0.heap.size P2_ u9001_ l2) (hp2_1 : ∀ k_, P2_ k_ → ¬ P1_ k_) (h : maskref1_Number.f k a0 l1 l2 a3 = some r) :
  Calls Tryz.prog 30 #[.int .i64 a0, u9000_, u9001_, .bool a3] w fun e w' => ∃ v0_ : Value, e = .returned (v0_) ∧ Kd.R (Kd.int .u8) 5 w' w0.heap.size (fun k_ => ((P1_ k_ ∨ P2_ k_) ∨ w.heap.size ≤ k_)) v0_ r ∧ Below w0.heap.size w0 w' ∧ Kept w w' (fun k_ => P1_ k_ ∨ P2_ k_) := by cases h
end Go.Proofs.YtfigblfjogpojaaGreatDoor.PJoin
end
section
namespace Go.Proofs.YtfigblfjogpojaaGreatDoor.PJoin
open Go.Proofs.YtfigblfjogpojaaGreatDoor.PBits
open Go.RowKit Go.Proofs.YtfigblfjogpojaaGreatDoorW.PrintWords Go.Proofs.YtfigblfjogpojaaGreatDoorW.PrintLast Go.Proofs.YtfigblfjogpojaaGreatDoorW.PrintMore
attribute [local go_sem] max2_int min2_int max_two min_two max_three min_three max_four min_four
set_option linter.unusedVariables false
set_option linter.unusedSimpArgs false
mutual
def maskref1_Binary.j0 : Nat → Int → List Int → List Int → Bool → Bool → Option (List Int)
 | 0, _, _, _, _, _ => none
 | k + 1, x0, x1, x2, x3, x94 => if x94 = true then ((maskref1_Known.f k x1).bind fun t622 => (if t622 = true then ((maskref1_Known.f k x2).bind fun t623 => (maskref1_Binary.j1 k x0 x1 x2 x3 (!t623))) else (maskref1_Binary.j1 k x0 x1 x2 x3 true))) else ((maskref1_Number.f k x0 x1 x2 x3).bind fun t641 => (some t641))
def maskref1_Binary.j1 : Nat → Int → List Int → List Int → Bool → Bool → Option (List Int)
 | 0, _, _, _, _, _ => none
 | k + 1, x0, x1, x2, x3, x104 => if x104 = true then ((maskref1_One.f 117).bind fun t624 => (some t624)) else ((maskref1_below.f k x1 x2 x3).bind fun t627 => (if t627 = true then ((maskref1_truthOf.f true).bind fun t628 => ((maskref1_One.f t628).bind fun t629 => (some t629))) else (if x0 = 29 then ((maskref1_same.f x1 x2).bind fun t632 => ((maskref1_truthOf.f t632).bind fun t633 => ((maskref1_One.f t633).bind fun t634 => (some t634)))) else ((maskref1_truthOf.f false).bind fun t637 => ((maskref1_One.f t637).bind fun t638 => (some t638))))))
end
def maskref1_Binary.f (k : Nat) (a0 : Int) (l1 : List Int) (l2 : List Int) (a3 : Bool) : Option (List Int) := if a0 = 13 then ((maskref1_each__AndOf.f k l1 l2).bind fun t556 => (some t556)) else (if a0 = 14 then ((maskref1_each__OrOf.f k l1 l2).bind fun t559 => (some t559)) else (if a0 = 15 then ((maskref1_each__XorOf.f k l1 l2).bind fun t562 => (some t562)) else (if a0 = 11 then ((maskref1_Truth.f k l1).bind fun t565 => ((maskref1_One.f t565).bind fun t566 => ((maskref1_Truth.f k l2).bind fun t569 => ((maskref1_One.f t569).bind fun t570 => (if t566.length + t570.length < 140737488355328 then ((maskref1_fold__AndOf.f k (t566 ++ t570)).bind fun t576 => (some t576)) else (none)))))) else (if a0 = 12 then ((maskref1_Truth.f k l1).bind fun t579 => ((maskref1_One.f t579).bind fun t580 => ((maskref1_Truth.f k l2).bind fun t583 => ((maskref1_One.f t583).bind fun t584 => (if t580.length + t584.length < 140737488355328 then ((maskref1_fold__OrOf.f k (t580 ++ t584)).bind fun t590 => (some t590)) else (none)))))) else (if a0 = 21 then ((maskref1_moved.f k l1 l2 true 48).bind fun t593 => (some t593)) else (if a0 = 22 then ((maskref1_moved.f k l1 l2 false 48).bind fun t596 => (some t596)) else (if a0 = 23 then (if 0 ≤ (wrap64 ((l1.length : Int) - 1)) then (if (wrap64 ((l1.length : Int) - 1)) < (l1.length : Int) then ((maskref1_moved.f k l1 l2 false (rd l1 (wrap64 ((l1.length : Int) - 1)))).bind fun t600 => (some t600)) else (none)) else (none)) else (if a0 = 24 then ((maskref1_Compared.f k l1 l2).bind fun t603 => ((maskref1_One.f t603).bind fun t604 => (some t604))) else (if a0 = 25 then ((maskref1_Compared.f k l1 l2).bind fun t607 => ((maskref1_Opposite.f t607).bind fun t608 => ((maskref1_One.f t608).bind fun t609 => (some t609)))) else (if a0 = 26 then ((maskref1_same.f l1 l2).bind fun t612 => ((maskref1_truthOf.f t612).bind fun t613 => ((maskref1_One.f t613).bind fun t614 => (some t614)))) else (if a0 = 27 then ((maskref1_same.f l1 l2).bind fun t617 => ((maskref1_truthOf.f (!t617)).bind fun t618 => ((maskref1_One.f t618).bind fun t619 => (some t619)))) else (if a0 = 28 then (maskref1_Binary.j0 k a0 l1 l2 a3 (a0 == 28)) else (maskref1_Binary.j0 k a0 l1 l2 a3 (a0 == 29))))))))))))))
set_option maxHeartbeats 8000000 in
set_option maxRecDepth 100000 in
theorem maskref1_Binary.calls (k : Nat) (a0 : Int) (P1_ : Nat → Prop) (u9000_ : Value) (l1 : List Int) (P2_ : Nat → Prop) (u9001_ : Value) (l2 : List Int) (a3 : Bool) (r : List Int) (w0 w : World) (hB : Below w0.heap.size w0 w) (ho1 : Kd.R (Kd.int .u8) 5 w w0.heap.size P1_ u9000_ l1) (hp1_2 : ∀ k_, P1_ k_ → ¬ P2_ k_) (ho2 : Kd.R (Kd.int .u8) 5 w w0.heap.size P2_ u9001_ l2) (hp2_1 : ∀ k_, P2_ k_ → ¬ P1_ k_) (h : maskref1_Binary.f k a0 l1 l2 a3 = some r) :
  Calls Tryz.prog 26 #[.int .i64 a0, u9000_, u9001_, .bool a3] w fun e w' => ∃ v0_ : Value, e = .returned (v0_) ∧ Kd.R (Kd.int .u8) 5 w' w0.heap.size (fun k_ => ((P1_ k_ ∨ P2_ k_) ∨ w.heap.size ≤ k_)) v0_ r ∧ Below w0.heap.size w0 w' ∧ Kept w w' (fun k_ => P1_ k_ ∨ P2_ k_) := by
 have HO1 := Aside0.mk (show Kd.R (Kd.int .u8) 5 w w0.heap.size (fun k_ => ((P1_ k_ ∨ P2_ k_) ∨ w.heap.size ≤ k_) ∧ some k_ ≠ (u9001_ : Value).ownBlock) u9000_ l1 from Kd.R_mono ho1 (fun k_ hk => ⟨(.inl (.inl hk)), fun e_ => hp1_2 k_ hk (ho2.1 k_ e_.symm)⟩))
 have HO2 := Aside0.mk (show Kd.R (Kd.int .u8) 5 w w0.heap.size (fun k_ => ((P1_ k_ ∨ P2_ k_) ∨ w.heap.size ≤ k_) ∧ some k_ ≠ (u9000_ : Value).ownBlock) u9001_ l2 from Kd.R_mono ho2 (fun k_ hk => ⟨(.inl (.inr hk)), fun e_ => hp2_1 k_ hk (ho1.1 k_ e_.symm)⟩))
 have HK := Aside0.mk (Kept.refl w (fun k_ => P1_ k_ ∨ P2_ k_))
 have HW0 := Aside0.mk hB.size
 have HB := Aside0.mk hB
 clear hB
 have H := h
 clear h
 unfold maskref1_Binary.f at H
 replace H := iE H; rcases H with ⟨c5b0, c5b1, H⟩ | ⟨c5, c5b0, c5b1, H⟩
 ·replace H := bN H; obtain ⟨t556, A6, H⟩ := H
  obtain rfl := Option.some.inj H
  obtain ⟨Ao7, co7, eo7⟩ := Kd.R_slice HO1.out
  subst eo7
  obtain ⟨Ao8, co8, eo8⟩ := Kd.R_slice HO2.out
  subst eo8
  go_enter Tryz.func26, Tryz.ntmps26
  go_wp2_with ((refine callA (some 14) Tryz.func47 #[.slice Ao7 l1.length co7, .slice Ao8 l2.length co8, (.func (.func 33) #[] #[])] ?_; (with_reducible refine (maskref1_each__AndOf.calls k _ _ l1 _ _ l2  t556 _ ?side1 ?side2 ?side3 ?side4 A6.out).mono ?_); (case side1 => exact (Kd.R_reads' HO1.out).2.2); (case side2 => exact (Kd.R_reads' HO1.out).2.1); (case side3 => exact (Kd.R_reads' HO2.out).2.2); (case side4 => exact (Kd.R_reads' HO2.out).2.1); rintro e w9 ⟨v557, rfl, ho0, hb⟩; refine ⟨_, rfl, ?_⟩; have HO558 := Aside0.mk (Kd.R_lower (Kd.R_new' (Kd.R_new' (Kd.R_newM (M := fun k_ => ((P1_ k_ ∨ P2_ k_) ∨ w.heap.size ≤ k_)) ho0 (by exact HK.out.1) (fun k_ h_ => .inr h_)) (Kd.R_lt HO1.out)) (Kd.R_lt HO2.out)) (below_size HB.out)); replace HO1 := Aside0.mk (Kd.R_elder' HO1.out (Kd.R_base ho0) hb); replace HO2 := Aside0.mk (Kd.R_elder' HO2.out (Kd.R_base ho0) hb); replace HK := Aside0.mk (Kept.below (S := (fun k_ => P1_ k_ ∨ P2_ k_)) HK.out hb); replace HB := hb1 HB hb; (try clear hb); (try clear ho0)))
  go_ret
  exact ⟨_, by rfl, by exact Kd.R_mono HO558.out (fun _ hk => hk.1.1.1), by repeat (with_reducible exact HB.out), by repeat (with_reducible exact HK.out)⟩
 ·replace H := iE H; rcases H with ⟨c10b0, c10b1, H⟩ | ⟨c10, c10b0, c10b1, H⟩
  ·replace H := bN H; obtain ⟨t559, A11, H⟩ := H
   obtain rfl := Option.some.inj H
   obtain ⟨Ao12, co12, eo12⟩ := Kd.R_slice HO1.out
   subst eo12
   obtain ⟨Ao13, co13, eo13⟩ := Kd.R_slice HO2.out
   subst eo13
   go_enter Tryz.func26, Tryz.ntmps26
   go_wp2_with ((refine callA (some 19) Tryz.func47 #[.slice Ao12 l1.length co12, .slice Ao13 l2.length co13, (.func (.func 34) #[] #[])] ?_; (with_reducible refine (maskref1_each__OrOf.calls k _ _ l1 _ _ l2  t559 _ ?side1 ?side2 ?side3 ?side4 A11.out).mono ?_); (case side1 => exact (Kd.R_reads' HO1.out).2.2); (case side2 => exact (Kd.R_reads' HO1.out).2.1); (case side3 => exact (Kd.R_reads' HO2.out).2.2); (case side4 => exact (Kd.R_reads' HO2.out).2.1); rintro e w14 ⟨v560, rfl, ho0, hb⟩; refine ⟨_, rfl, ?_⟩; have HO561 := Aside0.mk (Kd.R_lower (Kd.R_new' (Kd.R_new' (Kd.R_newM (M := fun k_ => ((P1_ k_ ∨ P2_ k_) ∨ w.heap.size ≤ k_)) ho0 (by exact HK.out.1) (fun k_ h_ => .inr h_)) (Kd.R_lt HO1.out)) (Kd.R_lt HO2.out)) (below_size HB.out)); replace HO1 := Aside0.mk (Kd.R_elder' HO1.out (Kd.R_base ho0) hb); replace HO2 := Aside0.mk (Kd.R_elder' HO2.out (Kd.R_base ho0) hb); replace HK := Aside0.mk (Kept.below (S := (fun k_ => P1_ k_ ∨ P2_ k_)) HK.out hb); replace HB := hb1 HB hb; (try clear hb); (try clear ho0)))
   go_ret
   exact ⟨_, by rfl, by exact Kd.R_mono HO561.out (fun _ hk => hk.1.1.1), by repeat (with_reducible exact HB.out), by repeat (with_reducible exact HK.out)⟩
  ·replace H := iE H; rcases H with ⟨c15b0, c15b1, H⟩ | ⟨c15, c15b0, c15b1, H⟩
   ·replace H := bN H; obtain ⟨t562, A16, H⟩ := H
    obtain rfl := Option.some.inj H
    obtain ⟨Ao17, co17, eo17⟩ := Kd.R_slice HO1.out
    subst eo17
    obtain ⟨Ao18, co18, eo18⟩ := Kd.R_slice HO2.out
    subst eo18
    go_enter Tryz.func26, Tryz.ntmps26
    go_wp2_with ((refine callA (some 24) Tryz.func47 #[.slice Ao17 l1.length co17, .slice Ao18 l2.length co18, (.func (.func 35) #[] #[])] ?_; (with_reducible refine (maskref1_each__XorOf.calls k _ _ l1 _ _ l2  t562 _ ?side1 ?side2 ?side3 ?side4 A16.out).mono ?_); (case side1 => exact (Kd.R_reads' HO1.out).2.2); (case side2 => exact (Kd.R_reads' HO1.out).2.1); (case side3 => exact (Kd.R_reads' HO2.out).2.2); (case side4 => exact (Kd.R_reads' HO2.out).2.1); rintro e w19 ⟨v563, rfl, ho0, hb⟩; refine ⟨_, rfl, ?_⟩; have HO564 := Aside0.mk (Kd.R_lower (Kd.R_new' (Kd.R_new' (Kd.R_newM (M := fun k_ => ((P1_ k_ ∨ P2_ k_) ∨ w.heap.size ≤ k_)) ho0 (by exact HK.out.1) (fun k_ h_ => .inr h_)) (Kd.R_lt HO1.out)) (Kd.R_lt HO2.out)) (below_size HB.out)); replace HO1 := Aside0.mk (Kd.R_elder' HO1.out (Kd.R_base ho0) hb); replace HO2 := Aside0.mk (Kd.R_elder' HO2.out (Kd.R_base ho0) hb); replace HK := Aside0.mk (Kept.below (S := (fun k_ => P1_ k_ ∨ P2_ k_)) HK.out hb); replace HB := hb1 HB hb; (try clear hb); (try clear ho0)))
    go_ret
    exact ⟨_, by rfl, by exact Kd.R_mono HO564.out (fun _ hk => hk.1.1.1), by repeat (with_reducible exact HB.out), by repeat (with_reducible exact HK.out)⟩
   ·replace H := iE H; rcases H with ⟨c20b0, c20b1, H⟩ | ⟨c20, c20b0, c20b1, H⟩
    ·replace H := bN H; obtain ⟨t565, A21, H⟩ := H
     replace H := bN H; obtain ⟨t566, A22, H⟩ := H
     replace H := bN H; obtain ⟨t569, A23, H⟩ := H
     replace H := bN H; obtain ⟨t570, A24, H⟩ := H
     by_cases c25 : t566.length + t570.length < 140737488355328
     ·rw [if_pos c25] at H
      have LMc25 := Aside0.mk c25
      clear c25
      obtain ⟨y573, hy573⟩ : ∃ y_ : List Int, y_ = (t566 ++ t570) := ⟨_, rfl⟩
      replace H : ((maskref1_fold__AndOf.f k y573).bind fun t576 => (some t576)) = some r := by (rw [hy573]; with_reducible exact H)
      have Ny573 := Aside0.mk hy573
      clear hy573
      replace H := bN H; obtain ⟨t576, A26, H⟩ := H
      obtain rfl := Option.some.inj H
      obtain ⟨Ao27, co27, eo27⟩ := Kd.R_slice HO1.out
      subst eo27
      go_enter Tryz.func26, Tryz.ntmps26
      go_wp2_with (first | (refine callA (some 28) Tryz.func38 #[.slice Ao27 l1.length co27] ?_; (with_reducible refine (maskref1_Truth.calls k _ _ l1 t565 _ ?side1 ?side2 A21.out).mono ?_); (case side1 => exact (Kd.R_reads' HO1.out).2.2); (case side2 => exact (Kd.R_reads' HO1.out).2.1); rintro e w' ⟨rfl, ⟨nd, rfl⟩⟩; refine ⟨_, rfl, ?_⟩) | (refine callA (some 29) Tryz.func36 #[.int .u8 t565] ?_; (with_reducible refine (maskref1_One.calls t565 t566 _ A22.out).mono ?_); rintro e w28 ⟨v567, rfl, ho0, hb⟩; refine ⟨_, rfl, ?_⟩; have HO568 := Aside0.mk (Kd.R_lower (Kd.R_new' (Kd.R_new' (Kd.R_newM (M := fun k_ => ((P1_ k_ ∨ P2_ k_) ∨ w.heap.size ≤ k_)) ho0 (by exact HK.out.1) (fun k_ h_ => .inr h_)) (Kd.R_lt (by (with_reducible repeat (apply Kd.R_drewN)); exact HO1.out))) (Kd.R_lt (by (with_reducible repeat (apply Kd.R_drewN)); exact HO2.out))) (below_size (by repeat (with_reducible first | exact HB.out | apply pw_below_drewN)))); replace HO1 := Aside0.mk (Kd.R_elder' (by (with_reducible repeat (apply Kd.R_drewN)); exact HO1.out) (Kd.R_base ho0) hb); replace HO2 := Aside0.mk (Kd.R_elder' (by (with_reducible repeat (apply Kd.R_drewN)); exact HO2.out) (Kd.R_base ho0) hb); replace HK := Aside0.mk (Kept.below (S := (fun k_ => P1_ k_ ∨ P2_ k_)) (by repeat (with_reducible first | exact HK.out | apply Kept.drewN)) hb); replace HB := hb1 HB hb; (try clear hb); (try clear ho0); obtain ⟨Ao29, co29, eo29⟩ := Kd.R_slice HO2.out; subst eo29) | (refine callA (some 31) Tryz.func38 #[.slice Ao29 l2.length co29] ?_; (with_reducible refine (maskref1_Truth.calls k _ _ l2 t569 _ ?side1 ?side2 A23.out).mono ?_); (case side1 => exact (Kd.R_reads' HO2.out).2.2); (case side2 => exact (Kd.R_reads' HO2.out).2.1); rintro e w' ⟨rfl, ⟨nd, rfl⟩⟩; refine ⟨_, rfl, ?_⟩) | (refine callA (some 32) Tryz.func36 #[.int .u8 t569] ?_; (with_reducible refine (maskref1_One.calls t569 t570 _ A24.out).mono ?_); rintro e w30 ⟨v571, rfl, ho0, hb⟩; refine ⟨_, rfl, ?_⟩; have HO572 := Aside0.mk (Kd.R_lower (Kd.R_new' (Kd.R_new' (Kd.R_new' (Kd.R_newM (M := fun k_ => ((P1_ k_ ∨ P2_ k_) ∨ w.heap.size ≤ k_)) ho0 (by exact HK.out.1) (fun k_ h_ => .inr h_)) (Kd.R_lt (by (with_reducible repeat (apply Kd.R_drewN)); exact HO1.out))) (Kd.R_lt (by (with_reducible repeat (apply Kd.R_drewN)); exact HO2.out))) (Kd.R_lt (by (with_reducible repeat (apply Kd.R_drewN)); exact HO568.out))) (below_size (by repeat (with_reducible first | exact HB.out | apply pw_below_drewN)))); replace HO1 := Aside0.mk (Kd.R_elder' (by (with_reducible repeat (apply Kd.R_drewN)); exact HO1.out) (Kd.R_base ho0) hb); replace HO2 := Aside0.mk (Kd.R_elder' (by (with_reducible repeat (apply Kd.R_drewN)); exact HO2.out) (Kd.R_base ho0) hb); replace HO568 := Aside0.mk (Kd.R_elder' (by (with_reducible repeat (apply Kd.R_drewN)); exact HO568.out) (Kd.R_base ho0) hb); replace HK := Aside0.mk (Kept.below (S := (fun k_ => P1_ k_ ∨ P2_ k_)) (by repeat (with_reducible first | exact HK.out | apply Kept.drewN)) hb); replace HB := hb1 HB hb; (try clear hb); (try clear ho0); obtain ⟨Ao32, co32, eo32⟩ := Kd.R_slice HO572.out; subst eo32) | ((with_reducible refine gate_builtin (b := .append) (xs := #[.tmp 29, .tmp 32]) rfl ?_); at_builtin; refine Kd.R_append_rows (Kd.int .u8) (w0 := w0) w0.heap.size rfl (.tmp 29) (.tmp 32) 30 5 (.int .u8 0) 1 rfl Tryz.underlying30 info5 rfl (by decide) (by omega) v567 t566 t570 _ _ _ (fun k_ => ((P1_ k_ ∨ P2_ k_) ∨ w.heap.size ≤ k_) ∧ some k_ ≠ (.slice Ao27 l1.length co27 : Value).ownBlock ∧ some k_ ≠ (.slice Ao29 l2.length co29 : Value).ownBlock ∧ some k_ ≠ (.slice Ao32 t570.length co32 : Value).ownBlock) (fun _ => False) rfl rfl ?aO ?aR (fun _ _ h => h) (fun _ h => h.elim) ?aF ?aB ?aS ?aL ?_; (case aR => repeat (exact (Kd.R_reads' HO572.out).2.2)); (case aB => exact HB.out); (case aF => exact (fun k_ hk => ⟨(.inr (Nat.le_trans (by exact HK.out.1) hk)), Kd.fresh' (Kd.R_lt HO1.out) k_ hk, Kd.fresh' (Kd.R_lt HO2.out) k_ hk, Kd.fresh' (Kd.R_lt HO572.out) k_ hk⟩)); (case aO => exact (by exact Kd.R_mono HO568.out (fun _ hk => ⟨hk.1.1.1.1, ⟨hk.1.1.2, ⟨hk.1.2, hk.2⟩⟩⟩))); (case aS => exact (below_size HB.out)); (case aL => have := LMc25.out; omega); intro v574 w31 ho hb hg hat; rw [← Ny573.out] at ho; replace HO1 := Aside0.mk (Kd.R_after (ok := (fun k_ => ((P1_ k_ ∨ P2_ k_) ∨ w.heap.size ≤ k_) ∧ some k_ ≠ (.slice Ao29 l2.length co29 : Value).ownBlock ∧ some k_ ≠ (.slice Ao32 t570.length co32 : Value).ownBlock)) (by exact Kd.R_mono HO1.out (fun _ hk => ⟨⟨hk.1.1.1, ⟨hk.1.1.2, hk.2⟩⟩, hk.1.2⟩)) hg hat); replace HO2 := Aside0.mk (Kd.R_after (ok := (fun k_ => ((P1_ k_ ∨ P2_ k_) ∨ w.heap.size ≤ k_) ∧ some k_ ≠ (.slice Ao27 l1.length co27 : Value).ownBlock ∧ some k_ ≠ (.slice Ao32 t570.length co32 : Value).ownBlock)) (by exact Kd.R_mono HO2.out (fun _ hk => ⟨⟨hk.1.1.1, ⟨hk.1.1.2, hk.2⟩⟩, hk.1.2⟩)) hg hat); replace HO572 := Aside0.mk (Kd.R_after (ok := (fun k_ => ((P1_ k_ ∨ P2_ k_) ∨ w.heap.size ≤ k_) ∧ some k_ ≠ (.slice Ao27 l1.length co27 : Value).ownBlock ∧ some k_ ≠ (.slice Ao29 l2.length co29 : Value).ownBlock)) (by exact Kd.R_mono HO572.out (fun _ hk => ⟨⟨hk.1.1.1.1, ⟨hk.1.1.2, hk.1.2⟩⟩, hk.2⟩)) hg hat); replace HB := Aside0.mk (hb); replace HK := Aside0.mk (Kept.of_grown (S := (fun k_ => P1_ k_ ∨ P2_ k_)) hg HK.out (fun k_ e_ => (HO568.out.1 k_ e_).1.1.1.1)); have HO575 := Aside0.mk (ho); clear HO568; clear ho hb hg hat; obtain ⟨Ao33, co33, eo33⟩ := Kd.R_slice HO575.out; subst eo33) | (refine callA (some 34) Tryz.func32 #[.slice Ao33 y573.length co33, (.func (.func 33) #[] #[])] ?_; (with_reducible refine (maskref1_fold__AndOf.calls k _ _ y573  t576 _ ?side1 ?side2 A26.out).mono ?_); (case side1 => exact (Kd.R_reads' HO575.out).2.2); (case side2 => exact (Kd.R_reads' HO575.out).2.1); rintro e w34 ⟨v577, rfl, ho0, hb⟩; refine ⟨_, rfl, ?_⟩; have HO578 := Aside0.mk (Kd.R_lower (Kd.R_new' (Kd.R_new' (Kd.R_new' (Kd.R_new' (Kd.R_newM (M := fun k_ => ((P1_ k_ ∨ P2_ k_) ∨ w.heap.size ≤ k_)) ho0 (by exact HK.out.1) (fun k_ h_ => .inr h_)) (Kd.R_lt HO1.out)) (Kd.R_lt HO2.out)) (Kd.R_lt HO572.out)) (Kd.R_lt HO575.out)) (below_size HB.out)); replace HO1 := Aside0.mk (Kd.R_elder' HO1.out (Kd.R_base ho0) hb); replace HO2 := Aside0.mk (Kd.R_elder' HO2.out (Kd.R_base ho0) hb); replace HO572 := Aside0.mk (Kd.R_elder' HO572.out (Kd.R_base ho0) hb); replace HO575 := Aside0.mk (Kd.R_elder' HO575.out (Kd.R_base ho0) hb); replace HK := Aside0.mk (Kept.below (S := (fun k_ => P1_ k_ ∨ P2_ k_)) HK.out hb); replace HB := hb1 HB hb; (try clear hb); (try clear ho0)))
      go_ret
      exact ⟨_, by rfl, by exact Kd.R_mono HO578.out (fun _ hk => hk.1.1.1.1.1), by repeat (with_reducible exact HB.out), by repeat (with_reducible exact HK.out)⟩
     ·rw [if_neg c25] at H
      exact absurd H (by simp)
    ·replace H := iE H; rcases H with ⟨c35b0, c35b1, H⟩ | ⟨c35, c35b0, c35b1, H⟩
     ·replace H := bN H; obtain ⟨t579, A36, H⟩ := H
      replace H := bN H; obtain ⟨t580, A37, H⟩ := H
      replace H := bN H; obtain ⟨t583, A38, H⟩ := H
      replace H := bN H; obtain ⟨t584, A39, H⟩ := H
      by_cases c40 : t580.length + t584.length < 140737488355328
      ·rw [if_pos c40] at H
       have LMc40 := Aside0.mk c40
       clear c40
       obtain ⟨y587, hy587⟩ : ∃ y_ : List Int, y_ = (t580 ++ t584) := ⟨_, rfl⟩
       replace H : ((maskref1_fold__OrOf.f k y587).bind fun t590 => (some t590)) = some r := by (rw [hy587]; with_reducible exact H)
       have Ny587 := Aside0.mk hy587
       clear hy587
       replace H := bN H; obtain ⟨t590, A41, H⟩ := H
       obtain rfl := Option.some.inj H
       obtain ⟨Ao42, co42, eo42⟩ := Kd.R_slice HO1.out
       subst eo42
       go_enter Tryz.func26, Tryz.ntmps26
       go_wp2_with (first | (refine callA (some 38) Tryz.func38 #[.slice Ao42 l1.length co42] ?_; (with_reducible refine (maskref1_Truth.calls k _ _ l1 t579 _ ?side1 ?side2 A36.out).mono ?_); (case side1 => exact (Kd.R_reads' HO1.out).2.2); (case side2 => exact (Kd.R_reads' HO1.out).2.1); rintro e w' ⟨rfl, ⟨nd, rfl⟩⟩; refine ⟨_, rfl, ?_⟩) | (refine callA (some 39) Tryz.func36 #[.int .u8 t579] ?_; (with_reducible refine (maskref1_One.calls t579 t580 _ A37.out).mono ?_); rintro e w43 ⟨v581, rfl, ho0, hb⟩; refine ⟨_, rfl, ?_⟩; have HO582 := Aside0.mk (Kd.R_lower (Kd.R_new' (Kd.R_new' (Kd.R_newM (M := fun k_ => ((P1_ k_ ∨ P2_ k_) ∨ w.heap.size ≤ k_)) ho0 (by exact HK.out.1) (fun k_ h_ => .inr h_)) (Kd.R_lt (by (with_reducible repeat (apply Kd.R_drewN)); exact HO1.out))) (Kd.R_lt (by (with_reducible repeat (apply Kd.R_drewN)); exact HO2.out))) (below_size (by repeat (with_reducible first | exact HB.out | apply pw_below_drewN)))); replace HO1 := Aside0.mk (Kd.R_elder' (by (with_reducible repeat (apply Kd.R_drewN)); exact HO1.out) (Kd.R_base ho0) hb); replace HO2 := Aside0.mk (Kd.R_elder' (by (with_reducible repeat (apply Kd.R_drewN)); exact HO2.out) (Kd.R_base ho0) hb); replace HK := Aside0.mk (Kept.below (S := (fun k_ => P1_ k_ ∨ P2_ k_)) (by repeat (with_reducible first | exact HK.out | apply Kept.drewN)) hb); replace HB := hb1 HB hb; (try clear hb); (try clear ho0); obtain ⟨Ao44, co44, eo44⟩ := Kd.R_slice HO2.out; subst eo44) | (refine callA (some 41) Tryz.func38 #[.slice Ao44 l2.length co44] ?_; (with_reducible refine (maskref1_Truth.calls k _ _ l2 t583 _ ?side1 ?side2 A38.out).mono ?_); (case side1 => exact (Kd.R_reads' HO2.out).2.2); (case side2 => exact (Kd.R_reads' HO2.out).2.1); rintro e w' ⟨rfl, ⟨nd, rfl⟩⟩; refine ⟨_, rfl, ?_⟩) | (refine callA (some 42) Tryz.func36 #[.int .u8 t583] ?_; (with_reducible refine (maskref1_One.calls t583 t584 _ A39.out).mono ?_); rintro e w45 ⟨v585, rfl, ho0, hb⟩; refine ⟨_, rfl, ?_⟩; have HO586 := Aside0.mk (Kd.R_lower (Kd.R_new' (Kd.R_new' (Kd.R_new' (Kd.R_newM (M := fun k_ => ((P1_ k_ ∨ P2_ k_) ∨ w.heap.size ≤ k_)) ho0 (by exact HK.out.1) (fun k_ h_ => .inr h_)) (Kd.R_lt (by (with_reducible repeat (apply Kd.R_drewN)); exact HO1.out))) (Kd.R_lt (by (with_reducible repeat (apply Kd.R_drewN)); exact HO2.out))) (Kd.R_lt (by (with_reducible repeat (apply Kd.R_drewN)); exact HO582.out))) (below_size (by repeat (with_reducible first | exact HB.out | apply pw_below_drewN)))); replace HO1 := Aside0.mk (Kd.R_elder' (by (with_reducible repeat (apply Kd.R_drewN)); exact HO1.out) (Kd.R_base ho0) hb); replace HO2 := Aside0.mk (Kd.R_elder' (by (with_reducible repeat (apply Kd.R_drewN)); exact HO2.out) (Kd.R_base ho0) hb); replace HO582 := Aside0.mk (Kd.R_elder' (by (with_reducible repeat (apply Kd.R_drewN)); exact HO582.out) (Kd.R_base ho0) hb); replace HK := Aside0.mk (Kept.below (S := (fun k_ => P1_ k_ ∨ P2_ k_)) (by repeat (with_reducible first | exact HK.out | apply Kept.drewN)) hb); replace HB := hb1 HB hb; (try clear hb); (try clear ho0); obtain ⟨Ao47, co47, eo47⟩ := Kd.R_slice HO586.out; subst eo47) | ((with_reducible refine gate_builtin (b := .append) (xs := #[.tmp 39, .tmp 42]) rfl ?_); at_builtin; refine Kd.R_append_rows (Kd.int .u8) (w0 := w0) w0.heap.size rfl (.tmp 39) (.tmp 42) 30 5 (.int .u8 0) 1 rfl Tryz.underlying30 info5 rfl (by decide) (by omega) v581 t580 t584 _ _ _ (fun k_ => ((P1_ k_ ∨ P2_ k_) ∨ w.heap.size ≤ k_) ∧ some k_ ≠ (.slice Ao42 l1.length co42 : Value).ownBlock ∧ some k_ ≠ (.slice Ao44 l2.length co44 : Value).ownBlock ∧ some k_ ≠ (.slice Ao47 t584.length co47 : Value).ownBlock) (fun _ => False) rfl rfl ?aO ?aR (fun _ _ h => h) (fun _ h => h.elim) ?aF ?aB ?aS ?aL ?_; (case aR => repeat (exact (Kd.R_reads' HO586.out).2.2)); (case aB => exact HB.out); (case aF => exact (fun k_ hk => ⟨(.inr (Nat.le_trans (by exact HK.out.1) hk)), Kd.fresh' (Kd.R_lt HO1.out) k_ hk, Kd.fresh' (Kd.R_lt HO2.out) k_ hk, Kd.fresh' (Kd.R_lt HO586.out) k_ hk⟩)); (case aO => exact (by exact Kd.R_mono HO582.out (fun _ hk => ⟨hk.1.1.1.1, ⟨hk.1.1.2, ⟨hk.1.2, hk.2⟩⟩⟩))); (case aS => exact (below_size HB.out)); (case aL => have := LMc40.out; omega); intro v588 w46 ho hb hg hat; rw [← Ny587.out] at ho; replace HO1 := Aside0.mk (Kd.R_after (ok := (fun k_ => ((P1_ k_ ∨ P2_ k_) ∨ w.heap.size ≤ k_) ∧ some k_ ≠ (.slice Ao44 l2.length co44 : Value).ownBlock ∧ some k_ ≠ (.slice Ao47 t584.length co47 : Value).ownBlock)) (by exact Kd.R_mono HO1.out (fun _ hk => ⟨⟨hk.1.1.1, ⟨hk.1.1.2, hk.2⟩⟩, hk.1.2⟩)) hg hat); replace HO2 := Aside0.mk (Kd.R_after (ok := (fun k_ => ((P1_ k_ ∨ P2_ k_) ∨ w.heap.size ≤ k_) ∧ some k_ ≠ (.slice Ao42 l1.length co42 : Value).ownBlock ∧ some k_ ≠ (.slice Ao47 t584.length co47 : Value).ownBlock)) (by exact Kd.R_mono HO2.out (fun _ hk => ⟨⟨hk.1.1.1, ⟨hk.1.1.2, hk.2⟩⟩, hk.1.2⟩)) hg hat); replace HO586 := Aside0.mk (Kd.R_after (ok := (fun k_ => ((P1_ k_ ∨ P2_ k_) ∨ w.heap.size ≤ k_) ∧ some k_ ≠ (.slice Ao42 l1.length co42 : Value).ownBlock ∧ some k_ ≠ (.slice Ao44 l2.length co44 : Value).ownBlock)) (by exact Kd.R_mono HO586.out (fun _ hk => ⟨⟨hk.1.1.1.1, ⟨hk.1.1.2, hk.1.2⟩⟩, hk.2⟩)) hg hat); replace HB := Aside0.mk (hb); replace HK := Aside0.mk (Kept.of_grown (S := (fun k_ => P1_ k_ ∨ P2_ k_)) hg HK.out (fun k_ e_ => (HO582.out.1 k_ e_).1.1.1.1)); have HO589 := Aside0.mk (ho); clear HO582; clear ho hb hg hat; obtain ⟨Ao48, co48, eo48⟩ := Kd.R_slice HO589.out; subst eo48) | (refine callA (some 44) Tryz.func32 #[.slice Ao48 y587.length co48, (.func (.func 34) #[] #[])] ?_; (with_reducible refine (maskref1_fold__OrOf.calls k _ _ y587  t590 _ ?side1 ?side2 A41.out).mono ?_); (case side1 => exact (Kd.R_reads' HO589.out).2.2); (case side2 => exact (Kd.R_reads' HO589.out).2.1); rintro e w49 ⟨v591, rfl, ho0, hb⟩; refine ⟨_, rfl, ?_⟩; have HO592 := Aside0.mk (Kd.R_lower (Kd.R_new' (Kd.R_new' (Kd.R_new' (Kd.R_new' (Kd.R_newM (M := fun k_ => ((P1_ k_ ∨ P2_ k_) ∨ w.heap.size ≤ k_)) ho0 (by exact HK.out.1) (fun k_ h_ => .inr h_)) (Kd.R_lt HO1.out)) (Kd.R_lt HO2.out)) (Kd.R_lt HO586.out)) (Kd.R_lt HO589.out)) (below_size HB.out)); replace HO1 := Aside0.mk (Kd.R_elder' HO1.out (Kd.R_base ho0) hb); replace HO2 := Aside0.mk (Kd.R_elder' HO2.out (Kd.R_base ho0) hb); replace HO586 := Aside0.mk (Kd.R_elder' HO586.out (Kd.R_base ho0) hb); replace HO589 := Aside0.mk (Kd.R_elder' HO589.out (Kd.R_base ho0) hb); replace HK := Aside0.mk (Kept.below (S := (fun k_ => P1_ k_ ∨ P2_ k_)) HK.out hb); replace HB := hb1 HB hb; (try clear hb); (try clear ho0)))
       go_ret
       exact ⟨_, by rfl, by exact Kd.R_mono HO592.out (fun _ hk => hk.1.1.1.1.1), by repeat (with_reducible exact HB.out), by repeat (with_reducible exact HK.out)⟩
      ·rw [if_neg c40] at H
       exact absurd H (by simp)
     ·replace H := iE H; rcases H with ⟨c50b0, c50b1, H⟩ | ⟨c50, c50b0, c50b1, H⟩
      ·replace H := bN H; obtain ⟨t593, A51, H⟩ := H
       obtain rfl := Option.some.inj H
       obtain ⟨Ao52, co52, eo52⟩ := Kd.R_slice HO1.out
       subst eo52
       obtain ⟨Ao53, co53, eo53⟩ := Kd.R_slice HO2.out
       subst eo53
       go_enter Tryz.func26, Tryz.ntmps26
       go_wp2_with ((refine callA (some 49) Tryz.func48 #[.slice Ao52 l1.length co52, .slice Ao53 l2.length co53, .bool true, .int .u8 48] ?_; (with_reducible refine (maskref1_moved.calls k _ _ l1 _ _ l2 true 48 t593 _ ?side1 ?side2 ?side3 ?side4 A51.out).mono ?_); (case side1 => exact (Kd.R_reads' HO1.out).2.2); (case side2 => exact (Kd.R_reads' HO1.out).2.1); (case side3 => exact (Kd.R_reads' HO2.out).2.2); (case side4 => exact (Kd.R_reads' HO2.out).2.1); rintro e w54 ⟨v594, rfl, ho0, hb⟩; refine ⟨_, rfl, ?_⟩; have HO595 := Aside0.mk (Kd.R_lower (Kd.R_new' (Kd.R_new' (Kd.R_newM (M := fun k_ => ((P1_ k_ ∨ P2_ k_) ∨ w.heap.size ≤ k_)) ho0 (by exact HK.out.1) (fun k_ h_ => .inr h_)) (Kd.R_lt HO1.out)) (Kd.R_lt HO2.out)) (below_size HB.out)); replace HO1 := Aside0.mk (Kd.R_elder' HO1.out (Kd.R_base ho0) hb); replace HO2 := Aside0.mk (Kd.R_elder' HO2.out (Kd.R_base ho0) hb); replace HK := Aside0.mk (Kept.below (S := (fun k_ => P1_ k_ ∨ P2_ k_)) HK.out hb); replace HB := hb1 HB hb; (try clear hb); (try clear ho0)))
       go_ret
       exact ⟨_, by rfl, by exact Kd.R_mono HO595.out (fun _ hk => hk.1.1.1), by repeat (with_reducible exact HB.out), by repeat (with_reducible exact HK.out)⟩
      ·replace H := iE H; rcases H with ⟨c55b0, c55b1, H⟩ | ⟨c55, c55b0, c55b1, H⟩
       ·replace H := bN H; obtain ⟨t596, A56, H⟩ := H
        obtain rfl := Option.some.inj H
        obtain ⟨Ao57, co57, eo57⟩ := Kd.R_slice HO1.out
        subst eo57
        obtain ⟨Ao58, co58, eo58⟩ := Kd.R_slice HO2.out
        subst eo58
        go_enter Tryz.func26, Tryz.ntmps26
        go_wp2_with ((refine callA (some 54) Tryz.func48 #[.slice Ao57 l1.length co57, .slice Ao58 l2.length co58, .bool false, .int .u8 48] ?_; (with_reducible refine (maskref1_moved.calls k _ _ l1 _ _ l2 false 48 t596 _ ?side1 ?side2 ?side3 ?side4 A56.out).mono ?_); (case side1 => exact (Kd.R_reads' HO1.out).2.2); (case side2 => exact (Kd.R_reads' HO1.out).2.1); (case side3 => exact (Kd.R_reads' HO2.out).2.2); (case side4 => exact (Kd.R_reads' HO2.out).2.1); rintro e w59 ⟨v597, rfl, ho0, hb⟩; refine ⟨_, rfl, ?_⟩; have HO598 := Aside0.mk (Kd.R_lower (Kd.R_new' (Kd.R_new' (Kd.R_newM (M := fun k_ => ((P1_ k_ ∨ P2_ k_) ∨ w.heap.size ≤ k_)) ho0 (by exact HK.out.1) (fun k_ h_ => .inr h_)) (Kd.R_lt HO1.out)) (Kd.R_lt HO2.out)) (below_size HB.out)); replace HO1 := Aside0.mk (Kd.R_elder' HO1.out (Kd.R_base ho0) hb); replace HO2 := Aside0.mk (Kd.R_elder' HO2.out (Kd.R_base ho0) hb); replace HK := Aside0.mk (Kept.below (S := (fun k_ => P1_ k_ ∨ P2_ k_)) HK.out hb); replace HB := hb1 HB hb; (try clear hb); (try clear ho0)))
        go_ret
        exact ⟨_, by rfl, by exact Kd.R_mono HO598.out (fun _ hk => hk.1.1.1), by repeat (with_reducible exact HB.out), by repeat (with_reducible exact HK.out)⟩
       ·replace H := iE H; rcases H with ⟨c60b0, c60b1, H⟩ | ⟨c60, c60b0, c60b1, H⟩
        ·obtain ⟨ji61, hji61⟩ : ∃ j_ : Int, (wrap64 ((l1.length : Int) - 1)) = j_ := ⟨_, rfl⟩
         replace H : (if 0 ≤ (ji61) then (if (ji61) < (l1.length : Int) then ((maskref1_moved.f k l1 l2 false (rd l1 (ji61))).bind fun t600 => (some t600)) else (none)) else (none)) = some r := by (rw [hji61] at H; exact H)
         have hji61w : (IntKind.i64.wrap ((l1.length : Int) - 1)) = ji61 := (i64_w _).trans hji61
         replace H := iN H; obtain ⟨c62b0, H⟩ := H
         replace H := iN H; obtain ⟨c63b0, H⟩ := H
         replace H := bN H; obtain ⟨t600, A64, H⟩ := H
         obtain rfl := Option.some.inj H
         obtain ⟨Ao65, co65, eo65⟩ := Kd.R_slice HO1.out
         subst eo65
         have p599 : 0 ≤ ((ji61) : Int) := of_decide_eq_true (by (with_reducible assumption))
         have q599 : (ji61) < (l1.length : Int) := of_decide_eq_true (by (with_reducible assumption))
         obtain ⟨ad599, e599, hx599_0⟩ := Kd.at_int (Kd.R_reads' HO1.out).2.2 (ji61) p599 q599
         cases e599
         replace p599 := eq_true p599
         replace q599 := eq_true q599
         obtain ⟨Ao66, co66, eo66⟩ := Kd.R_slice HO2.out
         subst eo66
         go_enter Tryz.func26, Tryz.ntmps26
         go_wp2_with ((refine callA (some 65) Tryz.func48 #[.slice (some ad599) l1.length co65, .slice Ao66 l2.length co66, .bool false, .int .u8 (rd l1 (ji61))] ?_; (with_reducible refine (maskref1_moved.calls k _ _ l1 _ _ l2 false (rd l1 (ji61)) t600 _ ?side1 ?side2 ?side3 ?side4 A64.out).mono ?_); (case side1 => exact (Kd.R_reads' HO1.out).2.2); (case side2 => exact (Kd.R_reads' HO1.out).2.1); (case side3 => exact (Kd.R_reads' HO2.out).2.2); (case side4 => exact (Kd.R_reads' HO2.out).2.1); rintro e w67 ⟨v601, rfl, ho0, hb⟩; refine ⟨_, rfl, ?_⟩; have HO602 := Aside0.mk (Kd.R_lower (Kd.R_new' (Kd.R_new' (Kd.R_newM (M := fun k_ => ((P1_ k_ ∨ P2_ k_) ∨ w.heap.size ≤ k_)) ho0 (by exact HK.out.1) (fun k_ h_ => .inr h_)) (Kd.R_lt HO1.out)) (Kd.R_lt HO2.out)) (below_size HB.out)); replace HO1 := Aside0.mk (Kd.R_elder' HO1.out (Kd.R_base ho0) hb); replace HO2 := Aside0.mk (Kd.R_elder' HO2.out (Kd.R_base ho0) hb); replace HK := Aside0.mk (Kept.below (S := (fun k_ => P1_ k_ ∨ P2_ k_)) HK.out hb); replace HB := hb1 HB hb; (try clear hb); (try clear ho0)))
         go_ret
         exact ⟨_, by rfl, by exact Kd.R_mono HO602.out (fun _ hk => hk.1.1.1), by repeat (with_reducible exact HB.out), by repeat (with_reducible exact HK.out)⟩
        ·replace H := iE H; rcases H with ⟨c68b0, c68b1, H⟩ | ⟨c68, c68b0, c68b1, H⟩
         ·replace H := bN H; obtain ⟨t603, A69, H⟩ := H
          replace H := bN H; obtain ⟨t604, A70, H⟩ := H
          obtain rfl := Option.some.inj H
          obtain ⟨Ao71, co71, eo71⟩ := Kd.R_slice HO1.out
          subst eo71
          obtain ⟨Ao72, co72, eo72⟩ := Kd.R_slice HO2.out
          subst eo72
          go_enter Tryz.func26, Tryz.ntmps26
          go_wp2_with (first | (refine callA (some 70) Tryz.func49 #[.slice Ao71 l1.length co71, .slice Ao72 l2.length co72] ?_; (with_reducible refine (maskref1_Compared.calls k _ _ l1 _ _ l2 t603 _ ?side1 ?side2 ?side3 ?side4 A69.out).mono ?_); (case side1 => exact (Kd.R_reads' HO1.out).2.2); (case side2 => exact (Kd.R_reads' HO1.out).2.1); (case side3 => exact (Kd.R_reads' HO2.out).2.2); (case side4 => exact (Kd.R_reads' HO2.out).2.1); rintro e w' ⟨rfl, ⟨nd, rfl⟩⟩; refine ⟨_, rfl, ?_⟩) | (refine callA (some 71) Tryz.func36 #[.int .u8 t603] ?_; (with_reducible refine (maskref1_One.calls t603 t604 _ A70.out).mono ?_); rintro e w73 ⟨v605, rfl, ho0, hb⟩; refine ⟨_, rfl, ?_⟩; have HO606 := Aside0.mk (Kd.R_lower (Kd.R_new' (Kd.R_new' (Kd.R_newM (M := fun k_ => ((P1_ k_ ∨ P2_ k_) ∨ w.heap.size ≤ k_)) ho0 (by exact HK.out.1) (fun k_ h_ => .inr h_)) (Kd.R_lt (by (with_reducible repeat (apply Kd.R_drewN)); exact HO1.out))) (Kd.R_lt (by (with_reducible repeat (apply Kd.R_drewN)); exact HO2.out))) (below_size (by repeat (with_reducible first | exact HB.out | apply pw_below_drewN)))); replace HO1 := Aside0.mk (Kd.R_elder' (by (with_reducible repeat (apply Kd.R_drewN)); exact HO1.out) (Kd.R_base ho0) hb); replace HO2 := Aside0.mk (Kd.R_elder' (by (with_reducible repeat (apply Kd.R_drewN)); exact HO2.out) (Kd.R_base ho0) hb); replace HK := Aside0.mk (Kept.below (S := (fun k_ => P1_ k_ ∨ P2_ k_)) (by repeat (with_reducible first | exact HK.out | apply Kept.drewN)) hb); replace HB := hb1 HB hb; (try clear hb); (try clear ho0)))
          go_ret
          exact ⟨_, by rfl, by exact Kd.R_mono HO606.out (fun _ hk => hk.1.1.1), by repeat (with_reducible exact HB.out), by repeat (with_reducible exact HK.out)⟩
         ·replace H := iE H; rcases H with ⟨c74b0, c74b1, H⟩ | ⟨c74, c74b0, c74b1, H⟩
          ·replace H := bN H; obtain ⟨t607, A75, H⟩ := H
           replace H := bN H; obtain ⟨t608, A76, H⟩ := H
           replace H := bN H; obtain ⟨t609, A77, H⟩ := H
           obtain rfl := Option.some.inj H
           obtain ⟨Ao78, co78, eo78⟩ := Kd.R_slice HO1.out
           subst eo78
           obtain ⟨Ao79, co79, eo79⟩ := Kd.R_slice HO2.out
           subst eo79
           go_enter Tryz.func26, Tryz.ntmps26
           go_wp2_with (first | (refine callA (some 76) Tryz.func49 #[.slice Ao78 l1.length co78, .slice Ao79 l2.length co79] ?_; (with_reducible refine (maskref1_Compared.calls k _ _ l1 _ _ l2 t607 _ ?side1 ?side2 ?side3 ?side4 A75.out).mono ?_); (case side1 => exact (Kd.R_reads' HO1.out).2.2); (case side2 => exact (Kd.R_reads' HO1.out).2.1); (case side3 => exact (Kd.R_reads' HO2.out).2.2); (case side4 => exact (Kd.R_reads' HO2.out).2.1); rintro e w' ⟨rfl, ⟨nd, rfl⟩⟩; refine ⟨_, rfl, ?_⟩) | (refine callA (some 77) Tryz.func37 #[.int .u8 t607] ?_; (with_reducible refine (maskref1_Opposite.calls t607 t608 _ A76.out).mono ?_); rintro e w' ⟨rfl, ⟨nd, rfl⟩⟩; refine ⟨_, rfl, ?_⟩) | (refine callA (some 78) Tryz.func36 #[.int .u8 t608] ?_; (with_reducible refine (maskref1_One.calls t608 t609 _ A77.out).mono ?_); rintro e w80 ⟨v610, rfl, ho0, hb⟩; refine ⟨_, rfl, ?_⟩; have HO611 := Aside0.mk (Kd.R_lower (Kd.R_new' (Kd.R_new' (Kd.R_newM (M := fun k_ => ((P1_ k_ ∨ P2_ k_) ∨ w.heap.size ≤ k_)) ho0 (by exact HK.out.1) (fun k_ h_ => .inr h_)) (Kd.R_lt (by (with_reducible repeat (apply Kd.R_drewN)); exact HO1.out))) (Kd.R_lt (by (with_reducible repeat (apply Kd.R_drewN)); exact HO2.out))) (below_size (by repeat (with_reducible first | exact HB.out | apply pw_below_drewN)))); replace HO1 := Aside0.mk (Kd.R_elder' (by (with_reducible repeat (apply Kd.R_drewN)); exact HO1.out) (Kd.R_base ho0) hb); replace HO2 := Aside0.mk (Kd.R_elder' (by (with_reducible repeat (apply Kd.R_drewN)); exact HO2.out) (Kd.R_base ho0) hb); replace HK := Aside0.mk (Kept.below (S := (fun k_ => P1_ k_ ∨ P2_ k_)) (by repeat (with_reducible first | exact HK.out | apply Kept.drewN)) hb); replace HB := hb1 HB hb; (try clear hb); (try clear ho0)))
           go_ret
           exact ⟨_, by rfl, by exact Kd.R_mono HO611.out (fun _ hk => hk.1.1.1), by repeat (with_reducible exact HB.out), by repeat (with_reducible exact HK.out)⟩
          ·replace H := iE H; rcases H with ⟨c81b0, c81b1, H⟩ | ⟨c81, c81b0, c81b1, H⟩
           ·replace H := bN H; obtain ⟨t612, A82, H⟩ := H
            replace H := bN H; obtain ⟨t613, A83, H⟩ := H
            replace H := bN H; obtain ⟨t614, A84, H⟩ := H
            obtain rfl := Option.some.inj H
            obtain ⟨Ao85, co85, eo85⟩ := Kd.R_slice HO1.out
            subst eo85
            obtain ⟨Ao86, co86, eo86⟩ := Kd.R_slice HO2.out
            subst eo86
            go_enter Tryz.func26, Tryz.ntmps26
            go_wp2_with (first | (refine callA (some 83) Tryz.func51 #[.slice Ao85 l1.length co85, .slice Ao86 l2.length co86] ?_; (with_reducible refine (maskref1_same.calls _ _ l1 _ _ l2 t612 _ ?side1 ?side2 ?side3 ?side4 A82.out).mono ?_); (case side1 => exact (Kd.R_reads' HO1.out).2.2); (case side2 => exact (Kd.R_reads' HO1.out).2.1); (case side3 => exact (Kd.R_reads' HO2.out).2.2); (case side4 => exact (Kd.R_reads' HO2.out).2.1); rintro e w' ⟨rfl, ⟨nd, rfl⟩⟩; refine ⟨_, rfl, ?_⟩) | (refine callA (some 84) Tryz.func50 #[.bool t612] ?_; (with_reducible refine (maskref1_truthOf.calls t612 t613 _ A83.out).mono ?_); rintro e w' ⟨rfl, ⟨nd, rfl⟩⟩; refine ⟨_, rfl, ?_⟩) | (refine callA (some 85) Tryz.func36 #[.int .u8 t613] ?_; (with_reducible refine (maskref1_One.calls t613 t614 _ A84.out).mono ?_); rintro e w87 ⟨v615, rfl, ho0, hb⟩; refine ⟨_, rfl, ?_⟩; have HO616 := Aside0.mk (Kd.R_lower (Kd.R_new' (Kd.R_new' (Kd.R_newM (M := fun k_ => ((P1_ k_ ∨ P2_ k_) ∨ w.heap.size ≤ k_)) ho0 (by exact HK.out.1) (fun k_ h_ => .inr h_)) (Kd.R_lt (by (with_reducible repeat (apply Kd.R_drewN)); exact HO1.out))) (Kd.R_lt (by (with_reducible repeat (apply Kd.R_drewN)); exact HO2.out))) (below_size (by repeat (with_reducible first | exact HB.out | apply pw_below_drewN)))); replace HO1 := Aside0.mk (Kd.R_elder' (by (with_reducible repeat (apply Kd.R_drewN)); exact HO1.out) (Kd.R_base ho0) hb); replace HO2 := Aside0.mk (Kd.R_elder' (by (with_reducible repeat (apply Kd.R_drewN)); exact HO2.out) (Kd.R_base ho0) hb); replace HK := Aside0.mk (Kept.below (S := (fun k_ => P1_ k_ ∨ P2_ k_)) (by repeat (with_reducible first | exact HK.out | apply Kept.drewN)) hb); replace HB := hb1 HB hb; (try clear hb); (try clear ho0)))
            go_ret
            exact ⟨_, by rfl, by exact Kd.R_mono HO616.out (fun _ hk => hk.1.1.1), by repeat (with_reducible exact HB.out), by repeat (with_reducible exact HK.out)⟩
           ·replace H := iE H; rcases H with ⟨c88b0, c88b1, H⟩ | ⟨c88, c88b0, c88b1, H⟩
            ·replace H := bN H; obtain ⟨t617, A89, H⟩ := H
             replace H := bN H; obtain ⟨t618, A90, H⟩ := H
             replace H := bN H; obtain ⟨t619, A91, H⟩ := H
             obtain rfl := Option.some.inj H
             obtain ⟨Ao92, co92, eo92⟩ := Kd.R_slice HO1.out
             subst eo92
             obtain ⟨Ao93, co93, eo93⟩ := Kd.R_slice HO2.out
             subst eo93
             go_enter Tryz.func26, Tryz.ntmps26
             go_wp2_with (first | (refine callA (some 90) Tryz.func51 #[.slice Ao92 l1.length co92, .slice Ao93 l2.length co93] ?_; (with_reducible refine (maskref1_same.calls _ _ l1 _ _ l2 t617 _ ?side1 ?side2 ?side3 ?side4 A89.out).mono ?_); (case side1 => exact (Kd.R_reads' HO1.out).2.2); (case side2 => exact (Kd.R_reads' HO1.out).2.1); (case side3 => exact (Kd.R_reads' HO2.out).2.2); (case side4 => exact (Kd.R_reads' HO2.out).2.1); rintro e w' ⟨rfl, ⟨nd, rfl⟩⟩; refine ⟨_, rfl, ?_⟩) | (refine callA (some 92) Tryz.func50 #[.bool (!t617)] ?_; (with_reducible refine (maskref1_truthOf.calls (!t617) t618 _ A90.out).mono ?_); rintro e w' ⟨rfl, ⟨nd, rfl⟩⟩; refine ⟨_, rfl, ?_⟩) | (refine callA (some 93) Tryz.func36 #[.int .u8 t618] ?_; (with_reducible refine (maskref1_One.calls t618 t619 _ A91.out).mono ?_); rintro e w94 ⟨v620, rfl, ho0, hb⟩; refine ⟨_, rfl, ?_⟩; have HO621 := Aside0.mk (Kd.R_lower (Kd.R_new' (Kd.R_new' (Kd.R_newM (M := fun k_ => ((P1_ k_ ∨ P2_ k_) ∨ w.heap.size ≤ k_)) ho0 (by exact HK.out.1) (fun k_ h_ => .inr h_)) (Kd.R_lt (by (with_reducible repeat (apply Kd.R_drewN)); exact HO1.out))) (Kd.R_lt (by (with_reducible repeat (apply Kd.R_drewN)); exact HO2.out))) (below_size (by repeat (with_reducible first | exact HB.out | apply pw_below_drewN)))); replace HO1 := Aside0.mk (Kd.R_elder' (by (with_reducible repeat (apply Kd.R_drewN)); exact HO1.out) (Kd.R_base ho0) hb); replace HO2 := Aside0.mk (Kd.R_elder' (by (with_reducible repeat (apply Kd.R_drewN)); exact HO2.out) (Kd.R_base ho0) hb); replace HK := Aside0.mk (Kept.below (S := (fun k_ => P1_ k_ ∨ P2_ k_)) (by repeat (with_reducible first | exact HK.out | apply Kept.drewN)) hb); replace HB := hb1 HB hb; (try clear hb); (try clear ho0)))
             go_ret
             exact ⟨_, by rfl, by exact Kd.R_mono HO621.out (fun _ hk => hk.1.1.1), by repeat (with_reducible exact HB.out), by repeat (with_reducible exact HK.out)⟩
            ·have HC95 := Aside0.mk H
             clear H
             go_enter Tryz.func26, Tryz.ntmps26
             go_upto_if 94 with (fail)
             go_cut [94] (fun v94 wc => ∃ (kq : Nat) (x94_94 : Bool), v94 = .bool x94_94 ∧ Aside0 (maskref1_Binary.j0 kq a0 l1 l2 a3 x94_94 = some r) ∧ Aside0 (kq ≤ k) ∧ Aside0 (Kd.R (Kd.int .u8) 5 wc w0.heap.size (fun k_ => ((P1_ k_ ∨ P2_ k_) ∨ w.heap.size ≤ k_) ∧ some k_ ≠ (u9001_ : Value).ownBlock) u9000_ l1) ∧ Aside0 (Kd.R (Kd.int .u8) 5 wc w0.heap.size (fun k_ => ((P1_ k_ ∨ P2_ k_) ∨ w.heap.size ≤ k_) ∧ some k_ ≠ (u9000_ : Value).ownBlock) u9001_ l2) ∧ Aside0 (Kept w wc (fun k_ => P1_ k_ ∨ P2_ k_)) ∧ Aside0 (Below w0.heap.size w0 wc))
             case first =>
              have H := HC95.out
              clear HC95
              replace H := iE H; rcases H with ⟨c96b0, c96b1, H⟩ | ⟨c96, c96b0, c96b1, H⟩
              ·(rw [c96b0])
               have H' := Aside0.mk H
               clear H
               go_wp2
               go_meet
               case rel => exact ⟨_, (a0 == 28), (by (simp [*]; done)), H', ⟨by omega⟩, ⟨by exact HO1.out⟩, ⟨by exact HO2.out⟩, ⟨by repeat (with_reducible exact HK.out)⟩, ⟨by repeat (with_reducible exact HB.out)⟩⟩
              ·(rw [c96b0])
               have H' := Aside0.mk H
               clear H
               go_wp2
               go_meet
               case rel => exact ⟨_, (a0 == 29), (by rfl), H', ⟨by omega⟩, ⟨by exact HO1.out⟩, ⟨by exact HO2.out⟩, ⟨by repeat (with_reducible exact HK.out)⟩, ⟨by repeat (with_reducible exact HB.out)⟩⟩
             case rest =>
              clear HC95
              (try clear c5); (try clear c5b0); (try clear c5b1); (try clear c10); (try clear c10b0); (try clear c10b1); (try clear c15); (try clear c15b0); (try clear c15b1); (try clear c20); (try clear c20b0); (try clear c20b1); (try clear c35); (try clear c35b0); (try clear c35b1); (try clear c50); (try clear c50b0); (try clear c50b1); (try clear c55); (try clear c55b0); (try clear c55b1); (try clear c60); (try clear c60b0); (try clear c60b1); (try clear c68); (try clear c68b0); (try clear c68b1); (try clear c74); (try clear c74b0); (try clear c74b1); (try clear c81); (try clear c81b0); (try clear c81b1); (try clear c88); (try clear c88b0); (try clear c88b1)
              obtain ⟨kq, x94_94, rfl, HA, HJ94, HO_1, HO_2, HK, HB⟩ := hcut
              cases kq with
              | zero => exact absurd HA.out (by simp [maskref1_Binary.j0])
              | succ kj94 =>
               have H := HA.out
               clear HA
               simp only [maskref1_Binary.j0] at H
               replace H := iB H; rcases H with ⟨rfl, H⟩ | ⟨rfl, H⟩
               ·have HC98 := Aside0.mk H
                clear H
                go_upto_region 28 with (fail)
                go_cut [104] (fun v104 wc => ∃ (kq : Nat) (x104_97 : Bool), v104 = .bool x104_97 ∧ Aside0 (maskref1_Binary.j1 kq a0 l1 l2 a3 x104_97 = some r) ∧ Aside0 (kq ≤ kj94) ∧ Aside0 (Kd.R (Kd.int .u8) 5 wc w0.heap.size (fun k_ => ((P1_ k_ ∨ P2_ k_) ∨ w.heap.size ≤ k_) ∧ some k_ ≠ (u9001_ : Value).ownBlock) u9000_ l1) ∧ Aside0 (Kd.R (Kd.int .u8) 5 wc w0.heap.size (fun k_ => ((P1_ k_ ∨ P2_ k_) ∨ w.heap.size ≤ k_) ∧ some k_ ≠ (u9000_ : Value).ownBlock) u9001_ l2) ∧ Aside0 (Kept w wc (fun k_ => P1_ k_ ∨ P2_ k_)) ∧ Aside0 (Below w0.heap.size w0 wc))
                case first =>
                 have H := HC98.out
                 clear HC98
                 replace H := bN H; obtain ⟨t622, A99, H⟩ := H
                 replace H := iB H; rcases H with ⟨rfl, H⟩ | ⟨rfl, H⟩
                 ·replace H := bN H; obtain ⟨t623, A101, H⟩ := H
                  have H' := Aside0.mk H
                  clear H
                  obtain ⟨Ao102, co102, eo102⟩ := Kd.R_slice HO_1.out
                  subst eo102
                  go_wp2_with (first | (refine callA (some 98) Tryz.func52 #[.slice Ao102 l1.length co102] ?_; (with_reducible refine (maskref1_Known.calls kj94 _ _ l1 true _ ?side1 ?side2 A99.out).mono ?_); (case side1 => exact (Kd.R_reads' HO_1.out).2.2); (case side2 => exact (Kd.R_reads' HO_1.out).2.1); rintro e w' ⟨rfl, ⟨nd, rfl⟩⟩; refine ⟨_, rfl, ?_⟩; obtain ⟨Ao103, co103, eo103⟩ := Kd.R_slice HO_2.out; subst eo103) | (go_at_call 52; (with_reducible refine (maskref1_Known.calls kj94 _ _ l2 t623 _ ?side1 ?side2 A101.out).mono ?_); (case side1 => exact (Kd.R_reads' HO_2.out).2.2); (case side2 => exact (Kd.R_reads' HO_2.out).2.1); rintro e w' ⟨rfl, ⟨nd, rfl⟩⟩))
                  go_meet
                  case rel => exact ⟨_, (!t623), (by rfl), H', ⟨by have := HJ94.out; omega⟩, ⟨by (with_reducible repeat (apply Kd.R_drewN)); exact HO_1.out⟩, ⟨by (with_reducible repeat (apply Kd.R_drewN)); exact HO_2.out⟩, ⟨by repeat (with_reducible first | exact HK.out | apply Kept.drewN)⟩, ⟨by repeat (with_reducible first | exact HB.out | apply pw_below_drewN)⟩⟩
                 ·have H' := Aside0.mk H
                  clear H
                  obtain ⟨Ao104, co104, eo104⟩ := Kd.R_slice HO_1.out
                  subst eo104
                  go_wp2_with ((refine callA (some 98) Tryz.func52 #[.slice Ao104 l1.length co104] ?_; (with_reducible refine (maskref1_Known.calls kj94 _ _ l1 false _ ?side1 ?side2 A99.out).mono ?_); (case side1 => exact (Kd.R_reads' HO_1.out).2.2); (case side2 => exact (Kd.R_reads' HO_1.out).2.1); rintro e w' ⟨rfl, ⟨nd, rfl⟩⟩; refine ⟨_, rfl, ?_⟩))
                  go_meet
                  case rel => exact ⟨_, (true), (by rfl), H', ⟨by have := HJ94.out; omega⟩, ⟨by (with_reducible repeat (apply Kd.R_drewN)); exact HO_1.out⟩, ⟨by (with_reducible repeat (apply Kd.R_drewN)); exact HO_2.out⟩, ⟨by repeat (with_reducible first | exact HK.out | apply Kept.drewN)⟩, ⟨by repeat (with_reducible first | exact HB.out | apply pw_below_drewN)⟩⟩
                case rest =>
                 clear HC98
                 obtain ⟨kq, x104_97, rfl, HA, HJ97, HO_1, HO_2, HK, HB⟩ := hcut
                 cases kq with
                 | zero => exact absurd HA.out (by simp [maskref1_Binary.j1])
                 | succ kj97 =>
                  have H := HA.out
                  clear HA
                  simp only [maskref1_Binary.j1] at H
                  replace H := iB H; rcases H with ⟨rfl, H⟩ | ⟨rfl, H⟩
                  ·replace H := bN H; obtain ⟨t624, A106, H⟩ := H
                   obtain rfl := Option.some.inj H
                   go_wp2_with ((refine callA (some 105) Tryz.func36 #[.int .u8 117] ?_; (with_reducible refine (maskref1_One.calls 117 t624 _ A106.out).mono ?_); rintro e w107 ⟨v625, rfl, ho0, hb⟩; refine ⟨_, rfl, ?_⟩; have HO626 := Aside0.mk (Kd.R_lower (Kd.R_new' (Kd.R_new' (Kd.R_newM (M := fun k_ => ((P1_ k_ ∨ P2_ k_) ∨ w.heap.size ≤ k_)) ho0 (by exact HK.out.1) (fun k_ h_ => .inr h_)) (Kd.R_lt HO_1.out)) (Kd.R_lt HO_2.out)) (below_size HB.out)); replace HO_1 := Aside0.mk (Kd.R_elder' HO_1.out (Kd.R_base ho0) hb); replace HO_2 := Aside0.mk (Kd.R_elder' HO_2.out (Kd.R_base ho0) hb); replace HK := Aside0.mk (Kept.below (S := (fun k_ => P1_ k_ ∨ P2_ k_)) HK.out hb); replace HB := hb1 HB hb; (try clear hb); (try clear ho0)))
                   go_ret
                   exact ⟨_, by rfl, by exact Kd.R_mono HO626.out (fun _ hk => hk.1.1.1), by repeat (with_reducible exact HB.out), by repeat (with_reducible exact HK.out)⟩
                  ·replace H := bN H; obtain ⟨t627, A108, H⟩ := H
                   replace H := iB H; rcases H with ⟨rfl, H⟩ | ⟨rfl, H⟩
                   ·replace H := bN H; obtain ⟨t628, A110, H⟩ := H
                    replace H := bN H; obtain ⟨t629, A111, H⟩ := H
                    obtain rfl := Option.some.inj H
                    obtain ⟨Ao112, co112, eo112⟩ := Kd.R_slice HO_1.out
                    subst eo112
                    obtain ⟨Ao113, co113, eo113⟩ := Kd.R_slice HO_2.out
                    subst eo113
                    go_wp2_with (first | (refine callA (some 109) Tryz.func53 #[.slice Ao112 l1.length co112, .slice Ao113 l2.length co113, .bool a3] ?_; (with_reducible refine (maskref1_below.calls kj97 _ _ l1 _ _ l2 a3 true _ ?side1 ?side2 ?side3 ?side4 A108.out).mono ?_); (case side1 => exact (Kd.R_reads' HO_1.out).2.2); (case side2 => exact (Kd.R_reads' HO_1.out).2.1); (case side3 => exact (Kd.R_reads' HO_2.out).2.2); (case side4 => exact (Kd.R_reads' HO_2.out).2.1); rintro e w' ⟨rfl, ⟨nd, rfl⟩⟩; refine ⟨_, rfl, ?_⟩) | (refine callA (some 119) Tryz.func50 #[.bool true] ?_; (with_reducible refine (maskref1_truthOf.calls true t628 _ A110.out).mono ?_); rintro e w' ⟨rfl, ⟨nd, rfl⟩⟩; refine ⟨_, rfl, ?_⟩) | (refine callA (some 120) Tryz.func36 #[.int .u8 t628] ?_; (with_reducible refine (maskref1_One.calls t628 t629 _ A111.out).mono ?_); rintro e w114 ⟨v630, rfl, ho0, hb⟩; refine ⟨_, rfl, ?_⟩; have HO631 := Aside0.mk (Kd.R_lower (Kd.R_new' (Kd.R_new' (Kd.R_newM (M := fun k_ => ((P1_ k_ ∨ P2_ k_) ∨ w.heap.size ≤ k_)) ho0 (by exact HK.out.1) (fun k_ h_ => .inr h_)) (Kd.R_lt (by (with_reducible repeat (apply Kd.R_drewN)); exact HO_1.out))) (Kd.R_lt (by (with_reducible repeat (apply Kd.R_drewN)); exact HO_2.out))) (below_size (by repeat (with_reducible first | exact HB.out | apply pw_below_drewN)))); replace HO_1 := Aside0.mk (Kd.R_elder' (by (with_reducible repeat (apply Kd.R_drewN)); exact HO_1.out) (Kd.R_base ho0) hb); replace HO_2 := Aside0.mk (Kd.R_elder' (by (with_reducible repeat (apply Kd.R_drewN)); exact HO_2.out) (Kd.R_base ho0) hb); replace HK := Aside0.mk (Kept.below (S := (fun k_ => P1_ k_ ∨ P2_ k_)) (by repeat (with_reducible first | exact HK.out | apply Kept.drewN)) hb); replace HB := hb1 HB hb; (try clear hb); (try clear ho0)))
                    go_ret
                    exact ⟨_, by rfl, by exact Kd.R_mono HO631.out (fun _ hk => hk.1.1.1), by repeat (with_reducible exact HB.out), by repeat (with_reducible exact HK.out)⟩
                   ·replace H := iE H; rcases H with ⟨c115b0, c115b1, H⟩ | ⟨c115, c115b0, c115b1, H⟩
                    ·replace H := bN H; obtain ⟨t632, A116, H⟩ := H
                     replace H := bN H; obtain ⟨t633, A117, H⟩ := H
                     replace H := bN H; obtain ⟨t634, A118, H⟩ := H
                     obtain rfl := Option.some.inj H
                     obtain ⟨Ao119, co119, eo119⟩ := Kd.R_slice HO_1.out
                     subst eo119
                     obtain ⟨Ao120, co120, eo120⟩ := Kd.R_slice HO_2.out
                     subst eo120
                     go_wp2_with (first | (refine callA (some 109) Tryz.func53 #[.slice Ao119 l1.length co119, .slice Ao120 l2.length co120, .bool a3] ?_; (with_reducible refine (maskref1_below.calls kj97 _ _ l1 _ _ l2 a3 false _ ?side1 ?side2 ?side3 ?side4 A108.out).mono ?_); (case side1 => exact (Kd.R_reads' HO_1.out).2.2); (case side2 => exact (Kd.R_reads' HO_1.out).2.1); (case side3 => exact (Kd.R_reads' HO_2.out).2.2); (case side4 => exact (Kd.R_reads' HO_2.out).2.1); rintro e w' ⟨rfl, ⟨nd, rfl⟩⟩; refine ⟨_, rfl, ?_⟩) | (go_at_call 51; (with_reducible refine (maskref1_same.calls _ _ l1 _ _ l2 t632 _ ?side1 ?side2 ?side3 ?side4 A116.out).mono ?_); (case side1 => exact (Kd.R_reads' HO_1.out).2.2); (case side2 => exact (Kd.R_reads' HO_1.out).2.1); (case side3 => exact (Kd.R_reads' HO_2.out).2.2); (case side4 => exact (Kd.R_reads' HO_2.out).2.1); rintro e w' ⟨rfl, ⟨nd, rfl⟩⟩) | (refine callA (some 119) Tryz.func50 #[.bool t632] ?_; (with_reducible refine (maskref1_truthOf.calls t632 t633 _ A117.out).mono ?_); rintro e w' ⟨rfl, ⟨nd, rfl⟩⟩; refine ⟨_, rfl, ?_⟩) | (refine callA (some 120) Tryz.func36 #[.int .u8 t633] ?_; (with_reducible refine (maskref1_One.calls t633 t634 _ A118.out).mono ?_); rintro e w121 ⟨v635, rfl, ho0, hb⟩; refine ⟨_, rfl, ?_⟩; have HO636 := Aside0.mk (Kd.R_lower (Kd.R_new' (Kd.R_new' (Kd.R_newM (M := fun k_ => ((P1_ k_ ∨ P2_ k_) ∨ w.heap.size ≤ k_)) ho0 (by exact HK.out.1) (fun k_ h_ => .inr h_)) (Kd.R_lt (by (with_reducible repeat (apply Kd.R_drewN)); exact HO_1.out))) (Kd.R_lt (by (with_reducible repeat (apply Kd.R_drewN)); exact HO_2.out))) (below_size (by repeat (with_reducible first | exact HB.out | apply pw_below_drewN)))); replace HO_1 := Aside0.mk (Kd.R_elder' (by (with_reducible repeat (apply Kd.R_drewN)); exact HO_1.out) (Kd.R_base ho0) hb); replace HO_2 := Aside0.mk (Kd.R_elder' (by (with_reducible repeat (apply Kd.R_drewN)); exact HO_2.out) (Kd.R_base ho0) hb); replace HK := Aside0.mk (Kept.below (S := (fun k_ => P1_ k_ ∨ P2_ k_)) (by repeat (with_reducible first | exact HK.out | apply Kept.drewN)) hb); replace HB := hb1 HB hb; (try clear hb); (try clear ho0)))
                     go_ret
                     exact ⟨_, by rfl, by exact Kd.R_mono HO636.out (fun _ hk => hk.1.1.1), by repeat (with_reducible exact HB.out), by repeat (with_reducible exact HK.out)⟩
                    ·replace H := bN H; obtain ⟨t637, A122, H⟩ := H
                     replace H := bN H; obtain ⟨t638, A123, H⟩ := H
                     obtain rfl := Option.some.inj H
                     obtain ⟨Ao124, co124, eo124⟩ := Kd.R_slice HO_1.out
                     subst eo124
                     obtain ⟨Ao125, co125, eo125⟩ := Kd.R_slice HO_2.out
                     subst eo125
                     go_wp2_with (first | (refine callA (some 109) Tryz.func53 #[.slice Ao124 l1.length co124, .slice Ao125 l2.length co125, .bool a3] ?_; (with_reducible refine (maskref1_below.calls kj97 _ _ l1 _ _ l2 a3 false _ ?side1 ?side2 ?side3 ?side4 A108.out).mono ?_); (case side1 => exact (Kd.R_reads' HO_1.out).2.2); (case side2 => exact (Kd.R_reads' HO_1.out).2.1); (case side3 => exact (Kd.R_reads' HO_2.out).2.2); (case side4 => exact (Kd.R_reads' HO_2.out).2.1); rintro e w' ⟨rfl, ⟨nd, rfl⟩⟩; refine ⟨_, rfl, ?_⟩) | (refine callA (some 119) Tryz.func50 #[.bool false] ?_; (with_reducible refine (maskref1_truthOf.calls false t637 _ A122.out).mono ?_); rintro e w' ⟨rfl, ⟨nd, rfl⟩⟩; refine ⟨_, rfl, ?_⟩) | (refine callA (some 120) Tryz.func36 #[.int .u8 t637] ?_; (with_reducible refine (maskref1_One.calls t637 t638 _ A123.out).mono ?_); rintro e w126 ⟨v639, rfl, ho0, hb⟩; refine ⟨_, rfl, ?_⟩; have HO640 := Aside0.mk (Kd.R_lower (Kd.R_new' (Kd.R_new' (Kd.R_newM (M := fun k_ => ((P1_ k_ ∨ P2_ k_) ∨ w.heap.size ≤ k_)) ho0 (by exact HK.out.1) (fun k_ h_ => .inr h_)) (Kd.R_lt (by (with_reducible repeat (apply Kd.R_drewN)); exact HO_1.out))) (Kd.R_lt (by (with_reducible repeat (apply Kd.R_drewN)); exact HO_2.out))) (below_size (by repeat (with_reducible first | exact HB.out | apply pw_below_drewN)))); replace HO_1 := Aside0.mk (Kd.R_elder' (by (with_reducible repeat (apply Kd.R_drewN)); exact HO_1.out) (Kd.R_base ho0) hb); replace HO_2 := Aside0.mk (Kd.R_elder' (by (with_reducible repeat (apply Kd.R_drewN)); exact HO_2.out) (Kd.R_base ho0) hb); replace HK := Aside0.mk (Kept.below (S := (fun k_ => P1_ k_ ∨ P2_ k_)) (by repeat (with_reducible first | exact HK.out | apply Kept.drewN)) hb); replace HB := hb1 HB hb; (try clear hb); (try clear ho0)))
                     go_ret
                     exact ⟨_, by rfl, by exact Kd.R_mono HO640.out (fun _ hk => hk.1.1.1), by repeat (with_reducible exact HB.out), by repeat (with_reducible exact HK.out)⟩
               ·replace H := bN H; obtain ⟨t641, A127, H⟩ := H
                obtain rfl := Option.some.inj H
                obtain ⟨Ao128, co128, eo128⟩ := Kd.R_slice HO_1.out
                subst eo128
                obtain ⟨Ao129, co129, eo129⟩ := Kd.R_slice HO_2.out
                subst eo129
                go_wp2_with ((refine callA (some 125) Tryz.func30 #[.int .i64 a0, .slice Ao128 l1.length co128, .slice Ao129 l2.length co129, .bool a3] ?_; (with_reducible refine (maskref1_Number.calls kj94 a0 (fun k_ => some k_ = (.slice Ao128 l1.length co128 : Value).ownBlock) (.slice Ao128 l1.length co128) l1 (fun k_ => some k_ = (.slice Ao129 l2.length co129 : Value).ownBlock) (.slice Ao129 l2.length co129) l2 a3 t641 w0 _ ?side1 ?side2 ?side3 ?side4 ?side5 A127.out).mono ?_); (case side1 => repeat (with_reducible exact HB.out)); (case side2 => exact Kd.R_tight rfl HO_1.out); (case side3 => exact fun k_ e_ => (HO_1.out.1 k_ e_.symm).2); (case side4 => exact Kd.R_tight rfl HO_2.out); (case side5 => exact fun k_ e_ => (HO_2.out.1 k_ e_.symm).2); rintro e w130 ⟨v642, rfl, ho0, hb, hkp⟩; refine ⟨_, rfl, ?_⟩; have HO643 := Aside0.mk (Kd.R_mono (ok' := fun k_ => ((P1_ k_ ∨ P2_ k_) ∨ w.heap.size ≤ k_)) ho0 (fun k_ hk_ => Or.elim hk_ (fun hs_ => Or.elim hs_ (fun hs_ => (HO_1.out.1 k_ (hs_).symm).1) (fun hs_ => (HO_2.out.1 k_ (hs_).symm).1)) (fun hn_ => (.inr (Nat.le_trans (by exact HK.out.1) hn_))))); replace HK := Aside0.mk (Kept.then_ (S := (fun k_ => P1_ k_ ∨ P2_ k_)) HK.out hkp (fun k_ hs_ => Or.elim hs_ (fun e_ => (fun e_ => (HO_1.out.1 k_ e_.symm).1) e_) (fun e_ => (fun e_ => (HO_2.out.1 k_ e_.symm).1) e_))); replace HB := Aside0.mk (hb); clear HO_1 HO_2; (try clear hb); (try clear hkp); (try clear ho0)))
                go_ret
                exact ⟨_, by rfl, by exact HO643.out, by repeat (with_reducible exact HB.out), by repeat (with_reducible exact HK.out)⟩
end Go.Proofs.YtfigblfjogpojaaGreatDoor.PJoin
end
section
namespace Go.Proofs.YtfigblfjogpojaaGreatDoor.PJoin
open Go.Proofs.YtfigblfjogpojaaGreatDoor.PBits
open Go.RowKit Go.Proofs.YtfigblfjogpojaaGreatDoorW.PrintWords Go.Proofs.YtfigblfjogpojaaGreatDoorW.PrintLast Go.Proofs.YtfigblfjogpojaaGreatDoorW.PrintMore
attribute [local go_sem] max2_int min2_int max_two min_two max_three min_three max_four min_four
set_option linter.unusedVariables false
set_option linter.unusedSimpArgs false
def maskref1_unaryOf.f (k : Nat) (a0 : Int) (l1 : List Int) : Option (List Int) := if a0 = 5 then ((maskref1_inverse.f k l1).bind fun t356 => (some t356)) else (if a0 = 6 then ((maskref1_Fill.f k (l1.length : Int) 48).bind fun t359 => ((maskref1_Number.f k 17 t359 l1 false).bind fun t362 => (some t362))) else (if a0 = 7 then ((maskref1_fold__AndOf.f k l1).bind fun t365 => (some t365)) else (if a0 = 8 then ((maskref1_fold__OrOf.f k l1).bind fun t368 => (some t368)) else (if a0 = 9 then ((maskref1_fold__XorOf.f k l1).bind fun t371 => (some t371)) else (if a0 = 10 then ((maskref1_Truth.f k l1).bind fun t374 => ((maskref1_Opposite.f t374).bind fun t375 => ((maskref1_One.f t375).bind fun t376 => (some t376)))) else (some ([] : List Int)))))))
set_option maxHeartbeats 8000000 in
set_option maxRecDepth 100000 in
theorem maskref1_unaryOf.calls (k : Nat) (a0 : Int) (P1_ : Nat → Prop) (u9000_ : Value) (l1 : List Int) (r : List Int) (w0 w : World) (hB : Below w0.heap.size w0 w) (ho1 : Kd.R (Kd.int .u8) 5 w w0.heap.size P1_ u9000_ l1) (h : maskref1_unaryOf.f k a0 l1 = some r) :
  Calls Tryz.prog 21 #[.int .i64 a0, u9000_] w fun e w' => ∃ v0_ : Value, e = .returned (v0_) ∧ Kd.R (Kd.int .u8) 5 w' w0.heap.size (fun k_ => (P1_ k_ ∨ w.heap.size ≤ k_)) v0_ r ∧ Below w0.heap.size w0 w' ∧ Kept w w' (fun k_ => P1_ k_) := by
 have HO1 := Aside0.mk (show Kd.R (Kd.int .u8) 5 w w0.heap.size (fun k_ => (P1_ k_ ∨ w.heap.size ≤ k_)) u9000_ l1 from Kd.R_mono ho1 (fun k_ hk => (.inl hk)))
 have HK := Aside0.mk (Kept.refl w (fun k_ => P1_ k_))
 have HW0 := Aside0.mk hB.size
 have HB := Aside0.mk hB
 clear hB
 have H := h
 clear h
 unfold maskref1_unaryOf.f at H
 replace H := iE H; rcases H with ⟨c3b0, c3b1, H⟩ | ⟨c3, c3b0, c3b1, H⟩
 ·replace H := bN H; obtain ⟨t356, A4, H⟩ := H
  obtain rfl := Option.some.inj H
  obtain ⟨Ao5, co5, eo5⟩ := Kd.R_slice HO1.out
  subst eo5
  go_enter Tryz.func21, Tryz.ntmps21
  go_wp2_with ((refine callA (some 9) Tryz.func29 #[.slice Ao5 l1.length co5] ?_; (with_reducible refine (maskref1_inverse.calls k _ _ l1 t356 _ ?side1 ?side2 A4.out).mono ?_); (case side1 => exact (Kd.R_reads' HO1.out).2.2); (case side2 => exact (Kd.R_reads' HO1.out).2.1); rintro e w6 ⟨v357, rfl, ho0, hb⟩; refine ⟨_, rfl, ?_⟩; have HO358 := Aside0.mk (Kd.R_lower (Kd.R_new' (Kd.R_newM (M := fun k_ => (P1_ k_ ∨ w.heap.size ≤ k_)) ho0 (by exact HK.out.1) (fun k_ h_ => .inr h_)) (Kd.R_lt HO1.out)) (below_size HB.out)); replace HO1 := Aside0.mk (Kd.R_elder' HO1.out (Kd.R_base ho0) hb); replace HK := Aside0.mk (Kept.below (S := (fun k_ => P1_ k_)) HK.out hb); replace HB := hb1 HB hb; (try clear hb); (try clear ho0)))
  go_ret
  exact ⟨_, by rfl, by exact Kd.R_mono HO358.out (fun _ hk => hk.1.1), by repeat (with_reducible exact HB.out), by repeat (with_reducible exact HK.out)⟩
 ·replace H := iE H; rcases H with ⟨c7b0, c7b1, H⟩ | ⟨c7, c7b0, c7b1, H⟩
  ·replace H := bN H; obtain ⟨t359, A8, H⟩ := H
   replace H := bN H; obtain ⟨t362, A9, H⟩ := H
   obtain rfl := Option.some.inj H
   obtain ⟨Ao10, co10, eo10⟩ := Kd.R_slice HO1.out
   subst eo10
   go_enter Tryz.func21, Tryz.ntmps21
   go_wp2_with (first | (refine callA (some 14) Tryz.func31 #[.int .i64 (l1.length : Int), .int .u8 48] ?_; (with_reducible refine (maskref1_Fill.calls k (l1.length : Int) 48 t359 _ A8.out).mono ?_); rintro e w11 ⟨v360, rfl, ho0, hb⟩; refine ⟨_, rfl, ?_⟩; have HO361 := Aside0.mk (Kd.R_lower (Kd.R_new' (Kd.R_newM (M := fun k_ => (P1_ k_ ∨ w.heap.size ≤ k_)) ho0 (by exact HK.out.1) (fun k_ h_ => .inr h_)) (Kd.R_lt HO1.out)) (below_size HB.out)); replace HO1 := Aside0.mk (Kd.R_elder' HO1.out (Kd.R_base ho0) hb); replace HK := Aside0.mk (Kept.below (S := (fun k_ => P1_ k_)) HK.out hb); replace HB := hb1 HB hb; (try clear hb); (try clear ho0); obtain ⟨Ao12, co12, eo12⟩ := Kd.R_slice HO361.out; subst eo12) | (refine callA (some 16) Tryz.func30 #[.int .i64 17, .slice Ao12 t359.length co12, .slice Ao10 l1.length co10, .bool false] ?_; (with_reducible refine (maskref1_Number.calls k 17 (fun k_ => some k_ = (.slice Ao12 t359.length co12 : Value).ownBlock) (.slice Ao12 t359.length co12) t359 (fun k_ => some k_ = (.slice Ao10 l1.length co10 : Value).ownBlock) (.slice Ao10 l1.length co10) l1 false t362 w0 _ ?side1 ?side2 ?side3 ?side4 ?side5 A9.out).mono ?_); (case side1 => repeat (with_reducible exact HB.out)); (case side2 => exact Kd.R_tight rfl HO361.out); (case side3 => exact fun k_ e_ => (HO361.out.1 k_ e_.symm).2); (case side4 => exact Kd.R_tight rfl HO1.out); (case side5 => exact fun k_ e_ => (HO1.out.1 k_ e_.symm).2); rintro e w13 ⟨v363, rfl, ho0, hb, hkp⟩; refine ⟨_, rfl, ?_⟩; have HO364 := Aside0.mk (Kd.R_mono (ok' := fun k_ => (P1_ k_ ∨ w.heap.size ≤ k_)) ho0 (fun k_ hk_ => Or.elim hk_ (fun hs_ => Or.elim hs_ (fun hs_ => (HO361.out.1 k_ (hs_).symm).1.1) (fun hs_ => (HO1.out.1 k_ (hs_).symm).1)) (fun hn_ => (.inr (Nat.le_trans (by exact HK.out.1) hn_))))); replace HK := Aside0.mk (Kept.then_ (S := (fun k_ => P1_ k_)) HK.out hkp (fun k_ hs_ => Or.elim hs_ (fun e_ => (fun e_ => (HO361.out.1 k_ e_.symm).1.1) e_) (fun e_ => (fun e_ => (HO1.out.1 k_ e_.symm).1) e_))); replace HB := Aside0.mk (hb); clear HO1 HO361; (try clear hb); (try clear hkp); (try clear ho0)))
   go_ret
   exact ⟨_, by rfl, by exact HO364.out, by repeat (with_reducible exact HB.out), by repeat (with_reducible exact HK.out)⟩
  ·replace H := iE H; rcases H with ⟨c14b0, c14b1, H⟩ | ⟨c14, c14b0, c14b1, H⟩
   ·replace H := bN H; obtain ⟨t365, A15, H⟩ := H
    obtain rfl := Option.some.inj H
    obtain ⟨Ao16, co16, eo16⟩ := Kd.R_slice HO1.out
    subst eo16
    go_enter Tryz.func21, Tryz.ntmps21
    go_wp2_with ((refine callA (some 20) Tryz.func32 #[.slice Ao16 l1.length co16, (.func (.func 33) #[] #[])] ?_; (with_reducible refine (maskref1_fold__AndOf.calls k _ _ l1  t365 _ ?side1 ?side2 A15.out).mono ?_); (case side1 => exact (Kd.R_reads' HO1.out).2.2); (case side2 => exact (Kd.R_reads' HO1.out).2.1); rintro e w17 ⟨v366, rfl, ho0, hb⟩; refine ⟨_, rfl, ?_⟩; have HO367 := Aside0.mk (Kd.R_lower (Kd.R_new' (Kd.R_newM (M := fun k_ => (P1_ k_ ∨ w.heap.size ≤ k_)) ho0 (by exact HK.out.1) (fun k_ h_ => .inr h_)) (Kd.R_lt HO1.out)) (below_size HB.out)); replace HO1 := Aside0.mk (Kd.R_elder' HO1.out (Kd.R_base ho0) hb); replace HK := Aside0.mk (Kept.below (S := (fun k_ => P1_ k_)) HK.out hb); replace HB := hb1 HB hb; (try clear hb); (try clear ho0)))
    go_ret
    exact ⟨_, by rfl, by exact Kd.R_mono HO367.out (fun _ hk => hk.1.1), by repeat (with_reducible exact HB.out), by repeat (with_reducible exact HK.out)⟩
   ·replace H := iE H; rcases H with ⟨c18b0, c18b1, H⟩ | ⟨c18, c18b0, c18b1, H⟩
    ·replace H := bN H; obtain ⟨t368, A19, H⟩ := H
     obtain rfl := Option.some.inj H
     obtain ⟨Ao20, co20, eo20⟩ := Kd.R_slice HO1.out
     subst eo20
     go_enter Tryz.func21, Tryz.ntmps21
     go_wp2_with ((refine callA (some 24) Tryz.func32 #[.slice Ao20 l1.length co20, (.func (.func 34) #[] #[])] ?_; (with_reducible refine (maskref1_fold__OrOf.calls k _ _ l1  t368 _ ?side1 ?side2 A19.out).mono ?_); (case side1 => exact (Kd.R_reads' HO1.out).2.2); (case side2 => exact (Kd.R_reads' HO1.out).2.1); rintro e w21 ⟨v369, rfl, ho0, hb⟩; refine ⟨_, rfl, ?_⟩; have HO370 := Aside0.mk (Kd.R_lower (Kd.R_new' (Kd.R_newM (M := fun k_ => (P1_ k_ ∨ w.heap.size ≤ k_)) ho0 (by exact HK.out.1) (fun k_ h_ => .inr h_)) (Kd.R_lt HO1.out)) (below_size HB.out)); replace HO1 := Aside0.mk (Kd.R_elder' HO1.out (Kd.R_base ho0) hb); replace HK := Aside0.mk (Kept.below (S := (fun k_ => P1_ k_)) HK.out hb); replace HB := hb1 HB hb; (try clear hb); (try clear ho0)))
     go_ret
     exact ⟨_, by rfl, by exact Kd.R_mono HO370.out (fun _ hk => hk.1.1), by repeat (with_reducible exact HB.out), by repeat (with_reducible exact HK.out)⟩
    ·replace H := iE H; rcases H with ⟨c22b0, c22b1, H⟩ | ⟨c22, c22b0, c22b1, H⟩
     ·replace H := bN H; obtain ⟨t371, A23, H⟩ := H
      obtain rfl := Option.some.inj H
      obtain ⟨Ao24, co24, eo24⟩ := Kd.R_slice HO1.out
      subst eo24
      go_enter Tryz.func21, Tryz.ntmps21
      go_wp2_with ((refine callA (some 28) Tryz.func32 #[.slice Ao24 l1.length co24, (.func (.func 35) #[] #[])] ?_; (with_reducible refine (maskref1_fold__XorOf.calls k _ _ l1  t371 _ ?side1 ?side2 A23.out).mono ?_); (case side1 => exact (Kd.R_reads' HO1.out).2.2); (case side2 => exact (Kd.R_reads' HO1.out).2.1); rintro e w25 ⟨v372, rfl, ho0, hb⟩; refine ⟨_, rfl, ?_⟩; have HO373 := Aside0.mk (Kd.R_lower (Kd.R_new' (Kd.R_newM (M := fun k_ => (P1_ k_ ∨ w.heap.size ≤ k_)) ho0 (by exact HK.out.1) (fun k_ h_ => .inr h_)) (Kd.R_lt HO1.out)) (below_size HB.out)); replace HO1 := Aside0.mk (Kd.R_elder' HO1.out (Kd.R_base ho0) hb); replace HK := Aside0.mk (Kept.below (S := (fun k_ => P1_ k_)) HK.out hb); replace HB := hb1 HB hb; (try clear hb); (try clear ho0)))
      go_ret
      exact ⟨_, by rfl, by exact Kd.R_mono HO373.out (fun _ hk => hk.1.1), by repeat (with_reducible exact HB.out), by repeat (with_reducible exact HK.out)⟩
     ·replace H := iE H; rcases H with ⟨c26b0, c26b1, H⟩ | ⟨c26, c26b0, c26b1, H⟩
      ·replace H := bN H; obtain ⟨t374, A27, H⟩ := H
       replace H := bN H; obtain ⟨t375, A28, H⟩ := H
       replace H := bN H; obtain ⟨t376, A29, H⟩ := H
       obtain rfl := Option.some.inj H
       obtain ⟨Ao30, co30, eo30⟩ := Kd.R_slice HO1.out
       subst eo30
       go_enter Tryz.func21, Tryz.ntmps21
       go_wp2_with (first | (refine callA (some 32) Tryz.func38 #[.slice Ao30 l1.length co30] ?_; (with_reducible refine (maskref1_Truth.calls k _ _ l1 t374 _ ?side1 ?side2 A27.out).mono ?_); (case side1 => exact (Kd.R_reads' HO1.out).2.2); (case side2 => exact (Kd.R_reads' HO1.out).2.1); rintro e w' ⟨rfl, ⟨nd, rfl⟩⟩; refine ⟨_, rfl, ?_⟩) | (refine callA (some 33) Tryz.func37 #[.int .u8 t374] ?_; (with_reducible refine (maskref1_Opposite.calls t374 t375 _ A28.out).mono ?_); rintro e w' ⟨rfl, ⟨nd, rfl⟩⟩; refine ⟨_, rfl, ?_⟩) | (refine callA (some 34) Tryz.func36 #[.int .u8 t375] ?_; (with_reducible refine (maskref1_One.calls t375 t376 _ A29.out).mono ?_); rintro e w31 ⟨v377, rfl, ho0, hb⟩; refine ⟨_, rfl, ?_⟩; have HO378 := Aside0.mk (Kd.R_lower (Kd.R_new' (Kd.R_newM (M := fun k_ => (P1_ k_ ∨ w.heap.size ≤ k_)) ho0 (by exact HK.out.1) (fun k_ h_ => .inr h_)) (Kd.R_lt (by (with_reducible repeat (apply Kd.R_drewN)); exact HO1.out))) (below_size (by repeat (with_reducible first | exact HB.out | apply pw_below_drewN)))); replace HO1 := Aside0.mk (Kd.R_elder' (by (with_reducible repeat (apply Kd.R_drewN)); exact HO1.out) (Kd.R_base ho0) hb); replace HK := Aside0.mk (Kept.below (S := (fun k_ => P1_ k_)) (by repeat (with_reducible first | exact HK.out | apply Kept.drewN)) hb); replace HB := hb1 HB hb; (try clear hb); (try clear ho0)))
       go_ret
       exact ⟨_, by rfl, by exact Kd.R_mono HO378.out (fun _ hk => hk.1.1), by repeat (with_reducible exact HB.out), by repeat (with_reducible exact HK.out)⟩
      ·obtain rfl := Option.some.inj H
       go_enter Tryz.func21, Tryz.ntmps21
       go_wp2
       go_ret
       exact ⟨_, by rfl, by exact Kd.R_nil _ _ _ _ _, by repeat (with_reducible exact HB.out), by repeat (with_reducible exact HK.out)⟩
end Go.Proofs.YtfigblfjogpojaaGreatDoor.PJoin
end
section
namespace Go.Proofs.YtfigblfjogpojaaGreatDoor.PJoin
open Go.Proofs.YtfigblfjogpojaaGreatDoor.PBits
open Go.RowKit Go.Proofs.YtfigblfjogpojaaGreatDoorW.PrintWords Go.Proofs.YtfigblfjogpojaaGreatDoorW.PrintLast Go.Proofs.YtfigblfjogpojaaGreatDoorW.PrintMore
attribute [local go_sem] max2_int min2_int max_two min_two max_three min_three max_four min_four
set_option linter.unusedVariables false
set_option linter.unusedSimpArgs false
def maskref1_Unary.f (k : Nat) (a0 : Int) (l1 : List Int) : Option (List Int) := (maskref1_unaryOf.f k a0 l1).bind fun t379 => (some t379)
set_option maxHeartbeats 8000000 in
set_option maxRecDepth 100000 in
theorem maskref1_Unary.calls (k : Nat) (a0 : Int) (P1_ : Nat → Prop) (u9000_ : Value) (l1 : List Int) (r : List Int) (w0 w : World) (hB : Below w0.heap.size w0 w) (ho1 : Kd.R (Kd.int .u8) 5 w w0.heap.size P1_ u9000_ l1) (h : maskref1_Unary.f k a0 l1 = some r) :
  Calls Tryz.prog 11 #[.int .i64 a0, u9000_] w fun e w' => ∃ v0_ : Value, e = .returned (v0_) ∧ Kd.R (Kd.int .u8) 5 w' w0.heap.size (fun k_ => (P1_ k_ ∨ w.heap.size ≤ k_)) v0_ r ∧ Below w0.heap.size w0 w' ∧ Kept w w' (fun k_ => P1_ k_) := by
 have HO1 := Aside0.mk (show Kd.R (Kd.int .u8) 5 w w0.heap.size (fun k_ => (P1_ k_ ∨ w.heap.size ≤ k_)) u9000_ l1 from Kd.R_mono ho1 (fun k_ hk => (.inl hk)))
 have HK := Aside0.mk (Kept.refl w (fun k_ => P1_ k_))
 have HW0 := Aside0.mk hB.size
 have HB := Aside0.mk hB
 clear hB
 have H := h
 clear h
 unfold maskref1_Unary.f at H
 replace H := bN H; obtain ⟨t379, A3, H⟩ := H
 obtain rfl := Option.some.inj H
 obtain ⟨Ao4, co4, eo4⟩ := Kd.R_slice HO1.out
 subst eo4
 go_enter Tryz.func11, Tryz.ntmps11
 go_wp2_with ((refine callA (some 7) Tryz.func21 #[.int .i64 a0, .slice Ao4 l1.length co4] ?_; (with_reducible refine (maskref1_unaryOf.calls k a0 (fun k_ => some k_ = (.slice Ao4 l1.length co4 : Value).ownBlock) (.slice Ao4 l1.length co4) l1 t379 w0 _ ?side1 ?side2 A3.out).mono ?_); (case side1 => repeat (with_reducible exact HB.out)); (case side2 => exact Kd.R_tight rfl HO1.out); rintro e w5 ⟨v380, rfl, ho0, hb, hkp⟩; refine ⟨_, rfl, ?_⟩; have HO381 := Aside0.mk (Kd.R_mono (ok' := fun k_ => (P1_ k_ ∨ w.heap.size ≤ k_)) ho0 (fun k_ hk_ => Or.elim hk_ (fun hs_ => (HO1.out.1 k_ (hs_).symm)) (fun hn_ => (.inr (Nat.le_trans (by exact HK.out.1) hn_))))); replace HK := Aside0.mk (Kept.then_ (S := (fun k_ => P1_ k_)) HK.out hkp (fun k_ hs_ => (fun e_ => (HO1.out.1 k_ e_.symm)) hs_)); replace HB := Aside0.mk (hb); clear HO1; (try clear hb); (try clear hkp); (try clear ho0)))
 go_ret
 exact ⟨_, by rfl, by exact HO381.out, by repeat (with_reducible exact HB.out), by repeat (with_reducible exact HK.out)⟩
end Go.Proofs.YtfigblfjogpojaaGreatDoor.PJoin
end
section
namespace Go.Proofs.YtfigblfjogpojaaGreatDoor.PJoin
open Go.Proofs.YtfigblfjogpojaaGreatDoor.PBits
open Go.RowKit Go.Proofs.YtfigblfjogpojaaGreatDoorW.PrintWords Go.Proofs.YtfigblfjogpojaaGreatDoorW.PrintLast Go.Proofs.YtfigblfjogpojaaGreatDoorW.PrintMore
attribute [local go_sem] max2_int min2_int max_two min_two max_three min_three max_four min_four
set_option linter.unusedVariables false
set_option linter.unusedSimpArgs false
def masklaw1_binary.f (k : Nat) (a0 : Int) (a1_0 : Int) (a1_1 : Int) (a1_2 : Int) (a2_0 : Int) (a2_1 : Int) (a2_2 : Int) (a3 : Bool) : Option (Int × Int × Int) := if a0 = 13 then ((bits_And.f k a1_0 a1_1 a1_2 a2_0 a2_1 a2_2).bind fun bt892 => (some (bt892.1, bt892.2.1, bt892.2.2))) else (if a0 = 14 then ((bits_Or.f k a1_0 a1_1 a1_2 a2_0 a2_1 a2_2).bind fun bt895 => (some (bt895.1, bt895.2.1, bt895.2.2))) else (if a0 = 15 then ((bits_Xor.f k a1_0 a1_1 a1_2 a2_0 a2_1 a2_2).bind fun bt898 => (some (bt898.1, bt898.2.1, bt898.2.2))) else (if a0 = 11 then ((bits_LAnd.f k a1_0 a1_1 a1_2 a2_0 a2_1 a2_2).bind fun bt901 => (some (bt901.1, bt901.2.1, bt901.2.2))) else (if a0 = 12 then ((bits_LOr.f k a1_0 a1_1 a1_2 a2_0 a2_1 a2_2).bind fun bt904 => (some (bt904.1, bt904.2.1, bt904.2.2))) else (if a0 = 21 then ((bits_Shl.f k a1_0 a1_1 a1_2 a2_0 a2_1 a2_2).bind fun bt907 => (some (bt907.1, bt907.2.1, bt907.2.2))) else (if a0 = 22 then ((bits_Shr.f k a1_0 a1_1 a1_2 a2_0 a2_1 a2_2).bind fun bt910 => (some (bt910.1, bt910.2.1, bt910.2.2))) else (if a0 = 23 then ((bits_Sar.f k a1_0 a1_1 a1_2 a2_0 a2_1 a2_2).bind fun bt913 => (some (bt913.1, bt913.2.1, bt913.2.2))) else (if a0 = 24 then ((bits_Eq.f k a1_0 a1_1 a1_2 a2_0 a2_1 a2_2).bind fun bt916 => (some (bt916.1, bt916.2.1, bt916.2.2))) else (if a0 = 25 then ((bits_Ne.f k a1_0 a1_1 a1_2 a2_0 a2_1 a2_2).bind fun bt919 => (some (bt919.1, bt919.2.1, bt919.2.2))) else (if a0 = 26 then ((bits_CaseEq.f k a1_0 a1_1 a1_2 a2_0 a2_1 a2_2).bind fun bt922 => (some (bt922.1, bt922.2.1, bt922.2.2))) else (if a0 = 27 then ((bits_CaseNe.f k a1_0 a1_1 a1_2 a2_0 a2_1 a2_2).bind fun bt925 => (some (bt925.1, bt925.2.1, bt925.2.2))) else (if a0 = 28 then ((bits_Lt.f k a1_0 a1_1 a1_2 a2_0 a2_1 a2_2 a3).bind fun bt928 => (some (bt928.1, bt928.2.1, bt928.2.2))) else (if a0 = 29 then ((bits_Le.f k a1_0 a1_1 a1_2 a2_0 a2_1 a2_2 a3).bind fun bt931 => (some (bt931.1, bt931.2.1, bt931.2.2))) else (if a0 = 16 then ((bits_Add.f k a1_0 a1_1 a1_2 a2_0 a2_1 a2_2).bind fun bt934 => (some (bt934.1, bt934.2.1, bt934.2.2))) else (if a0 = 17 then ((bits_Sub.f k a1_0 a1_1 a1_2 a2_0 a2_1 a2_2).bind fun bt937 => (some (bt937.1, bt937.2.1, bt937.2.2))) else (if a0 = 18 then ((bits_Mul.f k a1_0 a1_1 a1_2 a2_0 a2_1 a2_2).bind fun bt940 => (some (bt940.1, bt940.2.1, bt940.2.2))) else (if a0 = 19 then ((bits_Div.f k a1_0 a1_1 a1_2 a2_0 a2_1 a2_2 a3).bind fun bt943 => (some (bt943.1, bt943.2.1, bt943.2.2))) else ((bits_Mod.f k a1_0 a1_1 a1_2 a2_0 a2_1 a2_2 a3).bind fun bt946 => (some (bt946.1, bt946.2.1, bt946.2.2))))))))))))))))))))
set_option maxHeartbeats 8000000 in
set_option maxRecDepth 100000 in
theorem masklaw1_binary.calls (k : Nat) (a0 : Int) (a1_0 : Int) (a1_1 : Int) (a1_2 : Int) (a2_0 : Int) (a2_1 : Int) (a2_2 : Int) (a3 : Bool) (r1 : Int) (r2 : Int) (r3 : Int) (w : World) (h : masklaw1_binary.f k a0 a1_0 a1_1 a1_2 a2_0 a2_1 a2_2 a3 = some (r1, r2, r3)) :
  Calls Tryz.prog 27 #[.int .i64 a0, .agg #[.int .i64 a1_0, .int .u64 a1_1, .int .u64 a1_2], .agg #[.int .i64 a2_0, .int .u64 a2_1, .int .u64 a2_2], .bool a3] w fun e w' => e = .returned (.agg #[.int .i64 r1, .int .u64 r2, .int .u64 r3]) ∧ Below w.heap.size w w' := by
 have hu24 := Tryz.underlying24
 have HB := Aside0.mk (Below.refl w.heap.size w)
 have H := h
 clear h
 unfold masklaw1_binary.f at H
 replace H := iE H; rcases H with ⟨c5b0, c5b1, H⟩ | ⟨c5, c5b0, c5b1, H⟩
 ·replace H := bN H; obtain ⟨⟨t892, t893, t894⟩, A6, H⟩ := H; dsimp only at H
  replace H := s3 H; obtain ⟨rfl, rfl, rfl⟩ := H
  go_enter Tryz.func27, Tryz.ntmps27
  go_wp2_with (first | (refine boxA HB 5 #[.int .i64 a1_0, .int .u64 a1_1, .int .u64 a1_2] 24 ?_; clear HB; intro gb889 w7 BK889 GE889 hg hb HB; clear hb hg) | (refine boxA HB 6 #[.int .i64 a2_0, .int .u64 a2_1, .int .u64 a2_2] 24 ?_; clear HB; intro gb890 w8 BK890 GE890 hg hb HB; have NB889_890 := nbA BK889 hg; have NB890_889 := nbB BK889 hg; replace BK889 := bk1 BK889 hb; clear hb hg) | (refine boxA HB 8 #[.int .i64 0, .int .u64 0, .int .u64 0] 24 ?_; clear HB; intro gb891 w9 BK891 GE891 hg hb HB; have NB889_891 := nbA BK889 hg; have NB891_889 := nbB BK889 hg; replace BK889 := bk1 BK889 hb; have NB890_891 := nbA BK890 hg; have NB891_890 := nbB BK890 hg; replace BK890 := bk1 BK890 hb; clear hb hg; have hnb10 := NB889_890.out; have hnc10 := NB890_889.out; have hnb11 := NB889_891.out; have hnc11 := NB891_889.out; obtain ⟨hcz12_0, hcz12_1, hcz12_2, hfz12_0, hfz12_1, hfz12_2⟩ := cf3 BK889; have hnb13 := NB890_891.out; have hnc13 := NB891_890.out; obtain ⟨hcz14_0, hcz14_1, hcz14_2, hfz14_0, hfz14_1, hfz14_2⟩ := cf3 BK890) | (refine callA (some 14) Tryz.func54 #[.agg #[.int .i64 a1_0, .int .u64 a1_1, .int .u64 a1_2], .agg #[.int .i64 a2_0, .int .u64 a2_1, .int .u64 a2_2]] ?_; (with_reducible refine (bits_And.calls k a1_0 a1_1 a1_2 a2_0 a2_1 a2_2 t892 t893 t894 _ A6.out).mono ?_); rintro e w15 ⟨rfl, hb⟩; refine ⟨_, rfl, ?_⟩; replace BK889 := bk1 BK889 hb; replace BK890 := bk1 BK890 hb; replace BK891 := bk1 BK891 hb; replace HB := hb1 HB hb; (try clear hb); obtain ⟨hcz16_0, hcz16_1, hcz16_2, hfz16_0, hfz16_1, hfz16_2⟩ := cf3 BK891))
  refine retA gb891 24 #[.int .i64 t892, .int .u64 t893, .int .u64 t894] (put3 BK891) Tryz.underlying24 ?_
  exact ⟨by rfl, by repeat (with_reducible first | exact HB.out | refine below_set ?_ GE891.out)⟩
 ·replace H := iE H; rcases H with ⟨c17b0, c17b1, H⟩ | ⟨c17, c17b0, c17b1, H⟩
  ·replace H := bN H; obtain ⟨⟨t895, t896, t897⟩, A18, H⟩ := H; dsimp only at H
   replace H := s3 H; obtain ⟨rfl, rfl, rfl⟩ := H
   go_enter Tryz.func27, Tryz.ntmps27
   go_wp2_with (first | (refine boxA HB 5 #[.int .i64 a1_0, .int .u64 a1_1, .int .u64 a1_2] 24 ?_; clear HB; intro gb889 w19 BK889 GE889 hg hb HB; clear hb hg) | (refine boxA HB 6 #[.int .i64 a2_0, .int .u64 a2_1, .int .u64 a2_2] 24 ?_; clear HB; intro gb890 w20 BK890 GE890 hg hb HB; have NB889_890 := nbA BK889 hg; have NB890_889 := nbB BK889 hg; replace BK889 := bk1 BK889 hb; clear hb hg) | (refine boxA HB 8 #[.int .i64 0, .int .u64 0, .int .u64 0] 24 ?_; clear HB; intro gb891 w21 BK891 GE891 hg hb HB; have NB889_891 := nbA BK889 hg; have NB891_889 := nbB BK889 hg; replace BK889 := bk1 BK889 hb; have NB890_891 := nbA BK890 hg; have NB891_890 := nbB BK890 hg; replace BK890 := bk1 BK890 hb; clear hb hg; have hnb22 := NB889_890.out; have hnc22 := NB890_889.out; have hnb23 := NB889_891.out; have hnc23 := NB891_889.out; obtain ⟨hcz24_0, hcz24_1, hcz24_2, hfz24_0, hfz24_1, hfz24_2⟩ := cf3 BK889; have hnb25 := NB890_891.out; have hnc25 := NB891_890.out; obtain ⟨hcz26_0, hcz26_1, hcz26_2, hfz26_0, hfz26_1, hfz26_2⟩ := cf3 BK890) | (refine callA (some 19) Tryz.func55 #[.agg #[.int .i64 a1_0, .int .u64 a1_1, .int .u64 a1_2], .agg #[.int .i64 a2_0, .int .u64 a2_1, .int .u64 a2_2]] ?_; (with_reducible refine (bits_Or.calls k a1_0 a1_1 a1_2 a2_0 a2_1 a2_2 t895 t896 t897 _ A18.out).mono ?_); rintro e w27 ⟨rfl, hb⟩; refine ⟨_, rfl, ?_⟩; replace BK889 := bk1 BK889 hb; replace BK890 := bk1 BK890 hb; replace BK891 := bk1 BK891 hb; replace HB := hb1 HB hb; (try clear hb); obtain ⟨hcz28_0, hcz28_1, hcz28_2, hfz28_0, hfz28_1, hfz28_2⟩ := cf3 BK891))
   refine retA gb891 24 #[.int .i64 t895, .int .u64 t896, .int .u64 t897] (put3 BK891) Tryz.underlying24 ?_
   exact ⟨by rfl, by repeat (with_reducible first | exact HB.out | refine below_set ?_ GE891.out)⟩
  ·replace H := iE H; rcases H with ⟨c29b0, c29b1, H⟩ | ⟨c29, c29b0, c29b1, H⟩
   ·replace H := bN H; obtain ⟨⟨t898, t899, t900⟩, A30, H⟩ := H; dsimp only at H
    replace H := s3 H; obtain ⟨rfl, rfl, rfl⟩ := H
    go_enter Tryz.func27, Tryz.ntmps27
    go_wp2_with (first | (refine boxA HB 5 #[.int .i64 a1_0, .int .u64 a1_1, .int .u64 a1_2] 24 ?_; clear HB; intro gb889 w31 BK889 GE889 hg hb HB; clear hb hg) | (refine boxA HB 6 #[.int .i64 a2_0, .int .u64 a2_1, .int .u64 a2_2] 24 ?_; clear HB; intro gb890 w32 BK890 GE890 hg hb HB; have NB889_890 := nbA BK889 hg; have NB890_889 := nbB BK889 hg; replace BK889 := bk1 BK889 hb; clear hb hg) | (refine boxA HB 8 #[.int .i64 0, .int .u64 0, .int .u64 0] 24 ?_; clear HB; intro gb891 w33 BK891 GE891 hg hb HB; have NB889_891 := nbA BK889 hg; have NB891_889 := nbB BK889 hg; replace BK889 := bk1 BK889 hb; have NB890_891 := nbA BK890 hg; have NB891_890 := nbB BK890 hg; replace BK890 := bk1 BK890 hb; clear hb hg; have hnb34 := NB889_890.out; have hnc34 := NB890_889.out; have hnb35 := NB889_891.out; have hnc35 := NB891_889.out; obtain ⟨hcz36_0, hcz36_1, hcz36_2, hfz36_0, hfz36_1, hfz36_2⟩ := cf3 BK889; have hnb37 := NB890_891.out; have hnc37 := NB891_890.out; obtain ⟨hcz38_0, hcz38_1, hcz38_2, hfz38_0, hfz38_1, hfz38_2⟩ := cf3 BK890) | (refine callA (some 24) Tryz.func56 #[.agg #[.int .i64 a1_0, .int .u64 a1_1, .int .u64 a1_2], .agg #[.int .i64 a2_0, .int .u64 a2_1, .int .u64 a2_2]] ?_; (with_reducible refine (bits_Xor.calls k a1_0 a1_1 a1_2 a2_0 a2_1 a2_2 t898 t899 t900 _ A30.out).mono ?_); rintro e w39 ⟨rfl, hb⟩; refine ⟨_, rfl, ?_⟩; replace BK889 := bk1 BK889 hb; replace BK890 := bk1 BK890 hb; replace BK891 := bk1 BK891 hb; replace HB := hb1 HB hb; (try clear hb); obtain ⟨hcz40_0, hcz40_1, hcz40_2, hfz40_0, hfz40_1, hfz40_2⟩ := cf3 BK891))
    refine retA gb891 24 #[.int .i64 t898, .int .u64 t899, .int .u64 t900] (put3 BK891) Tryz.underlying24 ?_
    exact ⟨by rfl, by repeat (with_reducible first | exact HB.out | refine below_set ?_ GE891.out)⟩
   ·replace H := iE H; rcases H with ⟨c41b0, c41b1, H⟩ | ⟨c41, c41b0, c41b1, H⟩
    ·replace H := bN H; obtain ⟨⟨t901, t902, t903⟩, A42, H⟩ := H; dsimp only at H
     replace H := s3 H; obtain ⟨rfl, rfl, rfl⟩ := H
     go_enter Tryz.func27, Tryz.ntmps27
     go_wp2_with (first | (refine boxA HB 5 #[.int .i64 a1_0, .int .u64 a1_1, .int .u64 a1_2] 24 ?_; clear HB; intro gb889 w43 BK889 GE889 hg hb HB; clear hb hg) | (refine boxA HB 6 #[.int .i64 a2_0, .int .u64 a2_1, .int .u64 a2_2] 24 ?_; clear HB; intro gb890 w44 BK890 GE890 hg hb HB; have NB889_890 := nbA BK889 hg; have NB890_889 := nbB BK889 hg; replace BK889 := bk1 BK889 hb; clear hb hg) | (refine boxA HB 8 #[.int .i64 0, .int .u64 0, .int .u64 0] 24 ?_; clear HB; intro gb891 w45 BK891 GE891 hg hb HB; have NB889_891 := nbA BK889 hg; have NB891_889 := nbB BK889 hg; replace BK889 := bk1 BK889 hb; have NB890_891 := nbA BK890 hg; have NB891_890 := nbB BK890 hg; replace BK890 := bk1 BK890 hb; clear hb hg; have hnb46 := NB889_890.out; have hnc46 := NB890_889.out; have hnb47 := NB889_891.out; have hnc47 := NB891_889.out; obtain ⟨hcz48_0, hcz48_1, hcz48_2, hfz48_0, hfz48_1, hfz48_2⟩ := cf3 BK889; have hnb49 := NB890_891.out; have hnc49 := NB891_890.out; obtain ⟨hcz50_0, hcz50_1, hcz50_2, hfz50_0, hfz50_1, hfz50_2⟩ := cf3 BK890) | (refine callA (some 29) Tryz.func57 #[.agg #[.int .i64 a1_0, .int .u64 a1_1, .int .u64 a1_2], .agg #[.int .i64 a2_0, .int .u64 a2_1, .int .u64 a2_2]] ?_; (with_reducible refine (bits_LAnd.calls k a1_0 a1_1 a1_2 a2_0 a2_1 a2_2 t901 t902 t903 _ A42.out).mono ?_); rintro e w51 ⟨rfl, hb⟩; refine ⟨_, rfl, ?_⟩; replace BK889 := bk1 BK889 hb; replace BK890 := bk1 BK890 hb; replace BK891 := bk1 BK891 hb; replace HB := hb1 HB hb; (try clear hb); obtain ⟨hcz52_0, hcz52_1, hcz52_2, hfz52_0, hfz52_1, hfz52_2⟩ := cf3 BK891))
     refine retA gb891 24 #[.int .i64 t901, .int .u64 t902, .int .u64 t903] (put3 BK891) Tryz.underlying24 ?_
     exact ⟨by rfl, by repeat (with_reducible first | exact HB.out | refine below_set ?_ GE891.out)⟩
    ·replace H := iE H; rcases H with ⟨c53b0, c53b1, H⟩ | ⟨c53, c53b0, c53b1, H⟩
     ·replace H := bN H; obtain ⟨⟨t904, t905, t906⟩, A54, H⟩ := H; dsimp only at H
      replace H := s3 H; obtain ⟨rfl, rfl, rfl⟩ := H
      go_enter Tryz.func27, Tryz.ntmps27
      go_wp2_with (first | (refine boxA HB 5 #[.int .i64 a1_0, .int .u64 a1_1, .int .u64 a1_2] 24 ?_; clear HB; intro gb889 w55 BK889 GE889 hg hb HB; clear hb hg) | (refine boxA HB 6 #[.int .i64 a2_0, .int .u64 a2_1, .int .u64 a2_2] 24 ?_; clear HB; intro gb890 w56 BK890 GE890 hg hb HB; have NB889_890 := nbA BK889 hg; have NB890_889 := nbB BK889 hg; replace BK889 := bk1 BK889 hb; clear hb hg) | (refine boxA HB 8 #[.int .i64 0, .int .u64 0, .int .u64 0] 24 ?_; clear HB; intro gb891 w57 BK891 GE891 hg hb HB; have NB889_891 := nbA BK889 hg; have NB891_889 := nbB BK889 hg; replace BK889 := bk1 BK889 hb; have NB890_891 := nbA BK890 hg; have NB891_890 := nbB BK890 hg; replace BK890 := bk1 BK890 hb; clear hb hg; have hnb58 := NB889_890.out; have hnc58 := NB890_889.out; have hnb59 := NB889_891.out; have hnc59 := NB891_889.out; obtain ⟨hcz60_0, hcz60_1, hcz60_2, hfz60_0, hfz60_1, hfz60_2⟩ := cf3 BK889; have hnb61 := NB890_891.out; have hnc61 := NB891_890.out; obtain ⟨hcz62_0, hcz62_1, hcz62_2, hfz62_0, hfz62_1, hfz62_2⟩ := cf3 BK890) | (refine callA (some 34) Tryz.func58 #[.agg #[.int .i64 a1_0, .int .u64 a1_1, .int .u64 a1_2], .agg #[.int .i64 a2_0, .int .u64 a2_1, .int .u64 a2_2]] ?_; (with_reducible refine (bits_LOr.calls k a1_0 a1_1 a1_2 a2_0 a2_1 a2_2 t904 t905 t906 _ A54.out).mono ?_); rintro e w63 ⟨rfl, hb⟩; refine ⟨_, rfl, ?_⟩; replace BK889 := bk1 BK889 hb; replace BK890 := bk1 BK890 hb; replace BK891 := bk1 BK891 hb; replace HB := hb1 HB hb; (try clear hb); obtain ⟨hcz64_0, hcz64_1, hcz64_2, hfz64_0, hfz64_1, hfz64_2⟩ := cf3 BK891))
      refine retA gb891 24 #[.int .i64 t904, .int .u64 t905, .int .u64 t906] (put3 BK891) Tryz.underlying24 ?_
      exact ⟨by rfl, by repeat (with_reducible first | exact HB.out | refine below_set ?_ GE891.out)⟩
     ·replace H := iE H; rcases H with ⟨c65b0, c65b1, H⟩ | ⟨c65, c65b0, c65b1, H⟩
      ·replace H := bN H; obtain ⟨⟨t907, t908, t909⟩, A66, H⟩ := H; dsimp only at H
       replace H := s3 H; obtain ⟨rfl, rfl, rfl⟩ := H
       go_enter Tryz.func27, Tryz.ntmps27
       go_wp2_with (first | (refine boxA HB 5 #[.int .i64 a1_0, .int .u64 a1_1, .int .u64 a1_2] 24 ?_; clear HB; intro gb889 w67 BK889 GE889 hg hb HB; clear hb hg) | (refine boxA HB 6 #[.int .i64 a2_0, .int .u64 a2_1, .int .u64 a2_2] 24 ?_; clear HB; intro gb890 w68 BK890 GE890 hg hb HB; have NB889_890 := nbA BK889 hg; have NB890_889 := nbB BK889 hg; replace BK889 := bk1 BK889 hb; clear hb hg) | (refine boxA HB 8 #[.int .i64 0, .int .u64 0, .int .u64 0] 24 ?_; clear HB; intro gb891 w69 BK891 GE891 hg hb HB; have NB889_891 := nbA BK889 hg; have NB891_889 := nbB BK889 hg; replace BK889 := bk1 BK889 hb; have NB890_891 := nbA BK890 hg; have NB891_890 := nbB BK890 hg; replace BK890 := bk1 BK890 hb; clear hb hg; have hnb70 := NB889_890.out; have hnc70 := NB890_889.out; have hnb71 := NB889_891.out; have hnc71 := NB891_889.out; obtain ⟨hcz72_0, hcz72_1, hcz72_2, hfz72_0, hfz72_1, hfz72_2⟩ := cf3 BK889; have hnb73 := NB890_891.out; have hnc73 := NB891_890.out; obtain ⟨hcz74_0, hcz74_1, hcz74_2, hfz74_0, hfz74_1, hfz74_2⟩ := cf3 BK890) | (refine callA (some 39) Tryz.func59 #[.agg #[.int .i64 a1_0, .int .u64 a1_1, .int .u64 a1_2], .agg #[.int .i64 a2_0, .int .u64 a2_1, .int .u64 a2_2]] ?_; (with_reducible refine (bits_Shl.calls k a1_0 a1_1 a1_2 a2_0 a2_1 a2_2 t907 t908 t909 _ A66.out).mono ?_); rintro e w75 ⟨rfl, hb⟩; refine ⟨_, rfl, ?_⟩; replace BK889 := bk1 BK889 hb; replace BK890 := bk1 BK890 hb; replace BK891 := bk1 BK891 hb; replace HB := hb1 HB hb; (try clear hb); obtain ⟨hcz76_0, hcz76_1, hcz76_2, hfz76_0, hfz76_1, hfz76_2⟩ := cf3 BK891))
       refine retA gb891 24 #[.int .i64 t907, .int .u64 t908, .int .u64 t909] (put3 BK891) Tryz.underlying24 ?_
       exact ⟨by rfl, by repeat (with_reducible first | exact HB.out | refine below_set ?_ GE891.out)⟩
      ·replace H := iE H; rcases H with ⟨c77b0, c77b1, H⟩ | ⟨c77, c77b0, c77b1, H⟩
       ·replace H := bN H; obtain ⟨⟨t910, t911, t912⟩, A78, H⟩ := H; dsimp only at H
        replace H := s3 H; obtain ⟨rfl, rfl, rfl⟩ := H
        go_enter Tryz.func27, Tryz.ntmps27
        go_wp2_with (first | (refine boxA HB 5 #[.int .i64 a1_0, .int .u64 a1_1, .int .u64 a1_2] 24 ?_; clear HB; intro gb889 w79 BK889 GE889 hg hb HB; clear hb hg) | (refine boxA HB 6 #[.int .i64 a2_0, .int .u64 a2_1, .int .u64 a2_2] 24 ?_; clear HB; intro gb890 w80 BK890 GE890 hg hb HB; have NB889_890 := nbA BK889 hg; have NB890_889 := nbB BK889 hg; replace BK889 := bk1 BK889 hb; clear hb hg) | (refine boxA HB 8 #[.int .i64 0, .int .u64 0, .int .u64 0] 24 ?_; clear HB; intro gb891 w81 BK891 GE891 hg hb HB; have NB889_891 := nbA BK889 hg; have NB891_889 := nbB BK889 hg; replace BK889 := bk1 BK889 hb; have NB890_891 := nbA BK890 hg; have NB891_890 := nbB BK890 hg; replace BK890 := bk1 BK890 hb; clear hb hg; have hnb82 := NB889_890.out; have hnc82 := NB890_889.out; have hnb83 := NB889_891.out; have hnc83 := NB891_889.out; obtain ⟨hcz84_0, hcz84_1, hcz84_2, hfz84_0, hfz84_1, hfz84_2⟩ := cf3 BK889; have hnb85 := NB890_891.out; have hnc85 := NB891_890.out; obtain ⟨hcz86_0, hcz86_1, hcz86_2, hfz86_0, hfz86_1, hfz86_2⟩ := cf3 BK890) | (refine callA (some 44) Tryz.func60 #[.agg #[.int .i64 a1_0, .int .u64 a1_1, .int .u64 a1_2], .agg #[.int .i64 a2_0, .int .u64 a2_1, .int .u64 a2_2]] ?_; (with_reducible refine (bits_Shr.calls k a1_0 a1_1 a1_2 a2_0 a2_1 a2_2 t910 t911 t912 _ A78.out).mono ?_); rintro e w87 ⟨rfl, hb⟩; refine ⟨_, rfl, ?_⟩; replace BK889 := bk1 BK889 hb; replace BK890 := bk1 BK890 hb; replace BK891 := bk1 BK891 hb; replace HB := hb1 HB hb; (try clear hb); obtain ⟨hcz88_0, hcz88_1, hcz88_2, hfz88_0, hfz88_1, hfz88_2⟩ := cf3 BK891))
        refine retA gb891 24 #[.int .i64 t910, .int .u64 t911, .int .u64 t912] (put3 BK891) Tryz.underlying24 ?_
        exact ⟨by rfl, by repeat (with_reducible first | exact HB.out | refine below_set ?_ GE891.out)⟩
       ·replace H := iE H; rcases H with ⟨c89b0, c89b1, H⟩ | ⟨c89, c89b0, c89b1, H⟩
        ·replace H := bN H; obtain ⟨⟨t913, t914, t915⟩, A90, H⟩ := H; dsimp only at H
         replace H := s3 H; obtain ⟨rfl, rfl, rfl⟩ := H
         go_enter Tryz.func27, Tryz.ntmps27
         go_wp2_with (first | (refine boxA HB 5 #[.int .i64 a1_0, .int .u64 a1_1, .int .u64 a1_2] 24 ?_; clear HB; intro gb889 w91 BK889 GE889 hg hb HB; clear hb hg) | (refine boxA HB 6 #[.int .i64 a2_0, .int .u64 a2_1, .int .u64 a2_2] 24 ?_; clear HB; intro gb890 w92 BK890 GE890 hg hb HB; have NB889_890 := nbA BK889 hg; have NB890_889 := nbB BK889 hg; replace BK889 := bk1 BK889 hb; clear hb hg) | (refine boxA HB 8 #[.int .i64 0, .int .u64 0, .int .u64 0] 24 ?_; clear HB; intro gb891 w93 BK891 GE891 hg hb HB; have NB889_891 := nbA BK889 hg; have NB891_889 := nbB BK889 hg; replace BK889 := bk1 BK889 hb; have NB890_891 := nbA BK890 hg; have NB891_890 := nbB BK890 hg; replace BK890 := bk1 BK890 hb; clear hb hg; have hnb94 := NB889_890.out; have hnc94 := NB890_889.out; have hnb95 := NB889_891.out; have hnc95 := NB891_889.out; obtain ⟨hcz96_0, hcz96_1, hcz96_2, hfz96_0, hfz96_1, hfz96_2⟩ := cf3 BK889; have hnb97 := NB890_891.out; have hnc97 := NB891_890.out; obtain ⟨hcz98_0, hcz98_1, hcz98_2, hfz98_0, hfz98_1, hfz98_2⟩ := cf3 BK890) | (refine callA (some 49) Tryz.func61 #[.agg #[.int .i64 a1_0, .int .u64 a1_1, .int .u64 a1_2], .agg #[.int .i64 a2_0, .int .u64 a2_1, .int .u64 a2_2]] ?_; (with_reducible refine (bits_Sar.calls k a1_0 a1_1 a1_2 a2_0 a2_1 a2_2 t913 t914 t915 _ A90.out).mono ?_); rintro e w99 ⟨rfl, hb⟩; refine ⟨_, rfl, ?_⟩; replace BK889 := bk1 BK889 hb; replace BK890 := bk1 BK890 hb; replace BK891 := bk1 BK891 hb; replace HB := hb1 HB hb; (try clear hb); obtain ⟨hcz100_0, hcz100_1, hcz100_2, hfz100_0, hfz100_1, hfz100_2⟩ := cf3 BK891))
         refine retA gb891 24 #[.int .i64 t913, .int .u64 t914, .int .u64 t915] (put3 BK891) Tryz.underlying24 ?_
         exact ⟨by rfl, by repeat (with_reducible first | exact HB.out | refine below_set ?_ GE891.out)⟩
        ·replace H := iE H; rcases H with ⟨c101b0, c101b1, H⟩ | ⟨c101, c101b0, c101b1, H⟩
         ·replace H := bN H; obtain ⟨⟨t916, t917, t918⟩, A102, H⟩ := H; dsimp only at H
          replace H := s3 H; obtain ⟨rfl, rfl, rfl⟩ := H
          go_enter Tryz.func27, Tryz.ntmps27
          go_wp2_with (first | (refine boxA HB 5 #[.int .i64 a1_0, .int .u64 a1_1, .int .u64 a1_2] 24 ?_; clear HB; intro gb889 w103 BK889 GE889 hg hb HB; clear hb hg) | (refine boxA HB 6 #[.int .i64 a2_0, .int .u64 a2_1, .int .u64 a2_2] 24 ?_; clear HB; intro gb890 w104 BK890 GE890 hg hb HB; have NB889_890 := nbA BK889 hg; have NB890_889 := nbB BK889 hg; replace BK889 := bk1 BK889 hb; clear hb hg) | (refine boxA HB 8 #[.int .i64 0, .int .u64 0, .int .u64 0] 24 ?_; clear HB; intro gb891 w105 BK891 GE891 hg hb HB; have NB889_891 := nbA BK889 hg; have NB891_889 := nbB BK889 hg; replace BK889 := bk1 BK889 hb; have NB890_891 := nbA BK890 hg; have NB891_890 := nbB BK890 hg; replace BK890 := bk1 BK890 hb; clear hb hg; have hnb106 := NB889_890.out; have hnc106 := NB890_889.out; have hnb107 := NB889_891.out; have hnc107 := NB891_889.out; obtain ⟨hcz108_0, hcz108_1, hcz108_2, hfz108_0, hfz108_1, hfz108_2⟩ := cf3 BK889; have hnb109 := NB890_891.out; have hnc109 := NB891_890.out; obtain ⟨hcz110_0, hcz110_1, hcz110_2, hfz110_0, hfz110_1, hfz110_2⟩ := cf3 BK890) | (refine callA (some 54) Tryz.func62 #[.agg #[.int .i64 a1_0, .int .u64 a1_1, .int .u64 a1_2], .agg #[.int .i64 a2_0, .int .u64 a2_1, .int .u64 a2_2]] ?_; (with_reducible refine (bits_Eq.calls k a1_0 a1_1 a1_2 a2_0 a2_1 a2_2 t916 t917 t918 _ A102.out).mono ?_); rintro e w111 ⟨rfl, hb⟩; refine ⟨_, rfl, ?_⟩; replace BK889 := bk1 BK889 hb; replace BK890 := bk1 BK890 hb; replace BK891 := bk1 BK891 hb; replace HB := hb1 HB hb; (try clear hb); obtain ⟨hcz112_0, hcz112_1, hcz112_2, hfz112_0, hfz112_1, hfz112_2⟩ := cf3 BK891))
          refine retA gb891 24 #[.int .i64 t916, .int .u64 t917, .int .u64 t918] (put3 BK891) Tryz.underlying24 ?_
          exact ⟨by rfl, by repeat (with_reducible first | exact HB.out | refine below_set ?_ GE891.out)⟩
         ·replace H := iE H; rcases H with ⟨c113b0, c113b1, H⟩ | ⟨c113, c113b0, c113b1, H⟩
          ·replace H := bN H; obtain ⟨⟨t919, t920, t921⟩, A114, H⟩ := H; dsimp only at H
           replace H := s3 H; obtain ⟨rfl, rfl, rfl⟩ := H
           go_enter Tryz.func27, Tryz.ntmps27
           go_wp2_with (first | (refine boxA HB 5 #[.int .i64 a1_0, .int .u64 a1_1, .int .u64 a1_2] 24 ?_; clear HB; intro gb889 w115 BK889 GE889 hg hb HB; clear hb hg) | (refine boxA HB 6 #[.int .i64 a2_0, .int .u64 a2_1, .int .u64 a2_2] 24 ?_; clear HB; intro gb890 w116 BK890 GE890 hg hb HB; have NB889_890 := nbA BK889 hg; have NB890_889 := nbB BK889 hg; replace BK889 := bk1 BK889 hb; clear hb hg) | (refine boxA HB 8 #[.int .i64 0, .int .u64 0, .int .u64 0] 24 ?_; clear HB; intro gb891 w117 BK891 GE891 hg hb HB; have NB889_891 := nbA BK889 hg; have NB891_889 := nbB BK889 hg; replace BK889 := bk1 BK889 hb; have NB890_891 := nbA BK890 hg; have NB891_890 := nbB BK890 hg; replace BK890 := bk1 BK890 hb; clear hb hg; have hnb118 := NB889_890.out; have hnc118 := NB890_889.out; have hnb119 := NB889_891.out; have hnc119 := NB891_889.out; obtain ⟨hcz120_0, hcz120_1, hcz120_2, hfz120_0, hfz120_1, hfz120_2⟩ := cf3 BK889; have hnb121 := NB890_891.out; have hnc121 := NB891_890.out; obtain ⟨hcz122_0, hcz122_1, hcz122_2, hfz122_0, hfz122_1, hfz122_2⟩ := cf3 BK890) | (refine callA (some 59) Tryz.func63 #[.agg #[.int .i64 a1_0, .int .u64 a1_1, .int .u64 a1_2], .agg #[.int .i64 a2_0, .int .u64 a2_1, .int .u64 a2_2]] ?_; (with_reducible refine (bits_Ne.calls k a1_0 a1_1 a1_2 a2_0 a2_1 a2_2 t919 t920 t921 _ A114.out).mono ?_); rintro e w123 ⟨rfl, hb⟩; refine ⟨_, rfl, ?_⟩; replace BK889 := bk1 BK889 hb; replace BK890 := bk1 BK890 hb; replace BK891 := bk1 BK891 hb; replace HB := hb1 HB hb; (try clear hb); obtain ⟨hcz124_0, hcz124_1, hcz124_2, hfz124_0, hfz124_1, hfz124_2⟩ := cf3 BK891))
           refine retA gb891 24 #[.int .i64 t919, .int .u64 t920, .int .u64 t921] (put3 BK891) Tryz.underlying24 ?_
           exact ⟨by rfl, by repeat (with_reducible first | exact HB.out | refine below_set ?_ GE891.out)⟩
          ·replace H := iE H; rcases H with ⟨c125b0, c125b1, H⟩ | ⟨c125, c125b0, c125b1, H⟩
           ·replace H := bN H; obtain ⟨⟨t922, t923, t924⟩, A126, H⟩ := H; dsimp only at H
            replace H := s3 H; obtain ⟨rfl, rfl, rfl⟩ := H
            go_enter Tryz.func27, Tryz.ntmps27
            go_wp2_with (first | (refine boxA HB 5 #[.int .i64 a1_0, .int .u64 a1_1, .int .u64 a1_2] 24 ?_; clear HB; intro gb889 w127 BK889 GE889 hg hb HB; clear hb hg) | (refine boxA HB 6 #[.int .i64 a2_0, .int .u64 a2_1, .int .u64 a2_2] 24 ?_; clear HB; intro gb890 w128 BK890 GE890 hg hb HB; have NB889_890 := nbA BK889 hg; have NB890_889 := nbB BK889 hg; replace BK889 := bk1 BK889 hb; clear hb hg) | (refine boxA HB 8 #[.int .i64 0, .int .u64 0, .int .u64 0] 24 ?_; clear HB; intro gb891 w129 BK891 GE891 hg hb HB; have NB889_891 := nbA BK889 hg; have NB891_889 := nbB BK889 hg; replace BK889 := bk1 BK889 hb; have NB890_891 := nbA BK890 hg; have NB891_890 := nbB BK890 hg; replace BK890 := bk1 BK890 hb; clear hb hg; have hnb130 := NB889_890.out; have hnc130 := NB890_889.out; have hnb131 := NB889_891.out; have hnc131 := NB891_889.out; obtain ⟨hcz132_0, hcz132_1, hcz132_2, hfz132_0, hfz132_1, hfz132_2⟩ := cf3 BK889; have hnb133 := NB890_891.out; have hnc133 := NB891_890.out; obtain ⟨hcz134_0, hcz134_1, hcz134_2, hfz134_0, hfz134_1, hfz134_2⟩ := cf3 BK890) | (refine callA (some 64) Tryz.func64 #[.agg #[.int .i64 a1_0, .int .u64 a1_1, .int .u64 a1_2], .agg #[.int .i64 a2_0, .int .u64 a2_1, .int .u64 a2_2]] ?_; (with_reducible refine (bits_CaseEq.calls k a1_0 a1_1 a1_2 a2_0 a2_1 a2_2 t922 t923 t924 _ A126.out).mono ?_); rintro e w135 ⟨rfl, hb⟩; refine ⟨_, rfl, ?_⟩; replace BK889 := bk1 BK889 hb; replace BK890 := bk1 BK890 hb; replace BK891 := bk1 BK891 hb; replace HB := hb1 HB hb; (try clear hb); obtain ⟨hcz136_0, hcz136_1, hcz136_2, hfz136_0, hfz136_1, hfz136_2⟩ := cf3 BK891))
            refine retA gb891 24 #[.int .i64 t922, .int .u64 t923, .int .u64 t924] (put3 BK891) Tryz.underlying24 ?_
            exact ⟨by rfl, by repeat (with_reducible first | exact HB.out | refine below_set ?_ GE891.out)⟩
           ·replace H := iE H; rcases H with ⟨c137b0, c137b1, H⟩ | ⟨c137, c137b0, c137b1, H⟩
            ·replace H := bN H; obtain ⟨⟨t925, t926, t927⟩, A138, H⟩ := H; dsimp only at H
             replace H := s3 H; obtain ⟨rfl, rfl, rfl⟩ := H
             go_enter Tryz.func27, Tryz.ntmps27
             go_wp2_with (first | (refine boxA HB 5 #[.int .i64 a1_0, .int .u64 a1_1, .int .u64 a1_2] 24 ?_; clear HB; intro gb889 w139 BK889 GE889 hg hb HB; clear hb hg) | (refine boxA HB 6 #[.int .i64 a2_0, .int .u64 a2_1, .int .u64 a2_2] 24 ?_; clear HB; intro gb890 w140 BK890 GE890 hg hb HB; have NB889_890 := nbA BK889 hg; have NB890_889 := nbB BK889 hg; replace BK889 := bk1 BK889 hb; clear hb hg) | (refine boxA HB 8 #[.int .i64 0, .int .u64 0, .int .u64 0] 24 ?_; clear HB; intro gb891 w141 BK891 GE891 hg hb HB; have NB889_891 := nbA BK889 hg; have NB891_889 := nbB BK889 hg; replace BK889 := bk1 BK889 hb; have NB890_891 := nbA BK890 hg; have NB891_890 := nbB BK890 hg; replace BK890 := bk1 BK890 hb; clear hb hg; have hnb142 := NB889_890.out; have hnc142 := NB890_889.out; have hnb143 := NB889_891.out; have hnc143 := NB891_889.out; obtain ⟨hcz144_0, hcz144_1, hcz144_2, hfz144_0, hfz144_1, hfz144_2⟩ := cf3 BK889; have hnb145 := NB890_891.out; have hnc145 := NB891_890.out; obtain ⟨hcz146_0, hcz146_1, hcz146_2, hfz146_0, hfz146_1, hfz146_2⟩ := cf3 BK890) | (refine callA (some 69) Tryz.func65 #[.agg #[.int .i64 a1_0, .int .u64 a1_1, .int .u64 a1_2], .agg #[.int .i64 a2_0, .int .u64 a2_1, .int .u64 a2_2]] ?_; (with_reducible refine (bits_CaseNe.calls k a1_0 a1_1 a1_2 a2_0 a2_1 a2_2 t925 t926 t927 _ A138.out).mono ?_); rintro e w147 ⟨rfl, hb⟩; refine ⟨_, rfl, ?_⟩; replace BK889 := bk1 BK889 hb; replace BK890 := bk1 BK890 hb; replace BK891 := bk1 BK891 hb; replace HB := hb1 HB hb; (try clear hb); obtain ⟨hcz148_0, hcz148_1, hcz148_2, hfz148_0, hfz148_1, hfz148_2⟩ := cf3 BK891))
             refine retA gb891 24 #[.int .i64 t925, .int .u64 t926, .int .u64 t927] (put3 BK891) Tryz.underlying24 ?_
             exact ⟨by rfl, by repeat (with_reducible first | exact HB.out | refine below_set ?_ GE891.out)⟩
            ·replace H := iE H; rcases H with ⟨c149b0, c149b1, H⟩ | ⟨c149, c149b0, c149b1, H⟩
             ·replace H := bN H; obtain ⟨⟨t928, t929, t930⟩, A150, H⟩ := H; dsimp only at H
              replace H := s3 H; obtain ⟨rfl, rfl, rfl⟩ := H
              go_enter Tryz.func27, Tryz.ntmps27
              go_wp2_with (first | (refine boxA HB 5 #[.int .i64 a1_0, .int .u64 a1_1, .int .u64 a1_2] 24 ?_; clear HB; intro gb889 w151 BK889 GE889 hg hb HB; clear hb hg) | (refine boxA HB 6 #[.int .i64 a2_0, .int .u64 a2_1, .int .u64 a2_2] 24 ?_; clear HB; intro gb890 w152 BK890 GE890 hg hb HB; have NB889_890 := nbA BK889 hg; have NB890_889 := nbB BK889 hg; replace BK889 := bk1 BK889 hb; clear hb hg) | (refine boxA HB 8 #[.int .i64 0, .int .u64 0, .int .u64 0] 24 ?_; clear HB; intro gb891 w153 BK891 GE891 hg hb HB; have NB889_891 := nbA BK889 hg; have NB891_889 := nbB BK889 hg; replace BK889 := bk1 BK889 hb; have NB890_891 := nbA BK890 hg; have NB891_890 := nbB BK890 hg; replace BK890 := bk1 BK890 hb; clear hb hg; have hnb154 := NB889_890.out; have hnc154 := NB890_889.out; have hnb155 := NB889_891.out; have hnc155 := NB891_889.out; obtain ⟨hcz156_0, hcz156_1, hcz156_2, hfz156_0, hfz156_1, hfz156_2⟩ := cf3 BK889; have hnb157 := NB890_891.out; have hnc157 := NB891_890.out; obtain ⟨hcz158_0, hcz158_1, hcz158_2, hfz158_0, hfz158_1, hfz158_2⟩ := cf3 BK890) | (refine callA (some 75) Tryz.func66 #[.agg #[.int .i64 a1_0, .int .u64 a1_1, .int .u64 a1_2], .agg #[.int .i64 a2_0, .int .u64 a2_1, .int .u64 a2_2], .bool a3] ?_; (with_reducible refine (bits_Lt.calls k a1_0 a1_1 a1_2 a2_0 a2_1 a2_2 a3 t928 t929 t930 _ A150.out).mono ?_); rintro e w159 ⟨rfl, hb⟩; refine ⟨_, rfl, ?_⟩; replace BK889 := bk1 BK889 hb; replace BK890 := bk1 BK890 hb; replace BK891 := bk1 BK891 hb; replace HB := hb1 HB hb; (try clear hb); obtain ⟨hcz160_0, hcz160_1, hcz160_2, hfz160_0, hfz160_1, hfz160_2⟩ := cf3 BK891))
              refine retA gb891 24 #[.int .i64 t928, .int .u64 t929, .int .u64 t930] (put3 BK891) Tryz.underlying24 ?_
              exact ⟨by rfl, by repeat (with_reducible first | exact HB.out | refine below_set ?_ GE891.out)⟩
             ·replace H := iE H; rcases H with ⟨c161b0, c161b1, H⟩ | ⟨c161, c161b0, c161b1, H⟩
              ·replace H := bN H; obtain ⟨⟨t931, t932, t933⟩, A162, H⟩ := H; dsimp only at H
               replace H := s3 H; obtain ⟨rfl, rfl, rfl⟩ := H
               go_enter Tryz.func27, Tryz.ntmps27
               go_wp2_with (first | (refine boxA HB 5 #[.int .i64 a1_0, .int .u64 a1_1, .int .u64 a1_2] 24 ?_; clear HB; intro gb889 w163 BK889 GE889 hg hb HB; clear hb hg) | (refine boxA HB 6 #[.int .i64 a2_0, .int .u64 a2_1, .int .u64 a2_2] 24 ?_; clear HB; intro gb890 w164 BK890 GE890 hg hb HB; have NB889_890 := nbA BK889 hg; have NB890_889 := nbB BK889 hg; replace BK889 := bk1 BK889 hb; clear hb hg) | (refine boxA HB 8 #[.int .i64 0, .int .u64 0, .int .u64 0] 24 ?_; clear HB; intro gb891 w165 BK891 GE891 hg hb HB; have NB889_891 := nbA BK889 hg; have NB891_889 := nbB BK889 hg; replace BK889 := bk1 BK889 hb; have NB890_891 := nbA BK890 hg; have NB891_890 := nbB BK890 hg; replace BK890 := bk1 BK890 hb; clear hb hg; have hnb166 := NB889_890.out; have hnc166 := NB890_889.out; have hnb167 := NB889_891.out; have hnc167 := NB891_889.out; obtain ⟨hcz168_0, hcz168_1, hcz168_2, hfz168_0, hfz168_1, hfz168_2⟩ := cf3 BK889; have hnb169 := NB890_891.out; have hnc169 := NB891_890.out; obtain ⟨hcz170_0, hcz170_1, hcz170_2, hfz170_0, hfz170_1, hfz170_2⟩ := cf3 BK890) | (refine callA (some 81) Tryz.func67 #[.agg #[.int .i64 a1_0, .int .u64 a1_1, .int .u64 a1_2], .agg #[.int .i64 a2_0, .int .u64 a2_1, .int .u64 a2_2], .bool a3] ?_; (with_reducible refine (bits_Le.calls k a1_0 a1_1 a1_2 a2_0 a2_1 a2_2 a3 t931 t932 t933 _ A162.out).mono ?_); rintro e w171 ⟨rfl, hb⟩; refine ⟨_, rfl, ?_⟩; replace BK889 := bk1 BK889 hb; replace BK890 := bk1 BK890 hb; replace BK891 := bk1 BK891 hb; replace HB := hb1 HB hb; (try clear hb); obtain ⟨hcz172_0, hcz172_1, hcz172_2, hfz172_0, hfz172_1, hfz172_2⟩ := cf3 BK891))
               refine retA gb891 24 #[.int .i64 t931, .int .u64 t932, .int .u64 t933] (put3 BK891) Tryz.underlying24 ?_
               exact ⟨by rfl, by repeat (with_reducible first | exact HB.out | refine below_set ?_ GE891.out)⟩
              ·replace H := iE H; rcases H with ⟨c173b0, c173b1, H⟩ | ⟨c173, c173b0, c173b1, H⟩
               ·replace H := bN H; obtain ⟨⟨t934, t935, t936⟩, A174, H⟩ := H; dsimp only at H
                replace H := s3 H; obtain ⟨rfl, rfl, rfl⟩ := H
                go_enter Tryz.func27, Tryz.ntmps27
                go_wp2_with (first | (refine boxA HB 5 #[.int .i64 a1_0, .int .u64 a1_1, .int .u64 a1_2] 24 ?_; clear HB; intro gb889 w175 BK889 GE889 hg hb HB; clear hb hg) | (refine boxA HB 6 #[.int .i64 a2_0, .int .u64 a2_1, .int .u64 a2_2] 24 ?_; clear HB; intro gb890 w176 BK890 GE890 hg hb HB; have NB889_890 := nbA BK889 hg; have NB890_889 := nbB BK889 hg; replace BK889 := bk1 BK889 hb; clear hb hg) | (refine boxA HB 8 #[.int .i64 0, .int .u64 0, .int .u64 0] 24 ?_; clear HB; intro gb891 w177 BK891 GE891 hg hb HB; have NB889_891 := nbA BK889 hg; have NB891_889 := nbB BK889 hg; replace BK889 := bk1 BK889 hb; have NB890_891 := nbA BK890 hg; have NB891_890 := nbB BK890 hg; replace BK890 := bk1 BK890 hb; clear hb hg; have hnb178 := NB889_890.out; have hnc178 := NB890_889.out; have hnb179 := NB889_891.out; have hnc179 := NB891_889.out; obtain ⟨hcz180_0, hcz180_1, hcz180_2, hfz180_0, hfz180_1, hfz180_2⟩ := cf3 BK889; have hnb181 := NB890_891.out; have hnc181 := NB891_890.out; obtain ⟨hcz182_0, hcz182_1, hcz182_2, hfz182_0, hfz182_1, hfz182_2⟩ := cf3 BK890) | (refine callA (some 86) Tryz.func25 #[.agg #[.int .i64 a1_0, .int .u64 a1_1, .int .u64 a1_2], .agg #[.int .i64 a2_0, .int .u64 a2_1, .int .u64 a2_2]] ?_; (with_reducible refine (bits_Add.calls k a1_0 a1_1 a1_2 a2_0 a2_1 a2_2 t934 t935 t936 _ A174.out).mono ?_); rintro e w183 ⟨rfl, hb⟩; refine ⟨_, rfl, ?_⟩; replace BK889 := bk1 BK889 hb; replace BK890 := bk1 BK890 hb; replace BK891 := bk1 BK891 hb; replace HB := hb1 HB hb; (try clear hb); obtain ⟨hcz184_0, hcz184_1, hcz184_2, hfz184_0, hfz184_1, hfz184_2⟩ := cf3 BK891))
                refine retA gb891 24 #[.int .i64 t934, .int .u64 t935, .int .u64 t936] (put3 BK891) Tryz.underlying24 ?_
                exact ⟨by rfl, by repeat (with_reducible first | exact HB.out | refine below_set ?_ GE891.out)⟩
               ·replace H := iE H; rcases H with ⟨c185b0, c185b1, H⟩ | ⟨c185, c185b0, c185b1, H⟩
                ·replace H := bN H; obtain ⟨⟨t937, t938, t939⟩, A186, H⟩ := H; dsimp only at H
                 replace H := s3 H; obtain ⟨rfl, rfl, rfl⟩ := H
                 go_enter Tryz.func27, Tryz.ntmps27
                 go_wp2_with (first | (refine boxA HB 5 #[.int .i64 a1_0, .int .u64 a1_1, .int .u64 a1_2] 24 ?_; clear HB; intro gb889 w187 BK889 GE889 hg hb HB; clear hb hg) | (refine boxA HB 6 #[.int .i64 a2_0, .int .u64 a2_1, .int .u64 a2_2] 24 ?_; clear HB; intro gb890 w188 BK890 GE890 hg hb HB; have NB889_890 := nbA BK889 hg; have NB890_889 := nbB BK889 hg; replace BK889 := bk1 BK889 hb; clear hb hg) | (refine boxA HB 8 #[.int .i64 0, .int .u64 0, .int .u64 0] 24 ?_; clear HB; intro gb891 w189 BK891 GE891 hg hb HB; have NB889_891 := nbA BK889 hg; have NB891_889 := nbB BK889 hg; replace BK889 := bk1 BK889 hb; have NB890_891 := nbA BK890 hg; have NB891_890 := nbB BK890 hg; replace BK890 := bk1 BK890 hb; clear hb hg; have hnb190 := NB889_890.out; have hnc190 := NB890_889.out; have hnb191 := NB889_891.out; have hnc191 := NB891_889.out; obtain ⟨hcz192_0, hcz192_1, hcz192_2, hfz192_0, hfz192_1, hfz192_2⟩ := cf3 BK889; have hnb193 := NB890_891.out; have hnc193 := NB891_890.out; obtain ⟨hcz194_0, hcz194_1, hcz194_2, hfz194_0, hfz194_1, hfz194_2⟩ := cf3 BK890) | (refine callA (some 91) Tryz.func68 #[.agg #[.int .i64 a1_0, .int .u64 a1_1, .int .u64 a1_2], .agg #[.int .i64 a2_0, .int .u64 a2_1, .int .u64 a2_2]] ?_; (with_reducible refine (bits_Sub.calls k a1_0 a1_1 a1_2 a2_0 a2_1 a2_2 t937 t938 t939 _ A186.out).mono ?_); rintro e w195 ⟨rfl, hb⟩; refine ⟨_, rfl, ?_⟩; replace BK889 := bk1 BK889 hb; replace BK890 := bk1 BK890 hb; replace BK891 := bk1 BK891 hb; replace HB := hb1 HB hb; (try clear hb); obtain ⟨hcz196_0, hcz196_1, hcz196_2, hfz196_0, hfz196_1, hfz196_2⟩ := cf3 BK891))
                 refine retA gb891 24 #[.int .i64 t937, .int .u64 t938, .int .u64 t939] (put3 BK891) Tryz.underlying24 ?_
                 exact ⟨by rfl, by repeat (with_reducible first | exact HB.out | refine below_set ?_ GE891.out)⟩
                ·replace H := iE H; rcases H with ⟨c197b0, c197b1, H⟩ | ⟨c197, c197b0, c197b1, H⟩
                 ·replace H := bN H; obtain ⟨⟨t940, t941, t942⟩, A198, H⟩ := H; dsimp only at H
                  replace H := s3 H; obtain ⟨rfl, rfl, rfl⟩ := H
                  go_enter Tryz.func27, Tryz.ntmps27
                  go_wp2_with (first | (refine boxA HB 5 #[.int .i64 a1_0, .int .u64 a1_1, .int .u64 a1_2] 24 ?_; clear HB; intro gb889 w199 BK889 GE889 hg hb HB; clear hb hg) | (refine boxA HB 6 #[.int .i64 a2_0, .int .u64 a2_1, .int .u64 a2_2] 24 ?_; clear HB; intro gb890 w200 BK890 GE890 hg hb HB; have NB889_890 := nbA BK889 hg; have NB890_889 := nbB BK889 hg; replace BK889 := bk1 BK889 hb; clear hb hg) | (refine boxA HB 8 #[.int .i64 0, .int .u64 0, .int .u64 0] 24 ?_; clear HB; intro gb891 w201 BK891 GE891 hg hb HB; have NB889_891 := nbA BK889 hg; have NB891_889 := nbB BK889 hg; replace BK889 := bk1 BK889 hb; have NB890_891 := nbA BK890 hg; have NB891_890 := nbB BK890 hg; replace BK890 := bk1 BK890 hb; clear hb hg; have hnb202 := NB889_890.out; have hnc202 := NB890_889.out; have hnb203 := NB889_891.out; have hnc203 := NB891_889.out; obtain ⟨hcz204_0, hcz204_1, hcz204_2, hfz204_0, hfz204_1, hfz204_2⟩ := cf3 BK889; have hnb205 := NB890_891.out; have hnc205 := NB891_890.out; obtain ⟨hcz206_0, hcz206_1, hcz206_2, hfz206_0, hfz206_1, hfz206_2⟩ := cf3 BK890) | (refine callA (some 96) Tryz.func69 #[.agg #[.int .i64 a1_0, .int .u64 a1_1, .int .u64 a1_2], .agg #[.int .i64 a2_0, .int .u64 a2_1, .int .u64 a2_2]] ?_; (with_reducible refine (bits_Mul.calls k a1_0 a1_1 a1_2 a2_0 a2_1 a2_2 t940 t941 t942 _ A198.out).mono ?_); rintro e w207 ⟨rfl, hb⟩; refine ⟨_, rfl, ?_⟩; replace BK889 := bk1 BK889 hb; replace BK890 := bk1 BK890 hb; replace BK891 := bk1 BK891 hb; replace HB := hb1 HB hb; (try clear hb); obtain ⟨hcz208_0, hcz208_1, hcz208_2, hfz208_0, hfz208_1, hfz208_2⟩ := cf3 BK891))
                  refine retA gb891 24 #[.int .i64 t940, .int .u64 t941, .int .u64 t942] (put3 BK891) Tryz.underlying24 ?_
                  exact ⟨by rfl, by repeat (with_reducible first | exact HB.out | refine below_set ?_ GE891.out)⟩
                 ·replace H := iE H; rcases H with ⟨c209b0, c209b1, H⟩ | ⟨c209, c209b0, c209b1, H⟩
                  ·replace H := bN H; obtain ⟨⟨t943, t944, t945⟩, A210, H⟩ := H; dsimp only at H
                   replace H := s3 H; obtain ⟨rfl, rfl, rfl⟩ := H
                   go_enter Tryz.func27, Tryz.ntmps27
                   go_wp2_with (first | (refine boxA HB 5 #[.int .i64 a1_0, .int .u64 a1_1, .int .u64 a1_2] 24 ?_; clear HB; intro gb889 w211 BK889 GE889 hg hb HB; clear hb hg) | (refine boxA HB 6 #[.int .i64 a2_0, .int .u64 a2_1, .int .u64 a2_2] 24 ?_; clear HB; intro gb890 w212 BK890 GE890 hg hb HB; have NB889_890 := nbA BK889 hg; have NB890_889 := nbB BK889 hg; replace BK889 := bk1 BK889 hb; clear hb hg) | (refine boxA HB 8 #[.int .i64 0, .int .u64 0, .int .u64 0] 24 ?_; clear HB; intro gb891 w213 BK891 GE891 hg hb HB; have NB889_891 := nbA BK889 hg; have NB891_889 := nbB BK889 hg; replace BK889 := bk1 BK889 hb; have NB890_891 := nbA BK890 hg; have NB891_890 := nbB BK890 hg; replace BK890 := bk1 BK890 hb; clear hb hg; have hnb214 := NB889_890.out; have hnc214 := NB890_889.out; have hnb215 := NB889_891.out; have hnc215 := NB891_889.out; obtain ⟨hcz216_0, hcz216_1, hcz216_2, hfz216_0, hfz216_1, hfz216_2⟩ := cf3 BK889; have hnb217 := NB890_891.out; have hnc217 := NB891_890.out; obtain ⟨hcz218_0, hcz218_1, hcz218_2, hfz218_0, hfz218_1, hfz218_2⟩ := cf3 BK890) | (refine callA (some 102) Tryz.func70 #[.agg #[.int .i64 a1_0, .int .u64 a1_1, .int .u64 a1_2], .agg #[.int .i64 a2_0, .int .u64 a2_1, .int .u64 a2_2], .bool a3] ?_; (with_reducible refine (bits_Div.calls k a1_0 a1_1 a1_2 a2_0 a2_1 a2_2 a3 t943 t944 t945 _ A210.out).mono ?_); rintro e w219 ⟨rfl, hb⟩; refine ⟨_, rfl, ?_⟩; replace BK889 := bk1 BK889 hb; replace BK890 := bk1 BK890 hb; replace BK891 := bk1 BK891 hb; replace HB := hb1 HB hb; (try clear hb); obtain ⟨hcz220_0, hcz220_1, hcz220_2, hfz220_0, hfz220_1, hfz220_2⟩ := cf3 BK891))
                   refine retA gb891 24 #[.int .i64 t943, .int .u64 t944, .int .u64 t945] (put3 BK891) Tryz.underlying24 ?_
                   exact ⟨by rfl, by repeat (with_reducible first | exact HB.out | refine below_set ?_ GE891.out)⟩
                  ·replace H := bN H; obtain ⟨⟨t946, t947, t948⟩, A221, H⟩ := H; dsimp only at H
                   replace H := s3 H; obtain ⟨rfl, rfl, rfl⟩ := H
                   go_enter Tryz.func27, Tryz.ntmps27
                   go_wp2_with (first | (refine boxA HB 5 #[.int .i64 a1_0, .int .u64 a1_1, .int .u64 a1_2] 24 ?_; clear HB; intro gb889 w222 BK889 GE889 hg hb HB; clear hb hg) | (refine boxA HB 6 #[.int .i64 a2_0, .int .u64 a2_1, .int .u64 a2_2] 24 ?_; clear HB; intro gb890 w223 BK890 GE890 hg hb HB; have NB889_890 := nbA BK889 hg; have NB890_889 := nbB BK889 hg; replace BK889 := bk1 BK889 hb; clear hb hg) | (refine boxA HB 8 #[.int .i64 0, .int .u64 0, .int .u64 0] 24 ?_; clear HB; intro gb891 w224 BK891 GE891 hg hb HB; have NB889_891 := nbA BK889 hg; have NB891_889 := nbB BK889 hg; replace BK889 := bk1 BK889 hb; have NB890_891 := nbA BK890 hg; have NB891_890 := nbB BK890 hg; replace BK890 := bk1 BK890 hb; clear hb hg; have hnb225 := NB889_890.out; have hnc225 := NB890_889.out; have hnb226 := NB889_891.out; have hnc226 := NB891_889.out; obtain ⟨hcz227_0, hcz227_1, hcz227_2, hfz227_0, hfz227_1, hfz227_2⟩ := cf3 BK889; have hnb228 := NB890_891.out; have hnc228 := NB891_890.out; obtain ⟨hcz229_0, hcz229_1, hcz229_2, hfz229_0, hfz229_1, hfz229_2⟩ := cf3 BK890) | (refine callA (some 106) Tryz.func71 #[.agg #[.int .i64 a1_0, .int .u64 a1_1, .int .u64 a1_2], .agg #[.int .i64 a2_0, .int .u64 a2_1, .int .u64 a2_2], .bool a3] ?_; (with_reducible refine (bits_Mod.calls k a1_0 a1_1 a1_2 a2_0 a2_1 a2_2 a3 t946 t947 t948 _ A221.out).mono ?_); rintro e w230 ⟨rfl, hb⟩; refine ⟨_, rfl, ?_⟩; replace BK889 := bk1 BK889 hb; replace BK890 := bk1 BK890 hb; replace BK891 := bk1 BK891 hb; replace HB := hb1 HB hb; (try clear hb); obtain ⟨hcz231_0, hcz231_1, hcz231_2, hfz231_0, hfz231_1, hfz231_2⟩ := cf3 BK891))
                   refine retA gb891 24 #[.int .i64 t946, .int .u64 t947, .int .u64 t948] (put3 BK891) Tryz.underlying24 ?_
                   exact ⟨by rfl, by repeat (with_reducible first | exact HB.out | refine below_set ?_ GE891.out)⟩
end Go.Proofs.YtfigblfjogpojaaGreatDoor.PJoin
end
section
namespace Go.Proofs.YtfigblfjogpojaaGreatDoor.PJoin
open Go.Proofs.YtfigblfjogpojaaGreatDoor.PBits
open Go.RowKit Go.Proofs.YtfigblfjogpojaaGreatDoorW.PrintWords Go.Proofs.YtfigblfjogpojaaGreatDoorW.PrintLast Go.Proofs.YtfigblfjogpojaaGreatDoorW.PrintMore
attribute [local go_sem] max2_int min2_int max_two min_two max_three min_three max_four min_four
set_option linter.unusedVariables false
set_option linter.unusedSimpArgs false
attribute [local go_sem high] eqA24
mutual
def masklaw1_pair.l0 : Nat → Bool → List Int → Int → Int → Int → Int → Int → Int → Int → Int → Option (Bool)
 | 0, _, _, _, _, _, _, _, _, _, _ => none
 | k + 1, x3, x13, x14, x15, x950000, x950001, x950002, x951000, x951001, x951002 => if x15 < x14 then (if 0 ≤ x15 then (if x15 < (x13.length : Int) then (if (rd x13 x15) = 11 then (masklaw1_pair.j1 k x3 (rd x13 x15) true x13 x14 x15 x950000 x950001 x950002 x951000 x951001 x951002) else (if (rd x13 x15) = 12 then (masklaw1_pair.j1 k x3 (rd x13 x15) true x13 x14 x15 x950000 x950001 x950002 x951000 x951001 x951002) else (if (rd x13 x15) = 21 then (masklaw1_pair.j1 k x3 (rd x13 x15) true x13 x14 x15 x950000 x950001 x950002 x951000 x951001 x951002) else (if (rd x13 x15) = 22 then (masklaw1_pair.j1 k x3 (rd x13 x15) true x13 x14 x15 x950000 x950001 x950002 x951000 x951001 x951002) else (masklaw1_pair.j1 k x3 (rd x13 x15) ((rd x13 x15) == 23) x13 x14 x15 x950000 x950001 x950002 x951000 x951001 x951002))))) else (none)) else (none)) else (some true)
def masklaw1_pair.j1 : Nat → Bool → Int → Bool → List Int → Int → Int → Int → Int → Int → Int → Int → Int → Option (Bool)
 | 0, _, _, _, _, _, _, _, _, _, _, _, _ => none
 | k + 1, x3, x10, x11, x13, x14, x15, x950000, x950001, x950002, x951000, x951001, x951002 => (maskref1_Valid.f k x950000 x950001 x950002).bind fun t953 => (if t953 = true then ((maskref1_Valid.f k x951000 x951001 x951002).bind fun t954 => (if t954 = true then (if x11 = true then (masklaw1_pair.j2 k x3 x10 x13 x14 x15 true x950000 x950001 x950002 x951000 x951001 x951002 0 0 0) else (masklaw1_pair.j2 k x3 x10 x13 x14 x15 (x950000 == x951000) x950000 x950001 x950002 x951000 x951001 x951002 0 0 0)) else (masklaw1_pair.j2 k x3 x10 x13 x14 x15 false x950000 x950001 x950002 x951000 x951001 x951002 0 0 0))) else (masklaw1_pair.j2 k x3 x10 x13 x14 x15 false x950000 x950001 x950002 x951000 x951001 x951002 0 0 0))
def masklaw1_pair.j2 : Nat → Bool → Int → List Int → Int → Int → Bool → Int → Int → Int → Int → Int → Int → Int → Int → Int → Option (Bool)
 | 0, _, _, _, _, _, _, _, _, _, _, _, _, _, _, _ => none
 | k + 1, x3, x10, x13, x14, x15, x52, x950000, x950001, x950002, x951000, x951001, x951002, x953000, x953001, x953002 => if x52 = true then ((maskref1_V.f k x950000 x950001 x950002).bind fun t955 => ((maskref1_V.f k x951000 x951001 x951002).bind fun t958 => ((maskref1_Binary.f k x10 t955 t958 x3).bind fun t961 => ((maskref1_B.f k t961).bind fun bt964 => (masklaw1_pair.j3 k x3 x10 x13 x14 x15 x950000 x950001 x950002 x951000 x951001 x951002 bt964.1 bt964.2.1 bt964.2.2))))) else (masklaw1_pair.j3 k x3 x10 x13 x14 x15 x950000 x950001 x950002 x951000 x951001 x951002 x953000 x953001 x953002)
def masklaw1_pair.j3 : Nat → Bool → Int → List Int → Int → Int → Int → Int → Int → Int → Int → Int → Int → Int → Int → Option (Bool)
 | 0, _, _, _, _, _, _, _, _, _, _, _, _, _, _ => none
 | k + 1, x3, x10, x13, x14, x15, x950000, x950001, x950002, x951000, x951001, x951002, x953000, x953001, x953002 => (masklaw1_binary.f k x10 x950000 x950001 x950002 x951000 x951001 x951002 x3).bind fun bt967 => (if (!(bt967.1 == x953000) || (!(bt967.2.1 == x953001) || (!(bt967.2.2 == x953002)))) = true then (some false) else (masklaw1_pair.l0 k x3 x13 x14 (wrap64 (x15 + 1)) x950000 x950001 x950002 x951000 x951001 x951002))
end
def masklaw1_pair.f (k : Nat) (l0 : List Int) (a1_0 : Int) (a1_1 : Int) (a1_2 : Int) (a2_0 : Int) (a2_1 : Int) (a2_2 : Int) (a3 : Bool) : Option (Bool) := masklaw1_pair.l0 k a3 l0 (l0.length : Int) 0 a1_0 a1_1 a1_2 a2_0 a2_1 a2_2
def masklaw1_pair.T7 : Bool × List (List Nat × List Nat) := (true, [([], []), ([], []), ([1], [1]), ([], []), ([3, 2], [3]), ([], []), ([0, 2, 4, 5, 4], [0, 2, 4, 5]), ([6, 6], [6]), ([7, 7, 0, 1, 2, 3, 4, 5, 6, 7], [7])])
def masklaw1_pair.B7 : List Nat := [0, 0, 2, 0, 14, 0, 63, 127, 255]
theorem masklaw1_pair.tab7 : rtab .any (opsOf Tryz.f14 7) = masklaw1_pair.T7 := by kernel_rfl
theorem masklaw1_pair.bits7 : waitsOk masklaw1_pair.T7.2 masklaw1_pair.B7 = true := by kernel_rfl
set_option maxHeartbeats 8000000 in
set_option maxRecDepth 100000 in
theorem masklaw1_pair.calls (k : Nat) (A0 : Option Addr) (c0 : Nat) (l0 : List Int) (a1_0 : Int) (a1_1 : Int) (a1_2 : Int) (a2_0 : Int) (a2_1 : Int) (a2_2 : Int) (a3 : Bool) (r : Bool) (w : World) (hr0 : Kd.C (Kd.int .i64) w A0 l0.length l0) (hc0 : l0.length ≤ c0) (h : masklaw1_pair.f k l0 a1_0 a1_1 a1_2 a2_0 a2_1 a2_2 a3 = some r) :
  Calls Tryz.prog 14 #[.slice A0 l0.length c0, .agg #[.int .i64 a1_0, .int .u64 a1_1, .int .u64 a1_2], .agg #[.int .i64 a2_0, .int .u64 a2_1, .int .u64 a2_2], .bool a3] w fun e w' => e = .returned (.bool r) ∧ Below w.heap.size w w' := by
 have hu24 := Tryz.underlying24
 have HR0 := Aside0.mk hr0
 have HC0 := Aside0.mk hc0
 clear hr0 hc0
 have HB := Aside0.mk (Below.refl w.heap.size w)
 have H := h
 clear h
 unfold masklaw1_pair.f at H
 have H' := Aside0.mk H
 clear H
 go_enter Tryz.func14, Tryz.ntmps14
 go_wp2_with (first | (refine boxA HB 5 #[.int .i64 a1_0, .int .u64 a1_1, .int .u64 a1_2] 24 ?_; clear HB; intro gb949 w5 BK949 GE949 hg hb HB; clear hb hg) | (refine boxA HB 6 #[.int .i64 a2_0, .int .u64 a2_1, .int .u64 a2_2] 24 ?_; clear HB; intro gb950 w6 BK950 GE950 hg hb HB; have NB949_950 := nbA BK949 hg; have NB950_949 := nbB BK949 hg; replace BK949 := bk1 BK949 hb; clear hb hg))
 go_loopg [15] k (fun kq v15 w' => ∃ (x15_1 : Int), v15 = .int .i64 x15_1 ∧ Aside0 (masklaw1_pair.l0 kq a3 l0 (l0.length : Int) x15_1 a1_0 a1_1 a1_2 a2_0 a2_1 a2_2 = some r) ∧ Aside0 (kq ≤ k) ∧ Aside0 (w'.heap[gb949]? = some (.cells #[.int .i64 a1_0, .int .u64 a1_1, .int .u64 a1_2] 24 (0, 0))) ∧ Aside0 (w'.heap[gb950]? = some (.cells #[.int .i64 a2_0, .int .u64 a2_1, .int .u64 a2_2] 24 (0, 0))) ∧ Aside0 (Below w.heap.size w w'))
 case atStart => exact ⟨(0), (by rfl), H', ⟨Nat.le_refl _⟩, ⟨by exact BK949.out⟩, ⟨by exact BK950.out⟩, ⟨by repeat (with_reducible exact HB.out)⟩⟩
 case round =>
  clear H'
  obtain ⟨x15_1, rfl, HA, HK1, BK949, BK950, HB⟩ := hrel
  cases gk with
  | zero => exact absurd HA.out (by simp [masklaw1_pair.l0])
  | succ k1 =>
   have H := HA.out
   clear HA
   simp only [masklaw1_pair.l0] at H
   replace H := iD H; rcases H with ⟨c7b0, H⟩ | ⟨c7b0, H⟩
   ·replace H := iN H; obtain ⟨c8b0, H⟩ := H
    replace H := iN H; obtain ⟨c9b0, H⟩ := H
    have HC10 := Aside0.mk H
    clear H
    have p951 : 0 ≤ (x15_1 : Int) := of_decide_eq_true (by (with_reducible assumption))
    have q951 : x15_1 < (l0.length : Int) := of_decide_eq_true (by (with_reducible assumption))
    obtain ⟨ad951, e951, hx951_0⟩ := Kd.at_int HR0.out x15_1 p951 q951
    cases e951
    replace hx951_0 := (HB.out.cell (World.block_lt_of_cell? w _ hx951_0)).trans hx951_0
    replace p951 := eq_true p951
    replace q951 := eq_true q951
    go_upto_region 4 with (fail)
    go_cut [11] (fun v11 wc => ∃ (kq : Nat) (x11_9 : Bool), v11 = .bool x11_9 ∧ Aside0 (masklaw1_pair.j1 kq a3 (rd l0 x15_1) x11_9 l0 (l0.length : Int) x15_1 a1_0 a1_1 a1_2 a2_0 a2_1 a2_2 = some r) ∧ Aside0 (kq ≤ k1) ∧ Aside0 (wc.heap[gb949]? = some (.cells #[.int .i64 a1_0, .int .u64 a1_1, .int .u64 a1_2] 24 (0, 0))) ∧ Aside0 (wc.heap[gb950]? = some (.cells #[.int .i64 a2_0, .int .u64 a2_1, .int .u64 a2_2] 24 (0, 0))) ∧ Aside0 (Below w.heap.size w wc))
    case first =>
     have H := HC10.out
     clear HC10
     replace H := iE H; rcases H with ⟨c11b0, c11b1, H⟩ | ⟨c11, c11b0, c11b1, H⟩
     ·(skip)
      have H' := Aside0.mk H
      clear H
      go_wp2
      go_meet
      case rel => exact ⟨_, (true), (by rfl), H', ⟨by have := HK1.out; omega⟩, ⟨by exact BK949.out⟩, ⟨by exact BK950.out⟩, ⟨by repeat (with_reducible exact HB.out)⟩⟩
     ·(skip)
      replace H := iE H; rcases H with ⟨c12b0, c12b1, H⟩ | ⟨c12, c12b0, c12b1, H⟩
      ·have H' := Aside0.mk H
       clear H
       go_wp2
       go_meet
       case rel => exact ⟨_, (true), (by rfl), H', ⟨by have := HK1.out; omega⟩, ⟨by exact BK949.out⟩, ⟨by exact BK950.out⟩, ⟨by repeat (with_reducible exact HB.out)⟩⟩
      ·replace H := iE H; rcases H with ⟨c13b0, c13b1, H⟩ | ⟨c13, c13b0, c13b1, H⟩
       ·have H' := Aside0.mk H
        clear H
        go_wp2
        go_meet
        case rel => exact ⟨_, (true), (by rfl), H', ⟨by have := HK1.out; omega⟩, ⟨by exact BK949.out⟩, ⟨by exact BK950.out⟩, ⟨by repeat (with_reducible exact HB.out)⟩⟩
       ·replace H := iE H; rcases H with ⟨c14b0, c14b1, H⟩ | ⟨c14, c14b0, c14b1, H⟩
        ·have H' := Aside0.mk H
         clear H
         go_wp2
         go_meet
         case rel => exact ⟨_, (true), (by rfl), H', ⟨by have := HK1.out; omega⟩, ⟨by exact BK949.out⟩, ⟨by exact BK950.out⟩, ⟨by repeat (with_reducible exact HB.out)⟩⟩
        ·have H' := Aside0.mk H
         clear H
         go_wp2
         go_meet
         case rel => exact ⟨_, ((rd l0 x15_1) == 23), (by rfl), H', ⟨by have := HK1.out; omega⟩, ⟨by exact BK949.out⟩, ⟨by exact BK950.out⟩, ⟨by repeat (with_reducible exact HB.out)⟩⟩
    case rest =>
     clear HC10
     (try clear c7b0); (try clear c8b0); (try clear c9b0); (try clear hx951_0); (try clear p951); (try clear q951)
     obtain ⟨kq, x11_9, rfl, HA, HJ9, BK949, BK950, HB⟩ := hcut
     cases kq with
     | zero => exact absurd HA.out (by simp [masklaw1_pair.j1])
     | succ kj9 =>
      have H := HA.out
      clear HA
      simp only [masklaw1_pair.j1] at H
      have HC15 := Aside0.mk H
      clear H
      go_upto_region 6 with ((refine boxA HB 12 #[.int .i64 0, .int .u64 0, .int .u64 0] 24 ?_; clear HB; intro gb952 w16 BK952 GE952 hg hb HB; have NB949_952 := nbA BK949 hg; have NB952_949 := nbB BK949 hg; replace BK949 := bk1 BK949 hb; have NB950_952 := nbA BK950 hg; have NB952_950 := nbB BK950 hg; replace BK950 := bk1 BK950 hb; clear hb hg))
      (try simp only [Act.put, List.setIfInBounds_toArray, List.set_cons_zero, List.set_cons_succ])
      go_cut [52] (fun v52 wc => ∃ (kq : Nat) (x52_14 : Bool), v52 = .bool x52_14 ∧ Aside0 (masklaw1_pair.j2 kq a3 (rd l0 x15_1) l0 (l0.length : Int) x15_1 x52_14 a1_0 a1_1 a1_2 a2_0 a2_1 a2_2 0 0 0 = some r) ∧ Aside0 (kq ≤ kj9) ∧ Aside0 (wc.heap[gb949]? = some (.cells #[.int .i64 a1_0, .int .u64 a1_1, .int .u64 a1_2] 24 (0, 0))) ∧ Aside0 (wc.heap[gb950]? = some (.cells #[.int .i64 a2_0, .int .u64 a2_1, .int .u64 a2_2] 24 (0, 0))) ∧ Aside0 (wc.heap[gb952]? = some (.cells #[.int .i64 0, .int .u64 0, .int .u64 0] 24 (0, 0))) ∧ Aside0 (Below w.heap.size w wc))
      case first =>
       have H := HC15.out
       clear HC15
       replace H := bN H; obtain ⟨t953, A17, H⟩ := H
       replace H := iB H; rcases H with ⟨rfl, H⟩ | ⟨rfl, H⟩
       ·replace H := bN H; obtain ⟨t954, A19, H⟩ := H
        replace H := iB H; rcases H with ⟨rfl, H⟩ | ⟨rfl, H⟩
        ·replace H := iB H; rcases H with ⟨rfl, H⟩ | ⟨rfl, H⟩
         ·have H' := Aside0.mk H
          clear H
          have hnb22 := NB949_950.out
          have hnc22 := NB950_949.out
          have hnb23 := NB949_952.out
          have hnc23 := NB952_949.out
          obtain ⟨hcz24_0, hcz24_1, hcz24_2, hfz24_0, hfz24_1, hfz24_2⟩ := cf3 BK949
          go_wp2_with (first | (refine callA (some 38) Tryz.func9 #[.agg #[.int .i64 a1_0, .int .u64 a1_1, .int .u64 a1_2]] ?_; (with_reducible refine (maskref1_Valid.calls kj9 a1_0 a1_1 a1_2 true _ A17.out).mono ?_); rintro e w25 ⟨rfl, hb⟩; refine ⟨_, rfl, ?_⟩; replace BK949 := bk1 BK949 hb; replace BK950 := bk1 BK950 hb; replace BK952 := bk1 BK952 hb; replace HB := hb1 HB hb; (try clear hb); have hnb26 := NB950_952.out; have hnc26 := NB952_950.out; obtain ⟨hcz27_0, hcz27_1, hcz27_2, hfz27_0, hfz27_1, hfz27_2⟩ := cf3 BK950) | (go_at_call 9; (with_reducible refine (maskref1_Valid.calls kj9 a2_0 a2_1 a2_2 true _ A19.out).mono ?_); rintro e w28 ⟨rfl, hb⟩; replace BK949 := bk1 BK949 hb; replace BK950 := bk1 BK950 hb; replace BK952 := bk1 BK952 hb; replace HB := hb1 HB hb; (try clear hb)))
          go_meet
          case rel => exact ⟨_, (true), (by rfl), H', ⟨by have := HK1.out; have := HJ9.out; omega⟩, ⟨by exact BK949.out⟩, ⟨by exact BK950.out⟩, ⟨by exact BK952.out⟩, ⟨by repeat (with_reducible exact HB.out)⟩⟩
         ·have H' := Aside0.mk H
          clear H
          have hnb29 := NB949_950.out
          have hnc29 := NB950_949.out
          have hnb30 := NB949_952.out
          have hnc30 := NB952_949.out
          obtain ⟨hcz31_0, hcz31_1, hcz31_2, hfz31_0, hfz31_1, hfz31_2⟩ := cf3 BK949
          go_wp2_with (first | (refine callA (some 38) Tryz.func9 #[.agg #[.int .i64 a1_0, .int .u64 a1_1, .int .u64 a1_2]] ?_; (with_reducible refine (maskref1_Valid.calls kj9 a1_0 a1_1 a1_2 true _ A17.out).mono ?_); rintro e w32 ⟨rfl, hb⟩; refine ⟨_, rfl, ?_⟩; replace BK949 := bk1 BK949 hb; replace BK950 := bk1 BK950 hb; replace BK952 := bk1 BK952 hb; replace HB := hb1 HB hb; (try clear hb); have hnb33 := NB950_952.out; have hnc33 := NB952_950.out; obtain ⟨hcz34_0, hcz34_1, hcz34_2, hfz34_0, hfz34_1, hfz34_2⟩ := cf3 BK950) | (go_at_call 9; (with_reducible refine (maskref1_Valid.calls kj9 a2_0 a2_1 a2_2 true _ A19.out).mono ?_); rintro e w35 ⟨rfl, hb⟩; replace BK949 := bk1 BK949 hb; replace BK950 := bk1 BK950 hb; replace BK952 := bk1 BK952 hb; replace HB := hb1 HB hb; (try clear hb); obtain ⟨hcz36_0, hcz36_1, hcz36_2, hfz36_0, hfz36_1, hfz36_2⟩ := cf3 BK949; obtain ⟨hcz37_0, hcz37_1, hcz37_2, hfz37_0, hfz37_1, hfz37_2⟩ := cf3 BK950))
          go_meet
          case rel => exact ⟨_, (a1_0 == a2_0), (by rfl), H', ⟨by have := HK1.out; have := HJ9.out; omega⟩, ⟨by exact BK949.out⟩, ⟨by exact BK950.out⟩, ⟨by exact BK952.out⟩, ⟨by repeat (with_reducible exact HB.out)⟩⟩
        ·have H' := Aside0.mk H
         clear H
         have hnb38 := NB949_950.out
         have hnc38 := NB950_949.out
         have hnb39 := NB949_952.out
         have hnc39 := NB952_949.out
         obtain ⟨hcz40_0, hcz40_1, hcz40_2, hfz40_0, hfz40_1, hfz40_2⟩ := cf3 BK949
         go_wp2_with (first | (refine callA (some 38) Tryz.func9 #[.agg #[.int .i64 a1_0, .int .u64 a1_1, .int .u64 a1_2]] ?_; (with_reducible refine (maskref1_Valid.calls kj9 a1_0 a1_1 a1_2 true _ A17.out).mono ?_); rintro e w41 ⟨rfl, hb⟩; refine ⟨_, rfl, ?_⟩; replace BK949 := bk1 BK949 hb; replace BK950 := bk1 BK950 hb; replace BK952 := bk1 BK952 hb; replace HB := hb1 HB hb; (try clear hb); have hnb42 := NB950_952.out; have hnc42 := NB952_950.out; obtain ⟨hcz43_0, hcz43_1, hcz43_2, hfz43_0, hfz43_1, hfz43_2⟩ := cf3 BK950) | (go_at_call 9; (with_reducible refine (maskref1_Valid.calls kj9 a2_0 a2_1 a2_2 false _ A19.out).mono ?_); rintro e w44 ⟨rfl, hb⟩; replace BK949 := bk1 BK949 hb; replace BK950 := bk1 BK950 hb; replace BK952 := bk1 BK952 hb; replace HB := hb1 HB hb; (try clear hb)))
         go_meet
         case rel => exact ⟨_, (false), (by rfl), H', ⟨by have := HK1.out; have := HJ9.out; omega⟩, ⟨by exact BK949.out⟩, ⟨by exact BK950.out⟩, ⟨by exact BK952.out⟩, ⟨by repeat (with_reducible exact HB.out)⟩⟩
       ·have H' := Aside0.mk H
        clear H
        have hnb45 := NB949_950.out
        have hnc45 := NB950_949.out
        have hnb46 := NB949_952.out
        have hnc46 := NB952_949.out
        obtain ⟨hcz47_0, hcz47_1, hcz47_2, hfz47_0, hfz47_1, hfz47_2⟩ := cf3 BK949
        go_wp2_with ((refine callA (some 38) Tryz.func9 #[.agg #[.int .i64 a1_0, .int .u64 a1_1, .int .u64 a1_2]] ?_; (with_reducible refine (maskref1_Valid.calls kj9 a1_0 a1_1 a1_2 false _ A17.out).mono ?_); rintro e w48 ⟨rfl, hb⟩; refine ⟨_, rfl, ?_⟩; replace BK949 := bk1 BK949 hb; replace BK950 := bk1 BK950 hb; replace BK952 := bk1 BK952 hb; replace HB := hb1 HB hb; (try clear hb)))
        go_meet
        case rel => exact ⟨_, (false), (by rfl), H', ⟨by have := HK1.out; have := HJ9.out; omega⟩, ⟨by exact BK949.out⟩, ⟨by exact BK950.out⟩, ⟨by exact BK952.out⟩, ⟨by repeat (with_reducible exact HB.out)⟩⟩
      case rest =>
       clear HC15
       obtain ⟨kq, x52_14, rfl, HA, HJ14, BK949, BK950, BK952, HB⟩ := hcut
       cases kq with
       | zero => exact absurd HA.out (by simp [masklaw1_pair.j2])
       | succ kj14 =>
        have H := HA.out
        clear HA
        simp only [masklaw1_pair.j2] at H
        have HC49 := Aside0.mk H
        clear H
        go_upto_if 52 with (fail)
        go_cut [] (fun wc => ∃ (kq : Nat) (x953000_48 : Int) (x953001_48 : Int) (x953002_48 : Int), Aside0 (masklaw1_pair.j3 kq a3 (rd l0 x15_1) l0 (l0.length : Int) x15_1 a1_0 a1_1 a1_2 a2_0 a2_1 a2_2 x953000_48 x953001_48 x953002_48 = some r) ∧ Aside0 (kq ≤ kj14) ∧ Aside0 (wc.heap[gb949]? = some (.cells #[.int .i64 a1_0, .int .u64 a1_1, .int .u64 a1_2] 24 (0, 0))) ∧ Aside0 (wc.heap[gb950]? = some (.cells #[.int .i64 a2_0, .int .u64 a2_1, .int .u64 a2_2] 24 (0, 0))) ∧ Aside0 (wc.heap[gb952]? = some (.cells #[.int .i64 x953000_48, .int .u64 x953001_48, .int .u64 x953002_48] 24 (0, 0))) ∧ Aside0 (Below w.heap.size w wc))
        case first =>
         have H := HC49.out
         clear HC49
         replace H := iB H; rcases H with ⟨rfl, H⟩ | ⟨rfl, H⟩
         ·replace H := bN H; obtain ⟨t955, A51, H⟩ := H
          replace H := bN H; obtain ⟨t958, A52, H⟩ := H
          replace H := bN H; obtain ⟨t961, A53, H⟩ := H
          replace H := bN H; obtain ⟨⟨t964, t965, t966⟩, A54, H⟩ := H; dsimp only at H
          have H' := Aside0.mk H
          clear H
          try go_wp2
          replace BK949 := bkd BK949
          replace BK950 := bkd BK950
          replace BK952 := bkd BK952
          replace HB := hbd HB
          refine start_ (n := 9) (S := fun w' => w'.cell? ⟨gb949, 0, none⟩ = some (.int .i64 a1_0) ∧ w'.cell? ⟨gb949, 1, none⟩ = some (.int .u64 a1_1) ∧ w'.cell? ⟨gb949, 2, none⟩ = some (.int .u64 a1_2) ∧ w'.cell? ⟨gb950, 0, none⟩ = some (.int .i64 a2_0) ∧ w'.cell? ⟨gb950, 1, none⟩ = some (.int .u64 a2_1) ∧ w'.cell? ⟨gb950, 2, none⟩ = some (.int .u64 a2_2)) (ds := []) (tb 9 0) (by kernel_rfl) rfl (by kernel_rfl) (c3 BK949 (d3 BK950)) (fun hHeld => ?_); refine with_tabW masklaw1_pair.tab7 masklaw1_pair.bits7 (fun HT_ HW_ => ?_)
          generalize wc.drew = w55 at BK949 BK950 BK952 HB hHeld ⊢
          refine pA 0 53 (tb 9 1) HT_ ?_
          refine pA 5 58 (tb 9 33) HT_ ?_
          refine tA 1 54 (tb 9 35) HT_ HW_ hHeld ?_
          refine tA 3 56 (tb 9 43) HT_ HW_ hHeld ?_
          refine oA 2 (some 55) (tb 9 47) HT_ (fun K hK => ?_)
          refine gA Tryz.func12 #[.agg #[.int .i64 a1_0, .int .u64 a1_1, .int .u64 a1_2]] ?_
          with_reducible refine (maskref1_V.calls kj14 a1_0 a1_1 a1_2 t955 _ A51.out).mono ?_
          rintro e w56 ⟨v956, rfl, ho0, hb⟩
          refine ⟨_, rfl, ?_⟩
          have HO957 := Aside0.mk (Kd.R_lower ho0 (below_size HB.out))
          replace BK949 := bk1 BK949 hb
          replace BK950 := bk1 BK950 hb
          replace BK952 := bk1 BK952 hb
          replace HB := hb1 HB hb
          (try clear hb)
          (try clear ho0)
          refine hK.out _ _ (c3 BK949 (d3 BK950)) (fun hHeld => ?_)
          clear hK K
          refine nA ?_
          refine oA 4 (some 57) (tb 9 63) HT_ (fun K hK => ?_)
          refine gA Tryz.func12 #[.agg #[.int .i64 a2_0, .int .u64 a2_1, .int .u64 a2_2]] ?_
          with_reducible refine (maskref1_V.calls kj14 a2_0 a2_1 a2_2 t958 _ A52.out).mono ?_
          rintro e w57 ⟨v959, rfl, ho0, hb⟩
          refine ⟨_, rfl, ?_⟩
          have HO960 := Aside0.mk (Kd.R_lower (Kd.R_new' ho0 (Kd.R_lt HO957.out)) (below_size HB.out))
          replace HO957 := Aside0.mk (Kd.R_elder' HO957.out (Kd.R_base ho0) hb)
          replace BK949 := bk1 BK949 hb
          replace BK950 := bk1 BK950 hb
          replace BK952 := bk1 BK952 hb
          replace HB := hb1 HB hb
          (try clear hb)
          (try clear ho0)
          obtain ⟨Ao58, co58, eo58⟩ := Kd.R_slice HO957.out
          (subst eo58)
          obtain ⟨Ao59, co59, eo59⟩ := Kd.R_slice HO960.out
          (subst eo59)
          refine hK.out _ _ (c3 BK949 (d3 BK950)) (fun hHeld => ?_)
          clear hK K
          refine nA ?_
          refine oA 6 (some 59) (tb 9 127) HT_ (fun K hK => ?_)
          refine gA Tryz.func26 #[.int .i64 (rd l0 x15_1), .slice Ao58 t955.length co58, .slice Ao59 t958.length co59, .bool a3] ?_
          with_reducible refine (maskref1_Binary.calls kj14 (rd l0 x15_1) (fun k_ => some k_ = (.slice Ao58 t955.length co58 : Value).ownBlock) (.slice Ao58 t955.length co58) t955 (fun k_ => some k_ = (.slice Ao59 t958.length co59 : Value).ownBlock) (.slice Ao59 t958.length co59) t958 a3 t961 w _ ?side1 ?side2 ?side3 ?side4 ?side5 A53.out).mono ?_
          (case side1 => repeat (with_reducible exact HB.out))
          (case side2 => exact Kd.R_tight rfl HO957.out)
          (case side3 => exact fun k_ e_ => (HO957.out.1 k_ e_.symm).2)
          (case side4 => exact Kd.R_tight rfl HO960.out)
          (case side5 => exact fun k_ e_ => (HO960.out.1 k_ e_.symm).2)
          rintro e w60 ⟨v962, rfl, ho0, hb, hkp⟩
          refine ⟨_, rfl, ?_⟩
          replace BK949 := Aside0.mk (blk_kept BK949.out hkp (fun hs_ => Or.elim hs_ (fun e_ => (fun e_ => (Kd.R_ne HO957.out BK949.out (by decide)) e_) e_) (fun e_ => (fun e_ => (Kd.R_ne HO960.out BK949.out (by decide)) e_) e_)))
          replace BK950 := Aside0.mk (blk_kept BK950.out hkp (fun hs_ => Or.elim hs_ (fun e_ => (fun e_ => (Kd.R_ne HO957.out BK950.out (by decide)) e_) e_) (fun e_ => (fun e_ => (Kd.R_ne HO960.out BK950.out (by decide)) e_) e_)))
          replace BK952 := Aside0.mk (blk_kept BK952.out hkp (fun hs_ => Or.elim hs_ (fun e_ => (fun e_ => (Kd.R_ne HO957.out BK952.out (by decide)) e_) e_) (fun e_ => (fun e_ => (Kd.R_ne HO960.out BK952.out (by decide)) e_) e_)))
          have HO963 := Aside0.mk (Kd.R_mono (ok' := fun k_ => True) ho0 (fun k_ hk_ => trivial))
          replace HB := Aside0.mk (hb)
          clear HO957 HO960
          (try clear hb)
          (try clear hkp)
          (try clear ho0)
          obtain ⟨Ao61, co61, eo61⟩ := Kd.R_slice HO963.out
          (subst eo61)
          refine hK.out _ _ (c3 BK949 (d3 BK950)) (fun hHeld => ?_)
          clear hK K
          refine nA ?_
          refine oA 7 (some 60) (tb 9 255) HT_ (fun K hK => ?_)
          refine gA Tryz.func10 #[.slice Ao61 t961.length co61] ?_
          with_reducible refine (maskref1_B.calls kj14 _ _ t961 t964 t965 t966 _ ?side1 ?side2 A54.out).mono ?_
          (case side1 => exact (Kd.R_reads' HO963.out).2.2)
          (case side2 => exact (Kd.R_reads' HO963.out).2.1)
          rintro e w62 ⟨rfl, hb⟩
          refine ⟨_, rfl, ?_⟩
          replace HO963 := Kd.rb1 HO963 hb
          replace BK949 := bk1 BK949 hb
          replace BK950 := bk1 BK950 hb
          replace BK952 := bk1 BK952 hb
          replace HB := hb1 HB hb
          (try clear hb)
          refine hK.out _ _ (c3 BK949 (d3 BK950)) (fun hHeld => ?_)
          clear hK K
          refine nA ?_
          refine oA 8 (none) (tb 9 511) HT_ (fun K hK => ?_)
          have hs63 : w62.cell? ⟨gb952, 0, none⟩ = some (.int .i64 0) := (blk_cell BK952.out 0).trans rfl
          have hfs63 := blk_frozen BK952.out 0
          have hns63_0 := NB949_952.out
          have hns63_1 := NB950_952.out
          have hms63_0 := NB952_949.out
          have hms63_1 := NB952_950.out
          have hs64 : w62.cell? ⟨gb952, 1, none⟩ = some (.int .u64 0) := (blk_cell BK952.out 1).trans rfl
          have hfs64 := blk_frozen BK952.out 1
          have hns64_0 := NB949_952.out
          have hns64_1 := NB950_952.out
          have hms64_0 := NB952_949.out
          have hms64_1 := NB952_950.out
          have hs65 : w62.cell? ⟨gb952, 2, none⟩ = some (.int .u64 0) := (blk_cell BK952.out 2).trans rfl
          have hfs65 := blk_frozen BK952.out 2
          have hns65_0 := NB949_952.out
          have hns65_1 := NB950_952.out
          have hms65_0 := NB952_949.out
          have hms65_1 := NB952_950.out
          refine skip_ (w1 := ?_) (by rfl) rfl ?_ ?_
          rotate_left
          ·go_simp
           rfl
          refine hK.out _ _ ⟨((cell_far (p := ⟨gb952, _, none⟩) NB949_952.out _).trans (((cell_far (p := ⟨gb952, _, none⟩) NB949_952.out _).trans (((cell_far (p := ⟨gb952, _, none⟩) NB949_952.out _).trans (hHeld.1)))))), ((cell_far (p := ⟨gb952, _, none⟩) NB949_952.out _).trans (((cell_far (p := ⟨gb952, _, none⟩) NB949_952.out _).trans (((cell_far (p := ⟨gb952, _, none⟩) NB949_952.out _).trans (hHeld.2.1)))))), ((cell_far (p := ⟨gb952, _, none⟩) NB949_952.out _).trans (((cell_far (p := ⟨gb952, _, none⟩) NB949_952.out _).trans (((cell_far (p := ⟨gb952, _, none⟩) NB949_952.out _).trans (hHeld.2.2.1)))))), ((cell_far (p := ⟨gb952, _, none⟩) NB950_952.out _).trans (((cell_far (p := ⟨gb952, _, none⟩) NB950_952.out _).trans (((cell_far (p := ⟨gb952, _, none⟩) NB950_952.out _).trans (hHeld.2.2.2.1)))))), ((cell_far (p := ⟨gb952, _, none⟩) NB950_952.out _).trans (((cell_far (p := ⟨gb952, _, none⟩) NB950_952.out _).trans (((cell_far (p := ⟨gb952, _, none⟩) NB950_952.out _).trans (hHeld.2.2.2.2.1)))))), ((cell_far (p := ⟨gb952, _, none⟩) NB950_952.out _).trans (((cell_far (p := ⟨gb952, _, none⟩) NB950_952.out _).trans (((cell_far (p := ⟨gb952, _, none⟩) NB950_952.out _).trans (hHeld.2.2.2.2.2))))))⟩ (fun hHeld => ?_)
          clear hK K
          refine done_ (done_of HT_.out (by kernel_rfl)) ?_
          try go_wp2
          go_meet
          case rel => exact ⟨_, (t964), (t965), (t966), H', ⟨by have := HK1.out; have := HJ9.out; have := HJ14.out; omega⟩, ⟨by refine blk_far ?_ NB949_952.out _; refine blk_far ?_ NB949_952.out _; refine blk_far ?_ NB949_952.out _; exact BK949.out⟩, ⟨by refine blk_far ?_ NB950_952.out _; refine blk_far ?_ NB950_952.out _; refine blk_far ?_ NB950_952.out _; exact BK950.out⟩, ⟨by refine blk_put (cs := #[.int .i64 t964, .int .u64 t965, .int .u64 0]) ?_ 2 _ rfl; refine blk_put (cs := #[.int .i64 t964, .int .u64 0, .int .u64 0]) ?_ 1 _ rfl; refine blk_put (cs := #[.int .i64 0, .int .u64 0, .int .u64 0]) ?_ 0 _ rfl; exact BK952.out⟩, ⟨by repeat (with_reducible first | exact HB.out | refine below_set ?_ GE952.out)⟩⟩
         ·have H' := Aside0.mk H
          clear H
          go_wp2
          go_meet
          case rel => exact ⟨_, (0), (0), (0), H', ⟨by have := HK1.out; have := HJ9.out; have := HJ14.out; omega⟩, ⟨by exact BK949.out⟩, ⟨by exact BK950.out⟩, ⟨by exact BK952.out⟩, ⟨by repeat (with_reducible exact HB.out)⟩⟩
        case rest =>
         clear HC49
         obtain ⟨kq, x953000_48, x953001_48, x953002_48, HA, HJ48, BK949, BK950, BK952, HB⟩ := hcut
         cases kq with
         | zero => exact absurd HA.out (by simp [masklaw1_pair.j3])
         | succ kj48 =>
          have H := HA.out
          clear HA
          simp only [masklaw1_pair.j3] at H
          replace H := bN H; obtain ⟨⟨t967, t968, t969⟩, A66, H⟩ := H; dsimp only at H
          by_cases c67 : (!(t967 == x953000_48) || (!(t968 == x953001_48) || (!(t969 == x953002_48)))) = true
          ·rw [if_pos c67] at H
           have c67b0 : (!(t967 == x953000_48) || (!(t968 == x953001_48) || (!(t969 == x953002_48)))) = true := c67
           clear c67
           obtain rfl := Option.some.inj H
           try go_wp2
           replace BK949 := bkd BK949
           replace BK950 := bkd BK950
           replace BK952 := bkd BK952
           replace HB := hbd HB
           refine start_ (n := 7) (S := fun w' => w'.cell? ⟨gb949, 0, none⟩ = some (.int .i64 a1_0) ∧ w'.cell? ⟨gb949, 1, none⟩ = some (.int .u64 a1_1) ∧ w'.cell? ⟨gb949, 2, none⟩ = some (.int .u64 a1_2) ∧ w'.cell? ⟨gb950, 0, none⟩ = some (.int .i64 a2_0) ∧ w'.cell? ⟨gb950, 1, none⟩ = some (.int .u64 a2_1) ∧ w'.cell? ⟨gb950, 2, none⟩ = some (.int .u64 a2_2) ∧ w'.cell? ⟨gb952, 0, none⟩ = some (.int .i64 x953000_48) ∧ w'.cell? ⟨gb952, 1, none⟩ = some (.int .u64 x953001_48) ∧ w'.cell? ⟨gb952, 2, none⟩ = some (.int .u64 x953002_48)) (ds := []) (tb 7 0) (by kernel_rfl) rfl (by kernel_rfl) (c3 BK949 (c3 BK950 (d3 BK952))) (fun hHeld => ?_)
           generalize wc.drew = w68 at BK949 BK950 BK952 HB hHeld ⊢
           refine pure_ (i := 0) (N := some 61) (v := ?_) (a' := ?_) #[true, false, false, false, false, false, false] rfl rfl (by kernel_rfl) (fun _ _ _ h => h) (Or.inl ⟨by rfl, ?_⟩) ?_ ?_
           rotate_left
           ·intro w'
            go_simp
            with_reducible rfl
           rotate_left
           ·simp only [Act.put, List.setIfInBounds_toArray, List.set_cons_zero, List.set_cons_succ, i64_w, i32_w]
            rfl
           refine pure_ (i := 3) (N := some 64) (v := ?_) (a' := ?_) #[true, false, false, true, false, false, false] rfl rfl (by kernel_rfl) (fun _ _ _ h => h) (Or.inl ⟨by rfl, ?_⟩) ?_ ?_
           rotate_left
           ·intro w'
            go_simp
            with_reducible rfl
           rotate_left
           ·simp only [Act.put, List.setIfInBounds_toArray, List.set_cons_zero, List.set_cons_succ, i64_w, i32_w]
            rfl
           refine take_ (i := 1) (N := some 62) (v := ?_) (a' := ?_) #[true, true, false, true, false, false, false] rfl rfl (by kernel_rfl) (fun _ _ _ h => h) (Or.inl ⟨by rfl, ?_⟩) hHeld ?_ ?_
           rotate_left
           ·rintro w' ⟨s0, s1, s2, s3, s4, s5, s6, s7, s8⟩
            go_simp
            with_reducible rfl
           rotate_left
           ·simp only [Act.put, List.setIfInBounds_toArray, List.set_cons_zero, List.set_cons_succ, i64_w, i32_w]
            rfl
           refine take_ (i := 2) (N := some 63) (v := ?_) (a' := ?_) #[true, true, true, true, false, false, false] rfl rfl (by kernel_rfl) (fun _ _ _ h => h) (Or.inl ⟨by rfl, ?_⟩) hHeld ?_ ?_
           rotate_left
           ·rintro w' ⟨s0, s1, s2, s3, s4, s5, s6, s7, s8⟩
            go_simp
            with_reducible rfl
           rotate_left
           ·simp only [Act.put, List.setIfInBounds_toArray, List.set_cons_zero, List.set_cons_succ, i64_w, i32_w]
            rfl
           refine take_ (i := 5) (N := some 66) (v := ?_) (a' := ?_) #[true, true, true, true, false, true, false] rfl rfl (by kernel_rfl) (fun _ _ _ h => h) (Or.inl ⟨by rfl, ?_⟩) hHeld ?_ ?_
           rotate_left
           ·rintro w' ⟨s0, s1, s2, s3, s4, s5, s6, s7, s8⟩
            go_simp
            with_reducible rfl
           rotate_left
           ·simp only [Act.put, List.setIfInBounds_toArray, List.set_cons_zero, List.set_cons_succ, i64_w, i32_w]
            rfl
           refine one_ (i := 4) (N := some 65) #[true, true, true, true, true, true, false] rfl rfl (by kernel_rfl) (by decide) (fun K hK => ?_)
           refine gA Tryz.func27 #[.int .i64 (rd l0 x15_1), .agg #[.int .i64 a1_0, .int .u64 a1_1, .int .u64 a1_2], .agg #[.int .i64 a2_0, .int .u64 a2_1, .int .u64 a2_2], .bool a3] ?_
           with_reducible refine (masklaw1_binary.calls kj48 (rd l0 x15_1) a1_0 a1_1 a1_2 a2_0 a2_1 a2_2 a3 t967 t968 t969 _ A66.out).mono ?_
           rintro e w69 ⟨rfl, hb⟩
           refine ⟨_, rfl, ?_⟩
           replace BK949 := bk1 BK949 hb
           replace BK950 := bk1 BK950 hb
           replace BK952 := bk1 BK952 hb
           replace HB := hb1 HB hb
           (try clear hb)
           refine hK.out _ _ (c3 BK949 (c3 BK950 (d3 BK952))) (fun hHeld => ?_)
           clear hK K
           refine nA ?_
           refine pure_ (i := 6) (N := some 67) (v := ?_) (a' := ?_) #[true, true, true, true, true, true, true] rfl rfl (by kernel_rfl) (fun _ _ _ h => h) (Or.inl ⟨by rfl, ?_⟩) ?_ ?_
           rotate_left
           ·intro w'
            go_simp
            with_reducible rfl
           rotate_left
           ·simp only [Act.put, List.setIfInBounds_toArray, List.set_cons_zero, List.set_cons_succ, i64_w, i32_w]
            rfl
           refine done_ (by kernel_rfl) ?_
           try go_wp2
           go_ret
           exact ⟨by rfl, by repeat (with_reducible exact HB.out)⟩
          ·rw [if_neg c67] at H
           have c67b0 : (!(t967 == x953000_48) || (!(t968 == x953001_48) || (!(t969 == x953002_48)))) = false := by simpa using c67
           clear c67
           have H' := Aside0.mk H
           clear H
           try go_wp2
           replace BK949 := bkd BK949
           replace BK950 := bkd BK950
           replace BK952 := bkd BK952
           replace HB := hbd HB
           refine start_ (n := 7) (S := fun w' => w'.cell? ⟨gb949, 0, none⟩ = some (.int .i64 a1_0) ∧ w'.cell? ⟨gb949, 1, none⟩ = some (.int .u64 a1_1) ∧ w'.cell? ⟨gb949, 2, none⟩ = some (.int .u64 a1_2) ∧ w'.cell? ⟨gb950, 0, none⟩ = some (.int .i64 a2_0) ∧ w'.cell? ⟨gb950, 1, none⟩ = some (.int .u64 a2_1) ∧ w'.cell? ⟨gb950, 2, none⟩ = some (.int .u64 a2_2) ∧ w'.cell? ⟨gb952, 0, none⟩ = some (.int .i64 x953000_48) ∧ w'.cell? ⟨gb952, 1, none⟩ = some (.int .u64 x953001_48) ∧ w'.cell? ⟨gb952, 2, none⟩ = some (.int .u64 x953002_48)) (ds := []) (tb 7 0) (by kernel_rfl) rfl (by kernel_rfl) (c3 BK949 (c3 BK950 (d3 BK952))) (fun hHeld => ?_)
           generalize wc.drew = w70 at BK949 BK950 BK952 HB hHeld ⊢
           refine pure_ (i := 0) (N := some 61) (v := ?_) (a' := ?_) #[true, false, false, false, false, false, false] rfl rfl (by kernel_rfl) (fun _ _ _ h => h) (Or.inl ⟨by rfl, ?_⟩) ?_ ?_
           rotate_left
           ·intro w'
            go_simp
            with_reducible rfl
           rotate_left
           ·simp only [Act.put, List.setIfInBounds_toArray, List.set_cons_zero, List.set_cons_succ, i64_w, i32_w]
            rfl
           refine pure_ (i := 3) (N := some 64) (v := ?_) (a' := ?_) #[true, false, false, true, false, false, false] rfl rfl (by kernel_rfl) (fun _ _ _ h => h) (Or.inl ⟨by rfl, ?_⟩) ?_ ?_
           rotate_left
           ·intro w'
            go_simp
            with_reducible rfl
           rotate_left
           ·simp only [Act.put, List.setIfInBounds_toArray, List.set_cons_zero, List.set_cons_succ, i64_w, i32_w]
            rfl
           refine take_ (i := 1) (N := some 62) (v := ?_) (a' := ?_) #[true, true, false, true, false, false, false] rfl rfl (by kernel_rfl) (fun _ _ _ h => h) (Or.inl ⟨by rfl, ?_⟩) hHeld ?_ ?_
           rotate_left
           ·rintro w' ⟨s0, s1, s2, s3, s4, s5, s6, s7, s8⟩
            go_simp
            with_reducible rfl
           rotate_left
           ·simp only [Act.put, List.setIfInBounds_toArray, List.set_cons_zero, List.set_cons_succ, i64_w, i32_w]
            rfl
           refine take_ (i := 2) (N := some 63) (v := ?_) (a' := ?_) #[true, true, true, true, false, false, false] rfl rfl (by kernel_rfl) (fun _ _ _ h => h) (Or.inl ⟨by rfl, ?_⟩) hHeld ?_ ?_
           rotate_left
           ·rintro w' ⟨s0, s1, s2, s3, s4, s5, s6, s7, s8⟩
            go_simp
            with_reducible rfl
           rotate_left
           ·simp only [Act.put, List.setIfInBounds_toArray, List.set_cons_zero, List.set_cons_succ, i64_w, i32_w]
            rfl
           refine take_ (i := 5) (N := some 66) (v := ?_) (a' := ?_) #[true, true, true, true, false, true, false] rfl rfl (by kernel_rfl) (fun _ _ _ h => h) (Or.inl ⟨by rfl, ?_⟩) hHeld ?_ ?_
           rotate_left
           ·rintro w' ⟨s0, s1, s2, s3, s4, s5, s6, s7, s8⟩
            go_simp
            with_reducible rfl
           rotate_left
           ·simp only [Act.put, List.setIfInBounds_toArray, List.set_cons_zero, List.set_cons_succ, i64_w, i32_w]
            rfl
           refine one_ (i := 4) (N := some 65) #[true, true, true, true, true, true, false] rfl rfl (by kernel_rfl) (by decide) (fun K hK => ?_)
           refine gA Tryz.func27 #[.int .i64 (rd l0 x15_1), .agg #[.int .i64 a1_0, .int .u64 a1_1, .int .u64 a1_2], .agg #[.int .i64 a2_0, .int .u64 a2_1, .int .u64 a2_2], .bool a3] ?_
           with_reducible refine (masklaw1_binary.calls kj48 (rd l0 x15_1) a1_0 a1_1 a1_2 a2_0 a2_1 a2_2 a3 t967 t968 t969 _ A66.out).mono ?_
           rintro e w71 ⟨rfl, hb⟩
           refine ⟨_, rfl, ?_⟩
           replace BK949 := bk1 BK949 hb
           replace BK950 := bk1 BK950 hb
           replace BK952 := bk1 BK952 hb
           replace HB := hb1 HB hb
           (try clear hb)
           refine hK.out _ _ (c3 BK949 (c3 BK950 (d3 BK952))) (fun hHeld => ?_)
           clear hK K
           refine nA ?_
           refine pure_ (i := 6) (N := some 67) (v := ?_) (a' := ?_) #[true, true, true, true, true, true, true] rfl rfl (by kernel_rfl) (fun _ _ _ h => h) (Or.inl ⟨by rfl, ?_⟩) ?_ ?_
           rotate_left
           ·intro w'
            go_simp
            with_reducible rfl
           rotate_left
           ·simp only [Act.put, List.setIfInBounds_toArray, List.set_cons_zero, List.set_cons_succ, i64_w, i32_w]
            rfl
           refine done_ (by kernel_rfl) ?_
           try go_wp2
           go_roundg kj48
           case measure => have := HK1.out; have := HJ9.out; have := HJ14.out; have := HJ48.out; omega
           case rel => exact ⟨(wrap64 (x15_1 + 1)), (by rfl), H', ⟨by have := HK1.out; have := HJ9.out; have := HJ14.out; have := HJ48.out; omega⟩, ⟨by exact BK949.out⟩, ⟨by exact BK950.out⟩, ⟨by repeat (with_reducible exact HB.out)⟩⟩
   ·obtain rfl := Option.some.inj H
    go_wp2
    go_ret
    exact ⟨by rfl, by repeat (with_reducible exact HB.out)⟩
end Go.Proofs.YtfigblfjogpojaaGreatDoor.PJoin
end
section
namespace Go.Proofs.YtfigblfjogpojaaGreatDoor.PJoin
open Go.Proofs.YtfigblfjogpojaaGreatDoor.PBits
open Go.RowKit Go.Proofs.YtfigblfjogpojaaGreatDoorW.PrintWords Go.Proofs.YtfigblfjogpojaaGreatDoorW.PrintLast Go.Proofs.YtfigblfjogpojaaGreatDoorW.PrintMore
attribute [local go_sem] max2_int min2_int max_two min_two max_three min_three max_four min_four
set_option linter.unusedVariables false
set_option linter.unusedSimpArgs false
attribute [local go_sem high] eqA24
mutual
def masklaw1_BitsJoined.l0 : Nat → List (S24) → List Int → Int → Int → Int → Int → Int → Int → Int → Int → Option (Bool)
 | 0, _, _, _, _, _, _, _, _, _, _ => none
 | k + 1, x5, x20, x21, x22, x971000, x971001, x971002, x972000, x972001, x972002 => if x22 < x21 then (if 0 ≤ x22 then (if x22 < (x20.length : Int) then ((maskref1_Valid.f k x971000 x971001 x971002).bind fun t995 => (if t995 = true then ((maskref1_V.f k x971000 x971001 x971002).bind fun t996 => ((maskref1_Unary.f k (rd x20 x22) t996).bind fun t999 => ((maskref1_B.f k t999).bind fun bt1002 => (masklaw1_BitsJoined.j1 k x5 x22 x20 x21 x22 x971000 x971001 x971002 x972000 x972001 x972002 bt1002.1 bt1002.2.1 bt1002.2.2)))) else (masklaw1_BitsJoined.j1 k x5 x22 x20 x21 x22 x971000 x971001 x971002 x972000 x972001 x972002 0 0 0))) else (none)) else (none)) else ((masklaw1_vectors.f k).bind fun t1006 => (if t1006 = true then ((masklaw1_pair.f k (([13, 14, 15, 11, 12] : List Int)) x971000 x971001 x971002 x972000 x972001 x972002 false).bind fun t1010 => (some t1010)) else (some false)))
def masklaw1_BitsJoined.j1 : Nat → List (S24) → Int → List Int → Int → Int → Int → Int → Int → Int → Int → Int → Int → Int → Int → Option (Bool)
 | 0, _, _, _, _, _, _, _, _, _, _, _, _, _, _ => none
 | k + 1, x5, x6, x20, x21, x22, x971000, x971001, x971002, x972000, x972001, x972002, x995000, x995001, x995002 => if 0 ≤ x6 then (if x6 < (x5.length : Int) then (if (!(((rd_T24 x5 x6).f0) == x995000) || (!(((rd_T24 x5 x6).f1) == x995001) || (!(((rd_T24 x5 x6).f2) == x995002)))) = true then (some false) else (masklaw1_BitsJoined.l0 k x5 x20 x21 (wrap64 (x22 + 1)) x971000 x971001 x971002 x972000 x972001 x972002)) else (none)) else (none)
end
def masklaw1_BitsJoined.f (k : Nat) (a0_0 : Int) (a0_1 : Int) (a0_2 : Int) (a1_0 : Int) (a1_1 : Int) (a1_2 : Int) : Option (Bool) := (bits_Not.f k a0_0 a0_1 a0_2).bind fun bt972 => ((bits_RedAnd.f k a0_0 a0_1 a0_2).bind fun bt975 => ((bits_RedOr.f k a0_0 a0_1 a0_2).bind fun bt978 => ((bits_RedXor.f k a0_0 a0_1 a0_2).bind fun bt981 => ((bits_LNot.f k a0_0 a0_1 a0_2).bind fun bt984 => ((some (([5, 7, 8, 9, 10] : List Int) : List Int)).bind fun y990 => (masklaw1_BitsJoined.l0 k (([(⟨bt972.1, bt972.2.1, bt972.2.2⟩ : S24), (⟨bt975.1, bt975.2.1, bt975.2.2⟩ : S24), (⟨bt978.1, bt978.2.1, bt978.2.2⟩ : S24), (⟨bt981.1, bt981.2.1, bt981.2.2⟩ : S24), (⟨bt984.1, bt984.2.1, bt984.2.2⟩ : S24)] : List (S24))) y990 (y990.length : Int) 0 a0_0 a0_1 a0_2 a1_0 a1_1 a1_2))))))
def masklaw1_BitsJoined.T1 : Bool × List (List Nat × List Nat) := (true, [([], []), ([0], [0]), ([], []), ([2, 1], [2]), ([], []), ([4, 3], [4]), ([], []), ([6, 5], [6]), ([], []), ([8, 7], [8]), ([1, 3, 5, 7, 9], [1, 3, 5, 7, 9]), ([10, 9, 0, 1, 2, 3, 4, 5, 6, 7, 8, 9, 10], [10])])
def masklaw1_BitsJoined.B1 : List Nat := [0, 1, 0, 7, 0, 31, 0, 127, 0, 511, 1023, 2047]
theorem masklaw1_BitsJoined.tab1 : rtab .any (opsOf Tryz.f3 1) = masklaw1_BitsJoined.T1 := by kernel_rfl
theorem masklaw1_BitsJoined.bits1 : waitsOk masklaw1_BitsJoined.T1.2 masklaw1_BitsJoined.B1 = true := by kernel_rfl
set_option maxHeartbeats 8000000 in
set_option maxRecDepth 100000 in
theorem masklaw1_BitsJoined.calls (k : Nat) (a0_0 : Int) (a0_1 : Int) (a0_2 : Int) (a1_0 : Int) (a1_1 : Int) (a1_2 : Int) (r : Bool) (w : World) (h : masklaw1_BitsJoined.f k a0_0 a0_1 a0_2 a1_0 a1_1 a1_2 = some r) :
  Calls Tryz.prog 3 #[.agg #[.int .i64 a0_0, .int .u64 a0_1, .int .u64 a0_2], .agg #[.int .i64 a1_0, .int .u64 a1_1, .int .u64 a1_2]] w fun e w' => e = .returned (.bool r) ∧ Below w.heap.size w w' := by
 have hu24 := Tryz.underlying24
 have HB := Aside0.mk (Below.refl w.heap.size w)
 have H := h
 clear h
 unfold masklaw1_BitsJoined.f at H
 replace H := bN H; obtain ⟨⟨t972, t973, t974⟩, A3, H⟩ := H; dsimp only at H
 replace H := bN H; obtain ⟨⟨t975, t976, t977⟩, A4, H⟩ := H; dsimp only at H
 replace H := bN H; obtain ⟨⟨t978, t979, t980⟩, A5, H⟩ := H; dsimp only at H
 replace H := bN H; obtain ⟨⟨t981, t982, t983⟩, A6, H⟩ := H; dsimp only at H
 replace H := bN H; obtain ⟨⟨t984, t985, t986⟩, A7, H⟩ := H; dsimp only at H
 obtain ⟨y987, hy987⟩ : ∃ y_ : List (S24), y_ = ([(⟨t972, t973, t974⟩ : S24), (⟨t975, t976, t977⟩ : S24), (⟨t978, t979, t980⟩ : S24), (⟨t981, t982, t983⟩ : S24), (⟨t984, t985, t986⟩ : S24)] : List (S24)) := ⟨_, rfl⟩
 replace H : ((some (([5, 7, 8, 9, 10] : List Int) : List Int)).bind fun y990 => (masklaw1_BitsJoined.l0 k y987 y990 (y990.length : Int) 0 a0_0 a0_1 a0_2 a1_0 a1_1 a1_2)) = some r := by (rw [hy987]; with_reducible exact H)
 have Ny987 := Aside0.mk hy987
 clear hy987
 obtain ⟨y990, hy990⟩ : ∃ y_ : List Int, y_ = ([5, 7, 8, 9, 10] : List Int) := ⟨_, rfl⟩
 replace H : (masklaw1_BitsJoined.l0 k y987 y990 (y990.length : Int) 0 a0_0 a0_1 a0_2 a1_0 a1_1 a1_2) = some r := by (have H2_ := (Option.bind_some _ _).symm.trans H; rw [hy990]; with_reducible exact H2_)
 have Ny990 := Aside0.mk hy990
 clear hy990
 have H' := Aside0.mk H
 clear H
 go_enter Tryz.func3, Tryz.ntmps3
 try go_wp2_with (first | ((with_reducible refine gate_dst (N := 2) rfl ?_); (try (refine gate_guard (by rfl) ?_; dsimp only)); refine boxA HB 2 #[.int .i64 a0_0, .int .u64 a0_1, .int .u64 a0_2] 24 ?_; clear HB; intro gb970 w8 BK970 GE970 hg hb HB; clear hb hg) | ((with_reducible refine gate_dst (N := 3) rfl ?_); (try (refine gate_guard (by rfl) ?_; dsimp only)); refine boxA HB 3 #[.int .i64 a1_0, .int .u64 a1_1, .int .u64 a1_2] 24 ?_; clear HB; intro gb971 w9 BK971 GE971 hg hb HB; have NB970_971 := nbA BK970 hg; have NB971_970 := nbB BK970 hg; replace BK970 := bk1 BK970 hb; clear hb hg))
 replace BK970 := bkd BK970
 replace BK971 := bkd BK971
 replace HB := hbd HB
 refine start_ (n := 12) (S := fun w' => w'.cell? ⟨gb970, 0, none⟩ = some (.int .i64 a0_0) ∧ w'.cell? ⟨gb970, 1, none⟩ = some (.int .u64 a0_1) ∧ w'.cell? ⟨gb970, 2, none⟩ = some (.int .u64 a0_2)) (ds := []) (tb 12 0) (by kernel_rfl) rfl (by kernel_rfl) (d3 BK970) (fun hHeld => ?_); refine with_tabW masklaw1_BitsJoined.tab1 masklaw1_BitsJoined.bits1 (fun HT_ HW_ => ?_)
 generalize w9.drew = w10 at BK970 BK971 HB hHeld ⊢
 refine tA 0 9 (tb 12 1) HT_ HW_ hHeld ?_
 refine tA 2 11 (tb 12 5) HT_ HW_ hHeld ?_
 refine tA 4 13 (tb 12 21) HT_ HW_ hHeld ?_
 refine tA 6 15 (tb 12 85) HT_ HW_ hHeld ?_
 refine tA 8 17 (tb 12 341) HT_ HW_ hHeld ?_
 refine oA 1 (some 10) (tb 12 343) HT_ (fun K hK => ?_)
 refine gA Tryz.func4 #[.agg #[.int .i64 a0_0, .int .u64 a0_1, .int .u64 a0_2]] ?_
 with_reducible refine (bits_Not.calls k a0_0 a0_1 a0_2 t972 t973 t974 _ A3.out).mono ?_
 rintro e w11 ⟨rfl, hb⟩
 refine ⟨_, rfl, ?_⟩
 replace BK970 := bk1 BK970 hb
 replace BK971 := bk1 BK971 hb
 replace HB := hb1 HB hb
 (try clear hb)
 refine hK.out _ _ (d3 BK970) (fun hHeld => ?_)
 clear hK K
 refine nA ?_
 refine oA 3 (some 12) (tb 12 351) HT_ (fun K hK => ?_)
 refine gA Tryz.func5 #[.agg #[.int .i64 a0_0, .int .u64 a0_1, .int .u64 a0_2]] ?_
 with_reducible refine (bits_RedAnd.calls k a0_0 a0_1 a0_2 t975 t976 t977 _ A4.out).mono ?_
 rintro e w12 ⟨rfl, hb⟩
 refine ⟨_, rfl, ?_⟩
 replace BK970 := bk1 BK970 hb
 replace BK971 := bk1 BK971 hb
 replace HB := hb1 HB hb
 (try clear hb)
 refine hK.out _ _ (d3 BK970) (fun hHeld => ?_)
 clear hK K
 refine nA ?_
 refine oA 5 (some 14) (tb 12 383) HT_ (fun K hK => ?_)
 refine gA Tryz.func6 #[.agg #[.int .i64 a0_0, .int .u64 a0_1, .int .u64 a0_2]] ?_
 with_reducible refine (bits_RedOr.calls k a0_0 a0_1 a0_2 t978 t979 t980 _ A5.out).mono ?_
 rintro e w13 ⟨rfl, hb⟩
 refine ⟨_, rfl, ?_⟩
 replace BK970 := bk1 BK970 hb
 replace BK971 := bk1 BK971 hb
 replace HB := hb1 HB hb
 (try clear hb)
 refine hK.out _ _ (d3 BK970) (fun hHeld => ?_)
 clear hK K
 refine nA ?_
 refine oA 7 (some 16) (tb 12 511) HT_ (fun K hK => ?_)
 refine gA Tryz.func7 #[.agg #[.int .i64 a0_0, .int .u64 a0_1, .int .u64 a0_2]] ?_
 with_reducible refine (bits_RedXor.calls k a0_0 a0_1 a0_2 t981 t982 t983 _ A6.out).mono ?_
 rintro e w14 ⟨rfl, hb⟩
 refine ⟨_, rfl, ?_⟩
 replace BK970 := bk1 BK970 hb
 replace BK971 := bk1 BK971 hb
 replace HB := hb1 HB hb
 (try clear hb)
 refine hK.out _ _ (d3 BK970) (fun hHeld => ?_)
 clear hK K
 refine nA ?_
 refine oA 9 (some 18) (tb 12 1023) HT_ (fun K hK => ?_)
 refine gA Tryz.func8 #[.agg #[.int .i64 a0_0, .int .u64 a0_1, .int .u64 a0_2]] ?_
 with_reducible refine (bits_LNot.calls k a0_0 a0_1 a0_2 t984 t985 t986 _ A7.out).mono ?_
 rintro e w15 ⟨rfl, hb⟩
 refine ⟨_, rfl, ?_⟩
 replace BK970 := bk1 BK970 hb
 replace BK971 := bk1 BK971 hb
 replace HB := hb1 HB hb
 (try clear hb)
 refine hK.out _ _ (d3 BK970) (fun hHeld => ?_)
 clear hK K
 refine nA ?_
 refine oA 10 (some 19) (tb 12 2047) HT_ (fun K hK => ?_)
 refine Kd.R_lit_step k24 _ 24 ?hg (N := 19) ?hd (xs := ([(⟨t972, t973, t974⟩ : S24), (⟨t975, t976, t977⟩ : S24), (⟨t978, t979, t980⟩ : S24), (⟨t981, t982, t983⟩ : S24), (⟨t984, t985, t986⟩ : S24)] : List (S24))) (inner := [.int .i64 t972, .int .u64 t973, .int .u64 t974, .int .i64 t975, .int .u64 t976, .int .u64 t977, .int .i64 t978, .int .u64 t979, .int .u64 t980, .int .i64 t981, .int .u64 t982, .int .u64 t983, .int .i64 t984, .int .u64 t985, .int .u64 t986]) (ok := fun _ => True) (okp := fun _ => True) ?hr ?hp (fun _ hk => hk) trivial (Below.refl _ _) (Nat.le_refl _) (by simp) ?_; (case hd => rfl); (case hg => rfl); (case hr => (go_simp; done)); (case hp => exact (Reps.c3 (show Kd.M k24 _ _ _ (⟨t972, t973, t974⟩ : S24) [.int .i64 t972, .int .u64 t973, .int .u64 t974] from (k24_mkM _ _ _ (⟨t972, t973, t974⟩ : S24) )) (Reps.c3 (show Kd.M k24 _ _ _ (⟨t975, t976, t977⟩ : S24) [.int .i64 t975, .int .u64 t976, .int .u64 t977] from (k24_mkM _ _ _ (⟨t975, t976, t977⟩ : S24) )) (Reps.c3 (show Kd.M k24 _ _ _ (⟨t978, t979, t980⟩ : S24) [.int .i64 t978, .int .u64 t979, .int .u64 t980] from (k24_mkM _ _ _ (⟨t978, t979, t980⟩ : S24) )) (Reps.c3 (show Kd.M k24 _ _ _ (⟨t981, t982, t983⟩ : S24) [.int .i64 t981, .int .u64 t982, .int .u64 t983] from (k24_mkM _ _ _ (⟨t981, t982, t983⟩ : S24) )) (Reps.c3 (show Kd.M k24 _ _ _ (⟨t984, t985, t986⟩ : S24) [.int .i64 t984, .int .u64 t985, .int .u64 t986] from (k24_mkM _ _ _ (⟨t984, t985, t986⟩ : S24) )) (Reps.none _ _)))))))
 intro v988 w16 ho17 hb hg_ hnew_
 clear hg_ hnew_
 (rw [← Ny987.out] at ho17)
 have HO989 := Aside0.mk (Kd.R_lower (Kd.R_newB (Kd.R_newB ho17 BK970.out) BK971.out) (below_size HB.out))
 replace BK970 := bk1 BK970 hb
 replace BK971 := bk1 BK971 hb
 replace HB := hb1 HB hb
 clear hb ho17
 refine hK.out _ _ (d3 BK970) (fun hHeld => ?_)
 clear hK K
 refine nA ?_
 refine pA 11 5 (tb 12 4095) HT_ ?_
 refine done_ (done_of HT_.out (by kernel_rfl)) ?_
 try go_wp2_with (((with_reducible refine gate_dst (N := 20) rfl ?_); (try (refine gate_guard (by rfl) ?_; dsimp only)); refine Kd.R_lit (Kd.int .i64) _ 3 ?hg (N := 20) ?hd (xs := ([5, 7, 8, 9, 10] : List Int)) (inner := [.int .i64 5, .int .i64 7, .int .i64 8, .int .i64 9, .int .i64 10]) (ok := fun _ => True) (okp := fun _ => True) ?hr ?hp (fun _ hk => hk) trivial (Below.refl _ _) (Nat.le_refl _) (by simp) ?_; (case hd => rfl); (case hg => rfl); (case hr => (go_simp; done)); (case hp => exact (Reps.one (show Kd.M (Kd.int .i64) _ _ _ 5 [.int .i64 5] from rfl) (Reps.one (show Kd.M (Kd.int .i64) _ _ _ 7 [.int .i64 7] from rfl) (Reps.one (show Kd.M (Kd.int .i64) _ _ _ 8 [.int .i64 8] from rfl) (Reps.one (show Kd.M (Kd.int .i64) _ _ _ 9 [.int .i64 9] from rfl) (Reps.one (show Kd.M (Kd.int .i64) _ _ _ 10 [.int .i64 10] from rfl) (Reps.none _ _))))))); intro v991 w18 ho19 hb hg_ hnew_; clear hg_ hnew_; (rw [← Ny990.out] at ho19); replace HO989 := Kd.rb1 HO989 hb; have HO992 := Aside0.mk (Kd.R_lower ho19 (below_size HB.out)); replace BK970 := bk1 BK970 hb; replace BK971 := bk1 BK971 hb; replace HB := hb1 HB hb; clear hb ho19; obtain ⟨Ao20, co20, eo20⟩ := Kd.R_slice HO992.out; subst eo20))
 go_loopg [22] k (fun kq v22 w' => ∃ (x22_1 : Int), v22 = .int .i64 x22_1 ∧ Aside0 (masklaw1_BitsJoined.l0 kq y987 y990 (y990.length : Int) x22_1 a0_0 a0_1 a0_2 a1_0 a1_1 a1_2 = some r) ∧ Aside0 (kq ≤ k) ∧ Aside0 (Kd.R k24 24 w' w.heap.size (fun k_ => k_ ≠ gb970 ∧ k_ ≠ gb971) v988 y987) ∧ Aside0 (Kd.R (Kd.int .i64) 3 w' w.heap.size (fun _ => True) (.slice Ao20 y990.length co20) y990) ∧ Aside0 (w'.heap[gb970]? = some (.cells #[.int .i64 a0_0, .int .u64 a0_1, .int .u64 a0_2] 24 (0, 0))) ∧ Aside0 (w'.heap[gb971]? = some (.cells #[.int .i64 a1_0, .int .u64 a1_1, .int .u64 a1_2] 24 (0, 0))) ∧ Aside0 (Below w.heap.size w w'))
 case atStart => exact ⟨(0), (by rfl), H', ⟨Nat.le_refl _⟩, ⟨by exact Kd.R_mono HO989.out (fun _ hk => ⟨hk.1.2, hk.2⟩)⟩, ⟨by exact HO992.out⟩, ⟨by exact BK970.out⟩, ⟨by exact BK971.out⟩, ⟨by repeat (with_reducible exact HB.out)⟩⟩
 case round =>
  clear H'
  obtain ⟨x22_1, rfl, HA, HK1, HO_5, HO_20, BK970, BK971, HB⟩ := hrel
  cases gk with
  | zero => exact absurd HA.out (by simp [masklaw1_BitsJoined.l0])
  | succ k1 =>
   have H := HA.out
   clear HA
   simp only [masklaw1_BitsJoined.l0] at H
   replace H := iD H; rcases H with ⟨c21b0, H⟩ | ⟨c21b0, H⟩
   ·replace H := iN H; obtain ⟨c22b0, H⟩ := H
    replace H := iN H; obtain ⟨c23b0, H⟩ := H
    replace H := bN H; obtain ⟨t995, A24, H⟩ := H
    have HC25 := Aside0.mk H
    clear H
    have p993 : 0 ≤ (x22_1 : Int) := of_decide_eq_true (by (with_reducible assumption))
    have q993 : x22_1 < (y990.length : Int) := of_decide_eq_true (by (with_reducible assumption))
    obtain ⟨ad993, e993, hx993_0⟩ := Kd.at_int (Kd.R_reads' HO_20.out).2.2 x22_1 p993 q993
    cases e993
    replace p993 := eq_true p993
    replace q993 := eq_true q993
    go_upto_if 28 with (first | ((with_reducible refine gate_dst (N := 8) rfl ?_); (try (refine gate_guard (by rfl) ?_; dsimp only)); refine box_event ?hg (N := 8) ?hd (cs := #[.int .i64 0, .int .u64 0, .int .u64 0]) (t := 24) ?hr ?_; (case hd => rfl); (case hg => rfl); (case hr => (go_simp; done)); intro gb994 hg w26 hbox hb; replace HO_5 := Aside0.mk (Kd.R_below (Kd.R_elderB HO_5.out gb994 (Nat.le_of_eq hg.symm)) hb); replace HO_20 := Kd.rb1 HO_20 hb; have BK994 := Aside0.mk (hbox); have GW994 := ge1 HB hg; have GE994 := ge1 HB hg; replace HB := hb1 HB hb; have NB970_994 := nbA BK970 hg; have NB994_970 := nbB BK970 hg; replace BK970 := bk1 BK970 hb; have NB971_994 := nbA BK971 hg; have NB994_971 := nbB BK971 hg; replace BK971 := bk1 BK971 hb; clear hb hbox hg; have hnb27 := NB970_971.out; have hnc27 := NB971_970.out; have hnb28 := NB970_994.out; have hnc28 := NB994_970.out; obtain ⟨hcz29_0, hcz29_1, hcz29_2, hfz29_0, hfz29_1, hfz29_2⟩ := cf3 BK970) | (refine callA (some 28) Tryz.func9 #[.agg #[.int .i64 a0_0, .int .u64 a0_1, .int .u64 a0_2]] ?_; (with_reducible refine (maskref1_Valid.calls k1 a0_0 a0_1 a0_2 t995 _ A24.out).mono ?_); rintro e w30 ⟨rfl, hb⟩; refine ⟨_, rfl, ?_⟩; replace HO_5 := Kd.rb1 HO_5 hb; replace HO_20 := Kd.rb1 HO_20 hb; replace BK970 := bk1 BK970 hb; replace BK971 := bk1 BK971 hb; replace BK994 := bk1 BK994 hb; replace HB := hb1 HB hb; (try clear hb)))
    (try simp only [Act.put, List.setIfInBounds_toArray, List.set_cons_zero, List.set_cons_succ])
    go_cut [] (fun wc => ∃ (kq : Nat) (x995000_24 : Int) (x995001_24 : Int) (x995002_24 : Int), Aside0 (masklaw1_BitsJoined.j1 kq y987 x22_1 y990 (y990.length : Int) x22_1 a0_0 a0_1 a0_2 a1_0 a1_1 a1_2 x995000_24 x995001_24 x995002_24 = some r) ∧ Aside0 (kq ≤ k1) ∧ Aside0 (Kd.R k24 24 wc w.heap.size (fun k_ => k_ ≠ gb970 ∧ k_ ≠ gb971 ∧ k_ ≠ gb994) v988 y987) ∧ Aside0 (Kd.R (Kd.int .i64) 3 wc w.heap.size (fun _ => True) (.slice (some ad993) y990.length co20) y990) ∧ Aside0 (wc.heap[gb970]? = some (.cells #[.int .i64 a0_0, .int .u64 a0_1, .int .u64 a0_2] 24 (0, 0))) ∧ Aside0 (wc.heap[gb971]? = some (.cells #[.int .i64 a1_0, .int .u64 a1_1, .int .u64 a1_2] 24 (0, 0))) ∧ Aside0 (wc.heap[gb994]? = some (.cells #[.int .i64 x995000_24, .int .u64 x995001_24, .int .u64 x995002_24] 24 (0, 0))) ∧ Aside0 (Below w.heap.size w wc))
    case first =>
     have H := HC25.out
     clear HC25
     replace H := iB H; rcases H with ⟨rfl, H⟩ | ⟨rfl, H⟩
     ·replace H := bN H; obtain ⟨t996, A32, H⟩ := H
      replace H := bN H; obtain ⟨t999, A33, H⟩ := H
      replace H := bN H; obtain ⟨⟨t1002, t1003, t1004⟩, A34, H⟩ := H; dsimp only at H
      have H' := Aside0.mk H
      clear H
      have hnb35 := NB970_971.out
      have hnc35 := NB971_970.out
      have hnb36 := NB970_994.out
      have hnc36 := NB994_970.out
      obtain ⟨hcz37_0, hcz37_1, hcz37_2, hfz37_0, hfz37_1, hfz37_2⟩ := cf3 BK970
      go_wp2_with (first | (refine callA (some 31) Tryz.func12 #[.agg #[.int .i64 a0_0, .int .u64 a0_1, .int .u64 a0_2]] ?_; (with_reducible refine (maskref1_V.calls k1 a0_0 a0_1 a0_2 t996 _ A32.out).mono ?_); rintro e w38 ⟨v997, rfl, ho0, hb⟩; refine ⟨_, rfl, ?_⟩; replace HO_5 := Kd.rb1 HO_5 hb; replace HO_20 := Kd.rb1 HO_20 hb; have HO998 := Aside0.mk (Kd.R_lower ho0 (below_size HB.out)); replace BK970 := bk1 BK970 hb; replace BK971 := bk1 BK971 hb; replace BK994 := bk1 BK994 hb; replace HB := hb1 HB hb; (try clear hb); (try clear ho0); obtain ⟨Ao39, co39, eo39⟩ := Kd.R_slice HO998.out; subst eo39) | (refine callA (some 32) Tryz.func11 #[.int .i64 (rd y990 x22_1), .slice Ao39 t996.length co39] ?_; (with_reducible refine (maskref1_Unary.calls k1 (rd y990 x22_1) (fun k_ => some k_ = (.slice Ao39 t996.length co39 : Value).ownBlock) (.slice Ao39 t996.length co39) t996 t999 w _ ?side1 ?side2 A33.out).mono ?_); (case side1 => repeat (with_reducible exact HB.out)); (case side2 => exact Kd.R_tight rfl HO998.out); rintro e w40 ⟨v1000, rfl, ho0, hb, hkp⟩; refine ⟨_, rfl, ?_⟩; replace HO_5 := Aside0.mk (Kd.R_mono (ok' := fun k_ => k_ ≠ gb970 ∧ k_ ≠ gb971 ∧ k_ ≠ gb994) (Kd.R_keptB (Kd.R_apart' HO_5.out (Kd.R_typed HO998.out) (by decide)) hkp (fun k_ hk_ hs_ => (hk_.2) hs_)) (fun k_ hk_ => ⟨hk_.1.1.1.1, hk_.1.1.1.2, hk_.1.1.2⟩)); replace HO_20 := Aside0.mk (Kd.R_mono (ok' := fun k_ => True) (Kd.R_keptB (Kd.R_apart' HO_20.out (Kd.R_typed HO998.out) (by decide)) hkp (fun k_ hk_ hs_ => (hk_.2) hs_)) (fun k_ hk_ => trivial)); replace BK970 := Aside0.mk (blk_kept BK970.out hkp (fun hs_ => (fun e_ => (Kd.R_ne HO998.out BK970.out (by decide)) e_) hs_)); replace BK971 := Aside0.mk (blk_kept BK971.out hkp (fun hs_ => (fun e_ => (Kd.R_ne HO998.out BK971.out (by decide)) e_) hs_)); replace BK994 := Aside0.mk (blk_kept BK994.out hkp (fun hs_ => (fun e_ => (Kd.R_ne HO998.out BK994.out (by decide)) e_) hs_)); have HO1001 := Aside0.mk (Kd.R_mono (ok' := fun k_ => True) ho0 (fun k_ hk_ => trivial)); replace HB := Aside0.mk (hb); clear HO998; (try clear hb); (try clear hkp); (try clear ho0); obtain ⟨Ao41, co41, eo41⟩ := Kd.R_slice HO1001.out; subst eo41) | (refine callA (some 33) Tryz.func10 #[.slice Ao41 t999.length co41] ?_; (with_reducible refine (maskref1_B.calls k1 _ _ t999 t1002 t1003 t1004 _ ?side1 ?side2 A34.out).mono ?_); (case side1 => exact (Kd.R_reads' HO1001.out).2.2); (case side2 => exact (Kd.R_reads' HO1001.out).2.1); rintro e w42 ⟨rfl, hb⟩; refine ⟨_, rfl, ?_⟩; replace HO_5 := Kd.rb1 HO_5 hb; replace HO_20 := Kd.rb1 HO_20 hb; replace HO1001 := Kd.rb1 HO1001 hb; replace BK970 := bk1 BK970 hb; replace BK971 := bk1 BK971 hb; replace BK994 := bk1 BK994 hb; replace HB := hb1 HB hb; (try clear hb); have hnb43 := NB994_971.out; have hnc43 := NB971_994.out; obtain ⟨hcz44_0, hcz44_1, hcz44_2, hfz44_0, hfz44_1, hfz44_2⟩ := cf3 BK994))
      go_meet
      case rel => exact ⟨_, (t1002), (t1003), (t1004), H', ⟨by have := HK1.out; omega⟩, ⟨by exact Kd.R_mono (Kd.R_far (p := ⟨gb994, 2, none⟩) (Kd.R_far (p := ⟨gb994, 1, none⟩) (Kd.R_far (p := ⟨gb994, 0, none⟩) (Kd.R_mono HO_5.out (fun k_ hk => (⟨hk, hk.2.2⟩ : _ ∧ k_ ≠ gb994))) (fun _ hk => hk.2) (.int .i64 t1002)) (fun _ hk => hk.2) (.int .u64 t1003)) (fun _ hk => hk.2) (.int .u64 t1004)) (fun _ hk => ⟨hk.1.1, ⟨hk.1.2.1, hk.1.2.2⟩⟩)⟩, ⟨by exact Kd.R_mono (Kd.R_far (p := ⟨gb994, 2, none⟩) (Kd.R_far (p := ⟨gb994, 1, none⟩) (Kd.R_far (p := ⟨gb994, 0, none⟩) (Kd.R_types HO_20.out BK994.out (by decide)) (fun _ hk => hk.2) (.int .i64 t1002)) (fun _ hk => hk.2) (.int .u64 t1003)) (fun _ hk => hk.2) (.int .u64 t1004)) (fun _ hk => trivial)⟩, ⟨by refine blk_far ?_ NB970_994.out _; refine blk_far ?_ NB970_994.out _; refine blk_far ?_ NB970_994.out _; exact BK970.out⟩, ⟨by refine blk_far ?_ NB971_994.out _; refine blk_far ?_ NB971_994.out _; refine blk_far ?_ NB971_994.out _; exact BK971.out⟩, ⟨by refine blk_put (cs := #[.int .i64 t1002, .int .u64 t1003, .int .u64 0]) ?_ 2 _ rfl; refine blk_put (cs := #[.int .i64 t1002, .int .u64 0, .int .u64 0]) ?_ 1 _ rfl; refine blk_put (cs := #[.int .i64 0, .int .u64 0, .int .u64 0]) ?_ 0 _ rfl; exact BK994.out⟩, ⟨by repeat (with_reducible first | exact HB.out | refine below_set ?_ GE994.out)⟩⟩
     ·have H' := Aside0.mk H
      clear H
      go_wp2
      go_meet
      case rel => exact ⟨_, (0), (0), (0), H', ⟨by have := HK1.out; omega⟩, ⟨by exact Kd.R_mono HO_5.out (fun _ hk => ⟨hk.1.1, ⟨hk.1.2, hk.2⟩⟩)⟩, ⟨by exact HO_20.out⟩, ⟨by exact BK970.out⟩, ⟨by exact BK971.out⟩, ⟨by exact BK994.out⟩, ⟨by repeat (with_reducible exact HB.out)⟩⟩
    case rest =>
     clear HC25
     (try clear c21b0); (try clear c22b0); (try clear c23b0); (try clear hcz29_0 hcz29_1 hcz29_2); (try clear hfz29_0 hfz29_1 hfz29_2); (try clear hx993_0); (try clear p993); (try clear q993)
     obtain ⟨kq, x995000_24, x995001_24, x995002_24, HA, HJ24, HO_5, HO_20, BK970, BK971, BK994, HB⟩ := hcut
     cases kq with
     | zero => exact absurd HA.out (by simp [masklaw1_BitsJoined.j1])
     | succ kj24 =>
      have H := HA.out
      clear HA
      simp only [masklaw1_BitsJoined.j1] at H
      replace H := iN H; obtain ⟨c45b0, H⟩ := H
      replace H := iN H; obtain ⟨c46b0, H⟩ := H
      by_cases c47 : (!(((rd_T24 y987 x22_1).f0) == x995000_24) || (!(((rd_T24 y987 x22_1).f1) == x995001_24) || (!(((rd_T24 y987 x22_1).f2) == x995002_24)))) = true
      ·rw [if_pos c47] at H
       have c47b0 : (!(((rd_T24 y987 x22_1).f0) == x995000_24) || (!(((rd_T24 y987 x22_1).f1) == x995001_24) || (!(((rd_T24 y987 x22_1).f2) == x995002_24)))) = true := c47
       clear c47
       obtain rfl := Option.some.inj H
       try go_wp2
       replace HO_5 := Aside0.mk (Kd.R_drew HO_5.out)
       replace HO_20 := Aside0.mk (Kd.R_drew HO_20.out)
       replace BK970 := bkd BK970
       replace BK971 := bkd BK971
       replace BK994 := bkd BK994
       replace HB := hbd HB
       obtain ⟨Ao49, co49, eo49⟩ := Kd.R_slice HO_5.out
       (subst eo49)
       have p1005 : 0 ≤ (x22_1 : Int) := of_decide_eq_true (by (with_reducible assumption))
       have q1005 : x22_1 < (y987.length : Int) := of_decide_eq_true (by (with_reducible assumption))
       obtain ⟨ad1005, e1005, hx1005_0, hx1005_1, hx1005_2⟩ := at_T24 (Kd.R_reads' HO_5.out).2.2 x22_1 p1005 q1005
       cases e1005
       replace p1005 := eq_true p1005
       replace q1005 := eq_true q1005
       refine start_ (n := 6) (S := fun w' => w'.cell? ⟨gb994, 0, none⟩ = some (.int .i64 x995000_24) ∧ w'.cell? ⟨gb994, 1, none⟩ = some (.int .u64 x995001_24) ∧ w'.cell? ⟨gb994, 2, none⟩ = some (.int .u64 x995002_24) ∧ w'.cell? (ad1005.add ((x22_1).toNat * 3)) = some (.int .i64 ((rd_T24 y987 x22_1).f0)) ∧ w'.cell? ⟨(ad1005.add ((x22_1).toNat * 3)).block, (ad1005.add ((x22_1).toNat * 3)).off + 1, none⟩ = some (.int .u64 ((rd_T24 y987 x22_1).f1)) ∧ w'.cell? ⟨(ad1005.add ((x22_1).toNat * 3)).block, (ad1005.add ((x22_1).toNat * 3)).off + 2, none⟩ = some (.int .u64 ((rd_T24 y987 x22_1).f2))) (ds := []) (tb 6 0) (by kernel_rfl) rfl (by kernel_rfl) ⟨(blk_cell BK994.out 0).trans rfl, (blk_cell BK994.out 1).trans rfl, (blk_cell BK994.out 2).trans rfl, hx1005_0, hx1005_1, hx1005_2⟩ (fun hHeld => ?_)
       generalize wc.drew = w48 at HO_5 HO_20 BK970 BK971 BK994 HB hx1005_0 hx1005_1 hx1005_2 hHeld ⊢
       refine pure_ (i := 0) (N := some 34) (v := ?_) (a' := ?_) #[true, false, false, false, false, false] rfl rfl (by kernel_rfl) (fun _ _ _ h => h) (Or.inl ⟨by rfl, ?_⟩) ?_ ?_
       rotate_left
       ·intro w'
        go_simp
        with_reducible rfl
       rotate_left
       ·simp only [Act.put, List.setIfInBounds_toArray, List.set_cons_zero, List.set_cons_succ, i64_w, i32_w]
        rfl
       refine pure_ (i := 1) (N := some 35) (v := ?_) (a' := ?_) #[true, true, false, false, false, false] rfl rfl (by kernel_rfl) (fun _ _ _ h => h) (Or.inl ⟨by rfl, ?_⟩) ?_ ?_
       rotate_left
       ·intro w'
        go_simp
        with_reducible rfl
       rotate_left
       ·simp only [Act.put, List.setIfInBounds_toArray, List.set_cons_zero, List.set_cons_succ, i64_w, i32_w]
        rfl
       refine pure_ (i := 2) (N := some 36) (v := ?_) (a' := ?_) #[true, true, true, false, false, false] rfl rfl (by kernel_rfl) (fun _ _ _ h => h) (Or.inl ⟨by rfl, ?_⟩) ?_ ?_
       rotate_left
       ·intro w'
        go_simp
        with_reducible rfl
       rotate_left
       ·simp only [Act.put, List.setIfInBounds_toArray, List.set_cons_zero, List.set_cons_succ, i64_w, i32_w]
        rfl
       refine take_ (i := 3) (N := some 37) (v := ?_) (a' := ?_) #[true, true, true, true, false, false] rfl rfl (by kernel_rfl) (fun _ _ _ h => h) (Or.inl ⟨by rfl, ?_⟩) hHeld ?_ ?_
       rotate_left
       ·rintro w' ⟨s0, s1, s2, s3, s4, s5⟩
        go_simp
        with_reducible rfl
       rotate_left
       ·simp only [Act.put, List.setIfInBounds_toArray, List.set_cons_zero, List.set_cons_succ, i64_w, i32_w]
        rfl
       refine take_ (i := 4) (N := some 38) (v := ?_) (a' := ?_) #[true, true, true, true, true, false] rfl rfl (by kernel_rfl) (fun _ _ _ h => h) (Or.inl ⟨by rfl, ?_⟩) hHeld ?_ ?_
       rotate_left
       ·rintro w' ⟨s0, s1, s2, s3, s4, s5⟩
        go_simp
        with_reducible rfl
       rotate_left
       ·simp only [Act.put, List.setIfInBounds_toArray, List.set_cons_zero, List.set_cons_succ, i64_w, i32_w]
        rfl
       refine pure_ (i := 5) (N := some 39) (v := ?_) (a' := ?_) #[true, true, true, true, true, true] rfl rfl (by kernel_rfl) (fun _ _ _ h => h) (Or.inl ⟨by rfl, ?_⟩) ?_ ?_
       rotate_left
       ·intro w'
        go_simp
        with_reducible rfl
       rotate_left
       ·simp only [Act.put, List.setIfInBounds_toArray, List.set_cons_zero, List.set_cons_succ, i64_w, i32_w]
        rfl
       refine done_ (by kernel_rfl) ?_
       try go_wp2
       go_ret
       exact ⟨by rfl, by repeat (with_reducible exact HB.out)⟩
      ·rw [if_neg c47] at H
       have c47b0 : (!(((rd_T24 y987 x22_1).f0) == x995000_24) || (!(((rd_T24 y987 x22_1).f1) == x995001_24) || (!(((rd_T24 y987 x22_1).f2) == x995002_24)))) = false := by simpa using c47
       clear c47
       have H' := Aside0.mk H
       clear H
       try go_wp2
       replace HO_5 := Aside0.mk (Kd.R_drew HO_5.out)
       replace HO_20 := Aside0.mk (Kd.R_drew HO_20.out)
       replace BK970 := bkd BK970
       replace BK971 := bkd BK971
       replace BK994 := bkd BK994
       replace HB := hbd HB
       obtain ⟨Ao51, co51, eo51⟩ := Kd.R_slice HO_5.out
       (subst eo51)
       have p1005 : 0 ≤ (x22_1 : Int) := of_decide_eq_true (by (with_reducible assumption))
       have q1005 : x22_1 < (y987.length : Int) := of_decide_eq_true (by (with_reducible assumption))
       obtain ⟨ad1005, e1005, hx1005_0, hx1005_1, hx1005_2⟩ := at_T24 (Kd.R_reads' HO_5.out).2.2 x22_1 p1005 q1005
       cases e1005
       replace p1005 := eq_true p1005
       replace q1005 := eq_true q1005
       refine start_ (n := 6) (S := fun w' => w'.cell? ⟨gb994, 0, none⟩ = some (.int .i64 x995000_24) ∧ w'.cell? ⟨gb994, 1, none⟩ = some (.int .u64 x995001_24) ∧ w'.cell? ⟨gb994, 2, none⟩ = some (.int .u64 x995002_24) ∧ w'.cell? (ad1005.add ((x22_1).toNat * 3)) = some (.int .i64 ((rd_T24 y987 x22_1).f0)) ∧ w'.cell? ⟨(ad1005.add ((x22_1).toNat * 3)).block, (ad1005.add ((x22_1).toNat * 3)).off + 1, none⟩ = some (.int .u64 ((rd_T24 y987 x22_1).f1)) ∧ w'.cell? ⟨(ad1005.add ((x22_1).toNat * 3)).block, (ad1005.add ((x22_1).toNat * 3)).off + 2, none⟩ = some (.int .u64 ((rd_T24 y987 x22_1).f2))) (ds := []) (tb 6 0) (by kernel_rfl) rfl (by kernel_rfl) ⟨(blk_cell BK994.out 0).trans rfl, (blk_cell BK994.out 1).trans rfl, (blk_cell BK994.out 2).trans rfl, hx1005_0, hx1005_1, hx1005_2⟩ (fun hHeld => ?_)
       generalize wc.drew = w50 at HO_5 HO_20 BK970 BK971 BK994 HB hx1005_0 hx1005_1 hx1005_2 hHeld ⊢
       refine pure_ (i := 0) (N := some 34) (v := ?_) (a' := ?_) #[true, false, false, false, false, false] rfl rfl (by kernel_rfl) (fun _ _ _ h => h) (Or.inl ⟨by rfl, ?_⟩) ?_ ?_
       rotate_left
       ·intro w'
        go_simp
        with_reducible rfl
       rotate_left
       ·simp only [Act.put, List.setIfInBounds_toArray, List.set_cons_zero, List.set_cons_succ, i64_w, i32_w]
        rfl
       refine pure_ (i := 1) (N := some 35) (v := ?_) (a' := ?_) #[true, true, false, false, false, false] rfl rfl (by kernel_rfl) (fun _ _ _ h => h) (Or.inl ⟨by rfl, ?_⟩) ?_ ?_
       rotate_left
       ·intro w'
        go_simp
        with_reducible rfl
       rotate_left
       ·simp only [Act.put, List.setIfInBounds_toArray, List.set_cons_zero, List.set_cons_succ, i64_w, i32_w]
        rfl
       refine pure_ (i := 2) (N := some 36) (v := ?_) (a' := ?_) #[true, true, true, false, false, false] rfl rfl (by kernel_rfl) (fun _ _ _ h => h) (Or.inl ⟨by rfl, ?_⟩) ?_ ?_
       rotate_left
       ·intro w'
        go_simp
        with_reducible rfl
       rotate_left
       ·simp only [Act.put, List.setIfInBounds_toArray, List.set_cons_zero, List.set_cons_succ, i64_w, i32_w]
        rfl
       refine take_ (i := 3) (N := some 37) (v := ?_) (a' := ?_) #[true, true, true, true, false, false] rfl rfl (by kernel_rfl) (fun _ _ _ h => h) (Or.inl ⟨by rfl, ?_⟩) hHeld ?_ ?_
       rotate_left
       ·rintro w' ⟨s0, s1, s2, s3, s4, s5⟩
        go_simp
        with_reducible rfl
       rotate_left
       ·simp only [Act.put, List.setIfInBounds_toArray, List.set_cons_zero, List.set_cons_succ, i64_w, i32_w]
        rfl
       refine take_ (i := 4) (N := some 38) (v := ?_) (a' := ?_) #[true, true, true, true, true, false] rfl rfl (by kernel_rfl) (fun _ _ _ h => h) (Or.inl ⟨by rfl, ?_⟩) hHeld ?_ ?_
       rotate_left
       ·rintro w' ⟨s0, s1, s2, s3, s4, s5⟩
        go_simp
        with_reducible rfl
       rotate_left
       ·simp only [Act.put, List.setIfInBounds_toArray, List.set_cons_zero, List.set_cons_succ, i64_w, i32_w]
        rfl
       refine pure_ (i := 5) (N := some 39) (v := ?_) (a' := ?_) #[true, true, true, true, true, true] rfl rfl (by kernel_rfl) (fun _ _ _ h => h) (Or.inl ⟨by rfl, ?_⟩) ?_ ?_
       rotate_left
       ·intro w'
        go_simp
        with_reducible rfl
       rotate_left
       ·simp only [Act.put, List.setIfInBounds_toArray, List.set_cons_zero, List.set_cons_succ, i64_w, i32_w]
        rfl
       refine done_ (by kernel_rfl) ?_
       try go_wp2
       go_roundg kj24
       case measure => have := HK1.out; have := HJ24.out; omega
       case rel => exact ⟨(wrap64 (x22_1 + 1)), (by rfl), H', ⟨by have := HK1.out; have := HJ24.out; omega⟩, ⟨by exact Kd.R_mono HO_5.out (fun _ hk => ⟨hk.1, hk.2.1⟩)⟩, ⟨by exact HO_20.out⟩, ⟨by exact BK970.out⟩, ⟨by exact BK971.out⟩, ⟨by repeat (with_reducible exact HB.out)⟩⟩
   ·replace H := bN H; obtain ⟨t1006, A52, H⟩ := H
    replace H := iB H; rcases H with ⟨rfl, H⟩ | ⟨rfl, H⟩
    ·obtain ⟨y1007, hy1007⟩ : ∃ y_ : List Int, y_ = ([13, 14, 15, 11, 12] : List Int) := ⟨_, rfl⟩
     replace H : ((masklaw1_pair.f k1 y1007 a0_0 a0_1 a0_2 a1_0 a1_1 a1_2 false).bind fun t1010 => (some t1010)) = some r := by (rw [hy1007]; with_reducible exact H)
     have Ny1007 := Aside0.mk hy1007
     clear hy1007
     replace H := bN H; obtain ⟨t1010, A54, H⟩ := H
     obtain rfl := Option.some.inj H
     go_wp2_with (first | ((with_reducible refine gate_callee (f := 13) rfl ?_); refine goesL_ (some 41) rfl rfl Tryz.func13 (by kernel_rfl) rfl #[] rfl (by (try simp only [List.map_toArray, List.map_cons, List.map_nil]); done) ?_; (with_reducible refine (masklaw1_vectors.calls k1  true _ A52.out).mono ?_); rintro e w55 ⟨rfl, hb⟩; refine ⟨_, rfl, ?_⟩; replace HO_5 := Kd.rb1 HO_5 hb; replace HO_20 := Kd.rb1 HO_20 hb; replace BK970 := bk1 BK970 hb; replace BK971 := bk1 BK971 hb; replace HB := hb1 HB hb; (try clear hb)) | ((with_reducible refine gate_dst (N := 43) rfl ?_); (try (refine gate_guard (by rfl) ?_; dsimp only)); refine Kd.R_lit (Kd.int .i64) _ 3 ?hg (N := 43) ?hd (xs := ([13, 14, 15, 11, 12] : List Int)) (inner := [.int .i64 13, .int .i64 14, .int .i64 15, .int .i64 11, .int .i64 12]) (ok := fun _ => True) (okp := fun _ => True) ?hr ?hp (fun _ hk => hk) trivial (Below.refl _ _) (Nat.le_refl _) (by simp) ?_; (case hd => rfl); (case hg => rfl); (case hr => (go_simp; done)); (case hp => exact (Reps.one (show Kd.M (Kd.int .i64) _ _ _ 13 [.int .i64 13] from rfl) (Reps.one (show Kd.M (Kd.int .i64) _ _ _ 14 [.int .i64 14] from rfl) (Reps.one (show Kd.M (Kd.int .i64) _ _ _ 15 [.int .i64 15] from rfl) (Reps.one (show Kd.M (Kd.int .i64) _ _ _ 11 [.int .i64 11] from rfl) (Reps.one (show Kd.M (Kd.int .i64) _ _ _ 12 [.int .i64 12] from rfl) (Reps.none _ _))))))); intro v1008 w56 ho57 hb hg_ hnew_; clear hg_ hnew_; (rw [← Ny1007.out] at ho57); replace HO_5 := Kd.rb1 HO_5 hb; have HO1009 := Aside0.mk (Kd.R_lower (Kd.R_new' ho57 (Kd.R_lt HO_20.out)) (below_size HB.out)); replace HO_20 := Aside0.mk (Kd.R_elder' HO_20.out (Kd.R_base ho57) hb); replace BK970 := bk1 BK970 hb; replace BK971 := bk1 BK971 hb; replace HB := hb1 HB hb; clear hb ho57; have hnb58 := NB970_971.out; have hnc58 := NB971_970.out; obtain ⟨hcz59_0, hcz59_1, hcz59_2, hfz59_0, hfz59_1, hfz59_2⟩ := cf3 BK970; obtain ⟨hcz60_0, hcz60_1, hcz60_2, hfz60_0, hfz60_1, hfz60_2⟩ := cf3 BK971; obtain ⟨Ao61, co61, eo61⟩ := Kd.R_slice HO1009.out; subst eo61) | (go_at_call 14; (with_reducible refine (masklaw1_pair.calls k1 _ _ y1007 a0_0 a0_1 a0_2 a1_0 a1_1 a1_2 false t1010 _ ?side1 ?side2 A54.out).mono ?_); (case side1 => exact (Kd.R_reads' HO1009.out).2.2); (case side2 => exact (Kd.R_reads' HO1009.out).2.1); rintro e w62 ⟨rfl, hb⟩; replace HO_5 := Kd.rb1 HO_5 hb; replace HO_20 := Kd.rb1 HO_20 hb; replace HO1009 := Kd.rb1 HO1009 hb; replace BK970 := bk1 BK970 hb; replace BK971 := bk1 BK971 hb; replace HB := hb1 HB hb; (try clear hb)))
     go_ret
     exact ⟨by rfl, by repeat (with_reducible exact HB.out)⟩
    ·obtain rfl := Option.some.inj H
     go_wp2_with (((with_reducible refine gate_callee (f := 13) rfl ?_); refine goesL_ (some 41) rfl rfl Tryz.func13 (by kernel_rfl) rfl #[] rfl (by (try simp only [List.map_toArray, List.map_cons, List.map_nil]); done) ?_; (with_reducible refine (masklaw1_vectors.calls k1  false _ A52.out).mono ?_); rintro e w63 ⟨rfl, hb⟩; refine ⟨_, rfl, ?_⟩; replace HO_5 := Kd.rb1 HO_5 hb; replace HO_20 := Kd.rb1 HO_20 hb; replace BK970 := bk1 BK970 hb; replace BK971 := bk1 BK971 hb; replace HB := hb1 HB hb; (try clear hb)))
     go_ret
     exact ⟨by rfl, by repeat (with_reducible exact HB.out)⟩
end Go.Proofs.YtfigblfjogpojaaGreatDoor.PJoin
end
