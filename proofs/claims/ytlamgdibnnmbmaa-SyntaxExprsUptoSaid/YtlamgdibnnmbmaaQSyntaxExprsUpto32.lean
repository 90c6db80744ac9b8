/- Part 33 of the proof of SyntaxExprsUptoSaid: The law SyntaxExprs, where the tree that it reads is of bulk at most 1048576: it returns true; the tree reads behind the call as it read before. Out of the plain theorem of YtlamgdibnnmbmaaPureSyntaxExprs and the printed contract. -/
import Derived.Test.YtlamgdibnnmbmaaQSyntaxExprsUpto13
import Derived.Test.YtlamgdibnnmbmaaQSyntaxExprsUpto29
import Derived.Test.YtlamgdibnnmbmaaQSyntaxExprsUpto23
import Derived.Test.YtlamgdibnnmbmaaQSyntaxExprsUpto31
import Derived.Test.YtlamgdibnnmbmaaQSyntaxExprsUpto16
section
namespace Go.Proofs.Ytlamgdibnnmbmaa.PSyn
open Go.RowKit Go.Proofs.YtlamgdibnnmbmaaW.PrintWords Go.Proofs.YtlamgdibnnmbmaaW.PrintLast Go.Proofs.YtlamgdibnnmbmaaW.PrintMore
attribute [local go_sem] max2_int min2_int max_two min_two max_three min_three max_four min_four
set_option linter.unusedVariables false
set_option linter.unusedSimpArgs false
attribute [local go_sem high] eqA24
mutual
def maskref1_nodeFault.j0 : Nat → List (S73) → ByteArray → Bool → Int → Int → Int → ByteArray → ByteArray → Int → Int → Int → Bool → List (S27) → Option (Int)
 | 0, _, _, _, _, _, _, _, _, _, _, _, _, _ => none
 | k + 1, x0, x2, x15, x209000, x209001, x209002, x209003, x209004, x209005, x209006, x209007, x209008, x209009 => if x15 = true then (some 2) else (if 0 ≤ x209000 then (if x209000 < (x0.length : Int) then ((maskref1_contains.f k ((rd_T73 x0 x209000).f0) x2).bind fun t210 => (if t210 = true then ((maskref1_fieldFault.f k ((rd_T73 x0 x209000).f2) x209000 x209001 x209002 x209003 x209004 x209005 x209006 x209007 x209008 x209009).bind fun t212 => (if t212 = 0 then ((maskref1_taken.f k x0 ((rd_T73 x0 x209000).f1) x209009).bind fun bt214 => (if bt214.2 = true then (if x209000 = 57 then (if 2 < (x209009.length : Int) then (if ((rd_T27 x209009 2).f0) = 0 then (maskref1_nodeFault.j1 k x0 x2 bt214.1 false x209000 x209001 x209002 x209003 x209004 x209005 x209006 x209007 x209008 x209009) else (if 1 < (x209009.length : Int) then ((maskref1_hangs.f k ((rd_T27 x209009 1).f0) ((rd_T27 x209009 1).f1) ((rd_T27 x209009 1).f2) ((rd_T27 x209009 1).f3) ((rd_T27 x209009 1).f4) ((rd_T27 x209009 1).f5.f0) ((rd_T27 x209009 1).f5.f1) ((rd_T27 x209009 1).f5.f2) ((rd_T27 x209009 1).f6) ((rd_T27 x209009 1).f7)).bind fun t220 => (maskref1_nodeFault.j1 k x0 x2 bt214.1 t220 x209000 x209001 x209002 x209003 x209004 x209005 x209006 x209007 x209008 x209009)) else (none))) else (none)) else (maskref1_nodeFault.j1 k x0 x2 bt214.1 false x209000 x209001 x209002 x209003 x209004 x209005 x209006 x209007 x209008 x209009)) else (maskref1_nodeFault.j1 k x0 x2 bt214.1 true x209000 x209001 x209002 x209003 x209004 x209005 x209006 x209007 x209008 x209009))) else (some t212))) else (some 8))) else (none)) else (none))
def maskref1_nodeFault.j1 : Nat → List (S73) → ByteArray → List ByteArray → Bool → Int → Int → Int → ByteArray → ByteArray → Int → Int → Int → Bool → List (S27) → Option (Int)
 | 0, _, _, _, _, _, _, _, _, _, _, _, _, _, _ => none
 | k + 1, x0, x2, x8, x91, x209000, x209001, x209002, x209003, x209004, x209005, x209006, x209007, x209008, x209009 => if x91 = true then (some 4) else (maskref1_nodeFault.l0 k x0 x2 x8 x209009 (x209009.length : Int) 0 x209000 x209001 x209002 x209003 x209004 x209005 x209006 x209007 x209008 x209009)
def maskref1_nodeFault.l0 : Nat → List (S73) → ByteArray → List ByteArray → List (S27) → Int → Int → Int → Int → Int → ByteArray → ByteArray → Int → Int → Int → Bool → List (S27) → Option (Int)
 | 0, _, _, _, _, _, _, _, _, _, _, _, _, _, _, _, _ => none
 | k + 1, x0, x2, x8, x93, x94, x95, x209000, x209001, x209002, x209003, x209004, x209005, x209006, x209007, x209008, x209009 => if x95 < x94 then (if 0 ≤ x95 then (if x95 < (x93.length : Int) then (if x95 < (x8.length : Int) then (if x95 = 0 then (if x209000 = 80 then (maskref1_nodeFault.j3 k x0 x2 x8 (rdOf ByteArray.empty x8 x95) true x93 x94 x95 x209000 x209001 x209002 x209003 x209004 x209005 x209006 x209007 x209008 x209009 ((rd_T27 x93 x95).f0) ((rd_T27 x93 x95).f1) ((rd_T27 x93 x95).f2) ((rd_T27 x93 x95).f3) ((rd_T27 x93 x95).f4) ((rd_T27 x93 x95).f5.f0) ((rd_T27 x93 x95).f5.f1) ((rd_T27 x93 x95).f5.f2) ((rd_T27 x93 x95).f6) ((rd_T27 x93 x95).f7)) else (if x209000 = 81 then (maskref1_nodeFault.j3 k x0 x2 x8 (rdOf ByteArray.empty x8 x95) true x93 x94 x95 x209000 x209001 x209002 x209003 x209004 x209005 x209006 x209007 x209008 x209009 ((rd_T27 x93 x95).f0) ((rd_T27 x93 x95).f1) ((rd_T27 x93 x95).f2) ((rd_T27 x93 x95).f3) ((rd_T27 x93 x95).f4) ((rd_T27 x93 x95).f5.f0) ((rd_T27 x93 x95).f5.f1) ((rd_T27 x93 x95).f5.f2) ((rd_T27 x93 x95).f6) ((rd_T27 x93 x95).f7)) else (if x209000 = 82 then (maskref1_nodeFault.j3 k x0 x2 x8 (rdOf ByteArray.empty x8 x95) true x93 x94 x95 x209000 x209001 x209002 x209003 x209004 x209005 x209006 x209007 x209008 x209009 ((rd_T27 x93 x95).f0) ((rd_T27 x93 x95).f1) ((rd_T27 x93 x95).f2) ((rd_T27 x93 x95).f3) ((rd_T27 x93 x95).f4) ((rd_T27 x93 x95).f5.f0) ((rd_T27 x93 x95).f5.f1) ((rd_T27 x93 x95).f5.f2) ((rd_T27 x93 x95).f6) ((rd_T27 x93 x95).f7)) else (maskref1_nodeFault.j3 k x0 x2 x8 (rdOf ByteArray.empty x8 x95) (x209000 == 83) x93 x94 x95 x209000 x209001 x209002 x209003 x209004 x209005 x209006 x209007 x209008 x209009 ((rd_T27 x93 x95).f0) ((rd_T27 x93 x95).f1) ((rd_T27 x93 x95).f2) ((rd_T27 x93 x95).f3) ((rd_T27 x93 x95).f4) ((rd_T27 x93 x95).f5.f0) ((rd_T27 x93 x95).f5.f1) ((rd_T27 x93 x95).f5.f2) ((rd_T27 x93 x95).f6) ((rd_T27 x93 x95).f7))))) else (maskref1_nodeFault.j3 k x0 x2 x8 (rdOf ByteArray.empty x8 x95) false x93 x94 x95 x209000 x209001 x209002 x209003 x209004 x209005 x209006 x209007 x209008 x209009 ((rd_T27 x93 x95).f0) ((rd_T27 x93 x95).f1) ((rd_T27 x93 x95).f2) ((rd_T27 x93 x95).f3) ((rd_T27 x93 x95).f4) ((rd_T27 x93 x95).f5.f0) ((rd_T27 x93 x95).f5.f1) ((rd_T27 x93 x95).f5.f2) ((rd_T27 x93 x95).f6) ((rd_T27 x93 x95).f7))) else (none)) else (none)) else (none)) else (some 0)
def maskref1_nodeFault.j3 : Nat → List (S73) → ByteArray → List ByteArray → ByteArray → Bool → List (S27) → Int → Int → Int → Int → Int → ByteArray → ByteArray → Int → Int → Int → Bool → List (S27) → Int → Int → Int → ByteArray → ByteArray → Int → Int → Int → Bool → List (S27) → Option (Int)
 | 0, _, _, _, _, _, _, _, _, _, _, _, _, _, _, _, _, _, _, _, _, _, _, _, _, _, _, _, _ => none
 | k + 1, x0, x2, x8, x12, x13, x93, x94, x95, x209000, x209001, x209002, x209003, x209004, x209005, x209006, x209007, x209008, x209009, x223000, x223001, x223002, x223003, x223004, x223005, x223006, x223007, x223008, x223009 => if x223000 = 0 then (if x223003.toList = ([] : List UInt8) then (if x223004.toList = ([] : List UInt8) then (if (!(x223005 == 0) || (!(x223006 == 0) || (!(x223007 == 0)))) = true then (maskref1_nodeFault.j4 k x0 x2 x8 x12 x13 x93 x94 x95 true x209000 x209001 x209002 x209003 x209004 x209005 x209006 x209007 x209008 x209009 x223000 x223001 x223002 x223003 x223004 x223005 x223006 x223007 x223008 x223009) else (if x223008 = true then (maskref1_nodeFault.j4 k x0 x2 x8 x12 x13 x93 x94 x95 true x209000 x209001 x209002 x209003 x209004 x209005 x209006 x209007 x209008 x209009 x223000 x223001 x223002 x223003 x223004 x223005 x223006 x223007 x223008 x223009) else (maskref1_nodeFault.j4 k x0 x2 x8 x12 x13 x93 x94 x95 (decide ((x223009.length : Int) > 0)) x209000 x209001 x209002 x209003 x209004 x209005 x209006 x209007 x209008 x209009 x223000 x223001 x223002 x223003 x223004 x223005 x223006 x223007 x223008 x223009))) else (maskref1_nodeFault.j4 k x0 x2 x8 x12 x13 x93 x94 x95 true x209000 x209001 x209002 x209003 x209004 x209005 x209006 x209007 x209008 x209009 x223000 x223001 x223002 x223003 x223004 x223005 x223006 x223007 x223008 x223009)) else (maskref1_nodeFault.j4 k x0 x2 x8 x12 x13 x93 x94 x95 true x209000 x209001 x209002 x209003 x209004 x209005 x209006 x209007 x209008 x209009 x223000 x223001 x223002 x223003 x223004 x223005 x223006 x223007 x223008 x223009)) else (maskref1_nodeFault.j4 k x0 x2 x8 x12 x13 x93 x94 x95 false x209000 x209001 x209002 x209003 x209004 x209005 x209006 x209007 x209008 x209009 x223000 x223001 x223002 x223003 x223004 x223005 x223006 x223007 x223008 x223009)
def maskref1_nodeFault.j7 : Nat → List (S73) → ByteArray → List ByteArray → ByteArray → List (S27) → Int → Int → Int → Int → Int → ByteArray → ByteArray → Int → Int → Int → Bool → List (S27) → Int → Int → Int → ByteArray → ByteArray → Int → Int → Int → Bool → List (S27) → Option (Int)
 | 0, _, _, _, _, _, _, _, _, _, _, _, _, _, _, _, _, _, _, _, _, _, _, _, _, _, _, _ => none
 | k + 1, x0, x2, x8, x12, x93, x94, x95, x209000, x209001, x209002, x209003, x209004, x209005, x209006, x209007, x209008, x209009, x223000, x223001, x223002, x223003, x223004, x223005, x223006, x223007, x223008, x223009 => (maskref1_nodeFault.f k x0 x223000 x223001 x223002 x223003 x223004 x223005 x223006 x223007 x223008 x223009 x12).bind fun t224 => (if t224 = 0 then (maskref1_nodeFault.l0 k x0 x2 x8 x93 x94 (wrap64 (x95 + 1)) x209000 x209001 x209002 x209003 x209004 x209005 x209006 x209007 x209008 x209009) else (some t224))
def maskref1_nodeFault.j4 : Nat → List (S73) → ByteArray → List ByteArray → ByteArray → Bool → List (S27) → Int → Int → Bool → Int → Int → Int → ByteArray → ByteArray → Int → Int → Int → Bool → List (S27) → Int → Int → Int → ByteArray → ByteArray → Int → Int → Int → Bool → List (S27) → Option (Int)
 | 0, _, _, _, _, _, _, _, _, _, _, _, _, _, _, _, _, _, _, _, _, _, _, _, _, _, _, _, _, _ => none
 | k + 1, x0, x2, x8, x12, x13, x93, x94, x95, x126, x209000, x209001, x209002, x209003, x209004, x209005, x209006, x209007, x209008, x209009, x223000, x223001, x223002, x223003, x223004, x223005, x223006, x223007, x223008, x223009 => if x126 = true then (some 4) else (if x223000 = 0 then (maskref1_nodeFault.l0 k x0 x2 x8 x93 x94 (wrap64 (x95 + 1)) x209000 x209001 x209002 x209003 x209004 x209005 x209006 x209007 x209008 x209009) else (if x13 = true then (maskref1_nodeFault.j5 k x0 x2 x8 x12 x13 x93 x94 x95 (x223000 == 114) x209000 x209001 x209002 x209003 x209004 x209005 x209006 x209007 x209008 x209009 x223000 x223001 x223002 x223003 x223004 x223005 x223006 x223007 x223008 x223009) else (maskref1_nodeFault.j5 k x0 x2 x8 x12 x13 x93 x94 x95 false x209000 x209001 x209002 x209003 x209004 x209005 x209006 x209007 x209008 x209009 x223000 x223001 x223002 x223003 x223004 x223005 x223006 x223007 x223008 x223009)))
def maskref1_nodeFault.j5 : Nat → List (S73) → ByteArray → List ByteArray → ByteArray → Bool → List (S27) → Int → Int → Bool → Int → Int → Int → ByteArray → ByteArray → Int → Int → Int → Bool → List (S27) → Int → Int → Int → ByteArray → ByteArray → Int → Int → Int → Bool → List (S27) → Option (Int)
 | 0, _, _, _, _, _, _, _, _, _, _, _, _, _, _, _, _, _, _, _, _, _, _, _, _, _, _, _, _, _ => none
 | k + 1, x0, x2, x8, x12, x13, x93, x94, x95, x160, x209000, x209001, x209002, x209003, x209004, x209005, x209006, x209007, x209008, x209009, x223000, x223001, x223002, x223003, x223004, x223005, x223006, x223007, x223008, x223009 => if x160 = true then (some 8) else (if x13 = true then (maskref1_nodeFault.j6 k x0 x2 x8 x12 x93 x94 x95 true x209000 x209001 x209002 x209003 x209004 x209005 x209006 x209007 x209008 x209009 x223000 x223001 x223002 x223003 x223004 x223005 x223006 x223007 x223008 x223009) else (if x209000 = 114 then (maskref1_nodeFault.j6 k x0 x2 x8 x12 x93 x94 x95 (x2.toList == ([116] : List UInt8)) x209000 x209001 x209002 x209003 x209004 x209005 x209006 x209007 x209008 x209009 x223000 x223001 x223002 x223003 x223004 x223005 x223006 x223007 x223008 x223009) else (maskref1_nodeFault.j6 k x0 x2 x8 x12 x93 x94 x95 false x209000 x209001 x209002 x209003 x209004 x209005 x209006 x209007 x209008 x209009 x223000 x223001 x223002 x223003 x223004 x223005 x223006 x223007 x223008 x223009)))
def maskref1_nodeFault.j6 : Nat → List (S73) → ByteArray → List ByteArray → ByteArray → List (S27) → Int → Int → Bool → Int → Int → Int → ByteArray → ByteArray → Int → Int → Int → Bool → List (S27) → Int → Int → Int → ByteArray → ByteArray → Int → Int → Int → Bool → List (S27) → Option (Int)
 | 0, _, _, _, _, _, _, _, _, _, _, _, _, _, _, _, _, _, _, _, _, _, _, _, _, _, _, _, _ => none
 | k + 1, x0, x2, x8, x12, x93, x94, x95, x167, x209000, x209001, x209002, x209003, x209004, x209005, x209006, x209007, x209008, x209009, x223000, x223001, x223002, x223003, x223004, x223005, x223006, x223007, x223008, x223009 => if x167 = true then (maskref1_nodeFault.j7 k x0 x2 x8 (⟨#[116]⟩ : ByteArray) x93 x94 x95 x209000 x209001 x209002 x209003 x209004 x209005 x209006 x209007 x209008 x209009 x223000 x223001 x223002 x223003 x223004 x223005 x223006 x223007 x223008 x223009) else (maskref1_nodeFault.j7 k x0 x2 x8 x12 x93 x94 x95 x209000 x209001 x209002 x209003 x209004 x209005 x209006 x209007 x209008 x209009 x223000 x223001 x223002 x223003 x223004 x223005 x223006 x223007 x223008 x223009)
def maskref1_nodeFault.f : Nat → List (S73) → Int → Int → Int → ByteArray → ByteArray → Int → Int → Int → Bool → List (S27) → ByteArray → Option (Int)
 | 0, _, _, _, _, _, _, _, _, _, _, _, _ => none
 | k + 1, l0, a1_0, a1_1, a1_2, a1_3, a1_4, a1_5, a1_6, a1_7, a1_8, l1_9, a2 => if a1_0 < 0 then (maskref1_nodeFault.j0 k l0 a2 true a1_0 a1_1 a1_2 a1_3 a1_4 a1_5 a1_6 a1_7 a1_8 l1_9) else (if a1_0 ≥ (l0.length : Int) then (maskref1_nodeFault.j0 k l0 a2 true a1_0 a1_1 a1_2 a1_3 a1_4 a1_5 a1_6 a1_7 a1_8 l1_9) else (if a1_1 < 0 then (maskref1_nodeFault.j0 k l0 a2 true a1_0 a1_1 a1_2 a1_3 a1_4 a1_5 a1_6 a1_7 a1_8 l1_9) else (maskref1_nodeFault.j0 k l0 a2 (decide (a1_2 < 0)) a1_0 a1_1 a1_2 a1_3 a1_4 a1_5 a1_6 a1_7 a1_8 l1_9)))
end
def maskref1_nodeFault.T5 : Bool × List (List Nat × List Nat) := (true, [([], []), ([], []), ([1], [1]), ([0, 2], [0, 2]), ([3], [3]), ([4], [4]), ([], []), ([5, 6], [5, 6]), ([7, 7, 0, 1, 2, 3, 4, 5, 6, 7], [7])])
def maskref1_nodeFault.B5 : List Nat := [0, 0, 2, 7, 15, 31, 0, 127, 255]
theorem maskref1_nodeFault.tab5 : rtab .any (opsOf Try.f24 5) = maskref1_nodeFault.T5 := by kernel_rfl
theorem maskref1_nodeFault.bits5 : waitsOk maskref1_nodeFault.T5.2 maskref1_nodeFault.B5 = true := by kernel_rfl
def maskref1_nodeFault.T8 : Bool × List (List Nat × List Nat) := (true, [([], []), ([], []), ([], []), ([2], [2]), ([1, 3], [1, 3]), ([4], [4]), ([5], [5]), ([], []), ([7], [7]), ([0, 6, 8], [0, 6, 8]), ([9], [9]), ([10], [10]), ([10], [10]), ([11, 9, 0, 1, 2, 3, 4, 5, 6, 7, 8, 9, 10, 11], [11]), ([12, 13, 0, 1, 2, 3, 4, 5, 6, 7, 8, 9, 10, 11, 12, 13], [12])])
def maskref1_nodeFault.B8 : List Nat := [0, 0, 0, 4, 14, 30, 62, 0, 128, 511, 1023, 2047, 2047, 4095, 16383]
theorem maskref1_nodeFault.tab8 : rtab .any (opsOf Try.f24 8) = maskref1_nodeFault.T8 := by kernel_rfl
theorem maskref1_nodeFault.bits8 : waitsOk maskref1_nodeFault.T8.2 maskref1_nodeFault.B8 = true := by kernel_rfl
set_option maxHeartbeats 8000000 in
set_option maxRecDepth 100000 in
theorem maskref1_nodeFault.calls (k : Nat) : ∀ (A0 : Option Addr) (c0 : Nat) (l0 : List (S73)) (a1_0 : Int) (a1_1 : Int) (a1_2 : Int) (a1_3 : ByteArray) (a1_4 : ByteArray) (a1_5 : Int) (a1_6 : Int) (a1_7 : Int) (a1_8 : Bool) (A1_9 : Option Addr) (c1_9 : Nat) (l1_9 : List (S27)) (a2 : ByteArray) (r : Int) (w : World) (hr0 : Kd.C k73 w A0 l0.length l0) (hc0 : l0.length ≤ c0) (hr1_9 : Kd.C k27 w A1_9 l1_9.length l1_9) (hc1_9 : l1_9.length ≤ c1_9) (h : maskref1_nodeFault.f k l0 a1_0 a1_1 a1_2 a1_3 a1_4 a1_5 a1_6 a1_7 a1_8 l1_9 a2 = some r),
  Calls Try.prog 24 #[.slice A0 l0.length c0, .agg #[.int .i64 a1_0, .int .i64 a1_1, .int .i64 a1_2, .string a1_3, .string a1_4, .int .i64 a1_5, .int .u64 a1_6, .int .u64 a1_7, .bool a1_8, .slice A1_9 l1_9.length c1_9], .string a2] w fun e w' => e = .returned (.int .i64 r) ∧ Below w.heap.size w w' := by
 induction k using Nat.strongRecOn with
 | _ k ih =>
 intro A0 c0 l0 a1_0 a1_1 a1_2 a1_3 a1_4 a1_5 a1_6 a1_7 a1_8 A1_9 c1_9 l1_9 a2 r w hr0 hc0 hr1_9 hc1_9 h
 cases k with
 | zero => exact absurd h (by simp [maskref1_nodeFault.f])
 | succ k =>
 simp only [maskref1_nodeFault.f] at h
 have hu27 := Try.underlying27
 have hu24 := Try.underlying24
 have HR0 := Aside0.mk hr0
 have HC0 := Aside0.mk hc0
 clear hr0 hc0
 have HR1_9 := Aside0.mk hr1_9
 have HC1_9 := Aside0.mk hc1_9
 clear hr1_9 hc1_9
 have HB := Aside0.mk (Below.refl w.heap.size w)
 have H := h
 clear h
 have HC4 := Aside0.mk H
 clear H
 go_enter Try.func24, Try.ntmps24
 go_upto_region 1 with (((with_reducible refine gate_dst (N := 4) rfl ?_); (try (refine gate_guard (by rfl) ?_; dsimp only)); refine boxA HB 4 #[.int .i64 a1_0, .int .i64 a1_1, .int .i64 a1_2, .string a1_3, .string a1_4, .int .i64 a1_5, .int .u64 a1_6, .int .u64 a1_7, .bool a1_8, .slice A1_9 l1_9.length c1_9] 27 ?_; clear HB; intro gb208 w5 BK208 GE208 hg hb HB; clear hb hg))
 go_cut [15] (fun v15 wc => ∃ (kq : Nat) (x15_3 : Bool), v15 = .bool x15_3 ∧ Aside0 (maskref1_nodeFault.j0 kq l0 a2 x15_3 a1_0 a1_1 a1_2 a1_3 a1_4 a1_5 a1_6 a1_7 a1_8 l1_9 = some r) ∧ Aside0 (kq ≤ k) ∧ Aside0 (wc.heap[gb208]? = some (.cells #[.int .i64 a1_0, .int .i64 a1_1, .int .i64 a1_2, .string a1_3, .string a1_4, .int .i64 a1_5, .int .u64 a1_6, .int .u64 a1_7, .bool a1_8, (.slice A1_9 l1_9.length c1_9)] 27 (0, 0))) ∧ Aside0 (Below w.heap.size w wc))
 case first =>
  have H := HC4.out
  clear HC4
  replace H := iD H; rcases H with ⟨c6b0, H⟩ | ⟨c6b0, H⟩
  ·(skip)
   have H' := Aside0.mk H
   clear H
   obtain ⟨hcz7_0, hcz7_1, hcz7_2, hcz7_3, hcz7_4, hcz7_5, hcz7_6, hcz7_7, hcz7_8, hcz7_9⟩ := sq_cells10 (W := w5) (g := gb208) BK208.out; obtain ⟨hfz7_0, hfz7_1, hfz7_2, hfz7_3, hfz7_4, hfz7_5, hfz7_6, hfz7_7, hfz7_8, hfz7_9⟩ := sq_frozen10 BK208.out
   go_wp2
   go_meet
   case rel => exact ⟨_, (true), (by rfl), H', ⟨by omega⟩, ⟨by exact BK208.out⟩, ⟨by repeat (with_reducible exact HB.out)⟩⟩
  ·(skip)
   replace H := iD H; rcases H with ⟨c8b0, H⟩ | ⟨c8b0, H⟩
   ·replace c8b0 : decide ((l0.length : Int) ≤ a1_0) = true := c8b0
    have H' := Aside0.mk H
    clear H
    obtain ⟨hcz9_0, hcz9_1, hcz9_2, hcz9_3, hcz9_4, hcz9_5, hcz9_6, hcz9_7, hcz9_8, hcz9_9⟩ := sq_cells10 (W := w5) (g := gb208) BK208.out; obtain ⟨hfz9_0, hfz9_1, hfz9_2, hfz9_3, hfz9_4, hfz9_5, hfz9_6, hfz9_7, hfz9_8, hfz9_9⟩ := sq_frozen10 BK208.out
    go_wp2
    go_meet
    case rel => exact ⟨_, (true), (by rfl), H', ⟨by omega⟩, ⟨by exact BK208.out⟩, ⟨by repeat (with_reducible exact HB.out)⟩⟩
   ·replace c8b0 : decide ((l0.length : Int) ≤ a1_0) = false := c8b0
    replace H := iD H; rcases H with ⟨c10b0, H⟩ | ⟨c10b0, H⟩
    ·have H' := Aside0.mk H
     clear H
     obtain ⟨hcz11_0, hcz11_1, hcz11_2, hcz11_3, hcz11_4, hcz11_5, hcz11_6, hcz11_7, hcz11_8, hcz11_9⟩ := sq_cells10 (W := w5) (g := gb208) BK208.out; obtain ⟨hfz11_0, hfz11_1, hfz11_2, hfz11_3, hfz11_4, hfz11_5, hfz11_6, hfz11_7, hfz11_8, hfz11_9⟩ := sq_frozen10 BK208.out
     go_wp2
     go_meet
     case rel => exact ⟨_, (true), (by rfl), H', ⟨by omega⟩, ⟨by exact BK208.out⟩, ⟨by repeat (with_reducible exact HB.out)⟩⟩
    ·have H' := Aside0.mk H
     clear H
     obtain ⟨hcz12_0, hcz12_1, hcz12_2, hcz12_3, hcz12_4, hcz12_5, hcz12_6, hcz12_7, hcz12_8, hcz12_9⟩ := sq_cells10 (W := w5) (g := gb208) BK208.out; obtain ⟨hfz12_0, hfz12_1, hfz12_2, hfz12_3, hfz12_4, hfz12_5, hfz12_6, hfz12_7, hfz12_8, hfz12_9⟩ := sq_frozen10 BK208.out
     go_wp2
     go_meet
     case rel => exact ⟨_, (decide (a1_2 < 0)), (by rfl), H', ⟨by omega⟩, ⟨by exact BK208.out⟩, ⟨by repeat (with_reducible exact HB.out)⟩⟩
 case rest =>
  clear HC4
  obtain ⟨kq, x15_3, rfl, HA, HJ3, BK208, HB⟩ := hcut
  cases kq with
  | zero => exact absurd HA.out (by simp [maskref1_nodeFault.j0])
  | succ kj3 =>
   have H := HA.out
   clear HA
   simp only [maskref1_nodeFault.j0] at H
   replace H := iB H; rcases H with ⟨rfl, H⟩ | ⟨rfl, H⟩
   ·obtain rfl := Option.some.inj H
    go_wp2
    go_ret
    exact ⟨by rfl, by repeat (with_reducible exact HB.out)⟩
   ·replace H := iN H; obtain ⟨c14b0, H⟩ := H
    replace H := iN H; obtain ⟨c15b0, H⟩ := H
    replace H := bN H; obtain ⟨t210, A16, H⟩ := H
    replace H := iB H; rcases H with ⟨rfl, H⟩ | ⟨rfl, H⟩
    ·replace H := bN H; obtain ⟨t212, A18, H⟩ := H
     replace H := iE H; rcases H with ⟨c19b0, c19b1, H⟩ | ⟨c19, c19b0, c19b1, H⟩
     ·replace H := bN H; obtain ⟨⟨t214, t215⟩, A20, H⟩ := H; dsimp only at H
      have HC21 := Aside0.mk H
      clear H
      obtain ⟨hcz22_0, hcz22_1, hcz22_2, hcz22_3, hcz22_4, hcz22_5, hcz22_6, hcz22_7, hcz22_8, hcz22_9⟩ := sq_cells10 (W := wc) (g := gb208) BK208.out; obtain ⟨hfz22_0, hfz22_1, hfz22_2, hfz22_3, hfz22_4, hfz22_5, hfz22_6, hfz22_7, hfz22_8, hfz22_9⟩ := sq_frozen10 BK208.out
      have p209 : 0 ≤ (a1_0 : Int) := of_decide_eq_true (by (with_reducible assumption))
      have q209 : a1_0 < (l0.length : Int) := of_decide_eq_true (by (with_reducible assumption))
      obtain ⟨ad209, e209, hx209_0, hx209_1, hx209_2⟩ := at_T73 HR0.out a1_0 p209 q209
      cases e209
      replace hx209_0 := (HB.out.cell (World.block_lt_of_cell? w _ hx209_0)).trans hx209_0
      replace hx209_1 := (HB.out.cell (World.block_lt_of_cell? w _ hx209_1)).trans hx209_1
      replace hx209_2 := (HB.out.cell (World.block_lt_of_cell? w _ hx209_2)).trans hx209_2
      replace p209 := eq_true p209
      replace q209 := eq_true q209
      try go_wp2_with ((refine callA (some 44) Try.func34 #[.string ((rd_T73 l0 a1_0).f0), .string a2] ?_; (with_reducible refine (maskref1_contains.calls kj3 ((rd_T73 l0 a1_0).f0) a2 true _ A16.out).mono ?_); rintro e w' ⟨rfl, ⟨nd, rfl⟩⟩; refine ⟨_, rfl, ?_⟩))
      (try (rw [drewN_self wc]; generalize hq_ : World.drewN wc _ = wc; have n0_ : Aside0 (wc.heap[gb208]? = some (.cells #[.int .i64 a1_0, .int .i64 a1_1, .int .i64 a1_2, .string a1_3, .string a1_4, .int .i64 a1_5, .int .u64 a1_6, .int .u64 a1_7, .bool a1_8, .slice A1_9 l1_9.length c1_9] 27 (0, 0))) := ⟨by rw [← hq_]; exact (by (with_reducible repeat (refine blk_drewN ?_ _)); exact BK208.out)⟩; have n1_ : Aside0 (Below w.heap.size w wc) := ⟨by rw [← hq_]; exact (by repeat (with_reducible first | exact HB.out | apply pw_below_drewN))⟩; clear BK208 HB hq_; have BK208 := n0_; have HB := n1_; clear n0_ n1_))
      replace BK208 := bkd BK208
      replace HB := hbd HB
      have p211 : 0 ≤ (a1_0 : Int) := of_decide_eq_true (by (with_reducible assumption))
      have q211 : a1_0 < (l0.length : Int) := of_decide_eq_true (by (with_reducible assumption))
      obtain ⟨ad211, e211, hx211_0, hx211_1, hx211_2⟩ := at_T73 HR0.out a1_0 p211 q211
      have hw211_2 := hx211_2
      have hw211_1 := hx211_1
      have hw211_0 := hx211_0
      obtain rfl : ad209 = ad211 := (by injection e211)
      replace hx211_0 := (HB.out.cell (World.block_lt_of_cell? w _ hx211_0)).trans hx211_0
      replace hx211_1 := (HB.out.cell (World.block_lt_of_cell? w _ hx211_1)).trans hx211_1
      replace hx211_2 := (HB.out.cell (World.block_lt_of_cell? w _ hx211_2)).trans hx211_2
      replace p211 := eq_true p211
      replace q211 := eq_true q211
      refine start_ (n := 9) (S := fun w' => w'.cell? ⟨gb208, 0, none⟩ = some (.int .i64 a1_0) ∧ w'.cell? ⟨gb208, 1, none⟩ = some (.int .i64 a1_1) ∧ w'.cell? ⟨gb208, 2, none⟩ = some (.int .i64 a1_2) ∧ w'.cell? ⟨gb208, 3, none⟩ = some (.string a1_3) ∧ w'.cell? ⟨gb208, 4, none⟩ = some (.string a1_4) ∧ w'.cell? ⟨gb208, 5, none⟩ = some (.int .i64 a1_5) ∧ w'.cell? ⟨gb208, 6, none⟩ = some (.int .u64 a1_6) ∧ w'.cell? ⟨gb208, 7, none⟩ = some (.int .u64 a1_7) ∧ w'.cell? ⟨gb208, 8, none⟩ = some (.bool a1_8) ∧ w'.cell? ⟨gb208, 9, none⟩ = some (.slice A1_9 l1_9.length c1_9) ∧ w'.cell? (ad209.add ((a1_0).toNat * 3)) = some (.string ((rd_T73 l0 a1_0).f0)) ∧ w'.cell? ⟨(ad209.add ((a1_0).toNat * 3)).block, (ad209.add ((a1_0).toNat * 3)).off + 1, none⟩ = some (.string ((rd_T73 l0 a1_0).f1)) ∧ w'.cell? ⟨(ad209.add ((a1_0).toNat * 3)).block, (ad209.add ((a1_0).toNat * 3)).off + 2, none⟩ = some (.string ((rd_T73 l0 a1_0).f2))) (ds := []) (tb 9 0) (by kernel_rfl) rfl (by kernel_rfl) ⟨(blk_cell BK208.out 0).trans rfl, (blk_cell BK208.out 1).trans rfl, (blk_cell BK208.out 2).trans rfl, (blk_cell BK208.out 3).trans rfl, (blk_cell BK208.out 4).trans rfl, (blk_cell BK208.out 5).trans rfl, (blk_cell BK208.out 6).trans rfl, (blk_cell BK208.out 7).trans rfl, (blk_cell BK208.out 8).trans rfl, (blk_cell BK208.out 9).trans rfl, ((HB.out.cell (World.block_lt_of_cell? w _ hw211_0)).trans hw211_0), ((HB.out.cell (World.block_lt_of_cell? w _ hw211_1)).trans hw211_1), ((HB.out.cell (World.block_lt_of_cell? w _ hw211_2)).trans hw211_2)⟩ (fun hHeld => ?_); refine with_tabW maskref1_nodeFault.tab5 maskref1_nodeFault.bits5 (fun HT_ HW_ => ?_)
      generalize wc.drew = w23 at BK208 HB hx211_0 hx211_1 hx211_2 hHeld ⊢
      refine pA 0 46 (tb 9 1) HT_ ?_
      refine pA 1 47 (tb 9 3) HT_ ?_
      refine tA 2 48 (tb 9 7) HT_ HW_ hHeld ?_
      refine pA 3 49 (tb 9 15) HT_ ?_
      refine pA 4 50 (tb 9 31) HT_ ?_
      refine tA 5 51 (tb 9 63) HT_ HW_ hHeld ?_
      refine tA 6 52 (tb 9 127) HT_ HW_ hHeld ?_
      refine oA 7 (some 53) (tb 9 255) HT_ (fun K hK => ?_)
      refine gA Try.func35 #[.string ((rd_T73 l0 a1_0).f2), .agg #[.int .i64 a1_0, .int .i64 a1_1, .int .i64 a1_2, .string a1_3, .string a1_4, .int .i64 a1_5, .int .u64 a1_6, .int .u64 a1_7, .bool a1_8, .slice A1_9 l1_9.length c1_9]] ?_
      with_reducible refine (maskref1_fieldFault.calls kj3 ((rd_T73 l0 a1_0).f2) a1_0 a1_1 a1_2 a1_3 a1_4 a1_5 a1_6 a1_7 a1_8 _ _ l1_9 t212 _ ?side1 ?side2 A18.out).mono ?_
      (case side1 => exact (Kd.C_below HR1_9.out HB.out))
      (case side2 => exact HC1_9.out)
      rintro e w24 ⟨rfl, hb⟩
      refine ⟨_, rfl, ?_⟩
      replace BK208 := bk1 BK208 hb
      replace HB := hb1 HB hb
      (try clear hb)
      refine hK.out _ _ ⟨(blk_cell BK208.out 0).trans rfl, (blk_cell BK208.out 1).trans rfl, (blk_cell BK208.out 2).trans rfl, (blk_cell BK208.out 3).trans rfl, (blk_cell BK208.out 4).trans rfl, (blk_cell BK208.out 5).trans rfl, (blk_cell BK208.out 6).trans rfl, (blk_cell BK208.out 7).trans rfl, (blk_cell BK208.out 8).trans rfl, (blk_cell BK208.out 9).trans rfl, ((HB.out.cell (World.block_lt_of_cell? w _ hw211_0)).trans hw211_0), ((HB.out.cell (World.block_lt_of_cell? w _ hw211_1)).trans hw211_1), ((HB.out.cell (World.block_lt_of_cell? w _ hw211_2)).trans hw211_2)⟩ (fun hHeld => ?_)
      clear hK K
      refine nA ?_
      refine pA 8 7 (tb 9 511) HT_ ?_
      refine done_ (done_of HT_.out (by kernel_rfl)) ?_
      try go_wp2
      replace BK208 := bkd BK208
      replace HB := hbd HB
      have p213 : 0 ≤ (a1_0 : Int) := of_decide_eq_true (by (with_reducible assumption))
      have q213 : a1_0 < (l0.length : Int) := of_decide_eq_true (by (with_reducible assumption))
      obtain ⟨ad213, e213, hx213_0, hx213_1, hx213_2⟩ := at_T73 HR0.out a1_0 p213 q213
      have hw213_2 := hx213_2
      have hw213_1 := hx213_1
      have hw213_0 := hx213_0
      obtain rfl : ad209 = ad213 := (by injection e213)
      replace hx213_0 := (HB.out.cell (World.block_lt_of_cell? w _ hx213_0)).trans hx213_0
      replace hx213_1 := (HB.out.cell (World.block_lt_of_cell? w _ hx213_1)).trans hx213_1
      replace hx213_2 := (HB.out.cell (World.block_lt_of_cell? w _ hx213_2)).trans hx213_2
      replace p213 := eq_true p213
      replace q213 := eq_true q213
      refine start_ (n := 15) (S := fun w' => w'.cell? ⟨gb208, 0, none⟩ = some (.int .i64 a1_0) ∧ w'.cell? ⟨gb208, 1, none⟩ = some (.int .i64 a1_1) ∧ w'.cell? ⟨gb208, 2, none⟩ = some (.int .i64 a1_2) ∧ w'.cell? ⟨gb208, 3, none⟩ = some (.string a1_3) ∧ w'.cell? ⟨gb208, 4, none⟩ = some (.string a1_4) ∧ w'.cell? ⟨gb208, 5, none⟩ = some (.int .i64 a1_5) ∧ w'.cell? ⟨gb208, 6, none⟩ = some (.int .u64 a1_6) ∧ w'.cell? ⟨gb208, 7, none⟩ = some (.int .u64 a1_7) ∧ w'.cell? ⟨gb208, 8, none⟩ = some (.bool a1_8) ∧ w'.cell? ⟨gb208, 9, none⟩ = some (.slice A1_9 l1_9.length c1_9) ∧ w'.cell? (ad209.add ((a1_0).toNat * 3)) = some (.string ((rd_T73 l0 a1_0).f0)) ∧ w'.cell? ⟨(ad209.add ((a1_0).toNat * 3)).block, (ad209.add ((a1_0).toNat * 3)).off + 1, none⟩ = some (.string ((rd_T73 l0 a1_0).f1)) ∧ w'.cell? ⟨(ad209.add ((a1_0).toNat * 3)).block, (ad209.add ((a1_0).toNat * 3)).off + 2, none⟩ = some (.string ((rd_T73 l0 a1_0).f2))) (ds := []) (tb 15 0) (by kernel_rfl) rfl (by kernel_rfl) ⟨(blk_cell BK208.out 0).trans rfl, (blk_cell BK208.out 1).trans rfl, (blk_cell BK208.out 2).trans rfl, (blk_cell BK208.out 3).trans rfl, (blk_cell BK208.out 4).trans rfl, (blk_cell BK208.out 5).trans rfl, (blk_cell BK208.out 6).trans rfl, (blk_cell BK208.out 7).trans rfl, (blk_cell BK208.out 8).trans rfl, (blk_cell BK208.out 9).trans rfl, ((HB.out.cell (World.block_lt_of_cell? w _ hw213_0)).trans hw213_0), ((HB.out.cell (World.block_lt_of_cell? w _ hw213_1)).trans hw213_1), ((HB.out.cell (World.block_lt_of_cell? w _ hw213_2)).trans hw213_2)⟩ (fun hHeld => ?_); refine with_tabW maskref1_nodeFault.tab8 maskref1_nodeFault.bits8 (fun HT_ HW_ => ?_)
      generalize w24.drew = w25 at BK208 HB hx213_0 hx213_1 hx213_2 hHeld ⊢
      refine pA 0 58 (tb 15 1) HT_ ?_
      refine pA 1 59 (tb 15 3) HT_ ?_
      refine pA 2 60 (tb 15 7) HT_ ?_
      refine pA 7 65 (tb 15 135) HT_ ?_
      refine tA 3 61 (tb 15 143) HT_ HW_ hHeld ?_
      refine pA 4 62 (tb 15 159) HT_ ?_
      refine pA 5 63 (tb 15 191) HT_ ?_
      refine tA 6 64 (tb 15 255) HT_ HW_ hHeld ?_
      refine tA 8 66 (tb 15 511) HT_ HW_ hHeld ?_
      refine oA 9 (some 67) (tb 15 1023) HT_ (fun K hK => ?_)
      refine gA Try.func36 #[.slice (some ad209) l0.length c0, .string ((rd_T73 l0 a1_0).f1), .slice A1_9 l1_9.length c1_9] ?_
      with_reducible refine (maskref1_taken.calls kj3 _ _ l0 ((rd_T73 l0 a1_0).f1) _ _ l1_9 t214 t215 _ ?side1 ?side2 ?side3 ?side4 A20.out).mono ?_
      (case side1 => exact (Kd.C_below HR0.out HB.out))
      (case side2 => exact HC0.out)
      (case side3 => exact (Kd.C_below HR1_9.out HB.out))
      (case side4 => exact HC1_9.out)
      rintro e w26 ⟨v216, rfl, ho0, hb⟩
      refine ⟨_, rfl, ?_⟩
      have HO217 := Aside0.mk (Kd.R_lower ho0 (below_size HB.out))
      replace BK208 := bk1 BK208 hb
      replace HB := hb1 HB hb
      (try clear hb)
      (try clear ho0)
      refine hK.out _ _ ⟨(blk_cell BK208.out 0).trans rfl, (blk_cell BK208.out 1).trans rfl, (blk_cell BK208.out 2).trans rfl, (blk_cell BK208.out 3).trans rfl, (blk_cell BK208.out 4).trans rfl, (blk_cell BK208.out 5).trans rfl, (blk_cell BK208.out 6).trans rfl, (blk_cell BK208.out 7).trans rfl, (blk_cell BK208.out 8).trans rfl, (blk_cell BK208.out 9).trans rfl, ((HB.out.cell (World.block_lt_of_cell? w _ hw213_0)).trans hw213_0), ((HB.out.cell (World.block_lt_of_cell? w _ hw213_1)).trans hw213_1), ((HB.out.cell (World.block_lt_of_cell? w _ hw213_2)).trans hw213_2)⟩ (fun hHeld => ?_)
      clear hK K
      refine nA ?_
      refine pA 10 57 (tb 15 2047) HT_ ?_
      refine pA 11 68 (tb 15 4095) HT_ ?_
      refine pA 12 69 (tb 15 8191) HT_ ?_
      refine pA 13 8 (tb 15 16383) HT_ ?_
      refine pA 14 9 (tb 15 32767) HT_ ?_
      refine done_ (done_of HT_.out (by kernel_rfl)) ?_
      go_upto_region 9 with (fail)
      go_cut [91] (fun v91 wc => ∃ (kq : Nat) (x91_20 : Bool), v91 = .bool x91_20 ∧ Aside0 (maskref1_nodeFault.j1 kq l0 a2 t214 x91_20 a1_0 a1_1 a1_2 a1_3 a1_4 a1_5 a1_6 a1_7 a1_8 l1_9 = some r) ∧ Aside0 (kq ≤ kj3) ∧ Aside0 (Kd.R Kd.string 9 wc w.heap.size (fun _ => True) v216 t214) ∧ Aside0 (wc.heap[gb208]? = some (.cells #[.int .i64 a1_0, .int .i64 a1_1, .int .i64 a1_2, .string a1_3, .string a1_4, .int .i64 a1_5, .int .u64 a1_6, .int .u64 a1_7, .bool a1_8, (.slice A1_9 l1_9.length c1_9)] 27 (0, 0))) ∧ Aside0 (Below w.heap.size w wc))
      case first => as_aux_lemma =>
       have H := HC21.out
       clear HC21
       replace H := iB H; rcases H with ⟨rfl, H⟩ | ⟨rfl, H⟩
       ·replace H := iE H; rcases H with ⟨c28b0, c28b1, H⟩ | ⟨c28, c28b0, c28b1, H⟩
        ·(skip)
         by_cases c29 : 2 < (l1_9.length : Int)
         ·rw [if_pos c29] at H
          have c29b0 : decide (2 < (l1_9.length : Int)) = true := decide_eq_true c29
          have c29b1 : decide (2 < l1_9.length) = true := decide_eq_true (by omega)
          clear c29
          replace H := iE H; rcases H with ⟨c30b0, c30b1, H⟩ | ⟨c30, c30b0, c30b1, H⟩
          ·have H' := Aside0.mk H
           clear H
           obtain ⟨hcz31_0, hcz31_1, hcz31_2, hcz31_3, hcz31_4, hcz31_5, hcz31_6, hcz31_7, hcz31_8, hcz31_9⟩ := sq_cells10 (W := w26) (g := gb208) BK208.out; obtain ⟨hfz31_0, hfz31_1, hfz31_2, hfz31_3, hfz31_4, hfz31_5, hfz31_6, hfz31_7, hfz31_8, hfz31_9⟩ := sq_frozen10 BK208.out
           have p218 : 0 ≤ (2 : Int) := (by omega)
           have q218 : 2 < (l1_9.length : Int) := of_decide_eq_true (by (with_reducible assumption))
           obtain ⟨ad218, A218_9, c218_9, e218, hx218_0, hx218_1, hx218_2, hx218_3, hx218_4, hx218_5, hx218_6, hx218_7, hx218_8, hx218_9, hl218_9, hi218_9⟩ := at_T27 HR1_9.out 2 p218 q218
           cases e218
           (try simp only [show (2 : Int).toNat = 2 from rfl, Nat.reduceMul, Nat.reduceEqDiff, Go.Addr.add, ↓reduceIte] at hx218_0)
           (try simp only [show (2 : Int).toNat = 2 from rfl, Nat.reduceMul, Nat.reduceEqDiff, Go.Addr.add, ↓reduceIte] at hx218_1)
           (try simp only [show (2 : Int).toNat = 2 from rfl, Nat.reduceMul, Nat.reduceEqDiff, Go.Addr.add, ↓reduceIte] at hx218_2)
           (try simp only [show (2 : Int).toNat = 2 from rfl, Nat.reduceMul, Nat.reduceEqDiff, Go.Addr.add, ↓reduceIte] at hx218_3)
           (try simp only [show (2 : Int).toNat = 2 from rfl, Nat.reduceMul, Nat.reduceEqDiff, Go.Addr.add, ↓reduceIte] at hx218_4)
           (try simp only [show (2 : Int).toNat = 2 from rfl, Nat.reduceMul, Nat.reduceEqDiff, Go.Addr.add, ↓reduceIte] at hx218_5)
           (try simp only [show (2 : Int).toNat = 2 from rfl, Nat.reduceMul, Nat.reduceEqDiff, Go.Addr.add, ↓reduceIte] at hx218_6)
           (try simp only [show (2 : Int).toNat = 2 from rfl, Nat.reduceMul, Nat.reduceEqDiff, Go.Addr.add, ↓reduceIte] at hx218_7)
           (try simp only [show (2 : Int).toNat = 2 from rfl, Nat.reduceMul, Nat.reduceEqDiff, Go.Addr.add, ↓reduceIte] at hx218_8)
           (try simp only [show (2 : Int).toNat = 2 from rfl, Nat.reduceMul, Nat.reduceEqDiff, Go.Addr.add, ↓reduceIte] at hx218_9)
           have qi218 : (2 < l1_9.length) = True := eq_true (by omega)
           replace hx218_0 := (HB.out.cell (World.block_lt_of_cell? w _ hx218_0)).trans hx218_0
           replace hx218_1 := (HB.out.cell (World.block_lt_of_cell? w _ hx218_1)).trans hx218_1
           replace hx218_2 := (HB.out.cell (World.block_lt_of_cell? w _ hx218_2)).trans hx218_2
           replace hx218_3 := (HB.out.cell (World.block_lt_of_cell? w _ hx218_3)).trans hx218_3
           replace hx218_4 := (HB.out.cell (World.block_lt_of_cell? w _ hx218_4)).trans hx218_4
           replace hx218_5 := (HB.out.cell (World.block_lt_of_cell? w _ hx218_5)).trans hx218_5
           replace hx218_6 := (HB.out.cell (World.block_lt_of_cell? w _ hx218_6)).trans hx218_6
           replace hx218_7 := (HB.out.cell (World.block_lt_of_cell? w _ hx218_7)).trans hx218_7
           replace hx218_8 := (HB.out.cell (World.block_lt_of_cell? w _ hx218_8)).trans hx218_8
           replace hx218_9 := (HB.out.cell (World.block_lt_of_cell? w _ hx218_9)).trans hx218_9
           have HR218_9 := Aside0.mk hi218_9
           have HC218_9 := Aside0.mk hl218_9
           clear hi218_9 hl218_9
           replace p218 := eq_true p218
           replace q218 := eq_true q218
           go_wp2
           go_meet
           case rel => exact ⟨_, (false), (by rfl), H', ⟨by have := HJ3.out; omega⟩, ⟨by exact HO217.out⟩, ⟨by exact BK208.out⟩, ⟨by repeat (with_reducible exact HB.out)⟩⟩
          ·by_cases c32 : 1 < (l1_9.length : Int)
           ·rw [if_pos c32] at H
            have c32b0 : decide (1 < (l1_9.length : Int)) = true := decide_eq_true c32
            have c32b1 : decide (1 < l1_9.length) = true := decide_eq_true (by omega)
            clear c32
            replace H := bN H; obtain ⟨t220, A33, H⟩ := H
            have H' := Aside0.mk H
            clear H
            obtain ⟨hcz34_0, hcz34_1, hcz34_2, hcz34_3, hcz34_4, hcz34_5, hcz34_6, hcz34_7, hcz34_8, hcz34_9⟩ := sq_cells10 (W := w26) (g := gb208) BK208.out; obtain ⟨hfz34_0, hfz34_1, hfz34_2, hfz34_3, hfz34_4, hfz34_5, hfz34_6, hfz34_7, hfz34_8, hfz34_9⟩ := sq_frozen10 BK208.out
            have p218 : 0 ≤ (2 : Int) := (by omega)
            have q218 : 2 < (l1_9.length : Int) := of_decide_eq_true (by (with_reducible assumption))
            obtain ⟨ad218, A218_9, c218_9, e218, hx218_0, hx218_1, hx218_2, hx218_3, hx218_4, hx218_5, hx218_6, hx218_7, hx218_8, hx218_9, hl218_9, hi218_9⟩ := at_T27 HR1_9.out 2 p218 q218
            cases e218
            (try simp only [show (2 : Int).toNat = 2 from rfl, Nat.reduceMul, Nat.reduceEqDiff, Go.Addr.add, ↓reduceIte] at hx218_0)
            (try simp only [show (2 : Int).toNat = 2 from rfl, Nat.reduceMul, Nat.reduceEqDiff, Go.Addr.add, ↓reduceIte] at hx218_1)
            (try simp only [show (2 : Int).toNat = 2 from rfl, Nat.reduceMul, Nat.reduceEqDiff, Go.Addr.add, ↓reduceIte] at hx218_2)
            (try simp only [show (2 : Int).toNat = 2 from rfl, Nat.reduceMul, Nat.reduceEqDiff, Go.Addr.add, ↓reduceIte] at hx218_3)
            (try simp only [show (2 : Int).toNat = 2 from rfl, Nat.reduceMul, Nat.reduceEqDiff, Go.Addr.add, ↓reduceIte] at hx218_4)
            (try simp only [show (2 : Int).toNat = 2 from rfl, Nat.reduceMul, Nat.reduceEqDiff, Go.Addr.add, ↓reduceIte] at hx218_5)
            (try simp only [show (2 : Int).toNat = 2 from rfl, Nat.reduceMul, Nat.reduceEqDiff, Go.Addr.add, ↓reduceIte] at hx218_6)
            (try simp only [show (2 : Int).toNat = 2 from rfl, Nat.reduceMul, Nat.reduceEqDiff, Go.Addr.add, ↓reduceIte] at hx218_7)
            (try simp only [show (2 : Int).toNat = 2 from rfl, Nat.reduceMul, Nat.reduceEqDiff, Go.Addr.add, ↓reduceIte] at hx218_8)
            (try simp only [show (2 : Int).toNat = 2 from rfl, Nat.reduceMul, Nat.reduceEqDiff, Go.Addr.add, ↓reduceIte] at hx218_9)
            have qi218 : (2 < l1_9.length) = True := eq_true (by omega)
            replace hx218_0 := (HB.out.cell (World.block_lt_of_cell? w _ hx218_0)).trans hx218_0
            replace hx218_1 := (HB.out.cell (World.block_lt_of_cell? w _ hx218_1)).trans hx218_1
            replace hx218_2 := (HB.out.cell (World.block_lt_of_cell? w _ hx218_2)).trans hx218_2
            replace hx218_3 := (HB.out.cell (World.block_lt_of_cell? w _ hx218_3)).trans hx218_3
            replace hx218_4 := (HB.out.cell (World.block_lt_of_cell? w _ hx218_4)).trans hx218_4
            replace hx218_5 := (HB.out.cell (World.block_lt_of_cell? w _ hx218_5)).trans hx218_5
            replace hx218_6 := (HB.out.cell (World.block_lt_of_cell? w _ hx218_6)).trans hx218_6
            replace hx218_7 := (HB.out.cell (World.block_lt_of_cell? w _ hx218_7)).trans hx218_7
            replace hx218_8 := (HB.out.cell (World.block_lt_of_cell? w _ hx218_8)).trans hx218_8
            replace hx218_9 := (HB.out.cell (World.block_lt_of_cell? w _ hx218_9)).trans hx218_9
            have HR218_9 := Aside0.mk hi218_9
            have HC218_9 := Aside0.mk hl218_9
            clear hi218_9 hl218_9
            replace p218 := eq_true p218
            replace q218 := eq_true q218
            have p219 : 0 ≤ (1 : Int) := (by omega)
            have q219 : 1 < (l1_9.length : Int) := of_decide_eq_true (by (with_reducible assumption))
            obtain ⟨ad219, A219_9, c219_9, e219, hx219_0, hx219_1, hx219_2, hx219_3, hx219_4, hx219_5, hx219_6, hx219_7, hx219_8, hx219_9, hl219_9, hi219_9⟩ := at_T27 HR1_9.out 1 p219 q219
            obtain rfl : ad218 = ad219 := (by injection e219)
            (try simp only [show (1 : Int).toNat = 1 from rfl, Nat.reduceMul, Nat.reduceEqDiff, Go.Addr.add, ↓reduceIte] at hx219_0)
            (try simp only [show (1 : Int).toNat = 1 from rfl, Nat.reduceMul, Nat.reduceEqDiff, Go.Addr.add, ↓reduceIte] at hx219_1)
            (try simp only [show (1 : Int).toNat = 1 from rfl, Nat.reduceMul, Nat.reduceEqDiff, Go.Addr.add, ↓reduceIte] at hx219_2)
            (try simp only [show (1 : Int).toNat = 1 from rfl, Nat.reduceMul, Nat.reduceEqDiff, Go.Addr.add, ↓reduceIte] at hx219_3)
            (try simp only [show (1 : Int).toNat = 1 from rfl, Nat.reduceMul, Nat.reduceEqDiff, Go.Addr.add, ↓reduceIte] at hx219_4)
            (try simp only [show (1 : Int).toNat = 1 from rfl, Nat.reduceMul, Nat.reduceEqDiff, Go.Addr.add, ↓reduceIte] at hx219_5)
            (try simp only [show (1 : Int).toNat = 1 from rfl, Nat.reduceMul, Nat.reduceEqDiff, Go.Addr.add, ↓reduceIte] at hx219_6)
            (try simp only [show (1 : Int).toNat = 1 from rfl, Nat.reduceMul, Nat.reduceEqDiff, Go.Addr.add, ↓reduceIte] at hx219_7)
            (try simp only [show (1 : Int).toNat = 1 from rfl, Nat.reduceMul, Nat.reduceEqDiff, Go.Addr.add, ↓reduceIte] at hx219_8)
            (try simp only [show (1 : Int).toNat = 1 from rfl, Nat.reduceMul, Nat.reduceEqDiff, Go.Addr.add, ↓reduceIte] at hx219_9)
            have qi219 : (1 < l1_9.length) = True := eq_true (by omega)
            replace hx219_0 := (HB.out.cell (World.block_lt_of_cell? w _ hx219_0)).trans hx219_0
            replace hx219_1 := (HB.out.cell (World.block_lt_of_cell? w _ hx219_1)).trans hx219_1
            replace hx219_2 := (HB.out.cell (World.block_lt_of_cell? w _ hx219_2)).trans hx219_2
            replace hx219_3 := (HB.out.cell (World.block_lt_of_cell? w _ hx219_3)).trans hx219_3
            replace hx219_4 := (HB.out.cell (World.block_lt_of_cell? w _ hx219_4)).trans hx219_4
            replace hx219_5 := (HB.out.cell (World.block_lt_of_cell? w _ hx219_5)).trans hx219_5
            replace hx219_6 := (HB.out.cell (World.block_lt_of_cell? w _ hx219_6)).trans hx219_6
            replace hx219_7 := (HB.out.cell (World.block_lt_of_cell? w _ hx219_7)).trans hx219_7
            replace hx219_8 := (HB.out.cell (World.block_lt_of_cell? w _ hx219_8)).trans hx219_8
            replace hx219_9 := (HB.out.cell (World.block_lt_of_cell? w _ hx219_9)).trans hx219_9
            have HR219_9 := Aside0.mk hi219_9
            have HC219_9 := Aside0.mk hl219_9
            clear hi219_9 hl219_9
            replace p219 := eq_true p219
            replace q219 := eq_true q219
            go_wp2_with ((go_at_call 37; (with_reducible refine (maskref1_hangs.calls kj3 ((rd_T27 l1_9 1).f0) ((rd_T27 l1_9 1).f1) ((rd_T27 l1_9 1).f2) ((rd_T27 l1_9 1).f3) ((rd_T27 l1_9 1).f4) ((rd_T27 l1_9 1).f5.f0) ((rd_T27 l1_9 1).f5.f1) ((rd_T27 l1_9 1).f5.f2) ((rd_T27 l1_9 1).f6) _ _ ((rd_T27 l1_9 1).f7) t220 _ ?side1 ?side2 A33.out).mono ?_); (case side1 => exact (Kd.C_below HR219_9.out HB.out)); (case side2 => exact HC219_9.out); rintro e w35 ⟨rfl, hb⟩; replace HO217 := Kd.rb1 HO217 hb; replace BK208 := bk1 BK208 hb; replace HB := hb1 HB hb; (try clear hb)))
            go_meet
            case rel => exact ⟨_, (t220), (by rfl), H', ⟨by have := HJ3.out; omega⟩, ⟨by exact HO217.out⟩, ⟨by exact BK208.out⟩, ⟨by repeat (with_reducible exact HB.out)⟩⟩
           ·rw [if_neg c32] at H
            exact absurd H (by simp)
         ·rw [if_neg c29] at H
          exact absurd H (by simp)
        ·(skip)
         have H' := Aside0.mk H
         clear H
         obtain ⟨hcz36_0, hcz36_1, hcz36_2, hcz36_3, hcz36_4, hcz36_5, hcz36_6, hcz36_7, hcz36_8, hcz36_9⟩ := sq_cells10 (W := w26) (g := gb208) BK208.out; obtain ⟨hfz36_0, hfz36_1, hfz36_2, hfz36_3, hfz36_4, hfz36_5, hfz36_6, hfz36_7, hfz36_8, hfz36_9⟩ := sq_frozen10 BK208.out
         go_wp2
         go_meet
         case rel => exact ⟨_, (false), (by rfl), H', ⟨by have := HJ3.out; omega⟩, ⟨by exact HO217.out⟩, ⟨by exact BK208.out⟩, ⟨by repeat (with_reducible exact HB.out)⟩⟩
       ·have H' := Aside0.mk H
        clear H
        go_wp2
        go_meet
        case rel => exact ⟨_, (true), (by rfl), H', ⟨by have := HJ3.out; omega⟩, ⟨by exact HO217.out⟩, ⟨by exact BK208.out⟩, ⟨by repeat (with_reducible exact HB.out)⟩⟩
      case rest =>
       clear HC21
       (try clear hcz22_0 hcz22_1 hcz22_2 hcz22_3 hcz22_4 hcz22_5 hcz22_6 hcz22_7 hcz22_8 hcz22_9); (try clear hfz22_0 hfz22_1 hfz22_2 hfz22_3 hfz22_4 hfz22_5 hfz22_6 hfz22_7 hfz22_8 hfz22_9); (try clear hx209_0); (try clear hx209_1); (try clear hx209_2); (try clear hx211_0); (try clear hx211_1); (try clear hx211_2); (try clear hx213_0); (try clear hx213_1); (try clear hx213_2); (try clear p209); (try clear p211); (try clear p213); (try clear q209); (try clear q211); (try clear q213)
       obtain ⟨kq, x91_20, rfl, HA, HJ20, HO_8, BK208, HB⟩ := hcut
       cases kq with
       | zero => exact absurd HA.out (by simp [maskref1_nodeFault.j1])
       | succ kj20 =>
        have H := HA.out
        clear HA
        simp only [maskref1_nodeFault.j1] at H
        replace H := iB H; rcases H with ⟨rfl, H⟩ | ⟨rfl, H⟩
        ·obtain rfl := Option.some.inj H
         go_wp2
         go_ret
         exact ⟨by rfl, by repeat (with_reducible exact HB.out)⟩
        ·have H' := Aside0.mk H
         clear H
         obtain ⟨hcz38_0, hcz38_1, hcz38_2, hcz38_3, hcz38_4, hcz38_5, hcz38_6, hcz38_7, hcz38_8, hcz38_9⟩ := sq_cells10 (W := wc) (g := gb208) BK208.out; obtain ⟨hfz38_0, hfz38_1, hfz38_2, hfz38_3, hfz38_4, hfz38_5, hfz38_6, hfz38_7, hfz38_8, hfz38_9⟩ := sq_frozen10 BK208.out
         go_wp2
         go_loopg [95] kj20 (fun kq v95 w' => ∃ (x95_3 : Int), v95 = .int .i64 x95_3 ∧ Aside0 (maskref1_nodeFault.l0 kq l0 a2 t214 l1_9 (l1_9.length : Int) x95_3 a1_0 a1_1 a1_2 a1_3 a1_4 a1_5 a1_6 a1_7 a1_8 l1_9 = some r) ∧ Aside0 (kq ≤ kj20) ∧ Aside0 (Kd.R Kd.string 9 w' w.heap.size (fun _ => True) v216 t214) ∧ Aside0 (w'.heap[gb208]? = some (.cells #[.int .i64 a1_0, .int .i64 a1_1, .int .i64 a1_2, .string a1_3, .string a1_4, .int .i64 a1_5, .int .u64 a1_6, .int .u64 a1_7, .bool a1_8, (.slice A1_9 l1_9.length c1_9)] 27 (0, 0))) ∧ Aside0 (Below w.heap.size w w'))
         case atStart => exact ⟨(0), (by rfl), H', ⟨Nat.le_refl _⟩, ⟨by exact HO_8.out⟩, ⟨by exact BK208.out⟩, ⟨by repeat (with_reducible exact HB.out)⟩⟩
         case round =>
          clear H'
          (try clear hcz38_0 hcz38_1 hcz38_2 hcz38_3 hcz38_4 hcz38_5 hcz38_6 hcz38_7 hcz38_8 hcz38_9); (try clear hfz38_0 hfz38_1 hfz38_2 hfz38_3 hfz38_4 hfz38_5 hfz38_6 hfz38_7 hfz38_8 hfz38_9)
          obtain ⟨x95_3, rfl, HA, HK3, HO_8, BK208, HB⟩ := hrel
          cases gk with
          | zero => exact absurd HA.out (by simp [maskref1_nodeFault.l0])
          | succ k3 =>
           have H := HA.out
           clear HA
           simp only [maskref1_nodeFault.l0] at H
           replace H := iD H; rcases H with ⟨c39b0, H⟩ | ⟨c39b0, H⟩
           ·replace H := iN H; obtain ⟨c40b0, H⟩ := H
            replace H := iN H; obtain ⟨c41b0, H⟩ := H
            replace H := iN H; obtain ⟨c42b0, H⟩ := H
            have HC43 := Aside0.mk H
            clear H
            have p221 : 0 ≤ (x95_3 : Int) := of_decide_eq_true (by (with_reducible assumption))
            have q221 : x95_3 < (l1_9.length : Int) := of_decide_eq_true (by (with_reducible assumption))
            obtain ⟨ad221, A221_9, c221_9, e221, hx221_0, hx221_1, hx221_2, hx221_3, hx221_4, hx221_5, hx221_6, hx221_7, hx221_8, hx221_9, hl221_9, hi221_9⟩ := at_T27 HR1_9.out x95_3 p221 q221
            cases e221
            replace hx221_0 := (HB.out.cell (World.block_lt_of_cell? w _ hx221_0)).trans hx221_0
            replace hx221_1 := (HB.out.cell (World.block_lt_of_cell? w _ hx221_1)).trans hx221_1
            replace hx221_2 := (HB.out.cell (World.block_lt_of_cell? w _ hx221_2)).trans hx221_2
            replace hx221_3 := (HB.out.cell (World.block_lt_of_cell? w _ hx221_3)).trans hx221_3
            replace hx221_4 := (HB.out.cell (World.block_lt_of_cell? w _ hx221_4)).trans hx221_4
            replace hx221_5 := (HB.out.cell (World.block_lt_of_cell? w _ hx221_5)).trans hx221_5
            replace hx221_6 := (HB.out.cell (World.block_lt_of_cell? w _ hx221_6)).trans hx221_6
            replace hx221_7 := (HB.out.cell (World.block_lt_of_cell? w _ hx221_7)).trans hx221_7
            replace hx221_8 := (HB.out.cell (World.block_lt_of_cell? w _ hx221_8)).trans hx221_8
            replace hx221_9 := (HB.out.cell (World.block_lt_of_cell? w _ hx221_9)).trans hx221_9
            have HR221_9 := Aside0.mk hi221_9
            have HC221_9 := Aside0.mk hl221_9
            clear hi221_9 hl221_9
            replace p221 := eq_true p221
            replace q221 := eq_true q221
            go_upto_region 15 with (((with_reducible refine gate_dst (N := 11) rfl ?_); (try (refine gate_guard (by rfl) ?_; dsimp only)); refine box_event ?hg (N := 11) ?hd (cs := #[.int .i64 0, .int .i64 0, .int .i64 0, .string (⟨#[]⟩ : ByteArray), .string (⟨#[]⟩ : ByteArray), .int .i64 0, .int .u64 0, .int .u64 0, .bool false, .slice none 0 0]) (t := 27) ?hr ?_; (case hd => rfl); (case hg => rfl); (case hr => (go_simp; done)); intro gb222 hg w44 hbox hb; replace HO_8 := Kd.rb1 HO_8 hb; have BK222 := Aside0.mk (hbox); have GW222 := ge1 HB hg; have GE222 := ge1 HB hg; replace HB := hb1 HB hb; have NB208_222 := nbA BK208 hg; have NB222_208 := nbB BK208 hg; replace BK208 := bk1 BK208 hb; clear hb hbox hg; have hnb45 := NB222_208.out; have hnc45 := NB208_222.out; obtain ⟨hcz46_0, hcz46_1, hcz46_2, hcz46_3, hcz46_4, hcz46_5, hcz46_6, hcz46_7, hcz46_8, hcz46_9, hfz46_0, hfz46_1, hfz46_2, hfz46_3, hfz46_4, hfz46_5, hfz46_6, hfz46_7, hfz46_8, hfz46_9⟩ := cf10 BK222; obtain ⟨Ao47, co47, eo47⟩ := Kd.R_slice HO_8.out; subst eo47; have p223 : 0 ≤ (x95_3 : Int) := of_decide_eq_true (by (with_reducible assumption)); have q223 : x95_3 < (t214.length : Int) := of_decide_eq_true (by (with_reducible assumption)); obtain ⟨ad223, e223, hx223_0⟩ := Kd.at_string (Kd.R_reads' HO_8.out).2.2 x95_3 p223 q223; cases e223; have hn223_0 : ad223.block ≠ gb222 := Kd.own_blk (Kd.R_ne HO_8.out BK222.out (by decide)); have hn223_1 : ad223.block ≠ gb222 := Kd.own_blk (Kd.R_ne HO_8.out BK222.out (by decide)); have hn223_2 : ad223.block ≠ gb222 := Kd.own_blk (Kd.R_ne HO_8.out BK222.out (by decide)); have hn223_3 : ad223.block ≠ gb222 := Kd.own_blk (Kd.R_ne HO_8.out BK222.out (by decide)); have hn223_4 : ad223.block ≠ gb222 := Kd.own_blk (Kd.R_ne HO_8.out BK222.out (by decide)); have hn223_5 : ad223.block ≠ gb222 := Kd.own_blk (Kd.R_ne HO_8.out BK222.out (by decide)); have hn223_6 : ad223.block ≠ gb222 := Kd.own_blk (Kd.R_ne HO_8.out BK222.out (by decide)); have hn223_7 : ad223.block ≠ gb222 := Kd.own_blk (Kd.R_ne HO_8.out BK222.out (by decide)); have hn223_8 : ad223.block ≠ gb222 := Kd.own_blk (Kd.R_ne HO_8.out BK222.out (by decide)); have hn223_9 : ad223.block ≠ gb222 := Kd.own_blk (Kd.R_ne HO_8.out BK222.out (by decide)); replace hx223_0 := (cell_far (p := ⟨gb222, 0, none⟩) (by (rw [add_block]; exact hn223_0)) (.int .i64 ((rd_T27 l1_9 x95_3).f0))).trans hx223_0; replace hx223_0 := (cell_far (p := ⟨gb222, 1, none⟩) (by (rw [add_block]; exact hn223_1)) (.int .i64 ((rd_T27 l1_9 x95_3).f1))).trans hx223_0; replace hx223_0 := (cell_far (p := ⟨gb222, 2, none⟩) (by (rw [add_block]; exact hn223_2)) (.int .i64 ((rd_T27 l1_9 x95_3).f2))).trans hx223_0; replace hx223_0 := (cell_far (p := ⟨gb222, 3, none⟩) (by (rw [add_block]; exact hn223_3)) (.string ((rd_T27 l1_9 x95_3).f3))).trans hx223_0; replace hx223_0 := (cell_far (p := ⟨gb222, 4, none⟩) (by (rw [add_block]; exact hn223_4)) (.string ((rd_T27 l1_9 x95_3).f4))).trans hx223_0; replace hx223_0 := (cell_far (p := ⟨gb222, 5, none⟩) (by (rw [add_block]; exact hn223_5)) (.int .i64 ((rd_T27 l1_9 x95_3).f5.f0))).trans hx223_0; replace hx223_0 := (cell_far (p := ⟨gb222, 6, none⟩) (by (rw [add_block]; exact hn223_6)) (.int .u64 ((rd_T27 l1_9 x95_3).f5.f1))).trans hx223_0; replace hx223_0 := (cell_far (p := ⟨gb222, 7, none⟩) (by (rw [add_block]; exact hn223_7)) (.int .u64 ((rd_T27 l1_9 x95_3).f5.f2))).trans hx223_0; replace hx223_0 := (cell_far (p := ⟨gb222, 8, none⟩) (by (rw [add_block]; exact hn223_8)) (.bool ((rd_T27 l1_9 x95_3).f6))).trans hx223_0; replace hx223_0 := (cell_far (p := ⟨gb222, 9, none⟩) (by (rw [add_block]; exact hn223_9)) (.slice A221_9 ((rd_T27 l1_9 x95_3).f7).length c221_9)).trans hx223_0; clear hn223_0; clear hn223_1; clear hn223_2; clear hn223_3; clear hn223_4; clear hn223_5; clear hn223_6; clear hn223_7; clear hn223_8; clear hn223_9; replace p223 := eq_true p223; replace q223 := eq_true q223))
            go_cut [13] (fun v13 wc => ∃ (kq : Nat) (x13_42 : Bool), v13 = .bool x13_42 ∧ Aside0 (maskref1_nodeFault.j3 kq l0 a2 t214 (rdOf ByteArray.empty t214 x95_3) x13_42 l1_9 (l1_9.length : Int) x95_3 a1_0 a1_1 a1_2 a1_3 a1_4 a1_5 a1_6 a1_7 a1_8 l1_9 ((rd_T27 l1_9 x95_3).f0) ((rd_T27 l1_9 x95_3).f1) ((rd_T27 l1_9 x95_3).f2) ((rd_T27 l1_9 x95_3).f3) ((rd_T27 l1_9 x95_3).f4) ((rd_T27 l1_9 x95_3).f5.f0) ((rd_T27 l1_9 x95_3).f5.f1) ((rd_T27 l1_9 x95_3).f5.f2) ((rd_T27 l1_9 x95_3).f6) ((rd_T27 l1_9 x95_3).f7) = some r) ∧ Aside0 (kq ≤ k3) ∧ Aside0 (Kd.R Kd.string 9 wc w.heap.size (fun _ => True) (.slice (some ad223) t214.length co47) t214) ∧ Aside0 (wc.heap[gb208]? = some (.cells #[.int .i64 a1_0, .int .i64 a1_1, .int .i64 a1_2, .string a1_3, .string a1_4, .int .i64 a1_5, .int .u64 a1_6, .int .u64 a1_7, .bool a1_8, (.slice (some ad221) l1_9.length c1_9)] 27 (0, 0))) ∧ Aside0 (wc.heap[gb222]? = some (.cells #[.int .i64 ((rd_T27 l1_9 x95_3).f0), .int .i64 ((rd_T27 l1_9 x95_3).f1), .int .i64 ((rd_T27 l1_9 x95_3).f2), .string ((rd_T27 l1_9 x95_3).f3), .string ((rd_T27 l1_9 x95_3).f4), .int .i64 ((rd_T27 l1_9 x95_3).f5.f0), .int .u64 ((rd_T27 l1_9 x95_3).f5.f1), .int .u64 ((rd_T27 l1_9 x95_3).f5.f2), .bool ((rd_T27 l1_9 x95_3).f6), (.slice A221_9 ((rd_T27 l1_9 x95_3).f7).length c221_9)] 27 (0, 0))) ∧ Aside0 (Below w.heap.size w wc))
            case first =>
             have H := HC43.out
             clear HC43
             replace H := iE H; rcases H with ⟨c48b0, c48b1, H⟩ | ⟨c48, c48b0, c48b1, H⟩
             ·(skip)
              replace H := iE H; rcases H with ⟨c49b0, c49b1, H⟩ | ⟨c49, c49b0, c49b1, H⟩
              ·have H' := Aside0.mk H
               clear H
               have hnb50 := NB208_222.out
               have hnc50 := NB222_208.out
               obtain ⟨hcz51_0, hcz51_1, hcz51_2, hcz51_3, hcz51_4, hcz51_5, hcz51_6, hcz51_7, hcz51_8, hcz51_9⟩ := sq_cells10 (W := w44) (g := gb208) BK208.out; obtain ⟨hfz51_0, hfz51_1, hfz51_2, hfz51_3, hfz51_4, hfz51_5, hfz51_6, hfz51_7, hfz51_8, hfz51_9⟩ := sq_frozen10 BK208.out
               go_wp2
               go_meet
               case rel => exact ⟨_, (true), (by rfl), H', ⟨by have := HJ3.out; have := HJ20.out; have := HK3.out; omega⟩, ⟨by exact Kd.R_mono (Kd.R_far (p := ⟨gb222, 9, none⟩) (Kd.R_far (p := ⟨gb222, 8, none⟩) (Kd.R_far (p := ⟨gb222, 7, none⟩) (Kd.R_far (p := ⟨gb222, 6, none⟩) (Kd.R_far (p := ⟨gb222, 5, none⟩) (Kd.R_far (p := ⟨gb222, 4, none⟩) (Kd.R_far (p := ⟨gb222, 3, none⟩) (Kd.R_far (p := ⟨gb222, 2, none⟩) (Kd.R_far (p := ⟨gb222, 1, none⟩) (Kd.R_far (p := ⟨gb222, 0, none⟩) (Kd.R_types HO_8.out BK222.out (by decide)) (fun _ hk => hk.2) (.int .i64 ((rd_T27 l1_9 x95_3).f0))) (fun _ hk => hk.2) (.int .i64 ((rd_T27 l1_9 x95_3).f1))) (fun _ hk => hk.2) (.int .i64 ((rd_T27 l1_9 x95_3).f2))) (fun _ hk => hk.2) (.string ((rd_T27 l1_9 x95_3).f3))) (fun _ hk => hk.2) (.string ((rd_T27 l1_9 x95_3).f4))) (fun _ hk => hk.2) (.int .i64 ((rd_T27 l1_9 x95_3).f5.f0))) (fun _ hk => hk.2) (.int .u64 ((rd_T27 l1_9 x95_3).f5.f1))) (fun _ hk => hk.2) (.int .u64 ((rd_T27 l1_9 x95_3).f5.f2))) (fun _ hk => hk.2) (.bool ((rd_T27 l1_9 x95_3).f6))) (fun _ hk => hk.2) (.slice A221_9 ((rd_T27 l1_9 x95_3).f7).length c221_9)) (fun _ hk => trivial)⟩, ⟨by refine blk_far ?_ NB208_222.out _; refine blk_far ?_ NB208_222.out _; refine blk_far ?_ NB208_222.out _; refine blk_far ?_ NB208_222.out _; refine blk_far ?_ NB208_222.out _; refine blk_far ?_ NB208_222.out _; refine blk_far ?_ NB208_222.out _; refine blk_far ?_ NB208_222.out _; refine blk_far ?_ NB208_222.out _; refine blk_far ?_ NB208_222.out _; exact BK208.out⟩, ⟨by refine blk_put (cs := #[.int .i64 ((rd_T27 l1_9 x95_3).f0), .int .i64 ((rd_T27 l1_9 x95_3).f1), .int .i64 ((rd_T27 l1_9 x95_3).f2), .string ((rd_T27 l1_9 x95_3).f3), .string ((rd_T27 l1_9 x95_3).f4), .int .i64 ((rd_T27 l1_9 x95_3).f5.f0), .int .u64 ((rd_T27 l1_9 x95_3).f5.f1), .int .u64 ((rd_T27 l1_9 x95_3).f5.f2), .bool ((rd_T27 l1_9 x95_3).f6), .slice none 0 0]) ?_ 9 _ rfl; refine blk_put (cs := #[.int .i64 ((rd_T27 l1_9 x95_3).f0), .int .i64 ((rd_T27 l1_9 x95_3).f1), .int .i64 ((rd_T27 l1_9 x95_3).f2), .string ((rd_T27 l1_9 x95_3).f3), .string ((rd_T27 l1_9 x95_3).f4), .int .i64 ((rd_T27 l1_9 x95_3).f5.f0), .int .u64 ((rd_T27 l1_9 x95_3).f5.f1), .int .u64 ((rd_T27 l1_9 x95_3).f5.f2), .bool false, .slice none 0 0]) ?_ 8 _ rfl; refine blk_put (cs := #[.int .i64 ((rd_T27 l1_9 x95_3).f0), .int .i64 ((rd_T27 l1_9 x95_3).f1), .int .i64 ((rd_T27 l1_9 x95_3).f2), .string ((rd_T27 l1_9 x95_3).f3), .string ((rd_T27 l1_9 x95_3).f4), .int .i64 ((rd_T27 l1_9 x95_3).f5.f0), .int .u64 ((rd_T27 l1_9 x95_3).f5.f1), .int .u64 0, .bool false, .slice none 0 0]) ?_ 7 _ rfl; refine blk_put (cs := #[.int .i64 ((rd_T27 l1_9 x95_3).f0), .int .i64 ((rd_T27 l1_9 x95_3).f1), .int .i64 ((rd_T27 l1_9 x95_3).f2), .string ((rd_T27 l1_9 x95_3).f3), .string ((rd_T27 l1_9 x95_3).f4), .int .i64 ((rd_T27 l1_9 x95_3).f5.f0), .int .u64 0, .int .u64 0, .bool false, .slice none 0 0]) ?_ 6 _ rfl; refine blk_put (cs := #[.int .i64 ((rd_T27 l1_9 x95_3).f0), .int .i64 ((rd_T27 l1_9 x95_3).f1), .int .i64 ((rd_T27 l1_9 x95_3).f2), .string ((rd_T27 l1_9 x95_3).f3), .string ((rd_T27 l1_9 x95_3).f4), .int .i64 0, .int .u64 0, .int .u64 0, .bool false, .slice none 0 0]) ?_ 5 _ rfl; refine blk_put (cs := #[.int .i64 ((rd_T27 l1_9 x95_3).f0), .int .i64 ((rd_T27 l1_9 x95_3).f1), .int .i64 ((rd_T27 l1_9 x95_3).f2), .string ((rd_T27 l1_9 x95_3).f3), .string (⟨#[]⟩ : ByteArray), .int .i64 0, .int .u64 0, .int .u64 0, .bool false, .slice none 0 0]) ?_ 4 _ rfl; refine blk_put (cs := #[.int .i64 ((rd_T27 l1_9 x95_3).f0), .int .i64 ((rd_T27 l1_9 x95_3).f1), .int .i64 ((rd_T27 l1_9 x95_3).f2), .string (⟨#[]⟩ : ByteArray), .string (⟨#[]⟩ : ByteArray), .int .i64 0, .int .u64 0, .int .u64 0, .bool false, .slice none 0 0]) ?_ 3 _ rfl; refine blk_put (cs := #[.int .i64 ((rd_T27 l1_9 x95_3).f0), .int .i64 ((rd_T27 l1_9 x95_3).f1), .int .i64 0, .string (⟨#[]⟩ : ByteArray), .string (⟨#[]⟩ : ByteArray), .int .i64 0, .int .u64 0, .int .u64 0, .bool false, .slice none 0 0]) ?_ 2 _ rfl; refine blk_put (cs := #[.int .i64 ((rd_T27 l1_9 x95_3).f0), .int .i64 0, .int .i64 0, .string (⟨#[]⟩ : ByteArray), .string (⟨#[]⟩ : ByteArray), .int .i64 0, .int .u64 0, .int .u64 0, .bool false, .slice none 0 0]) ?_ 1 _ rfl; refine blk_put (cs := #[.int .i64 0, .int .i64 0, .int .i64 0, .string (⟨#[]⟩ : ByteArray), .string (⟨#[]⟩ : ByteArray), .int .i64 0, .int .u64 0, .int .u64 0, .bool false, .slice none 0 0]) ?_ 0 _ rfl; exact BK222.out⟩, ⟨by repeat (with_reducible first | exact HB.out | refine below_set ?_ GE222.out)⟩⟩
              ·replace H := iE H; rcases H with ⟨c52b0, c52b1, H⟩ | ⟨c52, c52b0, c52b1, H⟩
               ·have H' := Aside0.mk H
                clear H
                have hnb53 := NB208_222.out
                have hnc53 := NB222_208.out
                obtain ⟨hcz54_0, hcz54_1, hcz54_2, hcz54_3, hcz54_4, hcz54_5, hcz54_6, hcz54_7, hcz54_8, hcz54_9⟩ := sq_cells10 (W := w44) (g := gb208) BK208.out; obtain ⟨hfz54_0, hfz54_1, hfz54_2, hfz54_3, hfz54_4, hfz54_5, hfz54_6, hfz54_7, hfz54_8, hfz54_9⟩ := sq_frozen10 BK208.out
                go_wp2
                go_meet
                case rel => exact ⟨_, (true), (by rfl), H', ⟨by have := HJ3.out; have := HJ20.out; have := HK3.out; omega⟩, ⟨by exact Kd.R_mono (Kd.R_far (p := ⟨gb222, 9, none⟩) (Kd.R_far (p := ⟨gb222, 8, none⟩) (Kd.R_far (p := ⟨gb222, 7, none⟩) (Kd.R_far (p := ⟨gb222, 6, none⟩) (Kd.R_far (p := ⟨gb222, 5, none⟩) (Kd.R_far (p := ⟨gb222, 4, none⟩) (Kd.R_far (p := ⟨gb222, 3, none⟩) (Kd.R_far (p := ⟨gb222, 2, none⟩) (Kd.R_far (p := ⟨gb222, 1, none⟩) (Kd.R_far (p := ⟨gb222, 0, none⟩) (Kd.R_types HO_8.out BK222.out (by decide)) (fun _ hk => hk.2) (.int .i64 ((rd_T27 l1_9 x95_3).f0))) (fun _ hk => hk.2) (.int .i64 ((rd_T27 l1_9 x95_3).f1))) (fun _ hk => hk.2) (.int .i64 ((rd_T27 l1_9 x95_3).f2))) (fun _ hk => hk.2) (.string ((rd_T27 l1_9 x95_3).f3))) (fun _ hk => hk.2) (.string ((rd_T27 l1_9 x95_3).f4))) (fun _ hk => hk.2) (.int .i64 ((rd_T27 l1_9 x95_3).f5.f0))) (fun _ hk => hk.2) (.int .u64 ((rd_T27 l1_9 x95_3).f5.f1))) (fun _ hk => hk.2) (.int .u64 ((rd_T27 l1_9 x95_3).f5.f2))) (fun _ hk => hk.2) (.bool ((rd_T27 l1_9 x95_3).f6))) (fun _ hk => hk.2) (.slice A221_9 ((rd_T27 l1_9 x95_3).f7).length c221_9)) (fun _ hk => trivial)⟩, ⟨by refine blk_far ?_ NB208_222.out _; refine blk_far ?_ NB208_222.out _; refine blk_far ?_ NB208_222.out _; refine blk_far ?_ NB208_222.out _; refine blk_far ?_ NB208_222.out _; refine blk_far ?_ NB208_222.out _; refine blk_far ?_ NB208_222.out _; refine blk_far ?_ NB208_222.out _; refine blk_far ?_ NB208_222.out _; refine blk_far ?_ NB208_222.out _; exact BK208.out⟩, ⟨by refine blk_put (cs := #[.int .i64 ((rd_T27 l1_9 x95_3).f0), .int .i64 ((rd_T27 l1_9 x95_3).f1), .int .i64 ((rd_T27 l1_9 x95_3).f2), .string ((rd_T27 l1_9 x95_3).f3), .string ((rd_T27 l1_9 x95_3).f4), .int .i64 ((rd_T27 l1_9 x95_3).f5.f0), .int .u64 ((rd_T27 l1_9 x95_3).f5.f1), .int .u64 ((rd_T27 l1_9 x95_3).f5.f2), .bool ((rd_T27 l1_9 x95_3).f6), .slice none 0 0]) ?_ 9 _ rfl; refine blk_put (cs := #[.int .i64 ((rd_T27 l1_9 x95_3).f0), .int .i64 ((rd_T27 l1_9 x95_3).f1), .int .i64 ((rd_T27 l1_9 x95_3).f2), .string ((rd_T27 l1_9 x95_3).f3), .string ((rd_T27 l1_9 x95_3).f4), .int .i64 ((rd_T27 l1_9 x95_3).f5.f0), .int .u64 ((rd_T27 l1_9 x95_3).f5.f1), .int .u64 ((rd_T27 l1_9 x95_3).f5.f2), .bool false, .slice none 0 0]) ?_ 8 _ rfl; refine blk_put (cs := #[.int .i64 ((rd_T27 l1_9 x95_3).f0), .int .i64 ((rd_T27 l1_9 x95_3).f1), .int .i64 ((rd_T27 l1_9 x95_3).f2), .string ((rd_T27 l1_9 x95_3).f3), .string ((rd_T27 l1_9 x95_3).f4), .int .i64 ((rd_T27 l1_9 x95_3).f5.f0), .int .u64 ((rd_T27 l1_9 x95_3).f5.f1), .int .u64 0, .bool false, .slice none 0 0]) ?_ 7 _ rfl; refine blk_put (cs := #[.int .i64 ((rd_T27 l1_9 x95_3).f0), .int .i64 ((rd_T27 l1_9 x95_3).f1), .int .i64 ((rd_T27 l1_9 x95_3).f2), .string ((rd_T27 l1_9 x95_3).f3), .string ((rd_T27 l1_9 x95_3).f4), .int .i64 ((rd_T27 l1_9 x95_3).f5.f0), .int .u64 0, .int .u64 0, .bool false, .slice none 0 0]) ?_ 6 _ rfl; refine blk_put (cs := #[.int .i64 ((rd_T27 l1_9 x95_3).f0), .int .i64 ((rd_T27 l1_9 x95_3).f1), .int .i64 ((rd_T27 l1_9 x95_3).f2), .string ((rd_T27 l1_9 x95_3).f3), .string ((rd_T27 l1_9 x95_3).f4), .int .i64 0, .int .u64 0, .int .u64 0, .bool false, .slice none 0 0]) ?_ 5 _ rfl; refine blk_put (cs := #[.int .i64 ((rd_T27 l1_9 x95_3).f0), .int .i64 ((rd_T27 l1_9 x95_3).f1), .int .i64 ((rd_T27 l1_9 x95_3).f2), .string ((rd_T27 l1_9 x95_3).f3), .string (⟨#[]⟩ : ByteArray), .int .i64 0, .int .u64 0, .int .u64 0, .bool false, .slice none 0 0]) ?_ 4 _ rfl; refine blk_put (cs := #[.int .i64 ((rd_T27 l1_9 x95_3).f0), .int .i64 ((rd_T27 l1_9 x95_3).f1), .int .i64 ((rd_T27 l1_9 x95_3).f2), .string (⟨#[]⟩ : ByteArray), .string (⟨#[]⟩ : ByteArray), .int .i64 0, .int .u64 0, .int .u64 0, .bool false, .slice none 0 0]) ?_ 3 _ rfl; refine blk_put (cs := #[.int .i64 ((rd_T27 l1_9 x95_3).f0), .int .i64 ((rd_T27 l1_9 x95_3).f1), .int .i64 0, .string (⟨#[]⟩ : ByteArray), .string (⟨#[]⟩ : ByteArray), .int .i64 0, .int .u64 0, .int .u64 0, .bool false, .slice none 0 0]) ?_ 2 _ rfl; refine blk_put (cs := #[.int .i64 ((rd_T27 l1_9 x95_3).f0), .int .i64 0, .int .i64 0, .string (⟨#[]⟩ : ByteArray), .string (⟨#[]⟩ : ByteArray), .int .i64 0, .int .u64 0, .int .u64 0, .bool false, .slice none 0 0]) ?_ 1 _ rfl; refine blk_put (cs := #[.int .i64 0, .int .i64 0, .int .i64 0, .string (⟨#[]⟩ : ByteArray), .string (⟨#[]⟩ : ByteArray), .int .i64 0, .int .u64 0, .int .u64 0, .bool false, .slice none 0 0]) ?_ 0 _ rfl; exact BK222.out⟩, ⟨by repeat (with_reducible first | exact HB.out | refine below_set ?_ GE222.out)⟩⟩
               ·replace H := iE H; rcases H with ⟨c55b0, c55b1, H⟩ | ⟨c55, c55b0, c55b1, H⟩
                ·have H' := Aside0.mk H
                 clear H
                 have hnb56 := NB208_222.out
                 have hnc56 := NB222_208.out
                 obtain ⟨hcz57_0, hcz57_1, hcz57_2, hcz57_3, hcz57_4, hcz57_5, hcz57_6, hcz57_7, hcz57_8, hcz57_9⟩ := sq_cells10 (W := w44) (g := gb208) BK208.out; obtain ⟨hfz57_0, hfz57_1, hfz57_2, hfz57_3, hfz57_4, hfz57_5, hfz57_6, hfz57_7, hfz57_8, hfz57_9⟩ := sq_frozen10 BK208.out
                 go_wp2
                 go_meet
                 case rel => exact ⟨_, (true), (by rfl), H', ⟨by have := HJ3.out; have := HJ20.out; have := HK3.out; omega⟩, ⟨by exact Kd.R_mono (Kd.R_far (p := ⟨gb222, 9, none⟩) (Kd.R_far (p := ⟨gb222, 8, none⟩) (Kd.R_far (p := ⟨gb222, 7, none⟩) (Kd.R_far (p := ⟨gb222, 6, none⟩) (Kd.R_far (p := ⟨gb222, 5, none⟩) (Kd.R_far (p := ⟨gb222, 4, none⟩) (Kd.R_far (p := ⟨gb222, 3, none⟩) (Kd.R_far (p := ⟨gb222, 2, none⟩) (Kd.R_far (p := ⟨gb222, 1, none⟩) (Kd.R_far (p := ⟨gb222, 0, none⟩) (Kd.R_types HO_8.out BK222.out (by decide)) (fun _ hk => hk.2) (.int .i64 ((rd_T27 l1_9 x95_3).f0))) (fun _ hk => hk.2) (.int .i64 ((rd_T27 l1_9 x95_3).f1))) (fun _ hk => hk.2) (.int .i64 ((rd_T27 l1_9 x95_3).f2))) (fun _ hk => hk.2) (.string ((rd_T27 l1_9 x95_3).f3))) (fun _ hk => hk.2) (.string ((rd_T27 l1_9 x95_3).f4))) (fun _ hk => hk.2) (.int .i64 ((rd_T27 l1_9 x95_3).f5.f0))) (fun _ hk => hk.2) (.int .u64 ((rd_T27 l1_9 x95_3).f5.f1))) (fun _ hk => hk.2) (.int .u64 ((rd_T27 l1_9 x95_3).f5.f2))) (fun _ hk => hk.2) (.bool ((rd_T27 l1_9 x95_3).f6))) (fun _ hk => hk.2) (.slice A221_9 ((rd_T27 l1_9 x95_3).f7).length c221_9)) (fun _ hk => trivial)⟩, ⟨by refine blk_far ?_ NB208_222.out _; refine blk_far ?_ NB208_222.out _; refine blk_far ?_ NB208_222.out _; refine blk_far ?_ NB208_222.out _; refine blk_far ?_ NB208_222.out _; refine blk_far ?_ NB208_222.out _; refine blk_far ?_ NB208_222.out _; refine blk_far ?_ NB208_222.out _; refine blk_far ?_ NB208_222.out _; refine blk_far ?_ NB208_222.out _; exact BK208.out⟩, ⟨by refine blk_put (cs := #[.int .i64 ((rd_T27 l1_9 x95_3).f0), .int .i64 ((rd_T27 l1_9 x95_3).f1), .int .i64 ((rd_T27 l1_9 x95_3).f2), .string ((rd_T27 l1_9 x95_3).f3), .string ((rd_T27 l1_9 x95_3).f4), .int .i64 ((rd_T27 l1_9 x95_3).f5.f0), .int .u64 ((rd_T27 l1_9 x95_3).f5.f1), .int .u64 ((rd_T27 l1_9 x95_3).f5.f2), .bool ((rd_T27 l1_9 x95_3).f6), .slice none 0 0]) ?_ 9 _ rfl; refine blk_put (cs := #[.int .i64 ((rd_T27 l1_9 x95_3).f0), .int .i64 ((rd_T27 l1_9 x95_3).f1), .int .i64 ((rd_T27 l1_9 x95_3).f2), .string ((rd_T27 l1_9 x95_3).f3), .string ((rd_T27 l1_9 x95_3).f4), .int .i64 ((rd_T27 l1_9 x95_3).f5.f0), .int .u64 ((rd_T27 l1_9 x95_3).f5.f1), .int .u64 ((rd_T27 l1_9 x95_3).f5.f2), .bool false, .slice none 0 0]) ?_ 8 _ rfl; refine blk_put (cs := #[.int .i64 ((rd_T27 l1_9 x95_3).f0), .int .i64 ((rd_T27 l1_9 x95_3).f1), .int .i64 ((rd_T27 l1_9 x95_3).f2), .string ((rd_T27 l1_9 x95_3).f3), .string ((rd_T27 l1_9 x95_3).f4), .int .i64 ((rd_T27 l1_9 x95_3).f5.f0), .int .u64 ((rd_T27 l1_9 x95_3).f5.f1), .int .u64 0, .bool false, .slice none 0 0]) ?_ 7 _ rfl; refine blk_put (cs := #[.int .i64 ((rd_T27 l1_9 x95_3).f0), .int .i64 ((rd_T27 l1_9 x95_3).f1), .int .i64 ((rd_T27 l1_9 x95_3).f2), .string ((rd_T27 l1_9 x95_3).f3), .string ((rd_T27 l1_9 x95_3).f4), .int .i64 ((rd_T27 l1_9 x95_3).f5.f0), .int .u64 0, .int .u64 0, .bool false, .slice none 0 0]) ?_ 6 _ rfl; refine blk_put (cs := #[.int .i64 ((rd_T27 l1_9 x95_3).f0), .int .i64 ((rd_T27 l1_9 x95_3).f1), .int .i64 ((rd_T27 l1_9 x95_3).f2), .string ((rd_T27 l1_9 x95_3).f3), .string ((rd_T27 l1_9 x95_3).f4), .int .i64 0, .int .u64 0, .int .u64 0, .bool false, .slice none 0 0]) ?_ 5 _ rfl; refine blk_put (cs := #[.int .i64 ((rd_T27 l1_9 x95_3).f0), .int .i64 ((rd_T27 l1_9 x95_3).f1), .int .i64 ((rd_T27 l1_9 x95_3).f2), .string ((rd_T27 l1_9 x95_3).f3), .string (⟨#[]⟩ : ByteArray), .int .i64 0, .int .u64 0, .int .u64 0, .bool false, .slice none 0 0]) ?_ 4 _ rfl; refine blk_put (cs := #[.int .i64 ((rd_T27 l1_9 x95_3).f0), .int .i64 ((rd_T27 l1_9 x95_3).f1), .int .i64 ((rd_T27 l1_9 x95_3).f2), .string (⟨#[]⟩ : ByteArray), .string (⟨#[]⟩ : ByteArray), .int .i64 0, .int .u64 0, .int .u64 0, .bool false, .slice none 0 0]) ?_ 3 _ rfl; refine blk_put (cs := #[.int .i64 ((rd_T27 l1_9 x95_3).f0), .int .i64 ((rd_T27 l1_9 x95_3).f1), .int .i64 0, .string (⟨#[]⟩ : ByteArray), .string (⟨#[]⟩ : ByteArray), .int .i64 0, .int .u64 0, .int .u64 0, .bool false, .slice none 0 0]) ?_ 2 _ rfl; refine blk_put (cs := #[.int .i64 ((rd_T27 l1_9 x95_3).f0), .int .i64 0, .int .i64 0, .string (⟨#[]⟩ : ByteArray), .string (⟨#[]⟩ : ByteArray), .int .i64 0, .int .u64 0, .int .u64 0, .bool false, .slice none 0 0]) ?_ 1 _ rfl; refine blk_put (cs := #[.int .i64 0, .int .i64 0, .int .i64 0, .string (⟨#[]⟩ : ByteArray), .string (⟨#[]⟩ : ByteArray), .int .i64 0, .int .u64 0, .int .u64 0, .bool false, .slice none 0 0]) ?_ 0 _ rfl; exact BK222.out⟩, ⟨by repeat (with_reducible first | exact HB.out | refine below_set ?_ GE222.out)⟩⟩
                ·have H' := Aside0.mk H
                 clear H
                 have hnb58 := NB208_222.out
                 have hnc58 := NB222_208.out
                 obtain ⟨hcz59_0, hcz59_1, hcz59_2, hcz59_3, hcz59_4, hcz59_5, hcz59_6, hcz59_7, hcz59_8, hcz59_9⟩ := sq_cells10 (W := w44) (g := gb208) BK208.out; obtain ⟨hfz59_0, hfz59_1, hfz59_2, hfz59_3, hfz59_4, hfz59_5, hfz59_6, hfz59_7, hfz59_8, hfz59_9⟩ := sq_frozen10 BK208.out
                 go_wp2
                 go_meet
                 case rel => exact ⟨_, (a1_0 == 83), (by rfl), H', ⟨by have := HJ3.out; have := HJ20.out; have := HK3.out; omega⟩, ⟨by exact Kd.R_mono (Kd.R_far (p := ⟨gb222, 9, none⟩) (Kd.R_far (p := ⟨gb222, 8, none⟩) (Kd.R_far (p := ⟨gb222, 7, none⟩) (Kd.R_far (p := ⟨gb222, 6, none⟩) (Kd.R_far (p := ⟨gb222, 5, none⟩) (Kd.R_far (p := ⟨gb222, 4, none⟩) (Kd.R_far (p := ⟨gb222, 3, none⟩) (Kd.R_far (p := ⟨gb222, 2, none⟩) (Kd.R_far (p := ⟨gb222, 1, none⟩) (Kd.R_far (p := ⟨gb222, 0, none⟩) (Kd.R_types HO_8.out BK222.out (by decide)) (fun _ hk => hk.2) (.int .i64 ((rd_T27 l1_9 x95_3).f0))) (fun _ hk => hk.2) (.int .i64 ((rd_T27 l1_9 x95_3).f1))) (fun _ hk => hk.2) (.int .i64 ((rd_T27 l1_9 x95_3).f2))) (fun _ hk => hk.2) (.string ((rd_T27 l1_9 x95_3).f3))) (fun _ hk => hk.2) (.string ((rd_T27 l1_9 x95_3).f4))) (fun _ hk => hk.2) (.int .i64 ((rd_T27 l1_9 x95_3).f5.f0))) (fun _ hk => hk.2) (.int .u64 ((rd_T27 l1_9 x95_3).f5.f1))) (fun _ hk => hk.2) (.int .u64 ((rd_T27 l1_9 x95_3).f5.f2))) (fun _ hk => hk.2) (.bool ((rd_T27 l1_9 x95_3).f6))) (fun _ hk => hk.2) (.slice A221_9 ((rd_T27 l1_9 x95_3).f7).length c221_9)) (fun _ hk => trivial)⟩, ⟨by refine blk_far ?_ NB208_222.out _; refine blk_far ?_ NB208_222.out _; refine blk_far ?_ NB208_222.out _; refine blk_far ?_ NB208_222.out _; refine blk_far ?_ NB208_222.out _; refine blk_far ?_ NB208_222.out _; refine blk_far ?_ NB208_222.out _; refine blk_far ?_ NB208_222.out _; refine blk_far ?_ NB208_222.out _; refine blk_far ?_ NB208_222.out _; exact BK208.out⟩, ⟨by refine blk_put (cs := #[.int .i64 ((rd_T27 l1_9 x95_3).f0), .int .i64 ((rd_T27 l1_9 x95_3).f1), .int .i64 ((rd_T27 l1_9 x95_3).f2), .string ((rd_T27 l1_9 x95_3).f3), .string ((rd_T27 l1_9 x95_3).f4), .int .i64 ((rd_T27 l1_9 x95_3).f5.f0), .int .u64 ((rd_T27 l1_9 x95_3).f5.f1), .int .u64 ((rd_T27 l1_9 x95_3).f5.f2), .bool ((rd_T27 l1_9 x95_3).f6), .slice none 0 0]) ?_ 9 _ rfl; refine blk_put (cs := #[.int .i64 ((rd_T27 l1_9 x95_3).f0), .int .i64 ((rd_T27 l1_9 x95_3).f1), .int .i64 ((rd_T27 l1_9 x95_3).f2), .string ((rd_T27 l1_9 x95_3).f3), .string ((rd_T27 l1_9 x95_3).f4), .int .i64 ((rd_T27 l1_9 x95_3).f5.f0), .int .u64 ((rd_T27 l1_9 x95_3).f5.f1), .int .u64 ((rd_T27 l1_9 x95_3).f5.f2), .bool false, .slice none 0 0]) ?_ 8 _ rfl; refine blk_put (cs := #[.int .i64 ((rd_T27 l1_9 x95_3).f0), .int .i64 ((rd_T27 l1_9 x95_3).f1), .int .i64 ((rd_T27 l1_9 x95_3).f2), .string ((rd_T27 l1_9 x95_3).f3), .string ((rd_T27 l1_9 x95_3).f4), .int .i64 ((rd_T27 l1_9 x95_3).f5.f0), .int .u64 ((rd_T27 l1_9 x95_3).f5.f1), .int .u64 0, .bool false, .slice none 0 0]) ?_ 7 _ rfl; refine blk_put (cs := #[.int .i64 ((rd_T27 l1_9 x95_3).f0), .int .i64 ((rd_T27 l1_9 x95_3).f1), .int .i64 ((rd_T27 l1_9 x95_3).f2), .string ((rd_T27 l1_9 x95_3).f3), .string ((rd_T27 l1_9 x95_3).f4), .int .i64 ((rd_T27 l1_9 x95_3).f5.f0), .int .u64 0, .int .u64 0, .bool false, .slice none 0 0]) ?_ 6 _ rfl; refine blk_put (cs := #[.int .i64 ((rd_T27 l1_9 x95_3).f0), .int .i64 ((rd_T27 l1_9 x95_3).f1), .int .i64 ((rd_T27 l1_9 x95_3).f2), .string ((rd_T27 l1_9 x95_3).f3), .string ((rd_T27 l1_9 x95_3).f4), .int .i64 0, .int .u64 0, .int .u64 0, .bool false, .slice none 0 0]) ?_ 5 _ rfl; refine blk_put (cs := #[.int .i64 ((rd_T27 l1_9 x95_3).f0), .int .i64 ((rd_T27 l1_9 x95_3).f1), .int .i64 ((rd_T27 l1_9 x95_3).f2), .string ((rd_T27 l1_9 x95_3).f3), .string (⟨#[]⟩ : ByteArray), .int .i64 0, .int .u64 0, .int .u64 0, .bool false, .slice none 0 0]) ?_ 4 _ rfl; refine blk_put (cs := #[.int .i64 ((rd_T27 l1_9 x95_3).f0), .int .i64 ((rd_T27 l1_9 x95_3).f1), .int .i64 ((rd_T27 l1_9 x95_3).f2), .string (⟨#[]⟩ : ByteArray), .string (⟨#[]⟩ : ByteArray), .int .i64 0, .int .u64 0, .int .u64 0, .bool false, .slice none 0 0]) ?_ 3 _ rfl; refine blk_put (cs := #[.int .i64 ((rd_T27 l1_9 x95_3).f0), .int .i64 ((rd_T27 l1_9 x95_3).f1), .int .i64 0, .string (⟨#[]⟩ : ByteArray), .string (⟨#[]⟩ : ByteArray), .int .i64 0, .int .u64 0, .int .u64 0, .bool false, .slice none 0 0]) ?_ 2 _ rfl; refine blk_put (cs := #[.int .i64 ((rd_T27 l1_9 x95_3).f0), .int .i64 0, .int .i64 0, .string (⟨#[]⟩ : ByteArray), .string (⟨#[]⟩ : ByteArray), .int .i64 0, .int .u64 0, .int .u64 0, .bool false, .slice none 0 0]) ?_ 1 _ rfl; refine blk_put (cs := #[.int .i64 0, .int .i64 0, .int .i64 0, .string (⟨#[]⟩ : ByteArray), .string (⟨#[]⟩ : ByteArray), .int .i64 0, .int .u64 0, .int .u64 0, .bool false, .slice none 0 0]) ?_ 0 _ rfl; exact BK222.out⟩, ⟨by repeat (with_reducible first | exact HB.out | refine below_set ?_ GE222.out)⟩⟩
             ·(skip)
              have H' := Aside0.mk H
              clear H
              go_wp2
              go_meet
              case rel => exact ⟨_, (false), (by rfl), H', ⟨by have := HJ3.out; have := HJ20.out; have := HK3.out; omega⟩, ⟨by exact Kd.R_mono (Kd.R_far (p := ⟨gb222, 9, none⟩) (Kd.R_far (p := ⟨gb222, 8, none⟩) (Kd.R_far (p := ⟨gb222, 7, none⟩) (Kd.R_far (p := ⟨gb222, 6, none⟩) (Kd.R_far (p := ⟨gb222, 5, none⟩) (Kd.R_far (p := ⟨gb222, 4, none⟩) (Kd.R_far (p := ⟨gb222, 3, none⟩) (Kd.R_far (p := ⟨gb222, 2, none⟩) (Kd.R_far (p := ⟨gb222, 1, none⟩) (Kd.R_far (p := ⟨gb222, 0, none⟩) (Kd.R_types HO_8.out BK222.out (by decide)) (fun _ hk => hk.2) (.int .i64 ((rd_T27 l1_9 x95_3).f0))) (fun _ hk => hk.2) (.int .i64 ((rd_T27 l1_9 x95_3).f1))) (fun _ hk => hk.2) (.int .i64 ((rd_T27 l1_9 x95_3).f2))) (fun _ hk => hk.2) (.string ((rd_T27 l1_9 x95_3).f3))) (fun _ hk => hk.2) (.string ((rd_T27 l1_9 x95_3).f4))) (fun _ hk => hk.2) (.int .i64 ((rd_T27 l1_9 x95_3).f5.f0))) (fun _ hk => hk.2) (.int .u64 ((rd_T27 l1_9 x95_3).f5.f1))) (fun _ hk => hk.2) (.int .u64 ((rd_T27 l1_9 x95_3).f5.f2))) (fun _ hk => hk.2) (.bool ((rd_T27 l1_9 x95_3).f6))) (fun _ hk => hk.2) (.slice A221_9 ((rd_T27 l1_9 x95_3).f7).length c221_9)) (fun _ hk => trivial)⟩, ⟨by refine blk_far ?_ NB208_222.out _; refine blk_far ?_ NB208_222.out _; refine blk_far ?_ NB208_222.out _; refine blk_far ?_ NB208_222.out _; refine blk_far ?_ NB208_222.out _; refine blk_far ?_ NB208_222.out _; refine blk_far ?_ NB208_222.out _; refine blk_far ?_ NB208_222.out _; refine blk_far ?_ NB208_222.out _; refine blk_far ?_ NB208_222.out _; exact BK208.out⟩, ⟨by refine blk_put (cs := #[.int .i64 ((rd_T27 l1_9 x95_3).f0), .int .i64 ((rd_T27 l1_9 x95_3).f1), .int .i64 ((rd_T27 l1_9 x95_3).f2), .string ((rd_T27 l1_9 x95_3).f3), .string ((rd_T27 l1_9 x95_3).f4), .int .i64 ((rd_T27 l1_9 x95_3).f5.f0), .int .u64 ((rd_T27 l1_9 x95_3).f5.f1), .int .u64 ((rd_T27 l1_9 x95_3).f5.f2), .bool ((rd_T27 l1_9 x95_3).f6), .slice none 0 0]) ?_ 9 _ rfl; refine blk_put (cs := #[.int .i64 ((rd_T27 l1_9 x95_3).f0), .int .i64 ((rd_T27 l1_9 x95_3).f1), .int .i64 ((rd_T27 l1_9 x95_3).f2), .string ((rd_T27 l1_9 x95_3).f3), .string ((rd_T27 l1_9 x95_3).f4), .int .i64 ((rd_T27 l1_9 x95_3).f5.f0), .int .u64 ((rd_T27 l1_9 x95_3).f5.f1), .int .u64 ((rd_T27 l1_9 x95_3).f5.f2), .bool false, .slice none 0 0]) ?_ 8 _ rfl; refine blk_put (cs := #[.int .i64 ((rd_T27 l1_9 x95_3).f0), .int .i64 ((rd_T27 l1_9 x95_3).f1), .int .i64 ((rd_T27 l1_9 x95_3).f2), .string ((rd_T27 l1_9 x95_3).f3), .string ((rd_T27 l1_9 x95_3).f4), .int .i64 ((rd_T27 l1_9 x95_3).f5.f0), .int .u64 ((rd_T27 l1_9 x95_3).f5.f1), .int .u64 0, .bool false, .slice none 0 0]) ?_ 7 _ rfl; refine blk_put (cs := #[.int .i64 ((rd_T27 l1_9 x95_3).f0), .int .i64 ((rd_T27 l1_9 x95_3).f1), .int .i64 ((rd_T27 l1_9 x95_3).f2), .string ((rd_T27 l1_9 x95_3).f3), .string ((rd_T27 l1_9 x95_3).f4), .int .i64 ((rd_T27 l1_9 x95_3).f5.f0), .int .u64 0, .int .u64 0, .bool false, .slice none 0 0]) ?_ 6 _ rfl; refine blk_put (cs := #[.int .i64 ((rd_T27 l1_9 x95_3).f0), .int .i64 ((rd_T27 l1_9 x95_3).f1), .int .i64 ((rd_T27 l1_9 x95_3).f2), .string ((rd_T27 l1_9 x95_3).f3), .string ((rd_T27 l1_9 x95_3).f4), .int .i64 0, .int .u64 0, .int .u64 0, .bool false, .slice none 0 0]) ?_ 5 _ rfl; refine blk_put (cs := #[.int .i64 ((rd_T27 l1_9 x95_3).f0), .int .i64 ((rd_T27 l1_9 x95_3).f1), .int .i64 ((rd_T27 l1_9 x95_3).f2), .string ((rd_T27 l1_9 x95_3).f3), .string (⟨#[]⟩ : ByteArray), .int .i64 0, .int .u64 0, .int .u64 0, .bool false, .slice none 0 0]) ?_ 4 _ rfl; refine blk_put (cs := #[.int .i64 ((rd_T27 l1_9 x95_3).f0), .int .i64 ((rd_T27 l1_9 x95_3).f1), .int .i64 ((rd_T27 l1_9 x95_3).f2), .string (⟨#[]⟩ : ByteArray), .string (⟨#[]⟩ : ByteArray), .int .i64 0, .int .u64 0, .int .u64 0, .bool false, .slice none 0 0]) ?_ 3 _ rfl; refine blk_put (cs := #[.int .i64 ((rd_T27 l1_9 x95_3).f0), .int .i64 ((rd_T27 l1_9 x95_3).f1), .int .i64 0, .string (⟨#[]⟩ : ByteArray), .string (⟨#[]⟩ : ByteArray), .int .i64 0, .int .u64 0, .int .u64 0, .bool false, .slice none 0 0]) ?_ 2 _ rfl; refine blk_put (cs := #[.int .i64 ((rd_T27 l1_9 x95_3).f0), .int .i64 0, .int .i64 0, .string (⟨#[]⟩ : ByteArray), .string (⟨#[]⟩ : ByteArray), .int .i64 0, .int .u64 0, .int .u64 0, .bool false, .slice none 0 0]) ?_ 1 _ rfl; refine blk_put (cs := #[.int .i64 0, .int .i64 0, .int .i64 0, .string (⟨#[]⟩ : ByteArray), .string (⟨#[]⟩ : ByteArray), .int .i64 0, .int .u64 0, .int .u64 0, .bool false, .slice none 0 0]) ?_ 0 _ rfl; exact BK222.out⟩, ⟨by repeat (with_reducible first | exact HB.out | refine below_set ?_ GE222.out)⟩⟩
            case rest =>
             clear HC43
             (try clear c39b0); (try clear c40b0); (try clear c41b0); (try clear c42b0); (try clear hcz46_0 hcz46_1 hcz46_2 hcz46_3 hcz46_4 hcz46_5 hcz46_6 hcz46_7 hcz46_8 hcz46_9); (try clear hfz46_0 hfz46_1 hfz46_2 hfz46_3 hfz46_4 hfz46_5 hfz46_6 hfz46_7 hfz46_8 hfz46_9); (try clear hx221_0); (try clear hx221_1); (try clear hx221_2); (try clear hx221_3); (try clear hx221_4); (try clear hx221_5); (try clear hx221_6); (try clear hx221_7); (try clear hx221_8); (try clear hx221_9); (try clear hx223_0); (try clear p221); (try clear p223); (try clear q221); (try clear q223)
             obtain ⟨kq, x13_42, rfl, HA, HJ42, HO_8, BK208, BK222, HB⟩ := hcut
             cases kq with
             | zero => exact absurd HA.out (by simp [maskref1_nodeFault.j3])
             | succ kj42 =>
              have H := HA.out
              clear HA
              simp only [maskref1_nodeFault.j3] at H
              have HC60 := Aside0.mk H
              clear H
              go_upto_block 3 with (fail)
              go_cut [12] (fun v12 wc => ∃ (kq : Nat) (x12_59 : ByteArray), v12 = .string x12_59 ∧ Aside0 (maskref1_nodeFault.j7 kq l0 a2 t214 x12_59 l1_9 (l1_9.length : Int) x95_3 a1_0 a1_1 a1_2 a1_3 a1_4 a1_5 a1_6 a1_7 a1_8 l1_9 ((rd_T27 l1_9 x95_3).f0) ((rd_T27 l1_9 x95_3).f1) ((rd_T27 l1_9 x95_3).f2) ((rd_T27 l1_9 x95_3).f3) ((rd_T27 l1_9 x95_3).f4) ((rd_T27 l1_9 x95_3).f5.f0) ((rd_T27 l1_9 x95_3).f5.f1) ((rd_T27 l1_9 x95_3).f5.f2) ((rd_T27 l1_9 x95_3).f6) ((rd_T27 l1_9 x95_3).f7) = some r) ∧ Aside0 (kq ≤ kj42) ∧ Aside0 (Kd.R Kd.string 9 wc w.heap.size (fun _ => True) (.slice (some ad223) t214.length co47) t214) ∧ Aside0 (wc.heap[gb208]? = some (.cells #[.int .i64 a1_0, .int .i64 a1_1, .int .i64 a1_2, .string a1_3, .string a1_4, .int .i64 a1_5, .int .u64 a1_6, .int .u64 a1_7, .bool a1_8, (.slice (some ad221) l1_9.length c1_9)] 27 (0, 0))) ∧ Aside0 (wc.heap[gb222]? = some (.cells #[.int .i64 ((rd_T27 l1_9 x95_3).f0), .int .i64 ((rd_T27 l1_9 x95_3).f1), .int .i64 ((rd_T27 l1_9 x95_3).f2), .string ((rd_T27 l1_9 x95_3).f3), .string ((rd_T27 l1_9 x95_3).f4), .int .i64 ((rd_T27 l1_9 x95_3).f5.f0), .int .u64 ((rd_T27 l1_9 x95_3).f5.f1), .int .u64 ((rd_T27 l1_9 x95_3).f5.f2), .bool ((rd_T27 l1_9 x95_3).f6), (.slice A221_9 ((rd_T27 l1_9 x95_3).f7).length c221_9)] 27 (0, 0))) ∧ Aside0 (Below w.heap.size w wc))
              case first =>
               have H := HC60.out
               clear HC60
               have HC61 := Aside0.mk H
               clear H
               go_upto_region 16 with (fail)
               go_cut [126] (fun v126 wc => ∃ (kq : Nat) (x126_60 : Bool), v126 = .bool x126_60 ∧ Aside0 (maskref1_nodeFault.j4 kq l0 a2 t214 (rdOf ByteArray.empty t214 x95_3) x13_42 l1_9 (l1_9.length : Int) x95_3 x126_60 a1_0 a1_1 a1_2 a1_3 a1_4 a1_5 a1_6 a1_7 a1_8 l1_9 ((rd_T27 l1_9 x95_3).f0) ((rd_T27 l1_9 x95_3).f1) ((rd_T27 l1_9 x95_3).f2) ((rd_T27 l1_9 x95_3).f3) ((rd_T27 l1_9 x95_3).f4) ((rd_T27 l1_9 x95_3).f5.f0) ((rd_T27 l1_9 x95_3).f5.f1) ((rd_T27 l1_9 x95_3).f5.f2) ((rd_T27 l1_9 x95_3).f6) ((rd_T27 l1_9 x95_3).f7) = some r) ∧ Aside0 (kq ≤ kj42) ∧ Aside0 (Kd.R Kd.string 9 wc w.heap.size (fun _ => True) (.slice (some ad223) t214.length co47) t214) ∧ Aside0 (wc.heap[gb208]? = some (.cells #[.int .i64 a1_0, .int .i64 a1_1, .int .i64 a1_2, .string a1_3, .string a1_4, .int .i64 a1_5, .int .u64 a1_6, .int .u64 a1_7, .bool a1_8, (.slice (some ad221) l1_9.length c1_9)] 27 (0, 0))) ∧ Aside0 (wc.heap[gb222]? = some (.cells #[.int .i64 ((rd_T27 l1_9 x95_3).f0), .int .i64 ((rd_T27 l1_9 x95_3).f1), .int .i64 ((rd_T27 l1_9 x95_3).f2), .string ((rd_T27 l1_9 x95_3).f3), .string ((rd_T27 l1_9 x95_3).f4), .int .i64 ((rd_T27 l1_9 x95_3).f5.f0), .int .u64 ((rd_T27 l1_9 x95_3).f5.f1), .int .u64 ((rd_T27 l1_9 x95_3).f5.f2), .bool ((rd_T27 l1_9 x95_3).f6), (.slice A221_9 ((rd_T27 l1_9 x95_3).f7).length c221_9)] 27 (0, 0))) ∧ Aside0 (Below w.heap.size w wc))
               case first =>
                have H := HC61.out
                clear HC61
                replace H := iE H; rcases H with ⟨c62b0, c62b1, H⟩ | ⟨c62, c62b0, c62b1, H⟩
                ·(skip)
                 replace H := iE H; rcases H with ⟨c63b0, c63b1, H⟩ | ⟨c63, c63b0, c63b1, H⟩
                 ·replace H := iE H; rcases H with ⟨c64b0, c64b1, H⟩ | ⟨c64, c64b0, c64b1, H⟩
                  ·by_cases c65 : (!(((rd_T27 l1_9 x95_3).f5.f0) == 0) || (!(((rd_T27 l1_9 x95_3).f5.f1) == 0) || (!(((rd_T27 l1_9 x95_3).f5.f2) == 0)))) = true
                   ·rw [if_pos c65] at H
                    have c65b0 : (!(((rd_T27 l1_9 x95_3).f5.f0) == 0) || (!(((rd_T27 l1_9 x95_3).f5.f1) == 0) || (!(((rd_T27 l1_9 x95_3).f5.f2) == 0)))) = true := c65
                    clear c65
                    have H' := Aside0.mk H
                    clear H
                    have hnb66 := NB222_208.out
                    have hnc66 := NB208_222.out
                    obtain ⟨hcz67_0, hcz67_1, hcz67_2, hcz67_3, hcz67_4, hcz67_5, hcz67_6, hcz67_7, hcz67_8, hcz67_9⟩ := sq_cells10 (W := wc) (g := gb222) BK222.out; obtain ⟨hfz67_0, hfz67_1, hfz67_2, hfz67_3, hfz67_4, hfz67_5, hfz67_6, hfz67_7, hfz67_8, hfz67_9⟩ := sq_frozen10 BK222.out
                    go_wp2
                    go_meet
                    case rel => exact ⟨_, (true), (by rfl), H', ⟨by have := HJ3.out; have := HJ20.out; have := HK3.out; have := HJ42.out; omega⟩, ⟨by exact HO_8.out⟩, ⟨by exact BK208.out⟩, ⟨by exact BK222.out⟩, ⟨by repeat (with_reducible exact HB.out)⟩⟩
                   ·rw [if_neg c65] at H
                    have c65b0 : (!(((rd_T27 l1_9 x95_3).f5.f0) == 0) || (!(((rd_T27 l1_9 x95_3).f5.f1) == 0) || (!(((rd_T27 l1_9 x95_3).f5.f2) == 0)))) = false := by simpa using c65
                    clear c65
                    by_cases c68 : ((rd_T27 l1_9 x95_3).f6) = true
                    ·rw [if_pos c68] at H
                     have c68b0 : ((rd_T27 l1_9 x95_3).f6) = true := c68
                     clear c68
                     have H' := Aside0.mk H
                     clear H
                     have hnb69 := NB222_208.out
                     have hnc69 := NB208_222.out
                     obtain ⟨hcz70_0, hcz70_1, hcz70_2, hcz70_3, hcz70_4, hcz70_5, hcz70_6, hcz70_7, hcz70_8, hcz70_9⟩ := sq_cells10 (W := wc) (g := gb222) BK222.out; obtain ⟨hfz70_0, hfz70_1, hfz70_2, hfz70_3, hfz70_4, hfz70_5, hfz70_6, hfz70_7, hfz70_8, hfz70_9⟩ := sq_frozen10 BK222.out
                     go_wp2
                     go_meet
                     case rel => exact ⟨_, (true), (by rfl), H', ⟨by have := HJ3.out; have := HJ20.out; have := HK3.out; have := HJ42.out; omega⟩, ⟨by exact HO_8.out⟩, ⟨by exact BK208.out⟩, ⟨by exact BK222.out⟩, ⟨by repeat (with_reducible exact HB.out)⟩⟩
                    ·rw [if_neg c68] at H
                     have c68b0 : ((rd_T27 l1_9 x95_3).f6) = false := by simpa using c68
                     clear c68
                     have H' := Aside0.mk H
                     clear H
                     have hnb71 := NB222_208.out
                     have hnc71 := NB208_222.out
                     obtain ⟨hcz72_0, hcz72_1, hcz72_2, hcz72_3, hcz72_4, hcz72_5, hcz72_6, hcz72_7, hcz72_8, hcz72_9⟩ := sq_cells10 (W := wc) (g := gb222) BK222.out; obtain ⟨hfz72_0, hfz72_1, hfz72_2, hfz72_3, hfz72_4, hfz72_5, hfz72_6, hfz72_7, hfz72_8, hfz72_9⟩ := sq_frozen10 BK222.out
                     go_wp2
                     go_meet
                     case rel => exact ⟨_, (decide ((((rd_T27 l1_9 x95_3).f7).length : Int) > 0)), (by (simp; done)), H', ⟨by have := HJ3.out; have := HJ20.out; have := HK3.out; have := HJ42.out; omega⟩, ⟨by exact HO_8.out⟩, ⟨by exact BK208.out⟩, ⟨by exact BK222.out⟩, ⟨by repeat (with_reducible exact HB.out)⟩⟩
                  ·have H' := Aside0.mk H
                   clear H
                   have hnb73 := NB222_208.out
                   have hnc73 := NB208_222.out
                   obtain ⟨hcz74_0, hcz74_1, hcz74_2, hcz74_3, hcz74_4, hcz74_5, hcz74_6, hcz74_7, hcz74_8, hcz74_9⟩ := sq_cells10 (W := wc) (g := gb222) BK222.out; obtain ⟨hfz74_0, hfz74_1, hfz74_2, hfz74_3, hfz74_4, hfz74_5, hfz74_6, hfz74_7, hfz74_8, hfz74_9⟩ := sq_frozen10 BK222.out
                   go_wp2
                   go_meet
                   case rel => exact ⟨_, (true), (by rfl), H', ⟨by have := HJ3.out; have := HJ20.out; have := HK3.out; have := HJ42.out; omega⟩, ⟨by exact HO_8.out⟩, ⟨by exact BK208.out⟩, ⟨by exact BK222.out⟩, ⟨by repeat (with_reducible exact HB.out)⟩⟩
                 ·have H' := Aside0.mk H
                  clear H
                  have hnb75 := NB222_208.out
                  have hnc75 := NB208_222.out
                  obtain ⟨hcz76_0, hcz76_1, hcz76_2, hcz76_3, hcz76_4, hcz76_5, hcz76_6, hcz76_7, hcz76_8, hcz76_9⟩ := sq_cells10 (W := wc) (g := gb222) BK222.out; obtain ⟨hfz76_0, hfz76_1, hfz76_2, hfz76_3, hfz76_4, hfz76_5, hfz76_6, hfz76_7, hfz76_8, hfz76_9⟩ := sq_frozen10 BK222.out
                  go_wp2
                  go_meet
                  case rel => exact ⟨_, (true), (by rfl), H', ⟨by have := HJ3.out; have := HJ20.out; have := HK3.out; have := HJ42.out; omega⟩, ⟨by exact HO_8.out⟩, ⟨by exact BK208.out⟩, ⟨by exact BK222.out⟩, ⟨by repeat (with_reducible exact HB.out)⟩⟩
                ·(skip)
                 have H' := Aside0.mk H
                 clear H
                 have hnb77 := NB222_208.out
                 have hnc77 := NB208_222.out
                 obtain ⟨hcz78_0, hcz78_1, hcz78_2, hcz78_3, hcz78_4, hcz78_5, hcz78_6, hcz78_7, hcz78_8, hcz78_9⟩ := sq_cells10 (W := wc) (g := gb222) BK222.out; obtain ⟨hfz78_0, hfz78_1, hfz78_2, hfz78_3, hfz78_4, hfz78_5, hfz78_6, hfz78_7, hfz78_8, hfz78_9⟩ := sq_frozen10 BK222.out
                 go_wp2
                 go_meet
                 case rel => exact ⟨_, (false), (by rfl), H', ⟨by have := HJ3.out; have := HJ20.out; have := HK3.out; have := HJ42.out; omega⟩, ⟨by exact HO_8.out⟩, ⟨by exact BK208.out⟩, ⟨by exact BK222.out⟩, ⟨by repeat (with_reducible exact HB.out)⟩⟩
               case rest => as_aux_lemma =>
                clear HC61
                obtain ⟨kq, x126_60, rfl, HA, HJ60, HO_8, BK208, BK222, HB⟩ := hcut
                cases kq with
                | zero => exact absurd HA.out (by simp [maskref1_nodeFault.j4])
                | succ kj60 =>
                 have H := HA.out
                 clear HA
                 simp only [maskref1_nodeFault.j4] at H
                 replace H := iB H; rcases H with ⟨rfl, H⟩ | ⟨rfl, H⟩
                 ·obtain rfl := Option.some.inj H
                  go_wp2
                  go_ret
                  exact ⟨by rfl, by repeat (with_reducible exact HB.out)⟩
                 ·replace H := iE H; rcases H with ⟨c80b0, c80b1, H⟩ | ⟨c80, c80b0, c80b1, H⟩
                  ·have H' := Aside0.mk H
                   clear H
                   have hnb81 := NB222_208.out
                   have hnc81 := NB208_222.out
                   obtain ⟨hcz82_0, hcz82_1, hcz82_2, hcz82_3, hcz82_4, hcz82_5, hcz82_6, hcz82_7, hcz82_8, hcz82_9⟩ := sq_cells10 (W := wc) (g := gb222) BK222.out; obtain ⟨hfz82_0, hfz82_1, hfz82_2, hfz82_3, hfz82_4, hfz82_5, hfz82_6, hfz82_7, hfz82_8, hfz82_9⟩ := sq_frozen10 BK222.out
                   go_wp2
                   go_roundg kj60
                   case measure => have := HJ3.out; have := HJ20.out; have := HK3.out; have := HJ42.out; have := HJ60.out; omega
                   case rel => exact ⟨(wrap64 (x95_3 + 1)), (by rfl), H', ⟨by have := HJ3.out; have := HJ20.out; have := HK3.out; have := HJ42.out; have := HJ60.out; omega⟩, ⟨by exact HO_8.out⟩, ⟨by exact BK208.out⟩, ⟨by repeat (with_reducible exact HB.out)⟩⟩
                  ·have HC83 := Aside0.mk H
                   clear H
                   have hnb84 := NB222_208.out
                   have hnc84 := NB208_222.out
                   obtain ⟨hcz85_0, hcz85_1, hcz85_2, hcz85_3, hcz85_4, hcz85_5, hcz85_6, hcz85_7, hcz85_8, hcz85_9⟩ := sq_cells10 (W := wc) (g := gb222) BK222.out; obtain ⟨hfz85_0, hfz85_1, hfz85_2, hfz85_3, hfz85_4, hfz85_5, hfz85_6, hfz85_7, hfz85_8, hfz85_9⟩ := sq_frozen10 BK222.out
                   go_upto_region 19 with (fail)
                   go_cut [160] (fun v160 wc => ∃ (kq : Nat) (x160_82 : Bool), v160 = .bool x160_82 ∧ Aside0 (maskref1_nodeFault.j5 kq l0 a2 t214 (rdOf ByteArray.empty t214 x95_3) x13_42 l1_9 (l1_9.length : Int) x95_3 x160_82 a1_0 a1_1 a1_2 a1_3 a1_4 a1_5 a1_6 a1_7 a1_8 l1_9 ((rd_T27 l1_9 x95_3).f0) ((rd_T27 l1_9 x95_3).f1) ((rd_T27 l1_9 x95_3).f2) ((rd_T27 l1_9 x95_3).f3) ((rd_T27 l1_9 x95_3).f4) ((rd_T27 l1_9 x95_3).f5.f0) ((rd_T27 l1_9 x95_3).f5.f1) ((rd_T27 l1_9 x95_3).f5.f2) ((rd_T27 l1_9 x95_3).f6) ((rd_T27 l1_9 x95_3).f7) = some r) ∧ Aside0 (kq ≤ kj60) ∧ Aside0 (Kd.R Kd.string 9 wc w.heap.size (fun _ => True) (.slice (some ad223) t214.length co47) t214) ∧ Aside0 (wc.heap[gb208]? = some (.cells #[.int .i64 a1_0, .int .i64 a1_1, .int .i64 a1_2, .string a1_3, .string a1_4, .int .i64 a1_5, .int .u64 a1_6, .int .u64 a1_7, .bool a1_8, (.slice (some ad221) l1_9.length c1_9)] 27 (0, 0))) ∧ Aside0 (wc.heap[gb222]? = some (.cells #[.int .i64 ((rd_T27 l1_9 x95_3).f0), .int .i64 ((rd_T27 l1_9 x95_3).f1), .int .i64 ((rd_T27 l1_9 x95_3).f2), .string ((rd_T27 l1_9 x95_3).f3), .string ((rd_T27 l1_9 x95_3).f4), .int .i64 ((rd_T27 l1_9 x95_3).f5.f0), .int .u64 ((rd_T27 l1_9 x95_3).f5.f1), .int .u64 ((rd_T27 l1_9 x95_3).f5.f2), .bool ((rd_T27 l1_9 x95_3).f6), (.slice A221_9 ((rd_T27 l1_9 x95_3).f7).length c221_9)] 27 (0, 0))) ∧ Aside0 (Below w.heap.size w wc))
                   case first =>
                    have H := HC83.out
                    clear HC83
                    replace H := iB H; rcases H with ⟨rfl, H⟩ | ⟨rfl, H⟩
                    ·have H' := Aside0.mk H
                     clear H
                     have hnb87 := NB222_208.out
                     have hnc87 := NB208_222.out
                     obtain ⟨hcz88_0, hcz88_1, hcz88_2, hcz88_3, hcz88_4, hcz88_5, hcz88_6, hcz88_7, hcz88_8, hcz88_9⟩ := sq_cells10 (W := wc) (g := gb222) BK222.out; obtain ⟨hfz88_0, hfz88_1, hfz88_2, hfz88_3, hfz88_4, hfz88_5, hfz88_6, hfz88_7, hfz88_8, hfz88_9⟩ := sq_frozen10 BK222.out
                     go_wp2
                     go_meet
                     case rel => exact ⟨_, ((((rd_T27 l1_9 x95_3).f0) == 114)), (by rfl), H', ⟨by have := HJ3.out; have := HJ20.out; have := HK3.out; have := HJ42.out; have := HJ60.out; omega⟩, ⟨by exact HO_8.out⟩, ⟨by exact BK208.out⟩, ⟨by exact BK222.out⟩, ⟨by repeat (with_reducible exact HB.out)⟩⟩
                    ·have H' := Aside0.mk H
                     clear H
                     go_wp2
                     go_meet
                     case rel => exact ⟨_, (false), (by rfl), H', ⟨by have := HJ3.out; have := HJ20.out; have := HK3.out; have := HJ42.out; have := HJ60.out; omega⟩, ⟨by exact HO_8.out⟩, ⟨by exact BK208.out⟩, ⟨by exact BK222.out⟩, ⟨by repeat (with_reducible exact HB.out)⟩⟩
                   case rest =>
                    clear HC83
                    (try clear c80); (try clear c80b0); (try clear c80b1); (try clear hcz85_0 hcz85_1 hcz85_2 hcz85_3 hcz85_4 hcz85_5 hcz85_6 hcz85_7 hcz85_8 hcz85_9); (try clear hfz85_0 hfz85_1 hfz85_2 hfz85_3 hfz85_4 hfz85_5 hfz85_6 hfz85_7 hfz85_8 hfz85_9)
                    obtain ⟨kq, x160_82, rfl, HA, HJ82, HO_8, BK208, BK222, HB⟩ := hcut
                    cases kq with
                    | zero => exact absurd HA.out (by simp [maskref1_nodeFault.j5])
                    | succ kj82 =>
                     have H := HA.out
                     clear HA
                     simp only [maskref1_nodeFault.j5] at H
                     replace H := iB H; rcases H with ⟨rfl, H⟩ | ⟨rfl, H⟩
                     ·obtain rfl := Option.some.inj H
                      go_wp2
                      go_ret
                      exact ⟨by rfl, by repeat (with_reducible exact HB.out)⟩
                     ·have HC90 := Aside0.mk H
                      clear H
                      go_upto_region 21 with (fail)
                      go_cut [167] (fun v167 wc => ∃ (kq : Nat) (x167_89 : Bool), v167 = .bool x167_89 ∧ Aside0 (maskref1_nodeFault.j6 kq l0 a2 t214 (rdOf ByteArray.empty t214 x95_3) l1_9 (l1_9.length : Int) x95_3 x167_89 a1_0 a1_1 a1_2 a1_3 a1_4 a1_5 a1_6 a1_7 a1_8 l1_9 ((rd_T27 l1_9 x95_3).f0) ((rd_T27 l1_9 x95_3).f1) ((rd_T27 l1_9 x95_3).f2) ((rd_T27 l1_9 x95_3).f3) ((rd_T27 l1_9 x95_3).f4) ((rd_T27 l1_9 x95_3).f5.f0) ((rd_T27 l1_9 x95_3).f5.f1) ((rd_T27 l1_9 x95_3).f5.f2) ((rd_T27 l1_9 x95_3).f6) ((rd_T27 l1_9 x95_3).f7) = some r) ∧ Aside0 (kq ≤ kj82) ∧ Aside0 (Kd.R Kd.string 9 wc w.heap.size (fun _ => True) (.slice (some ad223) t214.length co47) t214) ∧ Aside0 (wc.heap[gb208]? = some (.cells #[.int .i64 a1_0, .int .i64 a1_1, .int .i64 a1_2, .string a1_3, .string a1_4, .int .i64 a1_5, .int .u64 a1_6, .int .u64 a1_7, .bool a1_8, (.slice (some ad221) l1_9.length c1_9)] 27 (0, 0))) ∧ Aside0 (wc.heap[gb222]? = some (.cells #[.int .i64 ((rd_T27 l1_9 x95_3).f0), .int .i64 ((rd_T27 l1_9 x95_3).f1), .int .i64 ((rd_T27 l1_9 x95_3).f2), .string ((rd_T27 l1_9 x95_3).f3), .string ((rd_T27 l1_9 x95_3).f4), .int .i64 ((rd_T27 l1_9 x95_3).f5.f0), .int .u64 ((rd_T27 l1_9 x95_3).f5.f1), .int .u64 ((rd_T27 l1_9 x95_3).f5.f2), .bool ((rd_T27 l1_9 x95_3).f6), (.slice A221_9 ((rd_T27 l1_9 x95_3).f7).length c221_9)] 27 (0, 0))) ∧ Aside0 (Below w.heap.size w wc))
                      case first =>
                       have H := HC90.out
                       clear HC90
                       replace H := iB H; rcases H with ⟨rfl, H⟩ | ⟨rfl, H⟩
                       ·have H' := Aside0.mk H
                        clear H
                        go_wp2
                        go_meet
                        case rel => exact ⟨_, (true), (by rfl), H', ⟨by have := HJ3.out; have := HJ20.out; have := HK3.out; have := HJ42.out; have := HJ60.out; have := HJ82.out; omega⟩, ⟨by exact HO_8.out⟩, ⟨by exact BK208.out⟩, ⟨by exact BK222.out⟩, ⟨by repeat (with_reducible exact HB.out)⟩⟩
                       ·replace H := iE H; rcases H with ⟨c92b0, c92b1, H⟩ | ⟨c92, c92b0, c92b1, H⟩
                        ·(skip)
                         have H' := Aside0.mk H
                         clear H
                         have hnb93 := NB208_222.out
                         have hnc93 := NB222_208.out
                         obtain ⟨hcz94_0, hcz94_1, hcz94_2, hcz94_3, hcz94_4, hcz94_5, hcz94_6, hcz94_7, hcz94_8, hcz94_9⟩ := sq_cells10 (W := wc) (g := gb208) BK208.out; obtain ⟨hfz94_0, hfz94_1, hfz94_2, hfz94_3, hfz94_4, hfz94_5, hfz94_6, hfz94_7, hfz94_8, hfz94_9⟩ := sq_frozen10 BK208.out
                         go_wp2
                         go_meet
                         case rel => exact ⟨_, (a2.toList == ([116] : List UInt8)), (by rfl), H', ⟨by have := HJ3.out; have := HJ20.out; have := HK3.out; have := HJ42.out; have := HJ60.out; have := HJ82.out; omega⟩, ⟨by exact HO_8.out⟩, ⟨by exact BK208.out⟩, ⟨by exact BK222.out⟩, ⟨by repeat (with_reducible exact HB.out)⟩⟩
                        ·(skip)
                         have H' := Aside0.mk H
                         clear H
                         have hnb95 := NB208_222.out
                         have hnc95 := NB222_208.out
                         obtain ⟨hcz96_0, hcz96_1, hcz96_2, hcz96_3, hcz96_4, hcz96_5, hcz96_6, hcz96_7, hcz96_8, hcz96_9⟩ := sq_cells10 (W := wc) (g := gb208) BK208.out; obtain ⟨hfz96_0, hfz96_1, hfz96_2, hfz96_3, hfz96_4, hfz96_5, hfz96_6, hfz96_7, hfz96_8, hfz96_9⟩ := sq_frozen10 BK208.out
                         go_wp2
                         go_meet
                         case rel => exact ⟨_, (false), (by rfl), H', ⟨by have := HJ3.out; have := HJ20.out; have := HK3.out; have := HJ42.out; have := HJ60.out; have := HJ82.out; omega⟩, ⟨by exact HO_8.out⟩, ⟨by exact BK208.out⟩, ⟨by exact BK222.out⟩, ⟨by repeat (with_reducible exact HB.out)⟩⟩
                      case rest =>
                       clear HC90
                       obtain ⟨kq, x167_89, rfl, HA, HJ89, HO_8, BK208, BK222, HB⟩ := hcut
                       cases kq with
                       | zero => exact absurd HA.out (by simp [maskref1_nodeFault.j6])
                       | succ kj89 =>
                        have H := HA.out
                        clear HA
                        simp only [maskref1_nodeFault.j6] at H
                        replace H := iB H; rcases H with ⟨rfl, H⟩ | ⟨rfl, H⟩
                        ·have H' := Aside0.mk H
                         clear H
                         go_wp2
                         go_meet
                         case rel => exact ⟨_, (⟨#[116]⟩ : ByteArray), (by rfl), H', ⟨by have := HJ3.out; have := HJ20.out; have := HK3.out; have := HJ42.out; have := HJ60.out; have := HJ82.out; have := HJ89.out; omega⟩, ⟨by exact HO_8.out⟩, ⟨by exact BK208.out⟩, ⟨by exact BK222.out⟩, ⟨by repeat (with_reducible exact HB.out)⟩⟩
                        ·have H' := Aside0.mk H
                         clear H
                         go_wp2
                         go_meet
                         case rel => exact ⟨_, (rdOf ByteArray.empty t214 x95_3), (by rfl), H', ⟨by have := HJ3.out; have := HJ20.out; have := HK3.out; have := HJ42.out; have := HJ60.out; have := HJ82.out; have := HJ89.out; omega⟩, ⟨by exact HO_8.out⟩, ⟨by exact BK208.out⟩, ⟨by exact BK222.out⟩, ⟨by repeat (with_reducible exact HB.out)⟩⟩
              case rest =>
               clear HC60
               obtain ⟨kq, x12_59, rfl, HA, HJ59, HO_8, BK208, BK222, HB⟩ := hcut
               cases kq with
               | zero => exact absurd HA.out (by simp [maskref1_nodeFault.j7])
               | succ kj59 =>
                have H := HA.out
                clear HA
                simp only [maskref1_nodeFault.j7] at H
                replace H := bN H; obtain ⟨t224, A98, H⟩ := H
                replace H := iE H; rcases H with ⟨c99b0, c99b1, H⟩ | ⟨c99, c99b0, c99b1, H⟩
                ·have H' := Aside0.mk H
                 clear H
                 have hnb100 := NB222_208.out
                 have hnc100 := NB208_222.out
                 obtain ⟨hcz101_0, hcz101_1, hcz101_2, hcz101_3, hcz101_4, hcz101_5, hcz101_6, hcz101_7, hcz101_8, hcz101_9⟩ := sq_cells10 (W := wc) (g := gb222) BK222.out; obtain ⟨hfz101_0, hfz101_1, hfz101_2, hfz101_3, hfz101_4, hfz101_5, hfz101_6, hfz101_7, hfz101_8, hfz101_9⟩ := sq_frozen10 BK222.out
                 go_wp2_with ((refine callA (some 181) Try.func24 #[.slice (some ad209) l0.length c0, .agg #[.int .i64 ((rd_T27 l1_9 x95_3).f0), .int .i64 ((rd_T27 l1_9 x95_3).f1), .int .i64 ((rd_T27 l1_9 x95_3).f2), .string ((rd_T27 l1_9 x95_3).f3), .string ((rd_T27 l1_9 x95_3).f4), .int .i64 ((rd_T27 l1_9 x95_3).f5.f0), .int .u64 ((rd_T27 l1_9 x95_3).f5.f1), .int .u64 ((rd_T27 l1_9 x95_3).f5.f2), .bool ((rd_T27 l1_9 x95_3).f6), .slice A221_9 ((rd_T27 l1_9 x95_3).f7).length c221_9], .string x12_59] ?_; (with_reducible refine (ih kj59 (by have := HJ3.out; have := HJ20.out; have := HK3.out; have := HJ42.out; have := HJ59.out; omega) _ _ l0 ((rd_T27 l1_9 x95_3).f0) ((rd_T27 l1_9 x95_3).f1) ((rd_T27 l1_9 x95_3).f2) ((rd_T27 l1_9 x95_3).f3) ((rd_T27 l1_9 x95_3).f4) ((rd_T27 l1_9 x95_3).f5.f0) ((rd_T27 l1_9 x95_3).f5.f1) ((rd_T27 l1_9 x95_3).f5.f2) ((rd_T27 l1_9 x95_3).f6) _ _ ((rd_T27 l1_9 x95_3).f7) x12_59 t224 _ ?side1 ?side2 ?side3 ?side4 A98.out).mono ?_); (case side1 => exact (Kd.C_below HR0.out HB.out)); (case side2 => exact HC0.out); (case side3 => exact (Kd.C_below HR221_9.out HB.out)); (case side4 => exact HC221_9.out); rintro e w102 ⟨rfl, hb⟩; refine ⟨_, rfl, ?_⟩; replace HO_8 := Kd.rb1 HO_8 hb; replace BK208 := bk1 BK208 hb; replace BK222 := bk1 BK222 hb; replace HB := hb1 HB hb; (try clear hb)))
                 go_roundg kj59
                 case measure => have := HJ3.out; have := HJ20.out; have := HK3.out; have := HJ42.out; have := HJ59.out; omega
                 case rel => exact ⟨(wrap64 (x95_3 + 1)), (by rfl), H', ⟨by have := HJ3.out; have := HJ20.out; have := HK3.out; have := HJ42.out; have := HJ59.out; omega⟩, ⟨by exact HO_8.out⟩, ⟨by exact BK208.out⟩, ⟨by repeat (with_reducible exact HB.out)⟩⟩
                ·obtain rfl := Option.some.inj H
                 have hnb103 := NB222_208.out
                 have hnc103 := NB208_222.out
                 obtain ⟨hcz104_0, hcz104_1, hcz104_2, hcz104_3, hcz104_4, hcz104_5, hcz104_6, hcz104_7, hcz104_8, hcz104_9⟩ := sq_cells10 (W := wc) (g := gb222) BK222.out; obtain ⟨hfz104_0, hfz104_1, hfz104_2, hfz104_3, hfz104_4, hfz104_5, hfz104_6, hfz104_7, hfz104_8, hfz104_9⟩ := sq_frozen10 BK222.out
                 go_wp2_with ((refine callA (some 181) Try.func24 #[.slice (some ad209) l0.length c0, .agg #[.int .i64 ((rd_T27 l1_9 x95_3).f0), .int .i64 ((rd_T27 l1_9 x95_3).f1), .int .i64 ((rd_T27 l1_9 x95_3).f2), .string ((rd_T27 l1_9 x95_3).f3), .string ((rd_T27 l1_9 x95_3).f4), .int .i64 ((rd_T27 l1_9 x95_3).f5.f0), .int .u64 ((rd_T27 l1_9 x95_3).f5.f1), .int .u64 ((rd_T27 l1_9 x95_3).f5.f2), .bool ((rd_T27 l1_9 x95_3).f6), .slice A221_9 ((rd_T27 l1_9 x95_3).f7).length c221_9], .string x12_59] ?_; (with_reducible refine (ih kj59 (by have := HJ3.out; have := HJ20.out; have := HK3.out; have := HJ42.out; have := HJ59.out; omega) _ _ l0 ((rd_T27 l1_9 x95_3).f0) ((rd_T27 l1_9 x95_3).f1) ((rd_T27 l1_9 x95_3).f2) ((rd_T27 l1_9 x95_3).f3) ((rd_T27 l1_9 x95_3).f4) ((rd_T27 l1_9 x95_3).f5.f0) ((rd_T27 l1_9 x95_3).f5.f1) ((rd_T27 l1_9 x95_3).f5.f2) ((rd_T27 l1_9 x95_3).f6) _ _ ((rd_T27 l1_9 x95_3).f7) x12_59 t224 _ ?side1 ?side2 ?side3 ?side4 A98.out).mono ?_); (case side1 => exact (Kd.C_below HR0.out HB.out)); (case side2 => exact HC0.out); (case side3 => exact (Kd.C_below HR221_9.out HB.out)); (case side4 => exact HC221_9.out); rintro e w105 ⟨rfl, hb⟩; refine ⟨_, rfl, ?_⟩; replace HO_8 := Kd.rb1 HO_8 hb; replace BK208 := bk1 BK208 hb; replace BK222 := bk1 BK222 hb; replace HB := hb1 HB hb; (try clear hb)))
                 go_ret
                 exact ⟨by rfl, by repeat (with_reducible exact HB.out)⟩
           ·obtain rfl := Option.some.inj H
            go_wp2
            go_ret
            exact ⟨by rfl, by repeat (with_reducible exact HB.out)⟩
     ·obtain rfl := Option.some.inj H
      obtain ⟨hcz106_0, hcz106_1, hcz106_2, hcz106_3, hcz106_4, hcz106_5, hcz106_6, hcz106_7, hcz106_8, hcz106_9⟩ := sq_cells10 (W := wc) (g := gb208) BK208.out; obtain ⟨hfz106_0, hfz106_1, hfz106_2, hfz106_3, hfz106_4, hfz106_5, hfz106_6, hfz106_7, hfz106_8, hfz106_9⟩ := sq_frozen10 BK208.out
      have p209 : 0 ≤ (a1_0 : Int) := of_decide_eq_true (by (with_reducible assumption))
      have q209 : a1_0 < (l0.length : Int) := of_decide_eq_true (by (with_reducible assumption))
      obtain ⟨ad209, e209, hx209_0, hx209_1, hx209_2⟩ := at_T73 HR0.out a1_0 p209 q209
      cases e209
      replace hx209_0 := (HB.out.cell (World.block_lt_of_cell? w _ hx209_0)).trans hx209_0
      replace hx209_1 := (HB.out.cell (World.block_lt_of_cell? w _ hx209_1)).trans hx209_1
      replace hx209_2 := (HB.out.cell (World.block_lt_of_cell? w _ hx209_2)).trans hx209_2
      replace p209 := eq_true p209
      replace q209 := eq_true q209
      try go_wp2_with ((refine callA (some 44) Try.func34 #[.string ((rd_T73 l0 a1_0).f0), .string a2] ?_; (with_reducible refine (maskref1_contains.calls kj3 ((rd_T73 l0 a1_0).f0) a2 true _ A16.out).mono ?_); rintro e w' ⟨rfl, ⟨nd, rfl⟩⟩; refine ⟨_, rfl, ?_⟩))
      (try (rw [drewN_self wc]; generalize hq_ : World.drewN wc _ = wc; have n0_ : Aside0 (wc.heap[gb208]? = some (.cells #[.int .i64 a1_0, .int .i64 a1_1, .int .i64 a1_2, .string a1_3, .string a1_4, .int .i64 a1_5, .int .u64 a1_6, .int .u64 a1_7, .bool a1_8, .slice A1_9 l1_9.length c1_9] 27 (0, 0))) := ⟨by rw [← hq_]; exact (by (with_reducible repeat (refine blk_drewN ?_ _)); exact BK208.out)⟩; have n1_ : Aside0 (Below w.heap.size w wc) := ⟨by rw [← hq_]; exact (by repeat (with_reducible first | exact HB.out | apply pw_below_drewN))⟩; clear BK208 HB hq_; have BK208 := n0_; have HB := n1_; clear n0_ n1_))
      replace BK208 := bkd BK208
      replace HB := hbd HB
      have p211 : 0 ≤ (a1_0 : Int) := of_decide_eq_true (by (with_reducible assumption))
      have q211 : a1_0 < (l0.length : Int) := of_decide_eq_true (by (with_reducible assumption))
      obtain ⟨ad211, e211, hx211_0, hx211_1, hx211_2⟩ := at_T73 HR0.out a1_0 p211 q211
      have hw211_2 := hx211_2
      have hw211_1 := hx211_1
      have hw211_0 := hx211_0
      obtain rfl : ad209 = ad211 := (by injection e211)
      replace hx211_0 := (HB.out.cell (World.block_lt_of_cell? w _ hx211_0)).trans hx211_0
      replace hx211_1 := (HB.out.cell (World.block_lt_of_cell? w _ hx211_1)).trans hx211_1
      replace hx211_2 := (HB.out.cell (World.block_lt_of_cell? w _ hx211_2)).trans hx211_2
      replace p211 := eq_true p211
      replace q211 := eq_true q211
      refine start_ (n := 9) (S := fun w' => w'.cell? ⟨gb208, 0, none⟩ = some (.int .i64 a1_0) ∧ w'.cell? ⟨gb208, 1, none⟩ = some (.int .i64 a1_1) ∧ w'.cell? ⟨gb208, 2, none⟩ = some (.int .i64 a1_2) ∧ w'.cell? ⟨gb208, 3, none⟩ = some (.string a1_3) ∧ w'.cell? ⟨gb208, 4, none⟩ = some (.string a1_4) ∧ w'.cell? ⟨gb208, 5, none⟩ = some (.int .i64 a1_5) ∧ w'.cell? ⟨gb208, 6, none⟩ = some (.int .u64 a1_6) ∧ w'.cell? ⟨gb208, 7, none⟩ = some (.int .u64 a1_7) ∧ w'.cell? ⟨gb208, 8, none⟩ = some (.bool a1_8) ∧ w'.cell? ⟨gb208, 9, none⟩ = some (.slice A1_9 l1_9.length c1_9) ∧ w'.cell? (ad209.add ((a1_0).toNat * 3)) = some (.string ((rd_T73 l0 a1_0).f0)) ∧ w'.cell? ⟨(ad209.add ((a1_0).toNat * 3)).block, (ad209.add ((a1_0).toNat * 3)).off + 1, none⟩ = some (.string ((rd_T73 l0 a1_0).f1)) ∧ w'.cell? ⟨(ad209.add ((a1_0).toNat * 3)).block, (ad209.add ((a1_0).toNat * 3)).off + 2, none⟩ = some (.string ((rd_T73 l0 a1_0).f2))) (ds := []) (tb 9 0) (by kernel_rfl) rfl (by kernel_rfl) ⟨(blk_cell BK208.out 0).trans rfl, (blk_cell BK208.out 1).trans rfl, (blk_cell BK208.out 2).trans rfl, (blk_cell BK208.out 3).trans rfl, (blk_cell BK208.out 4).trans rfl, (blk_cell BK208.out 5).trans rfl, (blk_cell BK208.out 6).trans rfl, (blk_cell BK208.out 7).trans rfl, (blk_cell BK208.out 8).trans rfl, (blk_cell BK208.out 9).trans rfl, ((HB.out.cell (World.block_lt_of_cell? w _ hw211_0)).trans hw211_0), ((HB.out.cell (World.block_lt_of_cell? w _ hw211_1)).trans hw211_1), ((HB.out.cell (World.block_lt_of_cell? w _ hw211_2)).trans hw211_2)⟩ (fun hHeld => ?_); refine with_tabW maskref1_nodeFault.tab5 maskref1_nodeFault.bits5 (fun HT_ HW_ => ?_)
      generalize wc.drew = w107 at BK208 HB hx211_0 hx211_1 hx211_2 hHeld ⊢
      refine pA 0 46 (tb 9 1) HT_ ?_
      refine pA 1 47 (tb 9 3) HT_ ?_
      refine tA 2 48 (tb 9 7) HT_ HW_ hHeld ?_
      refine pA 3 49 (tb 9 15) HT_ ?_
      refine pA 4 50 (tb 9 31) HT_ ?_
      refine tA 5 51 (tb 9 63) HT_ HW_ hHeld ?_
      refine tA 6 52 (tb 9 127) HT_ HW_ hHeld ?_
      refine oA 7 (some 53) (tb 9 255) HT_ (fun K hK => ?_)
      refine gA Try.func35 #[.string ((rd_T73 l0 a1_0).f2), .agg #[.int .i64 a1_0, .int .i64 a1_1, .int .i64 a1_2, .string a1_3, .string a1_4, .int .i64 a1_5, .int .u64 a1_6, .int .u64 a1_7, .bool a1_8, .slice A1_9 l1_9.length c1_9]] ?_
      with_reducible refine (maskref1_fieldFault.calls kj3 ((rd_T73 l0 a1_0).f2) a1_0 a1_1 a1_2 a1_3 a1_4 a1_5 a1_6 a1_7 a1_8 _ _ l1_9 t212 _ ?side1 ?side2 A18.out).mono ?_
      (case side1 => exact (Kd.C_below HR1_9.out HB.out))
      (case side2 => exact HC1_9.out)
      rintro e w108 ⟨rfl, hb⟩
      refine ⟨_, rfl, ?_⟩
      replace BK208 := bk1 BK208 hb
      replace HB := hb1 HB hb
      (try clear hb)
      refine hK.out _ _ ⟨(blk_cell BK208.out 0).trans rfl, (blk_cell BK208.out 1).trans rfl, (blk_cell BK208.out 2).trans rfl, (blk_cell BK208.out 3).trans rfl, (blk_cell BK208.out 4).trans rfl, (blk_cell BK208.out 5).trans rfl, (blk_cell BK208.out 6).trans rfl, (blk_cell BK208.out 7).trans rfl, (blk_cell BK208.out 8).trans rfl, (blk_cell BK208.out 9).trans rfl, ((HB.out.cell (World.block_lt_of_cell? w _ hw211_0)).trans hw211_0), ((HB.out.cell (World.block_lt_of_cell? w _ hw211_1)).trans hw211_1), ((HB.out.cell (World.block_lt_of_cell? w _ hw211_2)).trans hw211_2)⟩ (fun hHeld => ?_)
      clear hK K
      refine nA ?_
      refine pA 8 7 (tb 9 511) HT_ ?_
      refine done_ (done_of HT_.out (by kernel_rfl)) ?_
      try go_wp2
      go_ret
      exact ⟨by rfl, by repeat (with_reducible exact HB.out)⟩
    ·obtain rfl := Option.some.inj H
     obtain ⟨hcz109_0, hcz109_1, hcz109_2, hcz109_3, hcz109_4, hcz109_5, hcz109_6, hcz109_7, hcz109_8, hcz109_9⟩ := sq_cells10 (W := wc) (g := gb208) BK208.out; obtain ⟨hfz109_0, hfz109_1, hfz109_2, hfz109_3, hfz109_4, hfz109_5, hfz109_6, hfz109_7, hfz109_8, hfz109_9⟩ := sq_frozen10 BK208.out
     have p209 : 0 ≤ (a1_0 : Int) := of_decide_eq_true (by (with_reducible assumption))
     have q209 : a1_0 < (l0.length : Int) := of_decide_eq_true (by (with_reducible assumption))
     obtain ⟨ad209, e209, hx209_0, hx209_1, hx209_2⟩ := at_T73 HR0.out a1_0 p209 q209
     cases e209
     replace hx209_0 := (HB.out.cell (World.block_lt_of_cell? w _ hx209_0)).trans hx209_0
     replace hx209_1 := (HB.out.cell (World.block_lt_of_cell? w _ hx209_1)).trans hx209_1
     replace hx209_2 := (HB.out.cell (World.block_lt_of_cell? w _ hx209_2)).trans hx209_2
     replace p209 := eq_true p209
     replace q209 := eq_true q209
     go_wp2_with ((refine callA (some 44) Try.func34 #[.string ((rd_T73 l0 a1_0).f0), .string a2] ?_; (with_reducible refine (maskref1_contains.calls kj3 ((rd_T73 l0 a1_0).f0) a2 false _ A16.out).mono ?_); rintro e w' ⟨rfl, ⟨nd, rfl⟩⟩; refine ⟨_, rfl, ?_⟩))
     go_ret
     exact ⟨by rfl, by repeat (with_reducible first | exact HB.out | apply pw_below_drewN)⟩
end Go.Proofs.Ytlamgdibnnmbmaa.PSyn
end
