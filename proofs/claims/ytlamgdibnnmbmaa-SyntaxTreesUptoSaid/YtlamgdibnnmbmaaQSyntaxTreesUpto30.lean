/- Part 31 of the proof of SyntaxTreesUptoSaid: The law SyntaxTrees, where the trees that it reads are of bulk at most 1048576: it returns true; the trees read behind the call as it read before. Out of the plain theorem of YtlamgdibnnmbmaaTr5. -/
import Derived.Test.YtlamgdibnnmbmaaQSyntaxTreesUpto13
import Derived.Test.YtlamgdibnnmbmaaQSyntaxTreesUpto29
import Derived.Test.YtlamgdibnnmbmaaQSyntaxTreesUpto16
import Derived.Test.YtlamgdibnnmbmaaQSyntaxTreesUpto17
import Derived.Test.YtlamgdibnnmbmaaQSyntaxTreesUpto26
section
namespace Go.Proofs.Ytlamgdibnnmbmaa.PSyn
open Go.RowKit Go.Proofs.YtlamgdibnnmbmaaW.PrintWords Go.Proofs.YtlamgdibnnmbmaaW.PrintLast Go.Proofs.YtlamgdibnnmbmaaW.PrintMore
attribute [local go_sem] max2_int min2_int max_two min_two max_three min_three max_four min_four
set_option linter.unusedVariables false
set_option linter.unusedSimpArgs false
mutual
def syntax_node.j0 : Nat → List (S89) → Int → Bool → Int → Int → Int → ByteArray → ByteArray → Int → Int → Int → Bool → List (S27) → Option (Int)
 | 0, _, _, _, _, _, _, _, _, _, _, _, _, _ => none
 | k + 1, x0, x2, x32, x137000, x137001, x137002, x137003, x137004, x137005, x137006, x137007, x137008, x137009 => if x32 = true then (some 2) else ((syntax_has.f x0 x137000 x2).bind fun t137 => (if t137 = true then (if 0 ≤ x137000 then (if x137000 < (x0.length : Int) then ((syntax_fields.f k ((rd_T89 x0 x137000).f2) x137000 x137001 x137002 x137003 x137004 x137005 x137006 x137007 x137008 x137009).bind fun t139 => (if t139 = 0 then ((syntax_match.f k x0 ((rd_T89 x0 x137000).f1) x137009).bind fun bt141 => (if bt141.2 = true then (if x137000 = 57 then (if 2 < (x137009.length : Int) then (if ((rd_T27 x137009 2).f0) = 0 then (syntax_node.j1 k x0 x2 bt141.1 false x137000 x137001 x137002 x137003 x137004 x137005 x137006 x137007 x137008 x137009) else (if 1 < (x137009.length : Int) then ((syntax_dangles.f k ((rd_T27 x137009 1).f0) ((rd_T27 x137009 1).f1) ((rd_T27 x137009 1).f2) ((rd_T27 x137009 1).f3) ((rd_T27 x137009 1).f4) ((rd_T27 x137009 1).f5.f0) ((rd_T27 x137009 1).f5.f1) ((rd_T27 x137009 1).f5.f2) ((rd_T27 x137009 1).f6) ((rd_T27 x137009 1).f7)).bind fun t147 => (syntax_node.j1 k x0 x2 bt141.1 t147 x137000 x137001 x137002 x137003 x137004 x137005 x137006 x137007 x137008 x137009)) else (none))) else (none)) else (syntax_node.j1 k x0 x2 bt141.1 false x137000 x137001 x137002 x137003 x137004 x137005 x137006 x137007 x137008 x137009)) else (some 4))) else (some t139))) else (none)) else (none)) else (some 8)))
def syntax_node.j1 : Nat → List (S89) → Int → List Int → Bool → Int → Int → Int → ByteArray → ByteArray → Int → Int → Int → Bool → List (S27) → Option (Int)
 | 0, _, _, _, _, _, _, _, _, _, _, _, _, _, _ => none
 | k + 1, x0, x2, x8, x82, x137000, x137001, x137002, x137003, x137004, x137005, x137006, x137007, x137008, x137009 => if x82 = true then (some 4) else (syntax_node.l0 k x0 x2 x8 x137009 (x137009.length : Int) 0 x137000 x137001 x137002 x137003 x137004 x137005 x137006 x137007 x137008 x137009)
def syntax_node.l0 : Nat → List (S89) → Int → List Int → List (S27) → Int → Int → Int → Int → Int → ByteArray → ByteArray → Int → Int → Int → Bool → List (S27) → Option (Int)
 | 0, _, _, _, _, _, _, _, _, _, _, _, _, _, _, _, _ => none
 | k + 1, x0, x2, x8, x84, x85, x86, x137000, x137001, x137002, x137003, x137004, x137005, x137006, x137007, x137008, x137009 => if x86 < x85 then (if 0 ≤ x86 then (if x86 < (x84.length : Int) then (if ((rd_T27 x84 x86).f0) = 0 then ((syntax_bare.f ((rd_T27 x84 x86).f0) ((rd_T27 x84 x86).f1) ((rd_T27 x84 x86).f2) ((rd_T27 x84 x86).f3) ((rd_T27 x84 x86).f4) ((rd_T27 x84 x86).f5.f0) ((rd_T27 x84 x86).f5.f1) ((rd_T27 x84 x86).f5.f2) ((rd_T27 x84 x86).f6) ((rd_T27 x84 x86).f7)).bind fun t150 => (if t150 = true then (syntax_node.l0 k x0 x2 x8 x84 x85 (wrap64 (x86 + 1)) x137000 x137001 x137002 x137003 x137004 x137005 x137006 x137007 x137008 x137009) else (some 4))) else (if x137000 = 114 then (syntax_node.j3 k x0 x2 x8 x86 x84 x85 x86 (x2 == 116) x137000 x137001 x137002 x137003 x137004 x137005 x137006 x137007 x137008 x137009 ((rd_T27 x84 x86).f0) ((rd_T27 x84 x86).f1) ((rd_T27 x84 x86).f2) ((rd_T27 x84 x86).f3) ((rd_T27 x84 x86).f4) ((rd_T27 x84 x86).f5.f0) ((rd_T27 x84 x86).f5.f1) ((rd_T27 x84 x86).f5.f2) ((rd_T27 x84 x86).f6) ((rd_T27 x84 x86).f7)) else (syntax_node.j3 k x0 x2 x8 x86 x84 x85 x86 false x137000 x137001 x137002 x137003 x137004 x137005 x137006 x137007 x137008 x137009 ((rd_T27 x84 x86).f0) ((rd_T27 x84 x86).f1) ((rd_T27 x84 x86).f2) ((rd_T27 x84 x86).f3) ((rd_T27 x84 x86).f4) ((rd_T27 x84 x86).f5.f0) ((rd_T27 x84 x86).f5.f1) ((rd_T27 x84 x86).f5.f2) ((rd_T27 x84 x86).f6) ((rd_T27 x84 x86).f7)))) else (none)) else (none)) else (some 0)
def syntax_node.j3 : Nat → List (S89) → Int → List Int → Int → List (S27) → Int → Int → Bool → Int → Int → Int → ByteArray → ByteArray → Int → Int → Int → Bool → List (S27) → Int → Int → Int → ByteArray → ByteArray → Int → Int → Int → Bool → List (S27) → Option (Int)
 | 0, _, _, _, _, _, _, _, _, _, _, _, _, _, _, _, _, _, _, _, _, _, _, _, _, _, _, _, _ => none
 | k + 1, x0, x2, x8, x10, x84, x85, x86, x103, x137000, x137001, x137002, x137003, x137004, x137005, x137006, x137007, x137008, x137009, x150000, x150001, x150002, x150003, x150004, x150005, x150006, x150007, x150008, x150009 => if x103 = true then (if 0 ≤ x10 then (if x10 < (x8.length : Int) then (syntax_node.j4 k x0 x2 (x8.set (x10 : Int).toNat 116) x10 x84 x85 x86 x137000 x137001 x137002 x137003 x137004 x137005 x137006 x137007 x137008 x137009 x150000 x150001 x150002 x150003 x150004 x150005 x150006 x150007 x150008 x150009) else (none)) else (none)) else (syntax_node.j4 k x0 x2 x8 x10 x84 x85 x86 x137000 x137001 x137002 x137003 x137004 x137005 x137006 x137007 x137008 x137009 x150000 x150001 x150002 x150003 x150004 x150005 x150006 x150007 x150008 x150009)
def syntax_node.j4 : Nat → List (S89) → Int → List Int → Int → List (S27) → Int → Int → Int → Int → Int → ByteArray → ByteArray → Int → Int → Int → Bool → List (S27) → Int → Int → Int → ByteArray → ByteArray → Int → Int → Int → Bool → List (S27) → Option (Int)
 | 0, _, _, _, _, _, _, _, _, _, _, _, _, _, _, _, _, _, _, _, _, _, _, _, _, _, _, _ => none
 | k + 1, x0, x2, x8, x10, x84, x85, x86, x137000, x137001, x137002, x137003, x137004, x137005, x137006, x137007, x137008, x137009, x150000, x150001, x150002, x150003, x150004, x150005, x150006, x150007, x150008, x150009 => if x137000 = 80 then (syntax_node.j5 k x0 x2 x8 x10 x84 x85 x86 (x10 == 0) x137000 x137001 x137002 x137003 x137004 x137005 x137006 x137007 x137008 x137009 x150000 x150001 x150002 x150003 x150004 x150005 x150006 x150007 x150008 x150009) else (if x137000 = 81 then (syntax_node.j5 k x0 x2 x8 x10 x84 x85 x86 (x10 == 0) x137000 x137001 x137002 x137003 x137004 x137005 x137006 x137007 x137008 x137009 x150000 x150001 x150002 x150003 x150004 x150005 x150006 x150007 x150008 x150009) else (if x137000 = 82 then (syntax_node.j5 k x0 x2 x8 x10 x84 x85 x86 (x10 == 0) x137000 x137001 x137002 x137003 x137004 x137005 x137006 x137007 x137008 x137009 x150000 x150001 x150002 x150003 x150004 x150005 x150006 x150007 x150008 x150009) else (if x137000 = 83 then (syntax_node.j5 k x0 x2 x8 x10 x84 x85 x86 (x10 == 0) x137000 x137001 x137002 x137003 x137004 x137005 x137006 x137007 x137008 x137009 x150000 x150001 x150002 x150003 x150004 x150005 x150006 x150007 x150008 x150009) else (syntax_node.j5 k x0 x2 x8 x10 x84 x85 x86 false x137000 x137001 x137002 x137003 x137004 x137005 x137006 x137007 x137008 x137009 x150000 x150001 x150002 x150003 x150004 x150005 x150006 x150007 x150008 x150009))))
def syntax_node.j5 : Nat → List (S89) → Int → List Int → Int → List (S27) → Int → Int → Bool → Int → Int → Int → ByteArray → ByteArray → Int → Int → Int → Bool → List (S27) → Int → Int → Int → ByteArray → ByteArray → Int → Int → Int → Bool → List (S27) → Option (Int)
 | 0, _, _, _, _, _, _, _, _, _, _, _, _, _, _, _, _, _, _, _, _, _, _, _, _, _, _, _, _ => none
 | k + 1, x0, x2, x8, x10, x84, x85, x86, x128, x137000, x137001, x137002, x137003, x137004, x137005, x137006, x137007, x137008, x137009, x150000, x150001, x150002, x150003, x150004, x150005, x150006, x150007, x150008, x150009 => if x128 = true then (if 0 ≤ x10 then (if x10 < (x8.length : Int) then (if x150000 = 114 then (some 8) else (syntax_node.j6 k x0 x2 (x8.set (x10 : Int).toNat 116) x10 x84 x85 x86 x137000 x137001 x137002 x137003 x137004 x137005 x137006 x137007 x137008 x137009 x150000 x150001 x150002 x150003 x150004 x150005 x150006 x150007 x150008 x150009)) else (none)) else (none)) else (syntax_node.j6 k x0 x2 x8 x10 x84 x85 x86 x137000 x137001 x137002 x137003 x137004 x137005 x137006 x137007 x137008 x137009 x150000 x150001 x150002 x150003 x150004 x150005 x150006 x150007 x150008 x150009)
def syntax_node.j6 : Nat → List (S89) → Int → List Int → Int → List (S27) → Int → Int → Int → Int → Int → ByteArray → ByteArray → Int → Int → Int → Bool → List (S27) → Int → Int → Int → ByteArray → ByteArray → Int → Int → Int → Bool → List (S27) → Option (Int)
 | 0, _, _, _, _, _, _, _, _, _, _, _, _, _, _, _, _, _, _, _, _, _, _, _, _, _, _, _ => none
 | k + 1, x0, x2, x8, x10, x84, x85, x86, x137000, x137001, x137002, x137003, x137004, x137005, x137006, x137007, x137008, x137009, x150000, x150001, x150002, x150003, x150004, x150005, x150006, x150007, x150008, x150009 => if 0 ≤ x10 then (if x10 < (x8.length : Int) then ((syntax_node.f k x0 x150000 x150001 x150002 x150003 x150004 x150005 x150006 x150007 x150008 x150009 (rd x8 x10)).bind fun t154 => (if t154 = 0 then (syntax_node.l0 k x0 x2 x8 x84 x85 (wrap64 (x86 + 1)) x137000 x137001 x137002 x137003 x137004 x137005 x137006 x137007 x137008 x137009) else (some t154))) else (none)) else (none)
def syntax_node.f : Nat → List (S89) → Int → Int → Int → ByteArray → ByteArray → Int → Int → Int → Bool → List (S27) → Int → Option (Int)
 | 0, _, _, _, _, _, _, _, _, _, _, _, _ => none
 | k + 1, l0, a1_0, a1_1, a1_2, a1_3, a1_4, a1_5, a1_6, a1_7, a1_8, l1_9, a2 => if a1_0 < 0 then (syntax_node.j0 k l0 a2 true a1_0 a1_1 a1_2 a1_3 a1_4 a1_5 a1_6 a1_7 a1_8 l1_9) else (if a1_0 ≥ (l0.length : Int) then (syntax_node.j0 k l0 a2 true a1_0 a1_1 a1_2 a1_3 a1_4 a1_5 a1_6 a1_7 a1_8 l1_9) else (if a1_1 < 0 then (syntax_node.j0 k l0 a2 true a1_0 a1_1 a1_2 a1_3 a1_4 a1_5 a1_6 a1_7 a1_8 l1_9) else (syntax_node.j0 k l0 a2 (decide (a1_2 < 0)) a1_0 a1_1 a1_2 a1_3 a1_4 a1_5 a1_6 a1_7 a1_8 l1_9)))
end
theorem syntax_node.mono_l : ∀ k, (∀ y0 y1 y2 y3 y4 y5 y6 y7 y8 y9 y10 y11, LeO (syntax_node.f k y0 y1 y2 y3 y4 y5 y6 y7 y8 y9 y10 y11) (syntax_node.f (k + 1) y0 y1 y2 y3 y4 y5 y6 y7 y8 y9 y10 y11)) ∧ (∀ y0 y1 y2 y3 y4 y5 y6 y7 y8 y9 y10 y11 y12, LeO (syntax_node.j0 k y0 y1 y2 y3 y4 y5 y6 y7 y8 y9 y10 y11 y12) (syntax_node.j0 (k + 1) y0 y1 y2 y3 y4 y5 y6 y7 y8 y9 y10 y11 y12)) ∧ (∀ y0 y1 y2 y3 y4 y5 y6 y7 y8 y9 y10 y11 y12 y13, LeO (syntax_node.j1 k y0 y1 y2 y3 y4 y5 y6 y7 y8 y9 y10 y11 y12 y13) (syntax_node.j1 (k + 1) y0 y1 y2 y3 y4 y5 y6 y7 y8 y9 y10 y11 y12 y13)) ∧ (∀ y0 y1 y2 y3 y4 y5 y6 y7 y8 y9 y10 y11 y12 y13 y14 y15, LeO (syntax_node.l0 k y0 y1 y2 y3 y4 y5 y6 y7 y8 y9 y10 y11 y12 y13 y14 y15) (syntax_node.l0 (k + 1) y0 y1 y2 y3 y4 y5 y6 y7 y8 y9 y10 y11 y12 y13 y14 y15)) ∧ (∀ y0 y1 y2 y3 y4 y5 y6 y7 y8 y9 y10 y11 y12 y13 y14 y15 y16 y17 y18 y19 y20 y21 y22 y23 y24 y25 y26 y27, LeO (syntax_node.j3 k y0 y1 y2 y3 y4 y5 y6 y7 y8 y9 y10 y11 y12 y13 y14 y15 y16 y17 y18 y19 y20 y21 y22 y23 y24 y25 y26 y27) (syntax_node.j3 (k + 1) y0 y1 y2 y3 y4 y5 y6 y7 y8 y9 y10 y11 y12 y13 y14 y15 y16 y17 y18 y19 y20 y21 y22 y23 y24 y25 y26 y27)) ∧ (∀ y0 y1 y2 y3 y4 y5 y6 y7 y8 y9 y10 y11 y12 y13 y14 y15 y16 y17 y18 y19 y20 y21 y22 y23 y24 y25 y26, LeO (syntax_node.j4 k y0 y1 y2 y3 y4 y5 y6 y7 y8 y9 y10 y11 y12 y13 y14 y15 y16 y17 y18 y19 y20 y21 y22 y23 y24 y25 y26) (syntax_node.j4 (k + 1) y0 y1 y2 y3 y4 y5 y6 y7 y8 y9 y10 y11 y12 y13 y14 y15 y16 y17 y18 y19 y20 y21 y22 y23 y24 y25 y26)) ∧ (∀ y0 y1 y2 y3 y4 y5 y6 y7 y8 y9 y10 y11 y12 y13 y14 y15 y16 y17 y18 y19 y20 y21 y22 y23 y24 y25 y26 y27, LeO (syntax_node.j5 k y0 y1 y2 y3 y4 y5 y6 y7 y8 y9 y10 y11 y12 y13 y14 y15 y16 y17 y18 y19 y20 y21 y22 y23 y24 y25 y26 y27) (syntax_node.j5 (k + 1) y0 y1 y2 y3 y4 y5 y6 y7 y8 y9 y10 y11 y12 y13 y14 y15 y16 y17 y18 y19 y20 y21 y22 y23 y24 y25 y26 y27)) ∧ (∀ y0 y1 y2 y3 y4 y5 y6 y7 y8 y9 y10 y11 y12 y13 y14 y15 y16 y17 y18 y19 y20 y21 y22 y23 y24 y25 y26, LeO (syntax_node.j6 k y0 y1 y2 y3 y4 y5 y6 y7 y8 y9 y10 y11 y12 y13 y14 y15 y16 y17 y18 y19 y20 y21 y22 y23 y24 y25 y26) (syntax_node.j6 (k + 1) y0 y1 y2 y3 y4 y5 y6 y7 y8 y9 y10 y11 y12 y13 y14 y15 y16 y17 y18 y19 y20 y21 y22 y23 y24 y25 y26))
 | 0 => ⟨fun _ _ _ _ _ _ _ _ _ _ _ _ r h => by simp [syntax_node.f] at h, fun _ _ _ _ _ _ _ _ _ _ _ _ _ r h => by simp [syntax_node.j0] at h, fun _ _ _ _ _ _ _ _ _ _ _ _ _ _ r h => by simp [syntax_node.j1] at h, fun _ _ _ _ _ _ _ _ _ _ _ _ _ _ _ _ r h => by simp [syntax_node.l0] at h, fun _ _ _ _ _ _ _ _ _ _ _ _ _ _ _ _ _ _ _ _ _ _ _ _ _ _ _ _ r h => by simp [syntax_node.j3] at h, fun _ _ _ _ _ _ _ _ _ _ _ _ _ _ _ _ _ _ _ _ _ _ _ _ _ _ _ r h => by simp [syntax_node.j4] at h, fun _ _ _ _ _ _ _ _ _ _ _ _ _ _ _ _ _ _ _ _ _ _ _ _ _ _ _ _ r h => by simp [syntax_node.j5] at h, fun _ _ _ _ _ _ _ _ _ _ _ _ _ _ _ _ _ _ _ _ _ _ _ _ _ _ _ r h => by simp [syntax_node.j6] at h⟩
 | k + 1 => by
  obtain ⟨ih0, ih1, ih2, ih3, ih4, ih5, ih6, ih7⟩ := syntax_node.mono_l k
  refine ⟨?_, ?_, ?_, ?_, ?_, ?_, ?_, ?_⟩
  ·intro y0 y1 y2 y3 y4 y5 y6 y7 y8 y9 y10 y11
   unfold syntax_node.f
   repeat' first | with_reducible exact ih0 _ _ _ _ _ _ _ _ _ _ _ _ | with_reducible exact ih1 _ _ _ _ _ _ _ _ _ _ _ _ _ | with_reducible exact ih2 _ _ _ _ _ _ _ _ _ _ _ _ _ _ | with_reducible exact ih3 _ _ _ _ _ _ _ _ _ _ _ _ _ _ _ _ | with_reducible exact ih4 _ _ _ _ _ _ _ _ _ _ _ _ _ _ _ _ _ _ _ _ _ _ _ _ _ _ _ _ | with_reducible exact ih5 _ _ _ _ _ _ _ _ _ _ _ _ _ _ _ _ _ _ _ _ _ _ _ _ _ _ _ | with_reducible exact ih6 _ _ _ _ _ _ _ _ _ _ _ _ _ _ _ _ _ _ _ _ _ _ _ _ _ _ _ _ | with_reducible exact ih7 _ _ _ _ _ _ _ _ _ _ _ _ _ _ _ _ _ _ _ _ _ _ _ _ _ _ _ | with_reducible exact syntax_dangles.mono _ _ _ _ _ _ _ _ _ _ _ | with_reducible exact syntax_fields.mono _ _ _ _ _ _ _ _ _ _ _ _ | with_reducible exact syntax_match.mono _ _ _ _ | with_reducible exact LeO.refl _ | with_reducible exact LeO.none _ | with_reducible refine LeO.ite ?_ ?_ | with_reducible refine LeO.bind ?_ (fun _ => ?_)
  ·intro y0 y1 y2 y3 y4 y5 y6 y7 y8 y9 y10 y11 y12
   unfold syntax_node.j0
   repeat' first | with_reducible exact ih0 _ _ _ _ _ _ _ _ _ _ _ _ | with_reducible exact ih1 _ _ _ _ _ _ _ _ _ _ _ _ _ | with_reducible exact ih2 _ _ _ _ _ _ _ _ _ _ _ _ _ _ | with_reducible exact ih3 _ _ _ _ _ _ _ _ _ _ _ _ _ _ _ _ | with_reducible exact ih4 _ _ _ _ _ _ _ _ _ _ _ _ _ _ _ _ _ _ _ _ _ _ _ _ _ _ _ _ | with_reducible exact ih5 _ _ _ _ _ _ _ _ _ _ _ _ _ _ _ _ _ _ _ _ _ _ _ _ _ _ _ | with_reducible exact ih6 _ _ _ _ _ _ _ _ _ _ _ _ _ _ _ _ _ _ _ _ _ _ _ _ _ _ _ _ | with_reducible exact ih7 _ _ _ _ _ _ _ _ _ _ _ _ _ _ _ _ _ _ _ _ _ _ _ _ _ _ _ | with_reducible exact syntax_dangles.mono _ _ _ _ _ _ _ _ _ _ _ | with_reducible exact syntax_fields.mono _ _ _ _ _ _ _ _ _ _ _ _ | with_reducible exact syntax_match.mono _ _ _ _ | with_reducible exact LeO.refl _ | with_reducible exact LeO.none _ | with_reducible refine LeO.ite ?_ ?_ | with_reducible refine LeO.bind ?_ (fun _ => ?_)
  ·intro y0 y1 y2 y3 y4 y5 y6 y7 y8 y9 y10 y11 y12 y13
   unfold syntax_node.j1
   repeat' first | with_reducible exact ih0 _ _ _ _ _ _ _ _ _ _ _ _ | with_reducible exact ih1 _ _ _ _ _ _ _ _ _ _ _ _ _ | with_reducible exact ih2 _ _ _ _ _ _ _ _ _ _ _ _ _ _ | with_reducible exact ih3 _ _ _ _ _ _ _ _ _ _ _ _ _ _ _ _ | with_reducible exact ih4 _ _ _ _ _ _ _ _ _ _ _ _ _ _ _ _ _ _ _ _ _ _ _ _ _ _ _ _ | with_reducible exact ih5 _ _ _ _ _ _ _ _ _ _ _ _ _ _ _ _ _ _ _ _ _ _ _ _ _ _ _ | with_reducible exact ih6 _ _ _ _ _ _ _ _ _ _ _ _ _ _ _ _ _ _ _ _ _ _ _ _ _ _ _ _ | with_reducible exact ih7 _ _ _ _ _ _ _ _ _ _ _ _ _ _ _ _ _ _ _ _ _ _ _ _ _ _ _ | with_reducible exact syntax_dangles.mono _ _ _ _ _ _ _ _ _ _ _ | with_reducible exact syntax_fields.mono _ _ _ _ _ _ _ _ _ _ _ _ | with_reducible exact syntax_match.mono _ _ _ _ | with_reducible exact LeO.refl _ | with_reducible exact LeO.none _ | with_reducible refine LeO.ite ?_ ?_ | with_reducible refine LeO.bind ?_ (fun _ => ?_)
  ·intro y0 y1 y2 y3 y4 y5 y6 y7 y8 y9 y10 y11 y12 y13 y14 y15
   unfold syntax_node.l0
   repeat' first | with_reducible exact ih0 _ _ _ _ _ _ _ _ _ _ _ _ | with_reducible exact ih1 _ _ _ _ _ _ _ _ _ _ _ _ _ | with_reducible exact ih2 _ _ _ _ _ _ _ _ _ _ _ _ _ _ | with_reducible exact ih3 _ _ _ _ _ _ _ _ _ _ _ _ _ _ _ _ | with_reducible exact ih4 _ _ _ _ _ _ _ _ _ _ _ _ _ _ _ _ _ _ _ _ _ _ _ _ _ _ _ _ | with_reducible exact ih5 _ _ _ _ _ _ _ _ _ _ _ _ _ _ _ _ _ _ _ _ _ _ _ _ _ _ _ | with_reducible exact ih6 _ _ _ _ _ _ _ _ _ _ _ _ _ _ _ _ _ _ _ _ _ _ _ _ _ _ _ _ | with_reducible exact ih7 _ _ _ _ _ _ _ _ _ _ _ _ _ _ _ _ _ _ _ _ _ _ _ _ _ _ _ | with_reducible exact syntax_dangles.mono _ _ _ _ _ _ _ _ _ _ _ | with_reducible exact syntax_fields.mono _ _ _ _ _ _ _ _ _ _ _ _ | with_reducible exact syntax_match.mono _ _ _ _ | with_reducible exact LeO.refl _ | with_reducible exact LeO.none _ | with_reducible refine LeO.ite ?_ ?_ | with_reducible refine LeO.bind ?_ (fun _ => ?_)
  ·intro y0 y1 y2 y3 y4 y5 y6 y7 y8 y9 y10 y11 y12 y13 y14 y15 y16 y17 y18 y19 y20 y21 y22 y23 y24 y25 y26 y27
   unfold syntax_node.j3
   repeat' first | with_reducible exact ih0 _ _ _ _ _ _ _ _ _ _ _ _ | with_reducible exact ih1 _ _ _ _ _ _ _ _ _ _ _ _ _ | with_reducible exact ih2 _ _ _ _ _ _ _ _ _ _ _ _ _ _ | with_reducible exact ih3 _ _ _ _ _ _ _ _ _ _ _ _ _ _ _ _ | with_reducible exact ih4 _ _ _ _ _ _ _ _ _ _ _ _ _ _ _ _ _ _ _ _ _ _ _ _ _ _ _ _ | with_reducible exact ih5 _ _ _ _ _ _ _ _ _ _ _ _ _ _ _ _ _ _ _ _ _ _ _ _ _ _ _ | with_reducible exact ih6 _ _ _ _ _ _ _ _ _ _ _ _ _ _ _ _ _ _ _ _ _ _ _ _ _ _ _ _ | with_reducible exact ih7 _ _ _ _ _ _ _ _ _ _ _ _ _ _ _ _ _ _ _ _ _ _ _ _ _ _ _ | with_reducible exact syntax_dangles.mono _ _ _ _ _ _ _ _ _ _ _ | with_reducible exact syntax_fields.mono _ _ _ _ _ _ _ _ _ _ _ _ | with_reducible exact syntax_match.mono _ _ _ _ | with_reducible exact LeO.refl _ | with_reducible exact LeO.none _ | with_reducible refine LeO.ite ?_ ?_ | with_reducible refine LeO.bind ?_ (fun _ => ?_)
  ·intro y0 y1 y2 y3 y4 y5 y6 y7 y8 y9 y10 y11 y12 y13 y14 y15 y16 y17 y18 y19 y20 y21 y22 y23 y24 y25 y26
   unfold syntax_node.j4
   repeat' first | with_reducible exact ih0 _ _ _ _ _ _ _ _ _ _ _ _ | with_reducible exact ih1 _ _ _ _ _ _ _ _ _ _ _ _ _ | with_reducible exact ih2 _ _ _ _ _ _ _ _ _ _ _ _ _ _ | with_reducible exact ih3 _ _ _ _ _ _ _ _ _ _ _ _ _ _ _ _ | with_reducible exact ih4 _ _ _ _ _ _ _ _ _ _ _ _ _ _ _ _ _ _ _ _ _ _ _ _ _ _ _ _ | with_reducible exact ih5 _ _ _ _ _ _ _ _ _ _ _ _ _ _ _ _ _ _ _ _ _ _ _ _ _ _ _ | with_reducible exact ih6 _ _ _ _ _ _ _ _ _ _ _ _ _ _ _ _ _ _ _ _ _ _ _ _ _ _ _ _ | with_reducible exact ih7 _ _ _ _ _ _ _ _ _ _ _ _ _ _ _ _ _ _ _ _ _ _ _ _ _ _ _ | with_reducible exact syntax_dangles.mono _ _ _ _ _ _ _ _ _ _ _ | with_reducible exact syntax_fields.mono _ _ _ _ _ _ _ _ _ _ _ _ | with_reducible exact syntax_match.mono _ _ _ _ | with_reducible exact LeO.refl _ | with_reducible exact LeO.none _ | with_reducible refine LeO.ite ?_ ?_ | with_reducible refine LeO.bind ?_ (fun _ => ?_)
  ·intro y0 y1 y2 y3 y4 y5 y6 y7 y8 y9 y10 y11 y12 y13 y14 y15 y16 y17 y18 y19 y20 y21 y22 y23 y24 y25 y26 y27
   unfold syntax_node.j5
   repeat' first | with_reducible exact ih0 _ _ _ _ _ _ _ _ _ _ _ _ | with_reducible exact ih1 _ _ _ _ _ _ _ _ _ _ _ _ _ | with_reducible exact ih2 _ _ _ _ _ _ _ _ _ _ _ _ _ _ | with_reducible exact ih3 _ _ _ _ _ _ _ _ _ _ _ _ _ _ _ _ | with_reducible exact ih4 _ _ _ _ _ _ _ _ _ _ _ _ _ _ _ _ _ _ _ _ _ _ _ _ _ _ _ _ | with_reducible exact ih5 _ _ _ _ _ _ _ _ _ _ _ _ _ _ _ _ _ _ _ _ _ _ _ _ _ _ _ | with_reducible exact ih6 _ _ _ _ _ _ _ _ _ _ _ _ _ _ _ _ _ _ _ _ _ _ _ _ _ _ _ _ | with_reducible exact ih7 _ _ _ _ _ _ _ _ _ _ _ _ _ _ _ _ _ _ _ _ _ _ _ _ _ _ _ | with_reducible exact syntax_dangles.mono _ _ _ _ _ _ _ _ _ _ _ | with_reducible exact syntax_fields.mono _ _ _ _ _ _ _ _ _ _ _ _ | with_reducible exact syntax_match.mono _ _ _ _ | with_reducible exact LeO.refl _ | with_reducible exact LeO.none _ | with_reducible refine LeO.ite ?_ ?_ | with_reducible refine LeO.bind ?_ (fun _ => ?_)
  ·intro y0 y1 y2 y3 y4 y5 y6 y7 y8 y9 y10 y11 y12 y13 y14 y15 y16 y17 y18 y19 y20 y21 y22 y23 y24 y25 y26
   unfold syntax_node.j6
   repeat' first | with_reducible exact ih0 _ _ _ _ _ _ _ _ _ _ _ _ | with_reducible exact ih1 _ _ _ _ _ _ _ _ _ _ _ _ _ | with_reducible exact ih2 _ _ _ _ _ _ _ _ _ _ _ _ _ _ | with_reducible exact ih3 _ _ _ _ _ _ _ _ _ _ _ _ _ _ _ _ | with_reducible exact ih4 _ _ _ _ _ _ _ _ _ _ _ _ _ _ _ _ _ _ _ _ _ _ _ _ _ _ _ _ | with_reducible exact ih5 _ _ _ _ _ _ _ _ _ _ _ _ _ _ _ _ _ _ _ _ _ _ _ _ _ _ _ | with_reducible exact ih6 _ _ _ _ _ _ _ _ _ _ _ _ _ _ _ _ _ _ _ _ _ _ _ _ _ _ _ _ | with_reducible exact ih7 _ _ _ _ _ _ _ _ _ _ _ _ _ _ _ _ _ _ _ _ _ _ _ _ _ _ _ | with_reducible exact syntax_dangles.mono _ _ _ _ _ _ _ _ _ _ _ | with_reducible exact syntax_fields.mono _ _ _ _ _ _ _ _ _ _ _ _ | with_reducible exact syntax_match.mono _ _ _ _ | with_reducible exact LeO.refl _ | with_reducible exact LeO.none _ | with_reducible refine LeO.ite ?_ ?_ | with_reducible refine LeO.bind ?_ (fun _ => ?_)
theorem syntax_node.mono : ∀ a0 a1 a2 a3 a4 a5 a6 a7 a8 a9 a10 a11 k, LeO (syntax_node.f k a0 a1 a2 a3 a4 a5 a6 a7 a8 a9 a10 a11) (syntax_node.f (k + 1) a0 a1 a2 a3 a4 a5 a6 a7 a8 a9 a10 a11) := by
 intro a0 a1 a2 a3 a4 a5 a6 a7 a8 a9 a10 a11 k
 obtain ⟨ih0, ih1, ih2, ih3, ih4, ih5, ih6, ih7⟩ := syntax_node.mono_l k
 exact ih0 a0 a1 a2 a3 a4 a5 a6 a7 a8 a9 a10 a11
def syntax_node.T5 : Bool × List (List Nat × List Nat) := (true, [([], []), ([], []), ([1], [1]), ([0, 2], [0, 2]), ([3], [3]), ([4], [4]), ([], []), ([5, 6], [5, 6]), ([7, 7, 0, 1, 2, 3, 4, 5, 6, 7], [7])])
def syntax_node.B5 : List Nat := [0, 0, 2, 7, 15, 31, 0, 127, 255]
theorem syntax_node.tab5 : rtab .any (opsOf Try.f32 5) = syntax_node.T5 := by kernel_rfl
theorem syntax_node.bits5 : waitsOk syntax_node.T5.2 syntax_node.B5 = true := by kernel_rfl
def syntax_node.T8 : Bool × List (List Nat × List Nat) := (true, [([], []), ([], []), ([], []), ([2], [2]), ([1, 3], [1, 3]), ([4], [4]), ([5], [5]), ([], []), ([7], [7]), ([0, 6, 8], [0, 6, 8]), ([9], [9]), ([10], [10]), ([10], [10]), ([11, 9, 0, 1, 2, 3, 4, 5, 6, 7, 8, 9, 10, 11], [11]), ([12, 13, 0, 1, 2, 3, 4, 5, 6, 7, 8, 9, 10, 11, 12, 13], [12])])
def syntax_node.B8 : List Nat := [0, 0, 0, 4, 14, 30, 62, 0, 128, 511, 1023, 2047, 2047, 4095, 16383]
theorem syntax_node.tab8 : rtab .any (opsOf Try.f32 8) = syntax_node.T8 := by kernel_rfl
theorem syntax_node.bits8 : waitsOk syntax_node.T8.2 syntax_node.B8 = true := by kernel_rfl
def syntax_node.T25 : Bool × List (List Nat × List Nat) := (true, [([], []), ([], []), ([], []), ([], []), ([2, 3], [2, 3]), ([4], [4]), ([0, 1, 5], [0, 1, 5]), ([6, 6, 0, 1, 2, 3, 4, 5, 6], [6])])
def syntax_node.B25 : List Nat := [0, 0, 0, 0, 12, 28, 63, 127]
theorem syntax_node.tab25 : rtab .any (opsOf Try.f32 25) = syntax_node.T25 := by kernel_rfl
theorem syntax_node.bits25 : waitsOk syntax_node.T25.2 syntax_node.B25 = true := by kernel_rfl
set_option maxHeartbeats 8000000 in
set_option maxRecDepth 100000 in
theorem syntax_node.calls (k : Nat) : ∀ (A0 : Option Addr) (c0 : Nat) (l0 : List (S89)) (a1_0 : Int) (a1_1 : Int) (a1_2 : Int) (a1_3 : ByteArray) (a1_4 : ByteArray) (a1_5 : Int) (a1_6 : Int) (a1_7 : Int) (a1_8 : Bool) (A1_9 : Option Addr) (c1_9 : Nat) (l1_9 : List (S27)) (a2 : Int) (r : Int) (w : World) (hr0 : Kd.C k89 w A0 l0.length l0) (hc0 : l0.length ≤ c0) (hr1_9 : Kd.C k27 w A1_9 l1_9.length l1_9) (hc1_9 : l1_9.length ≤ c1_9) (h : syntax_node.f k l0 a1_0 a1_1 a1_2 a1_3 a1_4 a1_5 a1_6 a1_7 a1_8 l1_9 a2 = some r),
  Calls Try.prog 32 #[.slice A0 l0.length c0, .agg #[.int .i64 a1_0, .int .i64 a1_1, .int .i64 a1_2, .string a1_3, .string a1_4, .int .i64 a1_5, .int .u64 a1_6, .int .u64 a1_7, .bool a1_8, .slice A1_9 l1_9.length c1_9], .int .u8 a2] w fun e w' => e = .returned (.int .i64 r) ∧ Below w.heap.size w w' := by
 induction k using Nat.strongRecOn with
 | _ k ih =>
 intro A0 c0 l0 a1_0 a1_1 a1_2 a1_3 a1_4 a1_5 a1_6 a1_7 a1_8 A1_9 c1_9 l1_9 a2 r w hr0 hc0 hr1_9 hc1_9 h
 cases k with
 | zero => exact absurd h (by simp [syntax_node.f])
 | succ k =>
 simp only [syntax_node.f] at h
 have hu27 := Try.underlying27
 have HR0 := Aside0.mk hr0
 have HC0 := Aside0.mk hc0
 clear hr0 hc0
 have HR1_9 := Aside0.mk hr1_9
 have HC1_9 := Aside0.mk hc1_9
 clear hr1_9 hc1_9
 have HB := Aside0.mk (Below.refl w.heap.size w)
 have H := h
 clear h
 unfold syntax_node.f at H
 have HC4 := Aside0.mk H
 clear H
 go_enter Try.func32, Try.ntmps32
 go_upto_region 1 with (((with_reducible refine gate_dst (N := 4) rfl ?_); (try (refine gate_guard (by rfl) ?_; dsimp only)); refine boxA HB 4 #[.int .i64 a1_0, .int .i64 a1_1, .int .i64 a1_2, .string a1_3, .string a1_4, .int .i64 a1_5, .int .u64 a1_6, .int .u64 a1_7, .bool a1_8, .slice A1_9 l1_9.length c1_9] 27 ?_; clear HB; intro gb136 w5 BK136 GE136 hg hb HB; clear hb hg))
 go_cut [32] (fun v32 wc => ∃ (kq : Nat) (x32_3 : Bool), v32 = .bool x32_3 ∧ Aside0 (syntax_node.j0 kq l0 a2 x32_3 a1_0 a1_1 a1_2 a1_3 a1_4 a1_5 a1_6 a1_7 a1_8 l1_9 = some r) ∧ Aside0 (kq ≤ k) ∧ Aside0 (wc.heap[gb136]? = some (.cells #[.int .i64 a1_0, .int .i64 a1_1, .int .i64 a1_2, .string a1_3, .string a1_4, .int .i64 a1_5, .int .u64 a1_6, .int .u64 a1_7, .bool a1_8, (.slice A1_9 l1_9.length c1_9)] 27 (0, 0))) ∧ Aside0 (Below w.heap.size w wc))
 case first =>
  have H := HC4.out
  clear HC4
  replace H := iD H; rcases H with ⟨c6b0, H⟩ | ⟨c6b0, H⟩
  ·(skip)
   have H' := Aside0.mk H
   clear H
   obtain ⟨hcz7_0, hcz7_1, hcz7_2, hcz7_3, hcz7_4, hcz7_5, hcz7_6, hcz7_7, hcz7_8, hcz7_9⟩ := sq_cells10 (W := w5) (g := gb136) BK136.out; obtain ⟨hfz7_0, hfz7_1, hfz7_2, hfz7_3, hfz7_4, hfz7_5, hfz7_6, hfz7_7, hfz7_8, hfz7_9⟩ := sq_frozen10 BK136.out
   go_wp2
   go_meet
   case rel => exact ⟨_, (true), (by rfl), H', ⟨by omega⟩, ⟨by exact BK136.out⟩, ⟨by repeat (with_reducible exact HB.out)⟩⟩
  ·(skip)
   replace H := iD H; rcases H with ⟨c8b0, H⟩ | ⟨c8b0, H⟩
   ·replace c8b0 : decide ((l0.length : Int) ≤ a1_0) = true := c8b0
    have H' := Aside0.mk H
    clear H
    obtain ⟨hcz9_0, hcz9_1, hcz9_2, hcz9_3, hcz9_4, hcz9_5, hcz9_6, hcz9_7, hcz9_8, hcz9_9⟩ := sq_cells10 (W := w5) (g := gb136) BK136.out; obtain ⟨hfz9_0, hfz9_1, hfz9_2, hfz9_3, hfz9_4, hfz9_5, hfz9_6, hfz9_7, hfz9_8, hfz9_9⟩ := sq_frozen10 BK136.out
    go_wp2
    go_meet
    case rel => exact ⟨_, (true), (by rfl), H', ⟨by omega⟩, ⟨by exact BK136.out⟩, ⟨by repeat (with_reducible exact HB.out)⟩⟩
   ·replace c8b0 : decide ((l0.length : Int) ≤ a1_0) = false := c8b0
    replace H := iD H; rcases H with ⟨c10b0, H⟩ | ⟨c10b0, H⟩
    ·have H' := Aside0.mk H
     clear H
     obtain ⟨hcz11_0, hcz11_1, hcz11_2, hcz11_3, hcz11_4, hcz11_5, hcz11_6, hcz11_7, hcz11_8, hcz11_9⟩ := sq_cells10 (W := w5) (g := gb136) BK136.out; obtain ⟨hfz11_0, hfz11_1, hfz11_2, hfz11_3, hfz11_4, hfz11_5, hfz11_6, hfz11_7, hfz11_8, hfz11_9⟩ := sq_frozen10 BK136.out
     go_wp2
     go_meet
     case rel => exact ⟨_, (true), (by rfl), H', ⟨by omega⟩, ⟨by exact BK136.out⟩, ⟨by repeat (with_reducible exact HB.out)⟩⟩
    ·have H' := Aside0.mk H
     clear H
     obtain ⟨hcz12_0, hcz12_1, hcz12_2, hcz12_3, hcz12_4, hcz12_5, hcz12_6, hcz12_7, hcz12_8, hcz12_9⟩ := sq_cells10 (W := w5) (g := gb136) BK136.out; obtain ⟨hfz12_0, hfz12_1, hfz12_2, hfz12_3, hfz12_4, hfz12_5, hfz12_6, hfz12_7, hfz12_8, hfz12_9⟩ := sq_frozen10 BK136.out
     go_wp2
     go_meet
     case rel => exact ⟨_, (decide (a1_2 < 0)), (by rfl), H', ⟨by omega⟩, ⟨by exact BK136.out⟩, ⟨by repeat (with_reducible exact HB.out)⟩⟩
 case rest =>
  clear HC4
  obtain ⟨kq, x32_3, rfl, HA, HJ3, BK136, HB⟩ := hcut
  cases kq with
  | zero => exact absurd HA.out (by simp [syntax_node.j0])
  | succ kj3 =>
   have H := HA.out
   clear HA
   simp only [syntax_node.j0] at H
   replace H := iB H; rcases H with ⟨rfl, H⟩ | ⟨rfl, H⟩
   ·obtain rfl := Option.some.inj H
    go_wp2
    go_ret
    exact ⟨by rfl, by repeat (with_reducible exact HB.out)⟩
   ·replace H := bN H; obtain ⟨t137, A14, H⟩ := H
    replace H := iB H; rcases H with ⟨rfl, H⟩ | ⟨rfl, H⟩
    ·replace H := iN H; obtain ⟨c16b0, H⟩ := H
     replace H := iN H; obtain ⟨c17b0, H⟩ := H
     replace H := bN H; obtain ⟨t139, A18, H⟩ := H
     replace H := iE H; rcases H with ⟨c19b0, c19b1, H⟩ | ⟨c19, c19b0, c19b1, H⟩
     ·replace H := bN H; obtain ⟨⟨t141, t142⟩, A20, H⟩ := H; dsimp only at H
      replace H := iB H; rcases H with ⟨rfl, H⟩ | ⟨rfl, H⟩
      ·have HC22 := Aside0.mk H
       clear H
       obtain ⟨hcz23_0, hcz23_1, hcz23_2, hcz23_3, hcz23_4, hcz23_5, hcz23_6, hcz23_7, hcz23_8, hcz23_9⟩ := sq_cells10 (W := wc) (g := gb136) BK136.out; obtain ⟨hfz23_0, hfz23_1, hfz23_2, hfz23_3, hfz23_4, hfz23_5, hfz23_6, hfz23_7, hfz23_8, hfz23_9⟩ := sq_frozen10 BK136.out
       try go_wp2_with ((refine callA (some 37) Try.func60 #[.slice A0 l0.length c0, .int .i64 a1_0, .int .u8 a2] ?_; (with_reducible refine (syntax_has.calls _ _ l0 a1_0 a2 true _ ?side1 ?side2 A14.out).mono ?_); (case side1 => exact (Kd.C_below HR0.out HB.out)); (case side2 => exact HC0.out); rintro e w' ⟨rfl, ⟨nd, rfl⟩⟩; refine ⟨_, rfl, ?_⟩))
       (try (rw [drewN_self wc]; generalize hq_ : World.drewN wc _ = wc; have n0_ : Aside0 (wc.heap[gb136]? = some (.cells #[.int .i64 a1_0, .int .i64 a1_1, .int .i64 a1_2, .string a1_3, .string a1_4, .int .i64 a1_5, .int .u64 a1_6, .int .u64 a1_7, .bool a1_8, .slice A1_9 l1_9.length c1_9] 27 (0, 0))) := ⟨by rw [← hq_]; exact (by (with_reducible repeat (refine blk_drewN ?_ _)); exact BK136.out)⟩; have n1_ : Aside0 (Below w.heap.size w wc) := ⟨by rw [← hq_]; exact (by repeat (with_reducible first | exact HB.out | apply pw_below_drewN))⟩; clear BK136 HB hq_; have BK136 := n0_; have HB := n1_; clear n0_ n1_))
       replace BK136 := bkd BK136
       replace HB := hbd HB
       have p138 : 0 ≤ (a1_0 : Int) := of_decide_eq_true (by (with_reducible assumption))
       have q138 : a1_0 < (l0.length : Int) := of_decide_eq_true (by (with_reducible assumption))
       obtain ⟨ad138, e138, hx138_0, hx138_1, hx138_2⟩ := at_T89 HR0.out a1_0 p138 q138
       have hw138_2 := hx138_2
       have hw138_1 := hx138_1
       have hw138_0 := hx138_0
       cases e138
       replace hx138_0 := (HB.out.cell (World.block_lt_of_cell? w _ hx138_0)).trans hx138_0
       replace hx138_1 := (HB.out.cell (World.block_lt_of_cell? w _ hx138_1)).trans hx138_1
       replace hx138_2 := (HB.out.cell (World.block_lt_of_cell? w _ hx138_2)).trans hx138_2
       replace p138 := eq_true p138
       replace q138 := eq_true q138
       refine start_ (n := 9) (S := fun w' => w'.cell? ⟨gb136, 0, none⟩ = some (.int .i64 a1_0) ∧ w'.cell? ⟨gb136, 1, none⟩ = some (.int .i64 a1_1) ∧ w'.cell? ⟨gb136, 2, none⟩ = some (.int .i64 a1_2) ∧ w'.cell? ⟨gb136, 3, none⟩ = some (.string a1_3) ∧ w'.cell? ⟨gb136, 4, none⟩ = some (.string a1_4) ∧ w'.cell? ⟨gb136, 5, none⟩ = some (.int .i64 a1_5) ∧ w'.cell? ⟨gb136, 6, none⟩ = some (.int .u64 a1_6) ∧ w'.cell? ⟨gb136, 7, none⟩ = some (.int .u64 a1_7) ∧ w'.cell? ⟨gb136, 8, none⟩ = some (.bool a1_8) ∧ w'.cell? ⟨gb136, 9, none⟩ = some (.slice A1_9 l1_9.length c1_9) ∧ w'.cell? (ad138.add ((a1_0).toNat * 3)) = some (.string ((rd_T89 l0 a1_0).f0)) ∧ w'.cell? ⟨(ad138.add ((a1_0).toNat * 3)).block, (ad138.add ((a1_0).toNat * 3)).off + 1, none⟩ = some (.string ((rd_T89 l0 a1_0).f1)) ∧ w'.cell? ⟨(ad138.add ((a1_0).toNat * 3)).block, (ad138.add ((a1_0).toNat * 3)).off + 2, none⟩ = some (.string ((rd_T89 l0 a1_0).f2))) (ds := []) (tb 9 0) (by kernel_rfl) rfl (by kernel_rfl) ⟨(blk_cell BK136.out 0).trans rfl, (blk_cell BK136.out 1).trans rfl, (blk_cell BK136.out 2).trans rfl, (blk_cell BK136.out 3).trans rfl, (blk_cell BK136.out 4).trans rfl, (blk_cell BK136.out 5).trans rfl, (blk_cell BK136.out 6).trans rfl, (blk_cell BK136.out 7).trans rfl, (blk_cell BK136.out 8).trans rfl, (blk_cell BK136.out 9).trans rfl, ((HB.out.cell (World.block_lt_of_cell? w _ hw138_0)).trans hw138_0), ((HB.out.cell (World.block_lt_of_cell? w _ hw138_1)).trans hw138_1), ((HB.out.cell (World.block_lt_of_cell? w _ hw138_2)).trans hw138_2)⟩ (fun hHeld => ?_); refine with_tabW syntax_node.tab5 syntax_node.bits5 (fun HT_ HW_ => ?_)
       generalize wc.drew = w24 at BK136 HB hx138_0 hx138_1 hx138_2 hHeld ⊢
       refine pA 0 39 (tb 9 1) HT_ ?_
       refine pA 1 40 (tb 9 3) HT_ ?_
       refine tA 2 41 (tb 9 7) HT_ HW_ hHeld ?_
       refine pA 3 42 (tb 9 15) HT_ ?_
       refine pA 4 43 (tb 9 31) HT_ ?_
       refine tA 5 44 (tb 9 63) HT_ HW_ hHeld ?_
       refine tA 6 45 (tb 9 127) HT_ HW_ hHeld ?_
       refine oA 7 (some 46) (tb 9 255) HT_ (fun K hK => ?_)
       refine gA Try.func61 #[.string ((rd_T89 l0 a1_0).f2), .agg #[.int .i64 a1_0, .int .i64 a1_1, .int .i64 a1_2, .string a1_3, .string a1_4, .int .i64 a1_5, .int .u64 a1_6, .int .u64 a1_7, .bool a1_8, .slice A1_9 l1_9.length c1_9]] ?_
       with_reducible refine (syntax_fields.calls kj3 ((rd_T89 l0 a1_0).f2) a1_0 a1_1 a1_2 a1_3 a1_4 a1_5 a1_6 a1_7 a1_8 _ _ l1_9 t139 _ ?side1 ?side2 A18.out).mono ?_
       (case side1 => exact (Kd.C_below HR1_9.out HB.out))
       (case side2 => exact HC1_9.out)
       rintro e w25 ⟨rfl, hb⟩
       refine ⟨_, rfl, ?_⟩
       replace BK136 := bk1 BK136 hb
       replace HB := hb1 HB hb
       (try clear hb)
       refine hK.out _ _ ⟨(blk_cell BK136.out 0).trans rfl, (blk_cell BK136.out 1).trans rfl, (blk_cell BK136.out 2).trans rfl, (blk_cell BK136.out 3).trans rfl, (blk_cell BK136.out 4).trans rfl, (blk_cell BK136.out 5).trans rfl, (blk_cell BK136.out 6).trans rfl, (blk_cell BK136.out 7).trans rfl, (blk_cell BK136.out 8).trans rfl, (blk_cell BK136.out 9).trans rfl, ((HB.out.cell (World.block_lt_of_cell? w _ hw138_0)).trans hw138_0), ((HB.out.cell (World.block_lt_of_cell? w _ hw138_1)).trans hw138_1), ((HB.out.cell (World.block_lt_of_cell? w _ hw138_2)).trans hw138_2)⟩ (fun hHeld => ?_)
       clear hK K
       refine nA ?_
       refine pA 8 7 (tb 9 511) HT_ ?_
       refine done_ (done_of HT_.out (by kernel_rfl)) ?_
       try go_wp2
       replace BK136 := bkd BK136
       replace HB := hbd HB
       have p140 : 0 ≤ (a1_0 : Int) := of_decide_eq_true (by (with_reducible assumption))
       have q140 : a1_0 < (l0.length : Int) := of_decide_eq_true (by (with_reducible assumption))
       obtain ⟨ad140, e140, hx140_0, hx140_1, hx140_2⟩ := at_T89 HR0.out a1_0 p140 q140
       have hw140_2 := hx140_2
       have hw140_1 := hx140_1
       have hw140_0 := hx140_0
       obtain rfl : ad138 = ad140 := (by injection e140)
       replace hx140_0 := (HB.out.cell (World.block_lt_of_cell? w _ hx140_0)).trans hx140_0
       replace hx140_1 := (HB.out.cell (World.block_lt_of_cell? w _ hx140_1)).trans hx140_1
       replace hx140_2 := (HB.out.cell (World.block_lt_of_cell? w _ hx140_2)).trans hx140_2
       replace p140 := eq_true p140
       replace q140 := eq_true q140
       refine start_ (n := 15) (S := fun w' => w'.cell? ⟨gb136, 0, none⟩ = some (.int .i64 a1_0) ∧ w'.cell? ⟨gb136, 1, none⟩ = some (.int .i64 a1_1) ∧ w'.cell? ⟨gb136, 2, none⟩ = some (.int .i64 a1_2) ∧ w'.cell? ⟨gb136, 3, none⟩ = some (.string a1_3) ∧ w'.cell? ⟨gb136, 4, none⟩ = some (.string a1_4) ∧ w'.cell? ⟨gb136, 5, none⟩ = some (.int .i64 a1_5) ∧ w'.cell? ⟨gb136, 6, none⟩ = some (.int .u64 a1_6) ∧ w'.cell? ⟨gb136, 7, none⟩ = some (.int .u64 a1_7) ∧ w'.cell? ⟨gb136, 8, none⟩ = some (.bool a1_8) ∧ w'.cell? ⟨gb136, 9, none⟩ = some (.slice A1_9 l1_9.length c1_9) ∧ w'.cell? (ad138.add ((a1_0).toNat * 3)) = some (.string ((rd_T89 l0 a1_0).f0)) ∧ w'.cell? ⟨(ad138.add ((a1_0).toNat * 3)).block, (ad138.add ((a1_0).toNat * 3)).off + 1, none⟩ = some (.string ((rd_T89 l0 a1_0).f1)) ∧ w'.cell? ⟨(ad138.add ((a1_0).toNat * 3)).block, (ad138.add ((a1_0).toNat * 3)).off + 2, none⟩ = some (.string ((rd_T89 l0 a1_0).f2))) (ds := []) (tb 15 0) (by kernel_rfl) rfl (by kernel_rfl) ⟨(blk_cell BK136.out 0).trans rfl, (blk_cell BK136.out 1).trans rfl, (blk_cell BK136.out 2).trans rfl, (blk_cell BK136.out 3).trans rfl, (blk_cell BK136.out 4).trans rfl, (blk_cell BK136.out 5).trans rfl, (blk_cell BK136.out 6).trans rfl, (blk_cell BK136.out 7).trans rfl, (blk_cell BK136.out 8).trans rfl, (blk_cell BK136.out 9).trans rfl, ((HB.out.cell (World.block_lt_of_cell? w _ hw140_0)).trans hw140_0), ((HB.out.cell (World.block_lt_of_cell? w _ hw140_1)).trans hw140_1), ((HB.out.cell (World.block_lt_of_cell? w _ hw140_2)).trans hw140_2)⟩ (fun hHeld => ?_); refine with_tabW syntax_node.tab8 syntax_node.bits8 (fun HT_ HW_ => ?_)
       generalize w25.drew = w26 at BK136 HB hx140_0 hx140_1 hx140_2 hHeld ⊢
       refine pA 0 51 (tb 15 1) HT_ ?_
       refine pA 1 52 (tb 15 3) HT_ ?_
       refine pA 2 53 (tb 15 7) HT_ ?_
       refine pA 7 58 (tb 15 135) HT_ ?_
       refine tA 3 54 (tb 15 143) HT_ HW_ hHeld ?_
       refine pA 4 55 (tb 15 159) HT_ ?_
       refine pA 5 56 (tb 15 191) HT_ ?_
       refine tA 6 57 (tb 15 255) HT_ HW_ hHeld ?_
       refine tA 8 59 (tb 15 511) HT_ HW_ hHeld ?_
       refine oA 9 (some 60) (tb 15 1023) HT_ (fun K hK => ?_)
       refine gA Try.func62 #[.slice (some ad138) l0.length c0, .string ((rd_T89 l0 a1_0).f1), .slice A1_9 l1_9.length c1_9] ?_
       with_reducible refine (syntax_match.calls kj3 _ _ l0 ((rd_T89 l0 a1_0).f1) _ _ l1_9 t141 true _ ?side1 ?side2 ?side3 ?side4 A20.out).mono ?_
       (case side1 => exact (Kd.C_below HR0.out HB.out))
       (case side2 => exact HC0.out)
       (case side3 => exact (Kd.C_below HR1_9.out HB.out))
       (case side4 => exact HC1_9.out)
       rintro e w27 ⟨v143, rfl, ho0, hb⟩
       refine ⟨_, rfl, ?_⟩
       have HO144 := Aside0.mk (Kd.R_lower ho0 (below_size HB.out))
       replace BK136 := bk1 BK136 hb
       replace HB := hb1 HB hb
       (try clear hb)
       (try clear ho0)
       refine hK.out _ _ ⟨(blk_cell BK136.out 0).trans rfl, (blk_cell BK136.out 1).trans rfl, (blk_cell BK136.out 2).trans rfl, (blk_cell BK136.out 3).trans rfl, (blk_cell BK136.out 4).trans rfl, (blk_cell BK136.out 5).trans rfl, (blk_cell BK136.out 6).trans rfl, (blk_cell BK136.out 7).trans rfl, (blk_cell BK136.out 8).trans rfl, (blk_cell BK136.out 9).trans rfl, ((HB.out.cell (World.block_lt_of_cell? w _ hw140_0)).trans hw140_0), ((HB.out.cell (World.block_lt_of_cell? w _ hw140_1)).trans hw140_1), ((HB.out.cell (World.block_lt_of_cell? w _ hw140_2)).trans hw140_2)⟩ (fun hHeld => ?_)
       clear hK K
       refine nA ?_
       refine pA 10 50 (tb 15 2047) HT_ ?_
       refine pA 11 61 (tb 15 4095) HT_ ?_
       refine pA 12 62 (tb 15 8191) HT_ ?_
       refine pA 13 8 (tb 15 16383) HT_ ?_
       refine pA 14 9 (tb 15 32767) HT_ ?_
       refine done_ (done_of HT_.out (by kernel_rfl)) ?_
       go_upto_region 11 with (fail)
       go_cut [82] (fun v82 wc => ∃ (kq : Nat) (x82_21 : Bool), v82 = .bool x82_21 ∧ Aside0 (syntax_node.j1 kq l0 a2 t141 x82_21 a1_0 a1_1 a1_2 a1_3 a1_4 a1_5 a1_6 a1_7 a1_8 l1_9 = some r) ∧ Aside0 (kq ≤ kj3) ∧ Aside0 (Kd.R (Kd.int .u8) 5 wc w.heap.size (fun _ => True) v143 t141) ∧ Aside0 (wc.heap[gb136]? = some (.cells #[.int .i64 a1_0, .int .i64 a1_1, .int .i64 a1_2, .string a1_3, .string a1_4, .int .i64 a1_5, .int .u64 a1_6, .int .u64 a1_7, .bool a1_8, (.slice A1_9 l1_9.length c1_9)] 27 (0, 0))) ∧ Aside0 (Below w.heap.size w wc))
       case first =>
        have H := HC22.out
        clear HC22
        replace H := iE H; rcases H with ⟨c28b0, c28b1, H⟩ | ⟨c28, c28b0, c28b1, H⟩
        ·(skip)
         by_cases c29 : 2 < (l1_9.length : Int)
         ·rw [if_pos c29] at H
          have c29b0 : decide (2 < (l1_9.length : Int)) = true := decide_eq_true c29
          have c29b1 : decide (2 < l1_9.length) = true := decide_eq_true (by omega)
          clear c29
          replace H := iE H; rcases H with ⟨c30b0, c30b1, H⟩ | ⟨c30, c30b0, c30b1, H⟩
          ·have H' := Aside0.mk H
           clear H
           obtain ⟨hcz31_0, hcz31_1, hcz31_2, hcz31_3, hcz31_4, hcz31_5, hcz31_6, hcz31_7, hcz31_8, hcz31_9⟩ := sq_cells10 (W := w27) (g := gb136) BK136.out; obtain ⟨hfz31_0, hfz31_1, hfz31_2, hfz31_3, hfz31_4, hfz31_5, hfz31_6, hfz31_7, hfz31_8, hfz31_9⟩ := sq_frozen10 BK136.out
           have p145 : 0 ≤ (2 : Int) := (by omega)
           have q145 : 2 < (l1_9.length : Int) := of_decide_eq_true (by (with_reducible assumption))
           obtain ⟨ad145, A145_9, c145_9, e145, hx145_0, hx145_1, hx145_2, hx145_3, hx145_4, hx145_5, hx145_6, hx145_7, hx145_8, hx145_9, hl145_9, hi145_9⟩ := at_T27 HR1_9.out 2 p145 q145
           cases e145
           (try simp only [show (2 : Int).toNat = 2 from rfl, Nat.reduceMul, Nat.reduceEqDiff, Go.Addr.add, ↓reduceIte] at hx145_0)
           (try simp only [show (2 : Int).toNat = 2 from rfl, Nat.reduceMul, Nat.reduceEqDiff, Go.Addr.add, ↓reduceIte] at hx145_1)
           (try simp only [show (2 : Int).toNat = 2 from rfl, Nat.reduceMul, Nat.reduceEqDiff, Go.Addr.add, ↓reduceIte] at hx145_2)
           (try simp only [show (2 : Int).toNat = 2 from rfl, Nat.reduceMul, Nat.reduceEqDiff, Go.Addr.add, ↓reduceIte] at hx145_3)
           (try simp only [show (2 : Int).toNat = 2 from rfl, Nat.reduceMul, Nat.reduceEqDiff, Go.Addr.add, ↓reduceIte] at hx145_4)
           (try simp only [show (2 : Int).toNat = 2 from rfl, Nat.reduceMul, Nat.reduceEqDiff, Go.Addr.add, ↓reduceIte] at hx145_5)
           (try simp only [show (2 : Int).toNat = 2 from rfl, Nat.reduceMul, Nat.reduceEqDiff, Go.Addr.add, ↓reduceIte] at hx145_6)
           (try simp only [show (2 : Int).toNat = 2 from rfl, Nat.reduceMul, Nat.reduceEqDiff, Go.Addr.add, ↓reduceIte] at hx145_7)
           (try simp only [show (2 : Int).toNat = 2 from rfl, Nat.reduceMul, Nat.reduceEqDiff, Go.Addr.add, ↓reduceIte] at hx145_8)
           (try simp only [show (2 : Int).toNat = 2 from rfl, Nat.reduceMul, Nat.reduceEqDiff, Go.Addr.add, ↓reduceIte] at hx145_9)
           have qi145 : (2 < l1_9.length) = True := eq_true (by omega)
           replace hx145_0 := (HB.out.cell (World.block_lt_of_cell? w _ hx145_0)).trans hx145_0
           replace hx145_1 := (HB.out.cell (World.block_lt_of_cell? w _ hx145_1)).trans hx145_1
           replace hx145_2 := (HB.out.cell (World.block_lt_of_cell? w _ hx145_2)).trans hx145_2
           replace hx145_3 := (HB.out.cell (World.block_lt_of_cell? w _ hx145_3)).trans hx145_3
           replace hx145_4 := (HB.out.cell (World.block_lt_of_cell? w _ hx145_4)).trans hx145_4
           replace hx145_5 := (HB.out.cell (World.block_lt_of_cell? w _ hx145_5)).trans hx145_5
           replace hx145_6 := (HB.out.cell (World.block_lt_of_cell? w _ hx145_6)).trans hx145_6
           replace hx145_7 := (HB.out.cell (World.block_lt_of_cell? w _ hx145_7)).trans hx145_7
           replace hx145_8 := (HB.out.cell (World.block_lt_of_cell? w _ hx145_8)).trans hx145_8
           replace hx145_9 := (HB.out.cell (World.block_lt_of_cell? w _ hx145_9)).trans hx145_9
           have HR145_9 := Aside0.mk hi145_9
           have HC145_9 := Aside0.mk hl145_9
           clear hi145_9 hl145_9
           replace p145 := eq_true p145
           replace q145 := eq_true q145
           go_wp2
           go_meet
           case rel => exact ⟨_, (false), (by rfl), H', ⟨by have := HJ3.out; omega⟩, ⟨by exact HO144.out⟩, ⟨by exact BK136.out⟩, ⟨by repeat (with_reducible exact HB.out)⟩⟩
          ·by_cases c32 : 1 < (l1_9.length : Int)
           ·rw [if_pos c32] at H
            have c32b0 : decide (1 < (l1_9.length : Int)) = true := decide_eq_true c32
            have c32b1 : decide (1 < l1_9.length) = true := decide_eq_true (by omega)
            clear c32
            replace H := bN H; obtain ⟨t147, A33, H⟩ := H
            have H' := Aside0.mk H
            clear H
            obtain ⟨hcz34_0, hcz34_1, hcz34_2, hcz34_3, hcz34_4, hcz34_5, hcz34_6, hcz34_7, hcz34_8, hcz34_9⟩ := sq_cells10 (W := w27) (g := gb136) BK136.out; obtain ⟨hfz34_0, hfz34_1, hfz34_2, hfz34_3, hfz34_4, hfz34_5, hfz34_6, hfz34_7, hfz34_8, hfz34_9⟩ := sq_frozen10 BK136.out
            have p145 : 0 ≤ (2 : Int) := (by omega)
            have q145 : 2 < (l1_9.length : Int) := of_decide_eq_true (by (with_reducible assumption))
            obtain ⟨ad145, A145_9, c145_9, e145, hx145_0, hx145_1, hx145_2, hx145_3, hx145_4, hx145_5, hx145_6, hx145_7, hx145_8, hx145_9, hl145_9, hi145_9⟩ := at_T27 HR1_9.out 2 p145 q145
            cases e145
            (try simp only [show (2 : Int).toNat = 2 from rfl, Nat.reduceMul, Nat.reduceEqDiff, Go.Addr.add, ↓reduceIte] at hx145_0)
            (try simp only [show (2 : Int).toNat = 2 from rfl, Nat.reduceMul, Nat.reduceEqDiff, Go.Addr.add, ↓reduceIte] at hx145_1)
            (try simp only [show (2 : Int).toNat = 2 from rfl, Nat.reduceMul, Nat.reduceEqDiff, Go.Addr.add, ↓reduceIte] at hx145_2)
            (try simp only [show (2 : Int).toNat = 2 from rfl, Nat.reduceMul, Nat.reduceEqDiff, Go.Addr.add, ↓reduceIte] at hx145_3)
            (try simp only [show (2 : Int).toNat = 2 from rfl, Nat.reduceMul, Nat.reduceEqDiff, Go.Addr.add, ↓reduceIte] at hx145_4)
            (try simp only [show (2 : Int).toNat = 2 from rfl, Nat.reduceMul, Nat.reduceEqDiff, Go.Addr.add, ↓reduceIte] at hx145_5)
            (try simp only [show (2 : Int).toNat = 2 from rfl, Nat.reduceMul, Nat.reduceEqDiff, Go.Addr.add, ↓reduceIte] at hx145_6)
            (try simp only [show (2 : Int).toNat = 2 from rfl, Nat.reduceMul, Nat.reduceEqDiff, Go.Addr.add, ↓reduceIte] at hx145_7)
            (try simp only [show (2 : Int).toNat = 2 from rfl, Nat.reduceMul, Nat.reduceEqDiff, Go.Addr.add, ↓reduceIte] at hx145_8)
            (try simp only [show (2 : Int).toNat = 2 from rfl, Nat.reduceMul, Nat.reduceEqDiff, Go.Addr.add, ↓reduceIte] at hx145_9)
            have qi145 : (2 < l1_9.length) = True := eq_true (by omega)
            replace hx145_0 := (HB.out.cell (World.block_lt_of_cell? w _ hx145_0)).trans hx145_0
            replace hx145_1 := (HB.out.cell (World.block_lt_of_cell? w _ hx145_1)).trans hx145_1
            replace hx145_2 := (HB.out.cell (World.block_lt_of_cell? w _ hx145_2)).trans hx145_2
            replace hx145_3 := (HB.out.cell (World.block_lt_of_cell? w _ hx145_3)).trans hx145_3
            replace hx145_4 := (HB.out.cell (World.block_lt_of_cell? w _ hx145_4)).trans hx145_4
            replace hx145_5 := (HB.out.cell (World.block_lt_of_cell? w _ hx145_5)).trans hx145_5
            replace hx145_6 := (HB.out.cell (World.block_lt_of_cell? w _ hx145_6)).trans hx145_6
            replace hx145_7 := (HB.out.cell (World.block_lt_of_cell? w _ hx145_7)).trans hx145_7
            replace hx145_8 := (HB.out.cell (World.block_lt_of_cell? w _ hx145_8)).trans hx145_8
            replace hx145_9 := (HB.out.cell (World.block_lt_of_cell? w _ hx145_9)).trans hx145_9
            have HR145_9 := Aside0.mk hi145_9
            have HC145_9 := Aside0.mk hl145_9
            clear hi145_9 hl145_9
            replace p145 := eq_true p145
            replace q145 := eq_true q145
            have p146 : 0 ≤ (1 : Int) := (by omega)
            have q146 : 1 < (l1_9.length : Int) := of_decide_eq_true (by (with_reducible assumption))
            obtain ⟨ad146, A146_9, c146_9, e146, hx146_0, hx146_1, hx146_2, hx146_3, hx146_4, hx146_5, hx146_6, hx146_7, hx146_8, hx146_9, hl146_9, hi146_9⟩ := at_T27 HR1_9.out 1 p146 q146
            obtain rfl : ad145 = ad146 := (by injection e146)
            (try simp only [show (1 : Int).toNat = 1 from rfl, Nat.reduceMul, Nat.reduceEqDiff, Go.Addr.add, ↓reduceIte] at hx146_0)
            (try simp only [show (1 : Int).toNat = 1 from rfl, Nat.reduceMul, Nat.reduceEqDiff, Go.Addr.add, ↓reduceIte] at hx146_1)
            (try simp only [show (1 : Int).toNat = 1 from rfl, Nat.reduceMul, Nat.reduceEqDiff, Go.Addr.add, ↓reduceIte] at hx146_2)
            (try simp only [show (1 : Int).toNat = 1 from rfl, Nat.reduceMul, Nat.reduceEqDiff, Go.Addr.add, ↓reduceIte] at hx146_3)
            (try simp only [show (1 : Int).toNat = 1 from rfl, Nat.reduceMul, Nat.reduceEqDiff, Go.Addr.add, ↓reduceIte] at hx146_4)
            (try simp only [show (1 : Int).toNat = 1 from rfl, Nat.reduceMul, Nat.reduceEqDiff, Go.Addr.add, ↓reduceIte] at hx146_5)
            (try simp only [show (1 : Int).toNat = 1 from rfl, Nat.reduceMul, Nat.reduceEqDiff, Go.Addr.add, ↓reduceIte] at hx146_6)
            (try simp only [show (1 : Int).toNat = 1 from rfl, Nat.reduceMul, Nat.reduceEqDiff, Go.Addr.add, ↓reduceIte] at hx146_7)
            (try simp only [show (1 : Int).toNat = 1 from rfl, Nat.reduceMul, Nat.reduceEqDiff, Go.Addr.add, ↓reduceIte] at hx146_8)
            (try simp only [show (1 : Int).toNat = 1 from rfl, Nat.reduceMul, Nat.reduceEqDiff, Go.Addr.add, ↓reduceIte] at hx146_9)
            have qi146 : (1 < l1_9.length) = True := eq_true (by omega)
            replace hx146_0 := (HB.out.cell (World.block_lt_of_cell? w _ hx146_0)).trans hx146_0
            replace hx146_1 := (HB.out.cell (World.block_lt_of_cell? w _ hx146_1)).trans hx146_1
            replace hx146_2 := (HB.out.cell (World.block_lt_of_cell? w _ hx146_2)).trans hx146_2
            replace hx146_3 := (HB.out.cell (World.block_lt_of_cell? w _ hx146_3)).trans hx146_3
            replace hx146_4 := (HB.out.cell (World.block_lt_of_cell? w _ hx146_4)).trans hx146_4
            replace hx146_5 := (HB.out.cell (World.block_lt_of_cell? w _ hx146_5)).trans hx146_5
            replace hx146_6 := (HB.out.cell (World.block_lt_of_cell? w _ hx146_6)).trans hx146_6
            replace hx146_7 := (HB.out.cell (World.block_lt_of_cell? w _ hx146_7)).trans hx146_7
            replace hx146_8 := (HB.out.cell (World.block_lt_of_cell? w _ hx146_8)).trans hx146_8
            replace hx146_9 := (HB.out.cell (World.block_lt_of_cell? w _ hx146_9)).trans hx146_9
            have HR146_9 := Aside0.mk hi146_9
            have HC146_9 := Aside0.mk hl146_9
            clear hi146_9 hl146_9
            replace p146 := eq_true p146
            replace q146 := eq_true q146
            go_wp2_with ((go_at_call 63; (with_reducible refine (syntax_dangles.calls kj3 ((rd_T27 l1_9 1).f0) ((rd_T27 l1_9 1).f1) ((rd_T27 l1_9 1).f2) ((rd_T27 l1_9 1).f3) ((rd_T27 l1_9 1).f4) ((rd_T27 l1_9 1).f5.f0) ((rd_T27 l1_9 1).f5.f1) ((rd_T27 l1_9 1).f5.f2) ((rd_T27 l1_9 1).f6) _ _ ((rd_T27 l1_9 1).f7) t147 _ ?side1 ?side2 A33.out).mono ?_); (case side1 => exact (Kd.C_below HR146_9.out HB.out)); (case side2 => exact HC146_9.out); rintro e w35 ⟨rfl, hb⟩; replace HO144 := Kd.rb1 HO144 hb; replace BK136 := bk1 BK136 hb; replace HB := hb1 HB hb; (try clear hb)))
            go_meet
            case rel => exact ⟨_, (t147), (by rfl), H', ⟨by have := HJ3.out; omega⟩, ⟨by exact HO144.out⟩, ⟨by exact BK136.out⟩, ⟨by repeat (with_reducible exact HB.out)⟩⟩
           ·rw [if_neg c32] at H
            exact absurd H (by simp)
         ·rw [if_neg c29] at H
          exact absurd H (by simp)
        ·(skip)
         have H' := Aside0.mk H
         clear H
         obtain ⟨hcz36_0, hcz36_1, hcz36_2, hcz36_3, hcz36_4, hcz36_5, hcz36_6, hcz36_7, hcz36_8, hcz36_9⟩ := sq_cells10 (W := w27) (g := gb136) BK136.out; obtain ⟨hfz36_0, hfz36_1, hfz36_2, hfz36_3, hfz36_4, hfz36_5, hfz36_6, hfz36_7, hfz36_8, hfz36_9⟩ := sq_frozen10 BK136.out
         go_wp2
         go_meet
         case rel => exact ⟨_, (false), (by rfl), H', ⟨by have := HJ3.out; omega⟩, ⟨by exact HO144.out⟩, ⟨by exact BK136.out⟩, ⟨by repeat (with_reducible exact HB.out)⟩⟩
       case rest =>
        clear HC22
        (try clear c16b0); (try clear c17b0); (try clear c19b0); (try clear c19b1); (try clear hcz23_0 hcz23_1 hcz23_2 hcz23_3 hcz23_4 hcz23_5 hcz23_6 hcz23_7 hcz23_8 hcz23_9); (try clear hfz23_0 hfz23_1 hfz23_2 hfz23_3 hfz23_4 hfz23_5 hfz23_6 hfz23_7 hfz23_8 hfz23_9); (try clear hx138_0); (try clear hx138_1); (try clear hx138_2); (try clear hx140_0); (try clear hx140_1); (try clear hx140_2); (try clear p138); (try clear p140); (try clear q138); (try clear q140)
        obtain ⟨kq, x82_21, rfl, HA, HJ21, HO_8, BK136, HB⟩ := hcut
        cases kq with
        | zero => exact absurd HA.out (by simp [syntax_node.j1])
        | succ kj21 =>
         have H := HA.out
         clear HA
         simp only [syntax_node.j1] at H
         replace H := iB H; rcases H with ⟨rfl, H⟩ | ⟨rfl, H⟩
         ·obtain rfl := Option.some.inj H
          go_wp2
          go_ret
          exact ⟨by rfl, by repeat (with_reducible exact HB.out)⟩
         ·have H' := Aside0.mk H
          clear H
          obtain ⟨hcz38_0, hcz38_1, hcz38_2, hcz38_3, hcz38_4, hcz38_5, hcz38_6, hcz38_7, hcz38_8, hcz38_9⟩ := sq_cells10 (W := wc) (g := gb136) BK136.out; obtain ⟨hfz38_0, hfz38_1, hfz38_2, hfz38_3, hfz38_4, hfz38_5, hfz38_6, hfz38_7, hfz38_8, hfz38_9⟩ := sq_frozen10 BK136.out
          go_wp2
          go_loopg [86] kj21 (fun kq v86 w' => ∃ (x8_3 : List Int) (x86_3 : Int), v86 = .int .i64 x86_3 ∧ Aside0 (syntax_node.l0 kq l0 a2 x8_3 l1_9 (l1_9.length : Int) x86_3 a1_0 a1_1 a1_2 a1_3 a1_4 a1_5 a1_6 a1_7 a1_8 l1_9 = some r) ∧ Aside0 (kq ≤ kj21) ∧ Aside0 (Kd.R (Kd.int .u8) 5 w' w.heap.size (fun _ => True) v143 x8_3) ∧ Aside0 (w'.heap[gb136]? = some (.cells #[.int .i64 a1_0, .int .i64 a1_1, .int .i64 a1_2, .string a1_3, .string a1_4, .int .i64 a1_5, .int .u64 a1_6, .int .u64 a1_7, .bool a1_8, (.slice A1_9 l1_9.length c1_9)] 27 (0, 0))) ∧ Aside0 (Below w.heap.size w w'))
          case atStart => exact ⟨(t141), (0), (by rfl), H', ⟨Nat.le_refl _⟩, ⟨by exact HO_8.out⟩, ⟨by exact BK136.out⟩, ⟨by repeat (with_reducible exact HB.out)⟩⟩
          case round =>
           clear H'
           (try clear hcz38_0 hcz38_1 hcz38_2 hcz38_3 hcz38_4 hcz38_5 hcz38_6 hcz38_7 hcz38_8 hcz38_9); (try clear hfz38_0 hfz38_1 hfz38_2 hfz38_3 hfz38_4 hfz38_5 hfz38_6 hfz38_7 hfz38_8 hfz38_9)
           obtain ⟨x8_3, x86_3, rfl, HA, HK3, HO_8, BK136, HB⟩ := hrel
           cases gk with
           | zero => exact absurd HA.out (by simp [syntax_node.l0])
           | succ k3 =>
            have H := HA.out
            clear HA
            simp only [syntax_node.l0] at H
            replace H := iD H; rcases H with ⟨c39b0, H⟩ | ⟨c39b0, H⟩
            ·replace H := iN H; obtain ⟨c40b0, H⟩ := H
             replace H := iN H; obtain ⟨c41b0, H⟩ := H
             replace H := iE H; rcases H with ⟨c42b0, c42b1, H⟩ | ⟨c42, c42b0, c42b1, H⟩
             ·replace H := bN H; obtain ⟨t150, A43, H⟩ := H
              replace H := iB H; rcases H with ⟨rfl, H⟩ | ⟨rfl, H⟩
              ·have H' := Aside0.mk H
               clear H
               have p148 : 0 ≤ (x86_3 : Int) := of_decide_eq_true (by (with_reducible assumption))
               have q148 : x86_3 < (l1_9.length : Int) := of_decide_eq_true (by (with_reducible assumption))
               obtain ⟨ad148, A148_9, c148_9, e148, hx148_0, hx148_1, hx148_2, hx148_3, hx148_4, hx148_5, hx148_6, hx148_7, hx148_8, hx148_9, hl148_9, hi148_9⟩ := at_T27 HR1_9.out x86_3 p148 q148
               cases e148
               replace hx148_0 := (HB.out.cell (World.block_lt_of_cell? w _ hx148_0)).trans hx148_0
               replace hx148_1 := (HB.out.cell (World.block_lt_of_cell? w _ hx148_1)).trans hx148_1
               replace hx148_2 := (HB.out.cell (World.block_lt_of_cell? w _ hx148_2)).trans hx148_2
               replace hx148_3 := (HB.out.cell (World.block_lt_of_cell? w _ hx148_3)).trans hx148_3
               replace hx148_4 := (HB.out.cell (World.block_lt_of_cell? w _ hx148_4)).trans hx148_4
               replace hx148_5 := (HB.out.cell (World.block_lt_of_cell? w _ hx148_5)).trans hx148_5
               replace hx148_6 := (HB.out.cell (World.block_lt_of_cell? w _ hx148_6)).trans hx148_6
               replace hx148_7 := (HB.out.cell (World.block_lt_of_cell? w _ hx148_7)).trans hx148_7
               replace hx148_8 := (HB.out.cell (World.block_lt_of_cell? w _ hx148_8)).trans hx148_8
               replace hx148_9 := (HB.out.cell (World.block_lt_of_cell? w _ hx148_9)).trans hx148_9
               have HR148_9 := Aside0.mk hi148_9
               have HC148_9 := Aside0.mk hl148_9
               clear hi148_9 hl148_9
               replace p148 := eq_true p148
               replace q148 := eq_true q148
               go_wp2_with (first | ((with_reducible refine gate_dst (N := 11) rfl ?_); (try (refine gate_guard (by rfl) ?_; dsimp only)); refine box_event ?hg (N := 11) ?hd (cs := #[.int .i64 0, .int .i64 0, .int .i64 0, .string (⟨#[]⟩ : ByteArray), .string (⟨#[]⟩ : ByteArray), .int .i64 0, .int .u64 0, .int .u64 0, .bool false, .slice none 0 0]) (t := 27) ?hr ?_; (case hd => rfl); (case hg => rfl); (case hr => (go_simp; done)); intro gb149 hg w45 hbox hb; replace HO_8 := Kd.rb1 HO_8 hb; have BK149 := Aside0.mk (hbox); have GW149 := ge1 HB hg; have GE149 := ge1 HB hg; replace HB := hb1 HB hb; have NB136_149 := nbA BK136 hg; have NB149_136 := nbB BK136 hg; replace BK136 := bk1 BK136 hb; clear hb hbox hg; have hnb46 := NB149_136.out; have hnc46 := NB136_149.out; have hcz47_0 : w45.cell? ⟨gb149, 0, none⟩ = some (.int .i64 0) := (blk_cell BK149.out 0).trans rfl; have hcz47_1 : w45.cell? ⟨gb149, 1, none⟩ = some (.int .i64 0) := (blk_cell BK149.out 1).trans rfl; have hcz47_2 : w45.cell? ⟨gb149, 2, none⟩ = some (.int .i64 0) := (blk_cell BK149.out 2).trans rfl; have hcz47_3 : w45.cell? ⟨gb149, 3, none⟩ = some (.string (⟨#[]⟩ : ByteArray)) := (blk_cell BK149.out 3).trans rfl; have hcz47_4 : w45.cell? ⟨gb149, 4, none⟩ = some (.string (⟨#[]⟩ : ByteArray)) := (blk_cell BK149.out 4).trans rfl; have hcz47_5 : w45.cell? ⟨gb149, 5, none⟩ = some (.int .i64 0) := (blk_cell BK149.out 5).trans rfl; have hcz47_6 : w45.cell? ⟨gb149, 6, none⟩ = some (.int .u64 0) := (blk_cell BK149.out 6).trans rfl; have hcz47_7 : w45.cell? ⟨gb149, 7, none⟩ = some (.int .u64 0) := (blk_cell BK149.out 7).trans rfl; have hcz47_8 : w45.cell? ⟨gb149, 8, none⟩ = some (.bool false) := (blk_cell BK149.out 8).trans rfl; have hcz47_9 : w45.cell? ⟨gb149, 9, none⟩ = some (.slice none 0 0) := (blk_cell BK149.out 9).trans rfl; have hfz47_0 := blk_frozen BK149.out 0; have hfz47_1 := blk_frozen BK149.out 1; have hfz47_2 := blk_frozen BK149.out 2; have hfz47_3 := blk_frozen BK149.out 3; have hfz47_4 := blk_frozen BK149.out 4; have hfz47_5 := blk_frozen BK149.out 5; have hfz47_6 := blk_frozen BK149.out 6; have hfz47_7 := blk_frozen BK149.out 7; have hfz47_8 := blk_frozen BK149.out 8; have hfz47_9 := blk_frozen BK149.out 9) | (refine callA (some 95) Try.func64 #[.agg #[.int .i64 ((rd_T27 l1_9 x86_3).f0), .int .i64 ((rd_T27 l1_9 x86_3).f1), .int .i64 ((rd_T27 l1_9 x86_3).f2), .string ((rd_T27 l1_9 x86_3).f3), .string ((rd_T27 l1_9 x86_3).f4), .int .i64 ((rd_T27 l1_9 x86_3).f5.f0), .int .u64 ((rd_T27 l1_9 x86_3).f5.f1), .int .u64 ((rd_T27 l1_9 x86_3).f5.f2), .bool ((rd_T27 l1_9 x86_3).f6), .slice A148_9 ((rd_T27 l1_9 x86_3).f7).length c148_9]] ?_; (with_reducible refine (syntax_bare.calls ((rd_T27 l1_9 x86_3).f0) ((rd_T27 l1_9 x86_3).f1) ((rd_T27 l1_9 x86_3).f2) ((rd_T27 l1_9 x86_3).f3) ((rd_T27 l1_9 x86_3).f4) ((rd_T27 l1_9 x86_3).f5.f0) ((rd_T27 l1_9 x86_3).f5.f1) ((rd_T27 l1_9 x86_3).f5.f2) ((rd_T27 l1_9 x86_3).f6) _ _ ((rd_T27 l1_9 x86_3).f7) true _ ?side1 ?side2 A43.out).mono ?_); (case side1 => exact Kd.C_below HR148_9.out (by repeat (with_reducible first | exact HB.out | refine below_set ?_ GE149.out))); (case side2 => exact HC148_9.out); rintro e w48 ⟨rfl, hb⟩; refine ⟨_, rfl, ?_⟩; replace HO_8 := Aside0.mk (Kd.R_below (by exact (Kd.R_mono (Kd.R_far (p := ⟨gb149, 9, none⟩) (Kd.R_far (p := ⟨gb149, 8, none⟩) (Kd.R_far (p := ⟨gb149, 7, none⟩) (Kd.R_far (p := ⟨gb149, 6, none⟩) (Kd.R_far (p := ⟨gb149, 5, none⟩) (Kd.R_far (p := ⟨gb149, 4, none⟩) (Kd.R_far (p := ⟨gb149, 3, none⟩) (Kd.R_far (p := ⟨gb149, 2, none⟩) (Kd.R_far (p := ⟨gb149, 1, none⟩) (Kd.R_far (p := ⟨gb149, 0, none⟩) (Kd.R_types HO_8.out BK149.out (by decide)) (fun _ hk => hk.2) (.int .i64 ((rd_T27 l1_9 x86_3).f0))) (fun _ hk => hk.2) (.int .i64 ((rd_T27 l1_9 x86_3).f1))) (fun _ hk => hk.2) (.int .i64 ((rd_T27 l1_9 x86_3).f2))) (fun _ hk => hk.2) (.string ((rd_T27 l1_9 x86_3).f3))) (fun _ hk => hk.2) (.string ((rd_T27 l1_9 x86_3).f4))) (fun _ hk => hk.2) (.int .i64 ((rd_T27 l1_9 x86_3).f5.f0))) (fun _ hk => hk.2) (.int .u64 ((rd_T27 l1_9 x86_3).f5.f1))) (fun _ hk => hk.2) (.int .u64 ((rd_T27 l1_9 x86_3).f5.f2))) (fun _ hk => hk.2) (.bool ((rd_T27 l1_9 x86_3).f6))) (fun _ hk => hk.2) (.slice A148_9 ((rd_T27 l1_9 x86_3).f7).length c148_9)) (fun _ h_ => h_.1))) hb); replace BK136 := Aside0.mk (blk_below (g := gb136) (o := .cells #[.int .i64 a1_0, .int .i64 a1_1, .int .i64 a1_2, .string a1_3, .string a1_4, .int .i64 a1_5, .int .u64 a1_6, .int .u64 a1_7, .bool a1_8, .slice (some ad148) l1_9.length c1_9] 27 (0, 0)) (by refine blk_far ?_ NB136_149.out _; refine blk_far ?_ NB136_149.out _; refine blk_far ?_ NB136_149.out _; refine blk_far ?_ NB136_149.out _; refine blk_far ?_ NB136_149.out _; refine blk_far ?_ NB136_149.out _; refine blk_far ?_ NB136_149.out _; refine blk_far ?_ NB136_149.out _; refine blk_far ?_ NB136_149.out _; refine blk_far ?_ NB136_149.out _; exact BK136.out) hb); replace BK149 := Aside0.mk (blk_below (g := gb149) (o := .cells #[.int .i64 ((rd_T27 l1_9 x86_3).f0), .int .i64 ((rd_T27 l1_9 x86_3).f1), .int .i64 ((rd_T27 l1_9 x86_3).f2), .string ((rd_T27 l1_9 x86_3).f3), .string ((rd_T27 l1_9 x86_3).f4), .int .i64 ((rd_T27 l1_9 x86_3).f5.f0), .int .u64 ((rd_T27 l1_9 x86_3).f5.f1), .int .u64 ((rd_T27 l1_9 x86_3).f5.f2), .bool ((rd_T27 l1_9 x86_3).f6), .slice A148_9 ((rd_T27 l1_9 x86_3).f7).length c148_9] 27 (0, 0)) (by refine blk_put (cs := #[.int .i64 ((rd_T27 l1_9 x86_3).f0), .int .i64 ((rd_T27 l1_9 x86_3).f1), .int .i64 ((rd_T27 l1_9 x86_3).f2), .string ((rd_T27 l1_9 x86_3).f3), .string ((rd_T27 l1_9 x86_3).f4), .int .i64 ((rd_T27 l1_9 x86_3).f5.f0), .int .u64 ((rd_T27 l1_9 x86_3).f5.f1), .int .u64 ((rd_T27 l1_9 x86_3).f5.f2), .bool ((rd_T27 l1_9 x86_3).f6), .slice none 0 0]) ?_ 9 _ rfl; refine blk_put (cs := #[.int .i64 ((rd_T27 l1_9 x86_3).f0), .int .i64 ((rd_T27 l1_9 x86_3).f1), .int .i64 ((rd_T27 l1_9 x86_3).f2), .string ((rd_T27 l1_9 x86_3).f3), .string ((rd_T27 l1_9 x86_3).f4), .int .i64 ((rd_T27 l1_9 x86_3).f5.f0), .int .u64 ((rd_T27 l1_9 x86_3).f5.f1), .int .u64 ((rd_T27 l1_9 x86_3).f5.f2), .bool false, .slice none 0 0]) ?_ 8 _ rfl; refine blk_put (cs := #[.int .i64 ((rd_T27 l1_9 x86_3).f0), .int .i64 ((rd_T27 l1_9 x86_3).f1), .int .i64 ((rd_T27 l1_9 x86_3).f2), .string ((rd_T27 l1_9 x86_3).f3), .string ((rd_T27 l1_9 x86_3).f4), .int .i64 ((rd_T27 l1_9 x86_3).f5.f0), .int .u64 ((rd_T27 l1_9 x86_3).f5.f1), .int .u64 0, .bool false, .slice none 0 0]) ?_ 7 _ rfl; refine blk_put (cs := #[.int .i64 ((rd_T27 l1_9 x86_3).f0), .int .i64 ((rd_T27 l1_9 x86_3).f1), .int .i64 ((rd_T27 l1_9 x86_3).f2), .string ((rd_T27 l1_9 x86_3).f3), .string ((rd_T27 l1_9 x86_3).f4), .int .i64 ((rd_T27 l1_9 x86_3).f5.f0), .int .u64 0, .int .u64 0, .bool false, .slice none 0 0]) ?_ 6 _ rfl; refine blk_put (cs := #[.int .i64 ((rd_T27 l1_9 x86_3).f0), .int .i64 ((rd_T27 l1_9 x86_3).f1), .int .i64 ((rd_T27 l1_9 x86_3).f2), .string ((rd_T27 l1_9 x86_3).f3), .string ((rd_T27 l1_9 x86_3).f4), .int .i64 0, .int .u64 0, .int .u64 0, .bool false, .slice none 0 0]) ?_ 5 _ rfl; refine blk_put (cs := #[.int .i64 ((rd_T27 l1_9 x86_3).f0), .int .i64 ((rd_T27 l1_9 x86_3).f1), .int .i64 ((rd_T27 l1_9 x86_3).f2), .string ((rd_T27 l1_9 x86_3).f3), .string (⟨#[]⟩ : ByteArray), .int .i64 0, .int .u64 0, .int .u64 0, .bool false, .slice none 0 0]) ?_ 4 _ rfl; refine blk_put (cs := #[.int .i64 ((rd_T27 l1_9 x86_3).f0), .int .i64 ((rd_T27 l1_9 x86_3).f1), .int .i64 ((rd_T27 l1_9 x86_3).f2), .string (⟨#[]⟩ : ByteArray), .string (⟨#[]⟩ : ByteArray), .int .i64 0, .int .u64 0, .int .u64 0, .bool false, .slice none 0 0]) ?_ 3 _ rfl; refine blk_put (cs := #[.int .i64 ((rd_T27 l1_9 x86_3).f0), .int .i64 ((rd_T27 l1_9 x86_3).f1), .int .i64 0, .string (⟨#[]⟩ : ByteArray), .string (⟨#[]⟩ : ByteArray), .int .i64 0, .int .u64 0, .int .u64 0, .bool false, .slice none 0 0]) ?_ 2 _ rfl; refine blk_put (cs := #[.int .i64 ((rd_T27 l1_9 x86_3).f0), .int .i64 0, .int .i64 0, .string (⟨#[]⟩ : ByteArray), .string (⟨#[]⟩ : ByteArray), .int .i64 0, .int .u64 0, .int .u64 0, .bool false, .slice none 0 0]) ?_ 1 _ rfl; refine blk_put (cs := #[.int .i64 0, .int .i64 0, .int .i64 0, .string (⟨#[]⟩ : ByteArray), .string (⟨#[]⟩ : ByteArray), .int .i64 0, .int .u64 0, .int .u64 0, .bool false, .slice none 0 0]) ?_ 0 _ rfl; exact BK149.out) hb); replace HB := hb1 HB hb; (try clear hb)))
               go_roundg k3
               case measure => have := HJ3.out; have := HJ21.out; have := HK3.out; omega
               case rel => exact ⟨(x8_3), (wrap64 (x86_3 + 1)), (by rfl), H', ⟨by have := HJ3.out; have := HJ21.out; have := HK3.out; omega⟩, ⟨by exact HO_8.out⟩, ⟨by exact BK136.out⟩, ⟨by repeat (with_reducible exact HB.out)⟩⟩
              ·obtain rfl := Option.some.inj H
               have p148 : 0 ≤ (x86_3 : Int) := of_decide_eq_true (by (with_reducible assumption))
               have q148 : x86_3 < (l1_9.length : Int) := of_decide_eq_true (by (with_reducible assumption))
               obtain ⟨ad148, A148_9, c148_9, e148, hx148_0, hx148_1, hx148_2, hx148_3, hx148_4, hx148_5, hx148_6, hx148_7, hx148_8, hx148_9, hl148_9, hi148_9⟩ := at_T27 HR1_9.out x86_3 p148 q148
               cases e148
               replace hx148_0 := (HB.out.cell (World.block_lt_of_cell? w _ hx148_0)).trans hx148_0
               replace hx148_1 := (HB.out.cell (World.block_lt_of_cell? w _ hx148_1)).trans hx148_1
               replace hx148_2 := (HB.out.cell (World.block_lt_of_cell? w _ hx148_2)).trans hx148_2
               replace hx148_3 := (HB.out.cell (World.block_lt_of_cell? w _ hx148_3)).trans hx148_3
               replace hx148_4 := (HB.out.cell (World.block_lt_of_cell? w _ hx148_4)).trans hx148_4
               replace hx148_5 := (HB.out.cell (World.block_lt_of_cell? w _ hx148_5)).trans hx148_5
               replace hx148_6 := (HB.out.cell (World.block_lt_of_cell? w _ hx148_6)).trans hx148_6
               replace hx148_7 := (HB.out.cell (World.block_lt_of_cell? w _ hx148_7)).trans hx148_7
               replace hx148_8 := (HB.out.cell (World.block_lt_of_cell? w _ hx148_8)).trans hx148_8
               replace hx148_9 := (HB.out.cell (World.block_lt_of_cell? w _ hx148_9)).trans hx148_9
               have HR148_9 := Aside0.mk hi148_9
               have HC148_9 := Aside0.mk hl148_9
               clear hi148_9 hl148_9
               replace p148 := eq_true p148
               replace q148 := eq_true q148
               go_wp2_with (first | ((with_reducible refine gate_dst (N := 11) rfl ?_); (try (refine gate_guard (by rfl) ?_; dsimp only)); refine box_event ?hg (N := 11) ?hd (cs := #[.int .i64 0, .int .i64 0, .int .i64 0, .string (⟨#[]⟩ : ByteArray), .string (⟨#[]⟩ : ByteArray), .int .i64 0, .int .u64 0, .int .u64 0, .bool false, .slice none 0 0]) (t := 27) ?hr ?_; (case hd => rfl); (case hg => rfl); (case hr => (go_simp; done)); intro gb149 hg w49 hbox hb; replace HO_8 := Kd.rb1 HO_8 hb; have BK149 := Aside0.mk (hbox); have GW149 := ge1 HB hg; have GE149 := ge1 HB hg; replace HB := hb1 HB hb; have NB136_149 := nbA BK136 hg; have NB149_136 := nbB BK136 hg; replace BK136 := bk1 BK136 hb; clear hb hbox hg; have hnb50 := NB149_136.out; have hnc50 := NB136_149.out; have hcz51_0 : w49.cell? ⟨gb149, 0, none⟩ = some (.int .i64 0) := (blk_cell BK149.out 0).trans rfl; have hcz51_1 : w49.cell? ⟨gb149, 1, none⟩ = some (.int .i64 0) := (blk_cell BK149.out 1).trans rfl; have hcz51_2 : w49.cell? ⟨gb149, 2, none⟩ = some (.int .i64 0) := (blk_cell BK149.out 2).trans rfl; have hcz51_3 : w49.cell? ⟨gb149, 3, none⟩ = some (.string (⟨#[]⟩ : ByteArray)) := (blk_cell BK149.out 3).trans rfl; have hcz51_4 : w49.cell? ⟨gb149, 4, none⟩ = some (.string (⟨#[]⟩ : ByteArray)) := (blk_cell BK149.out 4).trans rfl; have hcz51_5 : w49.cell? ⟨gb149, 5, none⟩ = some (.int .i64 0) := (blk_cell BK149.out 5).trans rfl; have hcz51_6 : w49.cell? ⟨gb149, 6, none⟩ = some (.int .u64 0) := (blk_cell BK149.out 6).trans rfl; have hcz51_7 : w49.cell? ⟨gb149, 7, none⟩ = some (.int .u64 0) := (blk_cell BK149.out 7).trans rfl; have hcz51_8 : w49.cell? ⟨gb149, 8, none⟩ = some (.bool false) := (blk_cell BK149.out 8).trans rfl; have hcz51_9 : w49.cell? ⟨gb149, 9, none⟩ = some (.slice none 0 0) := (blk_cell BK149.out 9).trans rfl; have hfz51_0 := blk_frozen BK149.out 0; have hfz51_1 := blk_frozen BK149.out 1; have hfz51_2 := blk_frozen BK149.out 2; have hfz51_3 := blk_frozen BK149.out 3; have hfz51_4 := blk_frozen BK149.out 4; have hfz51_5 := blk_frozen BK149.out 5; have hfz51_6 := blk_frozen BK149.out 6; have hfz51_7 := blk_frozen BK149.out 7; have hfz51_8 := blk_frozen BK149.out 8; have hfz51_9 := blk_frozen BK149.out 9) | (refine callA (some 95) Try.func64 #[.agg #[.int .i64 ((rd_T27 l1_9 x86_3).f0), .int .i64 ((rd_T27 l1_9 x86_3).f1), .int .i64 ((rd_T27 l1_9 x86_3).f2), .string ((rd_T27 l1_9 x86_3).f3), .string ((rd_T27 l1_9 x86_3).f4), .int .i64 ((rd_T27 l1_9 x86_3).f5.f0), .int .u64 ((rd_T27 l1_9 x86_3).f5.f1), .int .u64 ((rd_T27 l1_9 x86_3).f5.f2), .bool ((rd_T27 l1_9 x86_3).f6), .slice A148_9 ((rd_T27 l1_9 x86_3).f7).length c148_9]] ?_; (with_reducible refine (syntax_bare.calls ((rd_T27 l1_9 x86_3).f0) ((rd_T27 l1_9 x86_3).f1) ((rd_T27 l1_9 x86_3).f2) ((rd_T27 l1_9 x86_3).f3) ((rd_T27 l1_9 x86_3).f4) ((rd_T27 l1_9 x86_3).f5.f0) ((rd_T27 l1_9 x86_3).f5.f1) ((rd_T27 l1_9 x86_3).f5.f2) ((rd_T27 l1_9 x86_3).f6) _ _ ((rd_T27 l1_9 x86_3).f7) false _ ?side1 ?side2 A43.out).mono ?_); (case side1 => exact Kd.C_below HR148_9.out (by repeat (with_reducible first | exact HB.out | refine below_set ?_ GE149.out))); (case side2 => exact HC148_9.out); rintro e w52 ⟨rfl, hb⟩; refine ⟨_, rfl, ?_⟩; replace HO_8 := Aside0.mk (Kd.R_below (by exact (Kd.R_mono (Kd.R_far (p := ⟨gb149, 9, none⟩) (Kd.R_far (p := ⟨gb149, 8, none⟩) (Kd.R_far (p := ⟨gb149, 7, none⟩) (Kd.R_far (p := ⟨gb149, 6, none⟩) (Kd.R_far (p := ⟨gb149, 5, none⟩) (Kd.R_far (p := ⟨gb149, 4, none⟩) (Kd.R_far (p := ⟨gb149, 3, none⟩) (Kd.R_far (p := ⟨gb149, 2, none⟩) (Kd.R_far (p := ⟨gb149, 1, none⟩) (Kd.R_far (p := ⟨gb149, 0, none⟩) (Kd.R_types HO_8.out BK149.out (by decide)) (fun _ hk => hk.2) (.int .i64 ((rd_T27 l1_9 x86_3).f0))) (fun _ hk => hk.2) (.int .i64 ((rd_T27 l1_9 x86_3).f1))) (fun _ hk => hk.2) (.int .i64 ((rd_T27 l1_9 x86_3).f2))) (fun _ hk => hk.2) (.string ((rd_T27 l1_9 x86_3).f3))) (fun _ hk => hk.2) (.string ((rd_T27 l1_9 x86_3).f4))) (fun _ hk => hk.2) (.int .i64 ((rd_T27 l1_9 x86_3).f5.f0))) (fun _ hk => hk.2) (.int .u64 ((rd_T27 l1_9 x86_3).f5.f1))) (fun _ hk => hk.2) (.int .u64 ((rd_T27 l1_9 x86_3).f5.f2))) (fun _ hk => hk.2) (.bool ((rd_T27 l1_9 x86_3).f6))) (fun _ hk => hk.2) (.slice A148_9 ((rd_T27 l1_9 x86_3).f7).length c148_9)) (fun _ h_ => h_.1))) hb); replace BK136 := Aside0.mk (blk_below (g := gb136) (o := .cells #[.int .i64 a1_0, .int .i64 a1_1, .int .i64 a1_2, .string a1_3, .string a1_4, .int .i64 a1_5, .int .u64 a1_6, .int .u64 a1_7, .bool a1_8, .slice (some ad148) l1_9.length c1_9] 27 (0, 0)) (by refine blk_far ?_ NB136_149.out _; refine blk_far ?_ NB136_149.out _; refine blk_far ?_ NB136_149.out _; refine blk_far ?_ NB136_149.out _; refine blk_far ?_ NB136_149.out _; refine blk_far ?_ NB136_149.out _; refine blk_far ?_ NB136_149.out _; refine blk_far ?_ NB136_149.out _; refine blk_far ?_ NB136_149.out _; refine blk_far ?_ NB136_149.out _; exact BK136.out) hb); replace BK149 := Aside0.mk (blk_below (g := gb149) (o := .cells #[.int .i64 ((rd_T27 l1_9 x86_3).f0), .int .i64 ((rd_T27 l1_9 x86_3).f1), .int .i64 ((rd_T27 l1_9 x86_3).f2), .string ((rd_T27 l1_9 x86_3).f3), .string ((rd_T27 l1_9 x86_3).f4), .int .i64 ((rd_T27 l1_9 x86_3).f5.f0), .int .u64 ((rd_T27 l1_9 x86_3).f5.f1), .int .u64 ((rd_T27 l1_9 x86_3).f5.f2), .bool ((rd_T27 l1_9 x86_3).f6), .slice A148_9 ((rd_T27 l1_9 x86_3).f7).length c148_9] 27 (0, 0)) (by refine blk_put (cs := #[.int .i64 ((rd_T27 l1_9 x86_3).f0), .int .i64 ((rd_T27 l1_9 x86_3).f1), .int .i64 ((rd_T27 l1_9 x86_3).f2), .string ((rd_T27 l1_9 x86_3).f3), .string ((rd_T27 l1_9 x86_3).f4), .int .i64 ((rd_T27 l1_9 x86_3).f5.f0), .int .u64 ((rd_T27 l1_9 x86_3).f5.f1), .int .u64 ((rd_T27 l1_9 x86_3).f5.f2), .bool ((rd_T27 l1_9 x86_3).f6), .slice none 0 0]) ?_ 9 _ rfl; refine blk_put (cs := #[.int .i64 ((rd_T27 l1_9 x86_3).f0), .int .i64 ((rd_T27 l1_9 x86_3).f1), .int .i64 ((rd_T27 l1_9 x86_3).f2), .string ((rd_T27 l1_9 x86_3).f3), .string ((rd_T27 l1_9 x86_3).f4), .int .i64 ((rd_T27 l1_9 x86_3).f5.f0), .int .u64 ((rd_T27 l1_9 x86_3).f5.f1), .int .u64 ((rd_T27 l1_9 x86_3).f5.f2), .bool false, .slice none 0 0]) ?_ 8 _ rfl; refine blk_put (cs := #[.int .i64 ((rd_T27 l1_9 x86_3).f0), .int .i64 ((rd_T27 l1_9 x86_3).f1), .int .i64 ((rd_T27 l1_9 x86_3).f2), .string ((rd_T27 l1_9 x86_3).f3), .string ((rd_T27 l1_9 x86_3).f4), .int .i64 ((rd_T27 l1_9 x86_3).f5.f0), .int .u64 ((rd_T27 l1_9 x86_3).f5.f1), .int .u64 0, .bool false, .slice none 0 0]) ?_ 7 _ rfl; refine blk_put (cs := #[.int .i64 ((rd_T27 l1_9 x86_3).f0), .int .i64 ((rd_T27 l1_9 x86_3).f1), .int .i64 ((rd_T27 l1_9 x86_3).f2), .string ((rd_T27 l1_9 x86_3).f3), .string ((rd_T27 l1_9 x86_3).f4), .int .i64 ((rd_T27 l1_9 x86_3).f5.f0), .int .u64 0, .int .u64 0, .bool false, .slice none 0 0]) ?_ 6 _ rfl; refine blk_put (cs := #[.int .i64 ((rd_T27 l1_9 x86_3).f0), .int .i64 ((rd_T27 l1_9 x86_3).f1), .int .i64 ((rd_T27 l1_9 x86_3).f2), .string ((rd_T27 l1_9 x86_3).f3), .string ((rd_T27 l1_9 x86_3).f4), .int .i64 0, .int .u64 0, .int .u64 0, .bool false, .slice none 0 0]) ?_ 5 _ rfl; refine blk_put (cs := #[.int .i64 ((rd_T27 l1_9 x86_3).f0), .int .i64 ((rd_T27 l1_9 x86_3).f1), .int .i64 ((rd_T27 l1_9 x86_3).f2), .string ((rd_T27 l1_9 x86_3).f3), .string (⟨#[]⟩ : ByteArray), .int .i64 0, .int .u64 0, .int .u64 0, .bool false, .slice none 0 0]) ?_ 4 _ rfl; refine blk_put (cs := #[.int .i64 ((rd_T27 l1_9 x86_3).f0), .int .i64 ((rd_T27 l1_9 x86_3).f1), .int .i64 ((rd_T27 l1_9 x86_3).f2), .string (⟨#[]⟩ : ByteArray), .string (⟨#[]⟩ : ByteArray), .int .i64 0, .int .u64 0, .int .u64 0, .bool false, .slice none 0 0]) ?_ 3 _ rfl; refine blk_put (cs := #[.int .i64 ((rd_T27 l1_9 x86_3).f0), .int .i64 ((rd_T27 l1_9 x86_3).f1), .int .i64 0, .string (⟨#[]⟩ : ByteArray), .string (⟨#[]⟩ : ByteArray), .int .i64 0, .int .u64 0, .int .u64 0, .bool false, .slice none 0 0]) ?_ 2 _ rfl; refine blk_put (cs := #[.int .i64 ((rd_T27 l1_9 x86_3).f0), .int .i64 0, .int .i64 0, .string (⟨#[]⟩ : ByteArray), .string (⟨#[]⟩ : ByteArray), .int .i64 0, .int .u64 0, .int .u64 0, .bool false, .slice none 0 0]) ?_ 1 _ rfl; refine blk_put (cs := #[.int .i64 0, .int .i64 0, .int .i64 0, .string (⟨#[]⟩ : ByteArray), .string (⟨#[]⟩ : ByteArray), .int .i64 0, .int .u64 0, .int .u64 0, .bool false, .slice none 0 0]) ?_ 0 _ rfl; exact BK149.out) hb); replace HB := hb1 HB hb; (try clear hb)))
               go_ret
               exact ⟨by rfl, by repeat (with_reducible exact HB.out)⟩
             ·have HC53 := Aside0.mk H
              clear H
              have p148 : 0 ≤ (x86_3 : Int) := of_decide_eq_true (by (with_reducible assumption))
              have q148 : x86_3 < (l1_9.length : Int) := of_decide_eq_true (by (with_reducible assumption))
              obtain ⟨ad148, A148_9, c148_9, e148, hx148_0, hx148_1, hx148_2, hx148_3, hx148_4, hx148_5, hx148_6, hx148_7, hx148_8, hx148_9, hl148_9, hi148_9⟩ := at_T27 HR1_9.out x86_3 p148 q148
              cases e148
              replace hx148_0 := (HB.out.cell (World.block_lt_of_cell? w _ hx148_0)).trans hx148_0
              replace hx148_1 := (HB.out.cell (World.block_lt_of_cell? w _ hx148_1)).trans hx148_1
              replace hx148_2 := (HB.out.cell (World.block_lt_of_cell? w _ hx148_2)).trans hx148_2
              replace hx148_3 := (HB.out.cell (World.block_lt_of_cell? w _ hx148_3)).trans hx148_3
              replace hx148_4 := (HB.out.cell (World.block_lt_of_cell? w _ hx148_4)).trans hx148_4
              replace hx148_5 := (HB.out.cell (World.block_lt_of_cell? w _ hx148_5)).trans hx148_5
              replace hx148_6 := (HB.out.cell (World.block_lt_of_cell? w _ hx148_6)).trans hx148_6
              replace hx148_7 := (HB.out.cell (World.block_lt_of_cell? w _ hx148_7)).trans hx148_7
              replace hx148_8 := (HB.out.cell (World.block_lt_of_cell? w _ hx148_8)).trans hx148_8
              replace hx148_9 := (HB.out.cell (World.block_lt_of_cell? w _ hx148_9)).trans hx148_9
              have HR148_9 := Aside0.mk hi148_9
              have HC148_9 := Aside0.mk hl148_9
              clear hi148_9 hl148_9
              replace p148 := eq_true p148
              replace q148 := eq_true q148
              go_upto_region 19 with (((with_reducible refine gate_dst (N := 11) rfl ?_); (try (refine gate_guard (by rfl) ?_; dsimp only)); refine box_event ?hg (N := 11) ?hd (cs := #[.int .i64 0, .int .i64 0, .int .i64 0, .string (⟨#[]⟩ : ByteArray), .string (⟨#[]⟩ : ByteArray), .int .i64 0, .int .u64 0, .int .u64 0, .bool false, .slice none 0 0]) (t := 27) ?hr ?_; (case hd => rfl); (case hg => rfl); (case hr => (go_simp; done)); intro gb149 hg w54 hbox hb; replace HO_8 := Kd.rb1 HO_8 hb; have BK149 := Aside0.mk (hbox); have GW149 := ge1 HB hg; have GE149 := ge1 HB hg; replace HB := hb1 HB hb; have NB136_149 := nbA BK136 hg; have NB149_136 := nbB BK136 hg; replace BK136 := bk1 BK136 hb; clear hb hbox hg; have hnb55 := NB149_136.out; have hnc55 := NB136_149.out; have hcz56_0 : w54.cell? ⟨gb149, 0, none⟩ = some (.int .i64 0) := (blk_cell BK149.out 0).trans rfl; have hcz56_1 : w54.cell? ⟨gb149, 1, none⟩ = some (.int .i64 0) := (blk_cell BK149.out 1).trans rfl; have hcz56_2 : w54.cell? ⟨gb149, 2, none⟩ = some (.int .i64 0) := (blk_cell BK149.out 2).trans rfl; have hcz56_3 : w54.cell? ⟨gb149, 3, none⟩ = some (.string (⟨#[]⟩ : ByteArray)) := (blk_cell BK149.out 3).trans rfl; have hcz56_4 : w54.cell? ⟨gb149, 4, none⟩ = some (.string (⟨#[]⟩ : ByteArray)) := (blk_cell BK149.out 4).trans rfl; have hcz56_5 : w54.cell? ⟨gb149, 5, none⟩ = some (.int .i64 0) := (blk_cell BK149.out 5).trans rfl; have hcz56_6 : w54.cell? ⟨gb149, 6, none⟩ = some (.int .u64 0) := (blk_cell BK149.out 6).trans rfl; have hcz56_7 : w54.cell? ⟨gb149, 7, none⟩ = some (.int .u64 0) := (blk_cell BK149.out 7).trans rfl; have hcz56_8 : w54.cell? ⟨gb149, 8, none⟩ = some (.bool false) := (blk_cell BK149.out 8).trans rfl; have hcz56_9 : w54.cell? ⟨gb149, 9, none⟩ = some (.slice none 0 0) := (blk_cell BK149.out 9).trans rfl; have hfz56_0 := blk_frozen BK149.out 0; have hfz56_1 := blk_frozen BK149.out 1; have hfz56_2 := blk_frozen BK149.out 2; have hfz56_3 := blk_frozen BK149.out 3; have hfz56_4 := blk_frozen BK149.out 4; have hfz56_5 := blk_frozen BK149.out 5; have hfz56_6 := blk_frozen BK149.out 6; have hfz56_7 := blk_frozen BK149.out 7; have hfz56_8 := blk_frozen BK149.out 8; have hfz56_9 := blk_frozen BK149.out 9))
              go_cut [103] (fun v103 wc => ∃ (kq : Nat) (x103_52 : Bool), v103 = .bool x103_52 ∧ Aside0 (syntax_node.j3 kq l0 a2 x8_3 x86_3 l1_9 (l1_9.length : Int) x86_3 x103_52 a1_0 a1_1 a1_2 a1_3 a1_4 a1_5 a1_6 a1_7 a1_8 l1_9 ((rd_T27 l1_9 x86_3).f0) ((rd_T27 l1_9 x86_3).f1) ((rd_T27 l1_9 x86_3).f2) ((rd_T27 l1_9 x86_3).f3) ((rd_T27 l1_9 x86_3).f4) ((rd_T27 l1_9 x86_3).f5.f0) ((rd_T27 l1_9 x86_3).f5.f1) ((rd_T27 l1_9 x86_3).f5.f2) ((rd_T27 l1_9 x86_3).f6) ((rd_T27 l1_9 x86_3).f7) = some r) ∧ Aside0 (kq ≤ k3) ∧ Aside0 (Kd.R (Kd.int .u8) 5 wc w.heap.size (fun _ => True) v143 x8_3) ∧ Aside0 (wc.heap[gb136]? = some (.cells #[.int .i64 a1_0, .int .i64 a1_1, .int .i64 a1_2, .string a1_3, .string a1_4, .int .i64 a1_5, .int .u64 a1_6, .int .u64 a1_7, .bool a1_8, (.slice (some ad148) l1_9.length c1_9)] 27 (0, 0))) ∧ Aside0 (wc.heap[gb149]? = some (.cells #[.int .i64 ((rd_T27 l1_9 x86_3).f0), .int .i64 ((rd_T27 l1_9 x86_3).f1), .int .i64 ((rd_T27 l1_9 x86_3).f2), .string ((rd_T27 l1_9 x86_3).f3), .string ((rd_T27 l1_9 x86_3).f4), .int .i64 ((rd_T27 l1_9 x86_3).f5.f0), .int .u64 ((rd_T27 l1_9 x86_3).f5.f1), .int .u64 ((rd_T27 l1_9 x86_3).f5.f2), .bool ((rd_T27 l1_9 x86_3).f6), (.slice A148_9 ((rd_T27 l1_9 x86_3).f7).length c148_9)] 27 (0, 0))) ∧ Aside0 (Below w.heap.size w wc))
              case first =>
               have H := HC53.out
               clear HC53
               replace H := iE H; rcases H with ⟨c57b0, c57b1, H⟩ | ⟨c57, c57b0, c57b1, H⟩
               ·(skip)
                have H' := Aside0.mk H
                clear H
                have hnb58 := NB136_149.out
                have hnc58 := NB149_136.out
                obtain ⟨hcz59_0, hcz59_1, hcz59_2, hcz59_3, hcz59_4, hcz59_5, hcz59_6, hcz59_7, hcz59_8, hcz59_9⟩ := sq_cells10 (W := w54) (g := gb136) BK136.out; obtain ⟨hfz59_0, hfz59_1, hfz59_2, hfz59_3, hfz59_4, hfz59_5, hfz59_6, hfz59_7, hfz59_8, hfz59_9⟩ := sq_frozen10 BK136.out
                go_wp2
                go_meet
                case rel => exact ⟨_, (a2 == 116), (by rfl), H', ⟨by have := HJ3.out; have := HJ21.out; have := HK3.out; omega⟩, ⟨by exact Kd.R_mono (Kd.R_far (p := ⟨gb149, 9, none⟩) (Kd.R_far (p := ⟨gb149, 8, none⟩) (Kd.R_far (p := ⟨gb149, 7, none⟩) (Kd.R_far (p := ⟨gb149, 6, none⟩) (Kd.R_far (p := ⟨gb149, 5, none⟩) (Kd.R_far (p := ⟨gb149, 4, none⟩) (Kd.R_far (p := ⟨gb149, 3, none⟩) (Kd.R_far (p := ⟨gb149, 2, none⟩) (Kd.R_far (p := ⟨gb149, 1, none⟩) (Kd.R_far (p := ⟨gb149, 0, none⟩) (Kd.R_types HO_8.out BK149.out (by decide)) (fun _ hk => hk.2) (.int .i64 ((rd_T27 l1_9 x86_3).f0))) (fun _ hk => hk.2) (.int .i64 ((rd_T27 l1_9 x86_3).f1))) (fun _ hk => hk.2) (.int .i64 ((rd_T27 l1_9 x86_3).f2))) (fun _ hk => hk.2) (.string ((rd_T27 l1_9 x86_3).f3))) (fun _ hk => hk.2) (.string ((rd_T27 l1_9 x86_3).f4))) (fun _ hk => hk.2) (.int .i64 ((rd_T27 l1_9 x86_3).f5.f0))) (fun _ hk => hk.2) (.int .u64 ((rd_T27 l1_9 x86_3).f5.f1))) (fun _ hk => hk.2) (.int .u64 ((rd_T27 l1_9 x86_3).f5.f2))) (fun _ hk => hk.2) (.bool ((rd_T27 l1_9 x86_3).f6))) (fun _ hk => hk.2) (.slice A148_9 ((rd_T27 l1_9 x86_3).f7).length c148_9)) (fun _ hk => trivial)⟩, ⟨by refine blk_far ?_ NB136_149.out _; refine blk_far ?_ NB136_149.out _; refine blk_far ?_ NB136_149.out _; refine blk_far ?_ NB136_149.out _; refine blk_far ?_ NB136_149.out _; refine blk_far ?_ NB136_149.out _; refine blk_far ?_ NB136_149.out _; refine blk_far ?_ NB136_149.out _; refine blk_far ?_ NB136_149.out _; refine blk_far ?_ NB136_149.out _; exact BK136.out⟩, ⟨by refine blk_put (cs := #[.int .i64 ((rd_T27 l1_9 x86_3).f0), .int .i64 ((rd_T27 l1_9 x86_3).f1), .int .i64 ((rd_T27 l1_9 x86_3).f2), .string ((rd_T27 l1_9 x86_3).f3), .string ((rd_T27 l1_9 x86_3).f4), .int .i64 ((rd_T27 l1_9 x86_3).f5.f0), .int .u64 ((rd_T27 l1_9 x86_3).f5.f1), .int .u64 ((rd_T27 l1_9 x86_3).f5.f2), .bool ((rd_T27 l1_9 x86_3).f6), .slice none 0 0]) ?_ 9 _ rfl; refine blk_put (cs := #[.int .i64 ((rd_T27 l1_9 x86_3).f0), .int .i64 ((rd_T27 l1_9 x86_3).f1), .int .i64 ((rd_T27 l1_9 x86_3).f2), .string ((rd_T27 l1_9 x86_3).f3), .string ((rd_T27 l1_9 x86_3).f4), .int .i64 ((rd_T27 l1_9 x86_3).f5.f0), .int .u64 ((rd_T27 l1_9 x86_3).f5.f1), .int .u64 ((rd_T27 l1_9 x86_3).f5.f2), .bool false, .slice none 0 0]) ?_ 8 _ rfl; refine blk_put (cs := #[.int .i64 ((rd_T27 l1_9 x86_3).f0), .int .i64 ((rd_T27 l1_9 x86_3).f1), .int .i64 ((rd_T27 l1_9 x86_3).f2), .string ((rd_T27 l1_9 x86_3).f3), .string ((rd_T27 l1_9 x86_3).f4), .int .i64 ((rd_T27 l1_9 x86_3).f5.f0), .int .u64 ((rd_T27 l1_9 x86_3).f5.f1), .int .u64 0, .bool false, .slice none 0 0]) ?_ 7 _ rfl; refine blk_put (cs := #[.int .i64 ((rd_T27 l1_9 x86_3).f0), .int .i64 ((rd_T27 l1_9 x86_3).f1), .int .i64 ((rd_T27 l1_9 x86_3).f2), .string ((rd_T27 l1_9 x86_3).f3), .string ((rd_T27 l1_9 x86_3).f4), .int .i64 ((rd_T27 l1_9 x86_3).f5.f0), .int .u64 0, .int .u64 0, .bool false, .slice none 0 0]) ?_ 6 _ rfl; refine blk_put (cs := #[.int .i64 ((rd_T27 l1_9 x86_3).f0), .int .i64 ((rd_T27 l1_9 x86_3).f1), .int .i64 ((rd_T27 l1_9 x86_3).f2), .string ((rd_T27 l1_9 x86_3).f3), .string ((rd_T27 l1_9 x86_3).f4), .int .i64 0, .int .u64 0, .int .u64 0, .bool false, .slice none 0 0]) ?_ 5 _ rfl; refine blk_put (cs := #[.int .i64 ((rd_T27 l1_9 x86_3).f0), .int .i64 ((rd_T27 l1_9 x86_3).f1), .int .i64 ((rd_T27 l1_9 x86_3).f2), .string ((rd_T27 l1_9 x86_3).f3), .string (⟨#[]⟩ : ByteArray), .int .i64 0, .int .u64 0, .int .u64 0, .bool false, .slice none 0 0]) ?_ 4 _ rfl; refine blk_put (cs := #[.int .i64 ((rd_T27 l1_9 x86_3).f0), .int .i64 ((rd_T27 l1_9 x86_3).f1), .int .i64 ((rd_T27 l1_9 x86_3).f2), .string (⟨#[]⟩ : ByteArray), .string (⟨#[]⟩ : ByteArray), .int .i64 0, .int .u64 0, .int .u64 0, .bool false, .slice none 0 0]) ?_ 3 _ rfl; refine blk_put (cs := #[.int .i64 ((rd_T27 l1_9 x86_3).f0), .int .i64 ((rd_T27 l1_9 x86_3).f1), .int .i64 0, .string (⟨#[]⟩ : ByteArray), .string (⟨#[]⟩ : ByteArray), .int .i64 0, .int .u64 0, .int .u64 0, .bool false, .slice none 0 0]) ?_ 2 _ rfl; refine blk_put (cs := #[.int .i64 ((rd_T27 l1_9 x86_3).f0), .int .i64 0, .int .i64 0, .string (⟨#[]⟩ : ByteArray), .string (⟨#[]⟩ : ByteArray), .int .i64 0, .int .u64 0, .int .u64 0, .bool false, .slice none 0 0]) ?_ 1 _ rfl; refine blk_put (cs := #[.int .i64 0, .int .i64 0, .int .i64 0, .string (⟨#[]⟩ : ByteArray), .string (⟨#[]⟩ : ByteArray), .int .i64 0, .int .u64 0, .int .u64 0, .bool false, .slice none 0 0]) ?_ 0 _ rfl; exact BK149.out⟩, ⟨by repeat (with_reducible first | exact HB.out | refine below_set ?_ GE149.out)⟩⟩
               ·(skip)
                have H' := Aside0.mk H
                clear H
                have hnb60 := NB136_149.out
                have hnc60 := NB149_136.out
                obtain ⟨hcz61_0, hcz61_1, hcz61_2, hcz61_3, hcz61_4, hcz61_5, hcz61_6, hcz61_7, hcz61_8, hcz61_9⟩ := sq_cells10 (W := w54) (g := gb136) BK136.out; obtain ⟨hfz61_0, hfz61_1, hfz61_2, hfz61_3, hfz61_4, hfz61_5, hfz61_6, hfz61_7, hfz61_8, hfz61_9⟩ := sq_frozen10 BK136.out
                go_wp2
                go_meet
                case rel => exact ⟨_, (false), (by rfl), H', ⟨by have := HJ3.out; have := HJ21.out; have := HK3.out; omega⟩, ⟨by exact Kd.R_mono (Kd.R_far (p := ⟨gb149, 9, none⟩) (Kd.R_far (p := ⟨gb149, 8, none⟩) (Kd.R_far (p := ⟨gb149, 7, none⟩) (Kd.R_far (p := ⟨gb149, 6, none⟩) (Kd.R_far (p := ⟨gb149, 5, none⟩) (Kd.R_far (p := ⟨gb149, 4, none⟩) (Kd.R_far (p := ⟨gb149, 3, none⟩) (Kd.R_far (p := ⟨gb149, 2, none⟩) (Kd.R_far (p := ⟨gb149, 1, none⟩) (Kd.R_far (p := ⟨gb149, 0, none⟩) (Kd.R_types HO_8.out BK149.out (by decide)) (fun _ hk => hk.2) (.int .i64 ((rd_T27 l1_9 x86_3).f0))) (fun _ hk => hk.2) (.int .i64 ((rd_T27 l1_9 x86_3).f1))) (fun _ hk => hk.2) (.int .i64 ((rd_T27 l1_9 x86_3).f2))) (fun _ hk => hk.2) (.string ((rd_T27 l1_9 x86_3).f3))) (fun _ hk => hk.2) (.string ((rd_T27 l1_9 x86_3).f4))) (fun _ hk => hk.2) (.int .i64 ((rd_T27 l1_9 x86_3).f5.f0))) (fun _ hk => hk.2) (.int .u64 ((rd_T27 l1_9 x86_3).f5.f1))) (fun _ hk => hk.2) (.int .u64 ((rd_T27 l1_9 x86_3).f5.f2))) (fun _ hk => hk.2) (.bool ((rd_T27 l1_9 x86_3).f6))) (fun _ hk => hk.2) (.slice A148_9 ((rd_T27 l1_9 x86_3).f7).length c148_9)) (fun _ hk => trivial)⟩, ⟨by refine blk_far ?_ NB136_149.out _; refine blk_far ?_ NB136_149.out _; refine blk_far ?_ NB136_149.out _; refine blk_far ?_ NB136_149.out _; refine blk_far ?_ NB136_149.out _; refine blk_far ?_ NB136_149.out _; refine blk_far ?_ NB136_149.out _; refine blk_far ?_ NB136_149.out _; refine blk_far ?_ NB136_149.out _; refine blk_far ?_ NB136_149.out _; exact BK136.out⟩, ⟨by refine blk_put (cs := #[.int .i64 ((rd_T27 l1_9 x86_3).f0), .int .i64 ((rd_T27 l1_9 x86_3).f1), .int .i64 ((rd_T27 l1_9 x86_3).f2), .string ((rd_T27 l1_9 x86_3).f3), .string ((rd_T27 l1_9 x86_3).f4), .int .i64 ((rd_T27 l1_9 x86_3).f5.f0), .int .u64 ((rd_T27 l1_9 x86_3).f5.f1), .int .u64 ((rd_T27 l1_9 x86_3).f5.f2), .bool ((rd_T27 l1_9 x86_3).f6), .slice none 0 0]) ?_ 9 _ rfl; refine blk_put (cs := #[.int .i64 ((rd_T27 l1_9 x86_3).f0), .int .i64 ((rd_T27 l1_9 x86_3).f1), .int .i64 ((rd_T27 l1_9 x86_3).f2), .string ((rd_T27 l1_9 x86_3).f3), .string ((rd_T27 l1_9 x86_3).f4), .int .i64 ((rd_T27 l1_9 x86_3).f5.f0), .int .u64 ((rd_T27 l1_9 x86_3).f5.f1), .int .u64 ((rd_T27 l1_9 x86_3).f5.f2), .bool false, .slice none 0 0]) ?_ 8 _ rfl; refine blk_put (cs := #[.int .i64 ((rd_T27 l1_9 x86_3).f0), .int .i64 ((rd_T27 l1_9 x86_3).f1), .int .i64 ((rd_T27 l1_9 x86_3).f2), .string ((rd_T27 l1_9 x86_3).f3), .string ((rd_T27 l1_9 x86_3).f4), .int .i64 ((rd_T27 l1_9 x86_3).f5.f0), .int .u64 ((rd_T27 l1_9 x86_3).f5.f1), .int .u64 0, .bool false, .slice none 0 0]) ?_ 7 _ rfl; refine blk_put (cs := #[.int .i64 ((rd_T27 l1_9 x86_3).f0), .int .i64 ((rd_T27 l1_9 x86_3).f1), .int .i64 ((rd_T27 l1_9 x86_3).f2), .string ((rd_T27 l1_9 x86_3).f3), .string ((rd_T27 l1_9 x86_3).f4), .int .i64 ((rd_T27 l1_9 x86_3).f5.f0), .int .u64 0, .int .u64 0, .bool false, .slice none 0 0]) ?_ 6 _ rfl; refine blk_put (cs := #[.int .i64 ((rd_T27 l1_9 x86_3).f0), .int .i64 ((rd_T27 l1_9 x86_3).f1), .int .i64 ((rd_T27 l1_9 x86_3).f2), .string ((rd_T27 l1_9 x86_3).f3), .string ((rd_T27 l1_9 x86_3).f4), .int .i64 0, .int .u64 0, .int .u64 0, .bool false, .slice none 0 0]) ?_ 5 _ rfl; refine blk_put (cs := #[.int .i64 ((rd_T27 l1_9 x86_3).f0), .int .i64 ((rd_T27 l1_9 x86_3).f1), .int .i64 ((rd_T27 l1_9 x86_3).f2), .string ((rd_T27 l1_9 x86_3).f3), .string (⟨#[]⟩ : ByteArray), .int .i64 0, .int .u64 0, .int .u64 0, .bool false, .slice none 0 0]) ?_ 4 _ rfl; refine blk_put (cs := #[.int .i64 ((rd_T27 l1_9 x86_3).f0), .int .i64 ((rd_T27 l1_9 x86_3).f1), .int .i64 ((rd_T27 l1_9 x86_3).f2), .string (⟨#[]⟩ : ByteArray), .string (⟨#[]⟩ : ByteArray), .int .i64 0, .int .u64 0, .int .u64 0, .bool false, .slice none 0 0]) ?_ 3 _ rfl; refine blk_put (cs := #[.int .i64 ((rd_T27 l1_9 x86_3).f0), .int .i64 ((rd_T27 l1_9 x86_3).f1), .int .i64 0, .string (⟨#[]⟩ : ByteArray), .string (⟨#[]⟩ : ByteArray), .int .i64 0, .int .u64 0, .int .u64 0, .bool false, .slice none 0 0]) ?_ 2 _ rfl; refine blk_put (cs := #[.int .i64 ((rd_T27 l1_9 x86_3).f0), .int .i64 0, .int .i64 0, .string (⟨#[]⟩ : ByteArray), .string (⟨#[]⟩ : ByteArray), .int .i64 0, .int .u64 0, .int .u64 0, .bool false, .slice none 0 0]) ?_ 1 _ rfl; refine blk_put (cs := #[.int .i64 0, .int .i64 0, .int .i64 0, .string (⟨#[]⟩ : ByteArray), .string (⟨#[]⟩ : ByteArray), .int .i64 0, .int .u64 0, .int .u64 0, .bool false, .slice none 0 0]) ?_ 0 _ rfl; exact BK149.out⟩, ⟨by repeat (with_reducible first | exact HB.out | refine below_set ?_ GE149.out)⟩⟩
              case rest =>
               clear HC53
               (try clear c39b0); (try clear c40b0); (try clear c41b0); (try clear c42); (try clear c42b0); (try clear c42b1); (try clear hcz56_0 hcz56_1 hcz56_2 hcz56_3 hcz56_4 hcz56_5 hcz56_6 hcz56_7 hcz56_8 hcz56_9); (try clear hfz56_0 hfz56_1 hfz56_2 hfz56_3 hfz56_4 hfz56_5 hfz56_6 hfz56_7 hfz56_8 hfz56_9); (try clear hx148_0); (try clear hx148_1); (try clear hx148_2); (try clear hx148_3); (try clear hx148_4); (try clear hx148_5); (try clear hx148_6); (try clear hx148_7); (try clear hx148_8); (try clear hx148_9); (try clear p148); (try clear q148)
               obtain ⟨kq, x103_52, rfl, HA, HJ52, HO_8, BK136, BK149, HB⟩ := hcut
               cases kq with
               | zero => exact absurd HA.out (by simp [syntax_node.j3])
               | succ kj52 =>
                have H := HA.out
                clear HA
                simp only [syntax_node.j3] at H
                have HC62 := Aside0.mk H
                clear H
                go_upto_if 103 with (fail)
                go_cut [] (fun wc => ∃ (kq : Nat) (x8_61 : List Int), Aside0 (syntax_node.j4 kq l0 a2 x8_61 x86_3 l1_9 (l1_9.length : Int) x86_3 a1_0 a1_1 a1_2 a1_3 a1_4 a1_5 a1_6 a1_7 a1_8 l1_9 ((rd_T27 l1_9 x86_3).f0) ((rd_T27 l1_9 x86_3).f1) ((rd_T27 l1_9 x86_3).f2) ((rd_T27 l1_9 x86_3).f3) ((rd_T27 l1_9 x86_3).f4) ((rd_T27 l1_9 x86_3).f5.f0) ((rd_T27 l1_9 x86_3).f5.f1) ((rd_T27 l1_9 x86_3).f5.f2) ((rd_T27 l1_9 x86_3).f6) ((rd_T27 l1_9 x86_3).f7) = some r) ∧ Aside0 (kq ≤ kj52) ∧ Aside0 (Kd.R (Kd.int .u8) 5 wc w.heap.size (fun _ => True) v143 x8_61) ∧ Aside0 (wc.heap[gb136]? = some (.cells #[.int .i64 a1_0, .int .i64 a1_1, .int .i64 a1_2, .string a1_3, .string a1_4, .int .i64 a1_5, .int .u64 a1_6, .int .u64 a1_7, .bool a1_8, (.slice (some ad148) l1_9.length c1_9)] 27 (0, 0))) ∧ Aside0 (wc.heap[gb149]? = some (.cells #[.int .i64 ((rd_T27 l1_9 x86_3).f0), .int .i64 ((rd_T27 l1_9 x86_3).f1), .int .i64 ((rd_T27 l1_9 x86_3).f2), .string ((rd_T27 l1_9 x86_3).f3), .string ((rd_T27 l1_9 x86_3).f4), .int .i64 ((rd_T27 l1_9 x86_3).f5.f0), .int .u64 ((rd_T27 l1_9 x86_3).f5.f1), .int .u64 ((rd_T27 l1_9 x86_3).f5.f2), .bool ((rd_T27 l1_9 x86_3).f6), (.slice A148_9 ((rd_T27 l1_9 x86_3).f7).length c148_9)] 27 (0, 0))) ∧ Aside0 (Below w.heap.size w wc))
                case first =>
                 have H := HC62.out
                 clear HC62
                 replace H := iB H; rcases H with ⟨rfl, H⟩ | ⟨rfl, H⟩
                 ·replace H := iN H; obtain ⟨c64b0, H⟩ := H
                  (skip)
                  replace H := iN H; obtain ⟨c65b0, H⟩ := H
                  obtain ⟨y151, hy151⟩ : ∃ y_ : List Int, y_ = (x8_3.set (x86_3 : Int).toNat 116) := ⟨_, rfl⟩
                  replace H : (syntax_node.j4 kj52 l0 a2 y151 x86_3 l1_9 (l1_9.length : Int) x86_3 a1_0 a1_1 a1_2 a1_3 a1_4 a1_5 a1_6 a1_7 a1_8 l1_9 ((rd_T27 l1_9 x86_3).f0) ((rd_T27 l1_9 x86_3).f1) ((rd_T27 l1_9 x86_3).f2) ((rd_T27 l1_9 x86_3).f3) ((rd_T27 l1_9 x86_3).f4) ((rd_T27 l1_9 x86_3).f5.f0) ((rd_T27 l1_9 x86_3).f5.f1) ((rd_T27 l1_9 x86_3).f5.f2) ((rd_T27 l1_9 x86_3).f6) ((rd_T27 l1_9 x86_3).f7)) = some r := by (rw [hy151]; with_reducible exact H)
                  have Ny151 := Aside0.mk hy151
                  clear hy151
                  have H' := Aside0.mk H
                  clear H
                  have p66 : 0 ≤ (x86_3 : Int) := of_decide_eq_true (by (with_reducible assumption))
                  have q66 : (x86_3 : Int) < ((x8_3.length : Int) : Int) := of_decide_eq_true (by (with_reducible assumption))
                  obtain ⟨go66, co66, eo66, gb66, gl66, cl66, HG66⟩ := Kd.R_form HO_8.out (by omega)
                  (cases eo66)
                  have GB66 := Aside0.mk gb66
                  have GG66 := Aside0.mk HG66
                  clear gb66 gl66 HG66
                  obtain ⟨hx66_0, hf66_0⟩ := Kd.R_celln 0 HO_8.out (x86_3 : Int) p66 q66
                  replace p66 := eq_true p66
                  replace q66 := eq_true q66
                  have HP67 := Kd.R_putg HO_8.out (x86_3 : Int) 116
                  go_wp2_with (((with_reducible refine gate_store (t := 5) (p := 106) rfl ?_); refine store_event (t := 5) (p := 106) (v := ?vo_w68) (w1 := (wc.setCell ⟨go66, (x86_3 : Int).toNat, none⟩ (.int .u8 116))) ?hg ?ho ?hn ?hr ?_; (case ho => rfl); (case hg => rfl); (case hn => rfl); (case hr => (go_simp; done)); intro w68 hw; have hg : wc.grownBy w68 (some go66) := (by rw [hw]; exact HP67.2); have hp_ : Kd.R (Kd.int .u8) 5 w68 w.heap.size (fun _ => True) (.slice (some ⟨go66, 0, none⟩) x8_3.length co66) y151 := (by rw [hw, Ny151.out]; exact HP67.1); clear HP67; replace BK136 := Aside0.mk (blk_grown BK136.out hg (Kd.R_ne HO_8.out BK136.out (by decide))); replace BK149 := Aside0.mk (blk_grown BK149.out hg (Kd.R_ne HO_8.out BK149.out (by decide))); replace HO_8 := Aside0.mk (hp_); replace HB := Aside0.mk (by rw [hw]; exact below_set (HB.out) GB66.out : Below w.heap.size w w68); clear hg hw hp_))
                  go_meet
                  case rel => exact ⟨_, (y151), H', ⟨by have := HJ3.out; have := HJ21.out; have := HK3.out; have := HJ52.out; omega⟩, ⟨by exact HO_8.out⟩, ⟨by exact BK136.out⟩, ⟨by exact BK149.out⟩, ⟨by repeat (with_reducible exact HB.out)⟩⟩
                 ·have H' := Aside0.mk H
                  clear H
                  go_wp2
                  go_meet
                  case rel => exact ⟨_, (x8_3), H', ⟨by have := HJ3.out; have := HJ21.out; have := HK3.out; have := HJ52.out; omega⟩, ⟨by exact HO_8.out⟩, ⟨by exact BK136.out⟩, ⟨by exact BK149.out⟩, ⟨by repeat (with_reducible exact HB.out)⟩⟩
                case rest =>
                 clear HC62
                 obtain ⟨kq, x8_61, HA, HJ61, HO_8, BK136, BK149, HB⟩ := hcut
                 cases kq with
                 | zero => exact absurd HA.out (by simp [syntax_node.j4])
                 | succ kj61 =>
                  have H := HA.out
                  clear HA
                  simp only [syntax_node.j4] at H
                  have HC69 := Aside0.mk H
                  clear H
                  go_upto_region 21 with (fail)
                  go_cut [128] (fun v128 wc => ∃ (kq : Nat) (x128_68 : Bool), v128 = .bool x128_68 ∧ Aside0 (syntax_node.j5 kq l0 a2 x8_61 x86_3 l1_9 (l1_9.length : Int) x86_3 x128_68 a1_0 a1_1 a1_2 a1_3 a1_4 a1_5 a1_6 a1_7 a1_8 l1_9 ((rd_T27 l1_9 x86_3).f0) ((rd_T27 l1_9 x86_3).f1) ((rd_T27 l1_9 x86_3).f2) ((rd_T27 l1_9 x86_3).f3) ((rd_T27 l1_9 x86_3).f4) ((rd_T27 l1_9 x86_3).f5.f0) ((rd_T27 l1_9 x86_3).f5.f1) ((rd_T27 l1_9 x86_3).f5.f2) ((rd_T27 l1_9 x86_3).f6) ((rd_T27 l1_9 x86_3).f7) = some r) ∧ Aside0 (kq ≤ kj61) ∧ Aside0 (Kd.R (Kd.int .u8) 5 wc w.heap.size (fun _ => True) v143 x8_61) ∧ Aside0 (wc.heap[gb136]? = some (.cells #[.int .i64 a1_0, .int .i64 a1_1, .int .i64 a1_2, .string a1_3, .string a1_4, .int .i64 a1_5, .int .u64 a1_6, .int .u64 a1_7, .bool a1_8, (.slice (some ad148) l1_9.length c1_9)] 27 (0, 0))) ∧ Aside0 (wc.heap[gb149]? = some (.cells #[.int .i64 ((rd_T27 l1_9 x86_3).f0), .int .i64 ((rd_T27 l1_9 x86_3).f1), .int .i64 ((rd_T27 l1_9 x86_3).f2), .string ((rd_T27 l1_9 x86_3).f3), .string ((rd_T27 l1_9 x86_3).f4), .int .i64 ((rd_T27 l1_9 x86_3).f5.f0), .int .u64 ((rd_T27 l1_9 x86_3).f5.f1), .int .u64 ((rd_T27 l1_9 x86_3).f5.f2), .bool ((rd_T27 l1_9 x86_3).f6), (.slice A148_9 ((rd_T27 l1_9 x86_3).f7).length c148_9)] 27 (0, 0))) ∧ Aside0 (Below w.heap.size w wc))
                  case first =>
                   have H := HC69.out
                   clear HC69
                   replace H := iE H; rcases H with ⟨c70b0, c70b1, H⟩ | ⟨c70, c70b0, c70b1, H⟩
                   ·(skip)
                    have H' := Aside0.mk H
                    clear H
                    have hnb71 := NB136_149.out
                    have hnc71 := NB149_136.out
                    obtain ⟨hcz72_0, hcz72_1, hcz72_2, hcz72_3, hcz72_4, hcz72_5, hcz72_6, hcz72_7, hcz72_8, hcz72_9⟩ := sq_cells10 (W := wc) (g := gb136) BK136.out; obtain ⟨hfz72_0, hfz72_1, hfz72_2, hfz72_3, hfz72_4, hfz72_5, hfz72_6, hfz72_7, hfz72_8, hfz72_9⟩ := sq_frozen10 BK136.out
                    go_wp2
                    go_meet
                    case rel => exact ⟨_, (x86_3 == 0), (by rfl), H', ⟨by have := HJ3.out; have := HJ21.out; have := HK3.out; have := HJ52.out; have := HJ61.out; omega⟩, ⟨by exact HO_8.out⟩, ⟨by exact BK136.out⟩, ⟨by exact BK149.out⟩, ⟨by repeat (with_reducible exact HB.out)⟩⟩
                   ·(skip)
                    replace H := iE H; rcases H with ⟨c73b0, c73b1, H⟩ | ⟨c73, c73b0, c73b1, H⟩
                    ·have H' := Aside0.mk H
                     clear H
                     have hnb74 := NB136_149.out
                     have hnc74 := NB149_136.out
                     obtain ⟨hcz75_0, hcz75_1, hcz75_2, hcz75_3, hcz75_4, hcz75_5, hcz75_6, hcz75_7, hcz75_8, hcz75_9⟩ := sq_cells10 (W := wc) (g := gb136) BK136.out; obtain ⟨hfz75_0, hfz75_1, hfz75_2, hfz75_3, hfz75_4, hfz75_5, hfz75_6, hfz75_7, hfz75_8, hfz75_9⟩ := sq_frozen10 BK136.out
                     go_wp2
                     go_meet
                     case rel => exact ⟨_, (x86_3 == 0), (by rfl), H', ⟨by have := HJ3.out; have := HJ21.out; have := HK3.out; have := HJ52.out; have := HJ61.out; omega⟩, ⟨by exact HO_8.out⟩, ⟨by exact BK136.out⟩, ⟨by exact BK149.out⟩, ⟨by repeat (with_reducible exact HB.out)⟩⟩
                    ·replace H := iE H; rcases H with ⟨c76b0, c76b1, H⟩ | ⟨c76, c76b0, c76b1, H⟩
                     ·have H' := Aside0.mk H
                      clear H
                      have hnb77 := NB136_149.out
                      have hnc77 := NB149_136.out
                      obtain ⟨hcz78_0, hcz78_1, hcz78_2, hcz78_3, hcz78_4, hcz78_5, hcz78_6, hcz78_7, hcz78_8, hcz78_9⟩ := sq_cells10 (W := wc) (g := gb136) BK136.out; obtain ⟨hfz78_0, hfz78_1, hfz78_2, hfz78_3, hfz78_4, hfz78_5, hfz78_6, hfz78_7, hfz78_8, hfz78_9⟩ := sq_frozen10 BK136.out
                      go_wp2
                      go_meet
                      case rel => exact ⟨_, (x86_3 == 0), (by rfl), H', ⟨by have := HJ3.out; have := HJ21.out; have := HK3.out; have := HJ52.out; have := HJ61.out; omega⟩, ⟨by exact HO_8.out⟩, ⟨by exact BK136.out⟩, ⟨by exact BK149.out⟩, ⟨by repeat (with_reducible exact HB.out)⟩⟩
                     ·replace H := iE H; rcases H with ⟨c79b0, c79b1, H⟩ | ⟨c79, c79b0, c79b1, H⟩
                      ·have H' := Aside0.mk H
                       clear H
                       have hnb80 := NB136_149.out
                       have hnc80 := NB149_136.out
                       obtain ⟨hcz81_0, hcz81_1, hcz81_2, hcz81_3, hcz81_4, hcz81_5, hcz81_6, hcz81_7, hcz81_8, hcz81_9⟩ := sq_cells10 (W := wc) (g := gb136) BK136.out; obtain ⟨hfz81_0, hfz81_1, hfz81_2, hfz81_3, hfz81_4, hfz81_5, hfz81_6, hfz81_7, hfz81_8, hfz81_9⟩ := sq_frozen10 BK136.out
                       go_wp2
                       go_meet
                       case rel => exact ⟨_, (x86_3 == 0), (by rfl), H', ⟨by have := HJ3.out; have := HJ21.out; have := HK3.out; have := HJ52.out; have := HJ61.out; omega⟩, ⟨by exact HO_8.out⟩, ⟨by exact BK136.out⟩, ⟨by exact BK149.out⟩, ⟨by repeat (with_reducible exact HB.out)⟩⟩
                      ·have H' := Aside0.mk H
                       clear H
                       have hnb82 := NB136_149.out
                       have hnc82 := NB149_136.out
                       obtain ⟨hcz83_0, hcz83_1, hcz83_2, hcz83_3, hcz83_4, hcz83_5, hcz83_6, hcz83_7, hcz83_8, hcz83_9⟩ := sq_cells10 (W := wc) (g := gb136) BK136.out; obtain ⟨hfz83_0, hfz83_1, hfz83_2, hfz83_3, hfz83_4, hfz83_5, hfz83_6, hfz83_7, hfz83_8, hfz83_9⟩ := sq_frozen10 BK136.out
                       go_wp2
                       go_meet
                       case rel => exact ⟨_, (false), (by rfl), H', ⟨by have := HJ3.out; have := HJ21.out; have := HK3.out; have := HJ52.out; have := HJ61.out; omega⟩, ⟨by exact HO_8.out⟩, ⟨by exact BK136.out⟩, ⟨by exact BK149.out⟩, ⟨by repeat (with_reducible exact HB.out)⟩⟩
                  case rest =>
                   clear HC69
                   obtain ⟨kq, x128_68, rfl, HA, HJ68, HO_8, BK136, BK149, HB⟩ := hcut
                   cases kq with
                   | zero => exact absurd HA.out (by simp [syntax_node.j5])
                   | succ kj68 =>
                    have H := HA.out
                    clear HA
                    simp only [syntax_node.j5] at H
                    have HC84 := Aside0.mk H
                    clear H
                    go_upto_if 128 with (fail)
                    go_cut [] (fun wc => ∃ (kq : Nat) (x8_83 : List Int), Aside0 (syntax_node.j6 kq l0 a2 x8_83 x86_3 l1_9 (l1_9.length : Int) x86_3 a1_0 a1_1 a1_2 a1_3 a1_4 a1_5 a1_6 a1_7 a1_8 l1_9 ((rd_T27 l1_9 x86_3).f0) ((rd_T27 l1_9 x86_3).f1) ((rd_T27 l1_9 x86_3).f2) ((rd_T27 l1_9 x86_3).f3) ((rd_T27 l1_9 x86_3).f4) ((rd_T27 l1_9 x86_3).f5.f0) ((rd_T27 l1_9 x86_3).f5.f1) ((rd_T27 l1_9 x86_3).f5.f2) ((rd_T27 l1_9 x86_3).f6) ((rd_T27 l1_9 x86_3).f7) = some r) ∧ Aside0 (kq ≤ kj68) ∧ Aside0 (Kd.R (Kd.int .u8) 5 wc w.heap.size (fun _ => True) v143 x8_83) ∧ Aside0 (wc.heap[gb136]? = some (.cells #[.int .i64 a1_0, .int .i64 a1_1, .int .i64 a1_2, .string a1_3, .string a1_4, .int .i64 a1_5, .int .u64 a1_6, .int .u64 a1_7, .bool a1_8, (.slice (some ad148) l1_9.length c1_9)] 27 (0, 0))) ∧ Aside0 (wc.heap[gb149]? = some (.cells #[.int .i64 ((rd_T27 l1_9 x86_3).f0), .int .i64 ((rd_T27 l1_9 x86_3).f1), .int .i64 ((rd_T27 l1_9 x86_3).f2), .string ((rd_T27 l1_9 x86_3).f3), .string ((rd_T27 l1_9 x86_3).f4), .int .i64 ((rd_T27 l1_9 x86_3).f5.f0), .int .u64 ((rd_T27 l1_9 x86_3).f5.f1), .int .u64 ((rd_T27 l1_9 x86_3).f5.f2), .bool ((rd_T27 l1_9 x86_3).f6), (.slice A148_9 ((rd_T27 l1_9 x86_3).f7).length c148_9)] 27 (0, 0))) ∧ Aside0 (Below w.heap.size w wc))
                    case first =>
                     have H := HC84.out
                     clear HC84
                     replace H := iB H; rcases H with ⟨rfl, H⟩ | ⟨rfl, H⟩
                     ·replace H := iN H; obtain ⟨c86b0, H⟩ := H
                      (skip)
                      replace H := iN H; obtain ⟨c87b0, H⟩ := H
                      obtain ⟨y152, hy152⟩ : ∃ y_ : List Int, y_ = (x8_61.set (x86_3 : Int).toNat 116) := ⟨_, rfl⟩
                      replace H : (if ((rd_T27 l1_9 x86_3).f0) = 114 then (some 8) else (syntax_node.j6 kj68 l0 a2 y152 x86_3 l1_9 (l1_9.length : Int) x86_3 a1_0 a1_1 a1_2 a1_3 a1_4 a1_5 a1_6 a1_7 a1_8 l1_9 ((rd_T27 l1_9 x86_3).f0) ((rd_T27 l1_9 x86_3).f1) ((rd_T27 l1_9 x86_3).f2) ((rd_T27 l1_9 x86_3).f3) ((rd_T27 l1_9 x86_3).f4) ((rd_T27 l1_9 x86_3).f5.f0) ((rd_T27 l1_9 x86_3).f5.f1) ((rd_T27 l1_9 x86_3).f5.f2) ((rd_T27 l1_9 x86_3).f6) ((rd_T27 l1_9 x86_3).f7))) = some r := by (rw [hy152]; with_reducible exact H)
                      have Ny152 := Aside0.mk hy152
                      clear hy152
                      replace H := iE H; rcases H with ⟨c89b0, c89b1, H⟩ | ⟨c89, c89b0, c89b1, H⟩
                      ·obtain rfl := Option.some.inj H
                       have p88 : 0 ≤ (x86_3 : Int) := of_decide_eq_true (by (with_reducible assumption))
                       have q88 : (x86_3 : Int) < ((x8_61.length : Int) : Int) := of_decide_eq_true (by (with_reducible assumption))
                       obtain ⟨go88, co88, eo88, gb88, gl88, cl88, HG88⟩ := Kd.R_form HO_8.out (by omega)
                       (cases eo88)
                       have GB88 := Aside0.mk gb88
                       have GG88 := Aside0.mk HG88
                       clear gb88 gl88 HG88
                       obtain ⟨hx88_0, hf88_0⟩ := Kd.R_celln 0 HO_8.out (x86_3 : Int) p88 q88
                       replace p88 := eq_true p88
                       replace q88 := eq_true q88
                       have HP90 := Kd.R_putg HO_8.out (x86_3 : Int) 116
                       go_wp2_with (((with_reducible refine gate_store (t := 5) (p := 131) rfl ?_); refine store_event (t := 5) (p := 131) (v := ?vo_w91) (w1 := (wc.setCell ⟨go88, (x86_3 : Int).toNat, none⟩ (.int .u8 116))) ?hg ?ho ?hn ?hr ?_; (case ho => rfl); (case hg => rfl); (case hn => rfl); (case hr => (go_simp; done)); intro w91 hw; have hg : wc.grownBy w91 (some go88) := (by rw [hw]; exact HP90.2); have hp_ : Kd.R (Kd.int .u8) 5 w91 w.heap.size (fun _ => True) (.slice (some ⟨go88, 0, none⟩) x8_61.length co88) y152 := (by rw [hw, Ny152.out]; exact HP90.1); clear HP90; replace BK136 := Aside0.mk (blk_grown BK136.out hg (Kd.R_ne HO_8.out BK136.out (by decide))); replace BK149 := Aside0.mk (blk_grown BK149.out hg (Kd.R_ne HO_8.out BK149.out (by decide))); replace HO_8 := Aside0.mk (hp_); replace HB := Aside0.mk (by rw [hw]; exact below_set (HB.out) GB88.out : Below w.heap.size w w91); clear hg hw hp_; have hnb92 := NB149_136.out; have hnc92 := NB136_149.out; have hcz93_0 : w91.cell? ⟨gb149, 0, none⟩ = some (.int .i64 ((rd_T27 l1_9 x86_3).f0)) := (blk_cell BK149.out 0).trans rfl; have hcz93_1 : w91.cell? ⟨gb149, 1, none⟩ = some (.int .i64 ((rd_T27 l1_9 x86_3).f1)) := (blk_cell BK149.out 1).trans rfl; have hcz93_2 : w91.cell? ⟨gb149, 2, none⟩ = some (.int .i64 ((rd_T27 l1_9 x86_3).f2)) := (blk_cell BK149.out 2).trans rfl; have hcz93_3 : w91.cell? ⟨gb149, 3, none⟩ = some (.string ((rd_T27 l1_9 x86_3).f3)) := (blk_cell BK149.out 3).trans rfl; have hcz93_4 : w91.cell? ⟨gb149, 4, none⟩ = some (.string ((rd_T27 l1_9 x86_3).f4)) := (blk_cell BK149.out 4).trans rfl; have hcz93_5 : w91.cell? ⟨gb149, 5, none⟩ = some (.int .i64 ((rd_T27 l1_9 x86_3).f5.f0)) := (blk_cell BK149.out 5).trans rfl; have hcz93_6 : w91.cell? ⟨gb149, 6, none⟩ = some (.int .u64 ((rd_T27 l1_9 x86_3).f5.f1)) := (blk_cell BK149.out 6).trans rfl; have hcz93_7 : w91.cell? ⟨gb149, 7, none⟩ = some (.int .u64 ((rd_T27 l1_9 x86_3).f5.f2)) := (blk_cell BK149.out 7).trans rfl; have hcz93_8 : w91.cell? ⟨gb149, 8, none⟩ = some (.bool ((rd_T27 l1_9 x86_3).f6)) := (blk_cell BK149.out 8).trans rfl; have hcz93_9 : w91.cell? ⟨gb149, 9, none⟩ = some (.slice A148_9 ((rd_T27 l1_9 x86_3).f7).length c148_9) := (blk_cell BK149.out 9).trans rfl; have hfz93_0 := blk_frozen BK149.out 0; have hfz93_1 := blk_frozen BK149.out 1; have hfz93_2 := blk_frozen BK149.out 2; have hfz93_3 := blk_frozen BK149.out 3; have hfz93_4 := blk_frozen BK149.out 4; have hfz93_5 := blk_frozen BK149.out 5; have hfz93_6 := blk_frozen BK149.out 6; have hfz93_7 := blk_frozen BK149.out 7; have hfz93_8 := blk_frozen BK149.out 8; have hfz93_9 := blk_frozen BK149.out 9))
                       go_ret
                       exact ⟨by rfl, by repeat (with_reducible exact HB.out)⟩
                      ·have H' := Aside0.mk H
                       clear H
                       have p88 : 0 ≤ (x86_3 : Int) := of_decide_eq_true (by (with_reducible assumption))
                       have q88 : (x86_3 : Int) < ((x8_61.length : Int) : Int) := of_decide_eq_true (by (with_reducible assumption))
                       obtain ⟨go88, co88, eo88, gb88, gl88, cl88, HG88⟩ := Kd.R_form HO_8.out (by omega)
                       (cases eo88)
                       have GB88 := Aside0.mk gb88
                       have GG88 := Aside0.mk HG88
                       clear gb88 gl88 HG88
                       obtain ⟨hx88_0, hf88_0⟩ := Kd.R_celln 0 HO_8.out (x86_3 : Int) p88 q88
                       replace p88 := eq_true p88
                       replace q88 := eq_true q88
                       have HP94 := Kd.R_putg HO_8.out (x86_3 : Int) 116
                       go_wp2_with (((with_reducible refine gate_store (t := 5) (p := 131) rfl ?_); refine store_event (t := 5) (p := 131) (v := ?vo_w95) (w1 := (wc.setCell ⟨go88, (x86_3 : Int).toNat, none⟩ (.int .u8 116))) ?hg ?ho ?hn ?hr ?_; (case ho => rfl); (case hg => rfl); (case hn => rfl); (case hr => (go_simp; done)); intro w95 hw; have hg : wc.grownBy w95 (some go88) := (by rw [hw]; exact HP94.2); have hp_ : Kd.R (Kd.int .u8) 5 w95 w.heap.size (fun _ => True) (.slice (some ⟨go88, 0, none⟩) x8_61.length co88) y152 := (by rw [hw, Ny152.out]; exact HP94.1); clear HP94; replace BK136 := Aside0.mk (blk_grown BK136.out hg (Kd.R_ne HO_8.out BK136.out (by decide))); replace BK149 := Aside0.mk (blk_grown BK149.out hg (Kd.R_ne HO_8.out BK149.out (by decide))); replace HO_8 := Aside0.mk (hp_); replace HB := Aside0.mk (by rw [hw]; exact below_set (HB.out) GB88.out : Below w.heap.size w w95); clear hg hw hp_; have hnb96 := NB149_136.out; have hnc96 := NB136_149.out; have hcz97_0 : w95.cell? ⟨gb149, 0, none⟩ = some (.int .i64 ((rd_T27 l1_9 x86_3).f0)) := (blk_cell BK149.out 0).trans rfl; have hcz97_1 : w95.cell? ⟨gb149, 1, none⟩ = some (.int .i64 ((rd_T27 l1_9 x86_3).f1)) := (blk_cell BK149.out 1).trans rfl; have hcz97_2 : w95.cell? ⟨gb149, 2, none⟩ = some (.int .i64 ((rd_T27 l1_9 x86_3).f2)) := (blk_cell BK149.out 2).trans rfl; have hcz97_3 : w95.cell? ⟨gb149, 3, none⟩ = some (.string ((rd_T27 l1_9 x86_3).f3)) := (blk_cell BK149.out 3).trans rfl; have hcz97_4 : w95.cell? ⟨gb149, 4, none⟩ = some (.string ((rd_T27 l1_9 x86_3).f4)) := (blk_cell BK149.out 4).trans rfl; have hcz97_5 : w95.cell? ⟨gb149, 5, none⟩ = some (.int .i64 ((rd_T27 l1_9 x86_3).f5.f0)) := (blk_cell BK149.out 5).trans rfl; have hcz97_6 : w95.cell? ⟨gb149, 6, none⟩ = some (.int .u64 ((rd_T27 l1_9 x86_3).f5.f1)) := (blk_cell BK149.out 6).trans rfl; have hcz97_7 : w95.cell? ⟨gb149, 7, none⟩ = some (.int .u64 ((rd_T27 l1_9 x86_3).f5.f2)) := (blk_cell BK149.out 7).trans rfl; have hcz97_8 : w95.cell? ⟨gb149, 8, none⟩ = some (.bool ((rd_T27 l1_9 x86_3).f6)) := (blk_cell BK149.out 8).trans rfl; have hcz97_9 : w95.cell? ⟨gb149, 9, none⟩ = some (.slice A148_9 ((rd_T27 l1_9 x86_3).f7).length c148_9) := (blk_cell BK149.out 9).trans rfl; have hfz97_0 := blk_frozen BK149.out 0; have hfz97_1 := blk_frozen BK149.out 1; have hfz97_2 := blk_frozen BK149.out 2; have hfz97_3 := blk_frozen BK149.out 3; have hfz97_4 := blk_frozen BK149.out 4; have hfz97_5 := blk_frozen BK149.out 5; have hfz97_6 := blk_frozen BK149.out 6; have hfz97_7 := blk_frozen BK149.out 7; have hfz97_8 := blk_frozen BK149.out 8; have hfz97_9 := blk_frozen BK149.out 9))
                       go_meet
                       case rel => exact ⟨_, (y152), H', ⟨by have := HJ3.out; have := HJ21.out; have := HK3.out; have := HJ52.out; have := HJ61.out; have := HJ68.out; omega⟩, ⟨by exact HO_8.out⟩, ⟨by exact BK136.out⟩, ⟨by exact BK149.out⟩, ⟨by repeat (with_reducible exact HB.out)⟩⟩
                     ·have H' := Aside0.mk H
                      clear H
                      go_wp2
                      go_meet
                      case rel => exact ⟨_, (x8_61), H', ⟨by have := HJ3.out; have := HJ21.out; have := HK3.out; have := HJ52.out; have := HJ61.out; have := HJ68.out; omega⟩, ⟨by exact HO_8.out⟩, ⟨by exact BK136.out⟩, ⟨by exact BK149.out⟩, ⟨by repeat (with_reducible exact HB.out)⟩⟩
                    case rest =>
                     clear HC84
                     obtain ⟨kq, x8_83, HA, HJ83, HO_8, BK136, BK149, HB⟩ := hcut
                     cases kq with
                     | zero => exact absurd HA.out (by simp [syntax_node.j6])
                     | succ kj83 =>
                      have H := HA.out
                      clear HA
                      simp only [syntax_node.j6] at H
                      replace H := iN H; obtain ⟨c98b0, H⟩ := H
                      replace H := iN H; obtain ⟨c99b0, H⟩ := H
                      replace H := bN H; obtain ⟨t154, A100, H⟩ := H
                      replace H := iE H; rcases H with ⟨c101b0, c101b1, H⟩ | ⟨c101, c101b0, c101b1, H⟩
                      ·have H' := Aside0.mk H
                       clear H
                       try go_wp2
                       replace HO_8 := Aside0.mk (Kd.R_drew HO_8.out)
                       replace BK136 := bkd BK136
                       replace BK149 := bkd BK149
                       replace HB := hbd HB
                       obtain ⟨Ao103, co103, eo103⟩ := Kd.R_slice HO_8.out
                       (subst eo103)
                       have p153 : 0 ≤ (x86_3 : Int) := of_decide_eq_true (by (with_reducible assumption))
                       have q153 : x86_3 < (x8_83.length : Int) := of_decide_eq_true (by (with_reducible assumption))
                       obtain ⟨ad153, e153, hx153_0⟩ := Kd.at_int (Kd.R_reads' HO_8.out).2.2 x86_3 p153 q153
                       cases e153
                       replace p153 := eq_true p153
                       replace q153 := eq_true q153
                       refine start_ (n := 8) (S := fun w' => w'.cell? ⟨gb149, 0, none⟩ = some (.int .i64 ((rd_T27 l1_9 x86_3).f0)) ∧ w'.cell? ⟨gb149, 1, none⟩ = some (.int .i64 ((rd_T27 l1_9 x86_3).f1)) ∧ w'.cell? ⟨gb149, 2, none⟩ = some (.int .i64 ((rd_T27 l1_9 x86_3).f2)) ∧ w'.cell? ⟨gb149, 3, none⟩ = some (.string ((rd_T27 l1_9 x86_3).f3)) ∧ w'.cell? ⟨gb149, 4, none⟩ = some (.string ((rd_T27 l1_9 x86_3).f4)) ∧ w'.cell? ⟨gb149, 5, none⟩ = some (.int .i64 ((rd_T27 l1_9 x86_3).f5.f0)) ∧ w'.cell? ⟨gb149, 6, none⟩ = some (.int .u64 ((rd_T27 l1_9 x86_3).f5.f1)) ∧ w'.cell? ⟨gb149, 7, none⟩ = some (.int .u64 ((rd_T27 l1_9 x86_3).f5.f2)) ∧ w'.cell? ⟨gb149, 8, none⟩ = some (.bool ((rd_T27 l1_9 x86_3).f6)) ∧ w'.cell? ⟨gb149, 9, none⟩ = some (.slice A148_9 ((rd_T27 l1_9 x86_3).f7).length c148_9) ∧ w'.cell? (ad153.add (x86_3).toNat) = some (.int .u8 (rd x8_83 x86_3))) (ds := []) (tb 8 0) (by kernel_rfl) rfl (by kernel_rfl) ⟨(blk_cell BK149.out 0).trans rfl, (blk_cell BK149.out 1).trans rfl, (blk_cell BK149.out 2).trans rfl, (blk_cell BK149.out 3).trans rfl, (blk_cell BK149.out 4).trans rfl, (blk_cell BK149.out 5).trans rfl, (blk_cell BK149.out 6).trans rfl, (blk_cell BK149.out 7).trans rfl, (blk_cell BK149.out 8).trans rfl, (blk_cell BK149.out 9).trans rfl, hx153_0⟩ (fun hHeld => ?_); refine with_tabW syntax_node.tab25 syntax_node.bits25 (fun HT_ HW_ => ?_)
                       generalize wc.drew = w102 at HO_8 BK136 BK149 HB hx153_0 hHeld ⊢
                       refine pA 0 135 (tb 8 1) HT_ ?_
                       refine pA 2 137 (tb 8 5) HT_ ?_
                       refine pA 3 138 (tb 8 13) HT_ ?_
                       refine pA 4 139 (tb 8 29) HT_ ?_
                       refine tA 1 136 (tb 8 31) HT_ HW_ hHeld ?_
                       refine tA 5 140 (tb 8 63) HT_ HW_ hHeld ?_
                       refine oA 6 (some 141) (tb 8 127) HT_ (fun K hK => ?_)
                       refine gA Try.func32 #[.slice (some ad138) l0.length c0, .agg #[.int .i64 ((rd_T27 l1_9 x86_3).f0), .int .i64 ((rd_T27 l1_9 x86_3).f1), .int .i64 ((rd_T27 l1_9 x86_3).f2), .string ((rd_T27 l1_9 x86_3).f3), .string ((rd_T27 l1_9 x86_3).f4), .int .i64 ((rd_T27 l1_9 x86_3).f5.f0), .int .u64 ((rd_T27 l1_9 x86_3).f5.f1), .int .u64 ((rd_T27 l1_9 x86_3).f5.f2), .bool ((rd_T27 l1_9 x86_3).f6), .slice A148_9 ((rd_T27 l1_9 x86_3).f7).length c148_9], .int .u8 (rd x8_83 x86_3)] ?_
                       with_reducible refine (ih kj83 (by have := HJ3.out; have := HJ21.out; have := HK3.out; have := HJ52.out; have := HJ61.out; have := HJ68.out; have := HJ83.out; omega) _ _ l0 ((rd_T27 l1_9 x86_3).f0) ((rd_T27 l1_9 x86_3).f1) ((rd_T27 l1_9 x86_3).f2) ((rd_T27 l1_9 x86_3).f3) ((rd_T27 l1_9 x86_3).f4) ((rd_T27 l1_9 x86_3).f5.f0) ((rd_T27 l1_9 x86_3).f5.f1) ((rd_T27 l1_9 x86_3).f5.f2) ((rd_T27 l1_9 x86_3).f6) _ _ ((rd_T27 l1_9 x86_3).f7) (rd x8_83 x86_3) t154 _ ?side1 ?side2 ?side3 ?side4 A100.out).mono ?_
                       (case side1 => exact (Kd.C_below HR0.out HB.out))
                       (case side2 => exact HC0.out)
                       (case side3 => exact (Kd.C_below HR148_9.out HB.out))
                       (case side4 => exact HC148_9.out)
                       rintro e w104 ⟨rfl, hb⟩
                       have HS10_ := (hb.cell (World.block_lt_of_cell? _ _ (hHeld.2.2.2.2.2.2.2.2.2.2))).trans (hHeld.2.2.2.2.2.2.2.2.2.2)
                       refine ⟨_, rfl, ?_⟩
                       replace HO_8 := Kd.rb1 HO_8 hb
                       replace BK136 := bk1 BK136 hb
                       replace BK149 := bk1 BK149 hb
                       replace HB := hb1 HB hb
                       (try clear hb)
                       refine hK.out _ _ ⟨(blk_cell BK149.out 0).trans rfl, (blk_cell BK149.out 1).trans rfl, (blk_cell BK149.out 2).trans rfl, (blk_cell BK149.out 3).trans rfl, (blk_cell BK149.out 4).trans rfl, (blk_cell BK149.out 5).trans rfl, (blk_cell BK149.out 6).trans rfl, (blk_cell BK149.out 7).trans rfl, (blk_cell BK149.out 8).trans rfl, (blk_cell BK149.out 9).trans rfl, HS10_⟩ (fun hHeld => ?_)
                       clear hK K
                       refine nA ?_
                       refine pA 7 12 (tb 8 255) HT_ ?_
                       refine done_ (done_of HT_.out (by kernel_rfl)) ?_
                       try go_wp2
                       go_roundg kj83
                       case measure => have := HJ3.out; have := HJ21.out; have := HK3.out; have := HJ52.out; have := HJ61.out; have := HJ68.out; have := HJ83.out; omega
                       case rel => exact ⟨(x8_83), (wrap64 (x86_3 + 1)), (by rfl), H', ⟨by have := HJ3.out; have := HJ21.out; have := HK3.out; have := HJ52.out; have := HJ61.out; have := HJ68.out; have := HJ83.out; omega⟩, ⟨by exact HO_8.out⟩, ⟨by exact BK136.out⟩, ⟨by repeat (with_reducible exact HB.out)⟩⟩
                      ·obtain rfl := Option.some.inj H
                       try go_wp2
                       replace HO_8 := Aside0.mk (Kd.R_drew HO_8.out)
                       replace BK136 := bkd BK136
                       replace BK149 := bkd BK149
                       replace HB := hbd HB
                       obtain ⟨Ao106, co106, eo106⟩ := Kd.R_slice HO_8.out
                       (subst eo106)
                       have p153 : 0 ≤ (x86_3 : Int) := of_decide_eq_true (by (with_reducible assumption))
                       have q153 : x86_3 < (x8_83.length : Int) := of_decide_eq_true (by (with_reducible assumption))
                       obtain ⟨ad153, e153, hx153_0⟩ := Kd.at_int (Kd.R_reads' HO_8.out).2.2 x86_3 p153 q153
                       cases e153
                       replace p153 := eq_true p153
                       replace q153 := eq_true q153
                       refine start_ (n := 8) (S := fun w' => w'.cell? ⟨gb149, 0, none⟩ = some (.int .i64 ((rd_T27 l1_9 x86_3).f0)) ∧ w'.cell? ⟨gb149, 1, none⟩ = some (.int .i64 ((rd_T27 l1_9 x86_3).f1)) ∧ w'.cell? ⟨gb149, 2, none⟩ = some (.int .i64 ((rd_T27 l1_9 x86_3).f2)) ∧ w'.cell? ⟨gb149, 3, none⟩ = some (.string ((rd_T27 l1_9 x86_3).f3)) ∧ w'.cell? ⟨gb149, 4, none⟩ = some (.string ((rd_T27 l1_9 x86_3).f4)) ∧ w'.cell? ⟨gb149, 5, none⟩ = some (.int .i64 ((rd_T27 l1_9 x86_3).f5.f0)) ∧ w'.cell? ⟨gb149, 6, none⟩ = some (.int .u64 ((rd_T27 l1_9 x86_3).f5.f1)) ∧ w'.cell? ⟨gb149, 7, none⟩ = some (.int .u64 ((rd_T27 l1_9 x86_3).f5.f2)) ∧ w'.cell? ⟨gb149, 8, none⟩ = some (.bool ((rd_T27 l1_9 x86_3).f6)) ∧ w'.cell? ⟨gb149, 9, none⟩ = some (.slice A148_9 ((rd_T27 l1_9 x86_3).f7).length c148_9) ∧ w'.cell? (ad153.add (x86_3).toNat) = some (.int .u8 (rd x8_83 x86_3))) (ds := []) (tb 8 0) (by kernel_rfl) rfl (by kernel_rfl) ⟨(blk_cell BK149.out 0).trans rfl, (blk_cell BK149.out 1).trans rfl, (blk_cell BK149.out 2).trans rfl, (blk_cell BK149.out 3).trans rfl, (blk_cell BK149.out 4).trans rfl, (blk_cell BK149.out 5).trans rfl, (blk_cell BK149.out 6).trans rfl, (blk_cell BK149.out 7).trans rfl, (blk_cell BK149.out 8).trans rfl, (blk_cell BK149.out 9).trans rfl, hx153_0⟩ (fun hHeld => ?_); refine with_tabW syntax_node.tab25 syntax_node.bits25 (fun HT_ HW_ => ?_)
                       generalize wc.drew = w105 at HO_8 BK136 BK149 HB hx153_0 hHeld ⊢
                       refine pA 0 135 (tb 8 1) HT_ ?_
                       refine pA 2 137 (tb 8 5) HT_ ?_
                       refine pA 3 138 (tb 8 13) HT_ ?_
                       refine pA 4 139 (tb 8 29) HT_ ?_
                       refine tA 1 136 (tb 8 31) HT_ HW_ hHeld ?_
                       refine tA 5 140 (tb 8 63) HT_ HW_ hHeld ?_
                       refine oA 6 (some 141) (tb 8 127) HT_ (fun K hK => ?_)
                       refine gA Try.func32 #[.slice (some ad138) l0.length c0, .agg #[.int .i64 ((rd_T27 l1_9 x86_3).f0), .int .i64 ((rd_T27 l1_9 x86_3).f1), .int .i64 ((rd_T27 l1_9 x86_3).f2), .string ((rd_T27 l1_9 x86_3).f3), .string ((rd_T27 l1_9 x86_3).f4), .int .i64 ((rd_T27 l1_9 x86_3).f5.f0), .int .u64 ((rd_T27 l1_9 x86_3).f5.f1), .int .u64 ((rd_T27 l1_9 x86_3).f5.f2), .bool ((rd_T27 l1_9 x86_3).f6), .slice A148_9 ((rd_T27 l1_9 x86_3).f7).length c148_9], .int .u8 (rd x8_83 x86_3)] ?_
                       with_reducible refine (ih kj83 (by have := HJ3.out; have := HJ21.out; have := HK3.out; have := HJ52.out; have := HJ61.out; have := HJ68.out; have := HJ83.out; omega) _ _ l0 ((rd_T27 l1_9 x86_3).f0) ((rd_T27 l1_9 x86_3).f1) ((rd_T27 l1_9 x86_3).f2) ((rd_T27 l1_9 x86_3).f3) ((rd_T27 l1_9 x86_3).f4) ((rd_T27 l1_9 x86_3).f5.f0) ((rd_T27 l1_9 x86_3).f5.f1) ((rd_T27 l1_9 x86_3).f5.f2) ((rd_T27 l1_9 x86_3).f6) _ _ ((rd_T27 l1_9 x86_3).f7) (rd x8_83 x86_3) t154 _ ?side1 ?side2 ?side3 ?side4 A100.out).mono ?_
                       (case side1 => exact (Kd.C_below HR0.out HB.out))
                       (case side2 => exact HC0.out)
                       (case side3 => exact (Kd.C_below HR148_9.out HB.out))
                       (case side4 => exact HC148_9.out)
                       rintro e w107 ⟨rfl, hb⟩
                       have HS10_ := (hb.cell (World.block_lt_of_cell? _ _ (hHeld.2.2.2.2.2.2.2.2.2.2))).trans (hHeld.2.2.2.2.2.2.2.2.2.2)
                       refine ⟨_, rfl, ?_⟩
                       replace HO_8 := Kd.rb1 HO_8 hb
                       replace BK136 := bk1 BK136 hb
                       replace BK149 := bk1 BK149 hb
                       replace HB := hb1 HB hb
                       (try clear hb)
                       refine hK.out _ _ ⟨(blk_cell BK149.out 0).trans rfl, (blk_cell BK149.out 1).trans rfl, (blk_cell BK149.out 2).trans rfl, (blk_cell BK149.out 3).trans rfl, (blk_cell BK149.out 4).trans rfl, (blk_cell BK149.out 5).trans rfl, (blk_cell BK149.out 6).trans rfl, (blk_cell BK149.out 7).trans rfl, (blk_cell BK149.out 8).trans rfl, (blk_cell BK149.out 9).trans rfl, HS10_⟩ (fun hHeld => ?_)
                       clear hK K
                       refine nA ?_
                       refine pA 7 12 (tb 8 255) HT_ ?_
                       refine done_ (done_of HT_.out (by kernel_rfl)) ?_
                       try go_wp2
                       go_ret
                       exact ⟨by rfl, by repeat (with_reducible exact HB.out)⟩
            ·obtain rfl := Option.some.inj H
             go_wp2
             go_ret
             exact ⟨by rfl, by repeat (with_reducible exact HB.out)⟩
      ·obtain rfl := Option.some.inj H
       obtain ⟨hcz108_0, hcz108_1, hcz108_2, hcz108_3, hcz108_4, hcz108_5, hcz108_6, hcz108_7, hcz108_8, hcz108_9⟩ := sq_cells10 (W := wc) (g := gb136) BK136.out; obtain ⟨hfz108_0, hfz108_1, hfz108_2, hfz108_3, hfz108_4, hfz108_5, hfz108_6, hfz108_7, hfz108_8, hfz108_9⟩ := sq_frozen10 BK136.out
       try go_wp2_with ((refine callA (some 37) Try.func60 #[.slice A0 l0.length c0, .int .i64 a1_0, .int .u8 a2] ?_; (with_reducible refine (syntax_has.calls _ _ l0 a1_0 a2 true _ ?side1 ?side2 A14.out).mono ?_); (case side1 => exact (Kd.C_below HR0.out HB.out)); (case side2 => exact HC0.out); rintro e w' ⟨rfl, ⟨nd, rfl⟩⟩; refine ⟨_, rfl, ?_⟩))
       (try (rw [drewN_self wc]; generalize hq_ : World.drewN wc _ = wc; have n0_ : Aside0 (wc.heap[gb136]? = some (.cells #[.int .i64 a1_0, .int .i64 a1_1, .int .i64 a1_2, .string a1_3, .string a1_4, .int .i64 a1_5, .int .u64 a1_6, .int .u64 a1_7, .bool a1_8, .slice A1_9 l1_9.length c1_9] 27 (0, 0))) := ⟨by rw [← hq_]; exact (by (with_reducible repeat (refine blk_drewN ?_ _)); exact BK136.out)⟩; have n1_ : Aside0 (Below w.heap.size w wc) := ⟨by rw [← hq_]; exact (by repeat (with_reducible first | exact HB.out | apply pw_below_drewN))⟩; clear BK136 HB hq_; have BK136 := n0_; have HB := n1_; clear n0_ n1_))
       replace BK136 := bkd BK136
       replace HB := hbd HB
       have p138 : 0 ≤ (a1_0 : Int) := of_decide_eq_true (by (with_reducible assumption))
       have q138 : a1_0 < (l0.length : Int) := of_decide_eq_true (by (with_reducible assumption))
       obtain ⟨ad138, e138, hx138_0, hx138_1, hx138_2⟩ := at_T89 HR0.out a1_0 p138 q138
       have hw138_2 := hx138_2
       have hw138_1 := hx138_1
       have hw138_0 := hx138_0
       cases e138
       replace hx138_0 := (HB.out.cell (World.block_lt_of_cell? w _ hx138_0)).trans hx138_0
       replace hx138_1 := (HB.out.cell (World.block_lt_of_cell? w _ hx138_1)).trans hx138_1
       replace hx138_2 := (HB.out.cell (World.block_lt_of_cell? w _ hx138_2)).trans hx138_2
       replace p138 := eq_true p138
       replace q138 := eq_true q138
       refine start_ (n := 9) (S := fun w' => w'.cell? ⟨gb136, 0, none⟩ = some (.int .i64 a1_0) ∧ w'.cell? ⟨gb136, 1, none⟩ = some (.int .i64 a1_1) ∧ w'.cell? ⟨gb136, 2, none⟩ = some (.int .i64 a1_2) ∧ w'.cell? ⟨gb136, 3, none⟩ = some (.string a1_3) ∧ w'.cell? ⟨gb136, 4, none⟩ = some (.string a1_4) ∧ w'.cell? ⟨gb136, 5, none⟩ = some (.int .i64 a1_5) ∧ w'.cell? ⟨gb136, 6, none⟩ = some (.int .u64 a1_6) ∧ w'.cell? ⟨gb136, 7, none⟩ = some (.int .u64 a1_7) ∧ w'.cell? ⟨gb136, 8, none⟩ = some (.bool a1_8) ∧ w'.cell? ⟨gb136, 9, none⟩ = some (.slice A1_9 l1_9.length c1_9) ∧ w'.cell? (ad138.add ((a1_0).toNat * 3)) = some (.string ((rd_T89 l0 a1_0).f0)) ∧ w'.cell? ⟨(ad138.add ((a1_0).toNat * 3)).block, (ad138.add ((a1_0).toNat * 3)).off + 1, none⟩ = some (.string ((rd_T89 l0 a1_0).f1)) ∧ w'.cell? ⟨(ad138.add ((a1_0).toNat * 3)).block, (ad138.add ((a1_0).toNat * 3)).off + 2, none⟩ = some (.string ((rd_T89 l0 a1_0).f2))) (ds := []) (tb 9 0) (by kernel_rfl) rfl (by kernel_rfl) ⟨(blk_cell BK136.out 0).trans rfl, (blk_cell BK136.out 1).trans rfl, (blk_cell BK136.out 2).trans rfl, (blk_cell BK136.out 3).trans rfl, (blk_cell BK136.out 4).trans rfl, (blk_cell BK136.out 5).trans rfl, (blk_cell BK136.out 6).trans rfl, (blk_cell BK136.out 7).trans rfl, (blk_cell BK136.out 8).trans rfl, (blk_cell BK136.out 9).trans rfl, ((HB.out.cell (World.block_lt_of_cell? w _ hw138_0)).trans hw138_0), ((HB.out.cell (World.block_lt_of_cell? w _ hw138_1)).trans hw138_1), ((HB.out.cell (World.block_lt_of_cell? w _ hw138_2)).trans hw138_2)⟩ (fun hHeld => ?_); refine with_tabW syntax_node.tab5 syntax_node.bits5 (fun HT_ HW_ => ?_)
       generalize wc.drew = w109 at BK136 HB hx138_0 hx138_1 hx138_2 hHeld ⊢
       refine pA 0 39 (tb 9 1) HT_ ?_
       refine pA 1 40 (tb 9 3) HT_ ?_
       refine tA 2 41 (tb 9 7) HT_ HW_ hHeld ?_
       refine pA 3 42 (tb 9 15) HT_ ?_
       refine pA 4 43 (tb 9 31) HT_ ?_
       refine tA 5 44 (tb 9 63) HT_ HW_ hHeld ?_
       refine tA 6 45 (tb 9 127) HT_ HW_ hHeld ?_
       refine oA 7 (some 46) (tb 9 255) HT_ (fun K hK => ?_)
       refine gA Try.func61 #[.string ((rd_T89 l0 a1_0).f2), .agg #[.int .i64 a1_0, .int .i64 a1_1, .int .i64 a1_2, .string a1_3, .string a1_4, .int .i64 a1_5, .int .u64 a1_6, .int .u64 a1_7, .bool a1_8, .slice A1_9 l1_9.length c1_9]] ?_
       with_reducible refine (syntax_fields.calls kj3 ((rd_T89 l0 a1_0).f2) a1_0 a1_1 a1_2 a1_3 a1_4 a1_5 a1_6 a1_7 a1_8 _ _ l1_9 t139 _ ?side1 ?side2 A18.out).mono ?_
       (case side1 => exact (Kd.C_below HR1_9.out HB.out))
       (case side2 => exact HC1_9.out)
       rintro e w110 ⟨rfl, hb⟩
       refine ⟨_, rfl, ?_⟩
       replace BK136 := bk1 BK136 hb
       replace HB := hb1 HB hb
       (try clear hb)
       refine hK.out _ _ ⟨(blk_cell BK136.out 0).trans rfl, (blk_cell BK136.out 1).trans rfl, (blk_cell BK136.out 2).trans rfl, (blk_cell BK136.out 3).trans rfl, (blk_cell BK136.out 4).trans rfl, (blk_cell BK136.out 5).trans rfl, (blk_cell BK136.out 6).trans rfl, (blk_cell BK136.out 7).trans rfl, (blk_cell BK136.out 8).trans rfl, (blk_cell BK136.out 9).trans rfl, ((HB.out.cell (World.block_lt_of_cell? w _ hw138_0)).trans hw138_0), ((HB.out.cell (World.block_lt_of_cell? w _ hw138_1)).trans hw138_1), ((HB.out.cell (World.block_lt_of_cell? w _ hw138_2)).trans hw138_2)⟩ (fun hHeld => ?_)
       clear hK K
       refine nA ?_
       refine pA 8 7 (tb 9 511) HT_ ?_
       refine done_ (done_of HT_.out (by kernel_rfl)) ?_
       try go_wp2
       replace BK136 := bkd BK136
       replace HB := hbd HB
       have p140 : 0 ≤ (a1_0 : Int) := of_decide_eq_true (by (with_reducible assumption))
       have q140 : a1_0 < (l0.length : Int) := of_decide_eq_true (by (with_reducible assumption))
       obtain ⟨ad140, e140, hx140_0, hx140_1, hx140_2⟩ := at_T89 HR0.out a1_0 p140 q140
       have hw140_2 := hx140_2
       have hw140_1 := hx140_1
       have hw140_0 := hx140_0
       obtain rfl : ad138 = ad140 := (by injection e140)
       replace hx140_0 := (HB.out.cell (World.block_lt_of_cell? w _ hx140_0)).trans hx140_0
       replace hx140_1 := (HB.out.cell (World.block_lt_of_cell? w _ hx140_1)).trans hx140_1
       replace hx140_2 := (HB.out.cell (World.block_lt_of_cell? w _ hx140_2)).trans hx140_2
       replace p140 := eq_true p140
       replace q140 := eq_true q140
       refine start_ (n := 15) (S := fun w' => w'.cell? ⟨gb136, 0, none⟩ = some (.int .i64 a1_0) ∧ w'.cell? ⟨gb136, 1, none⟩ = some (.int .i64 a1_1) ∧ w'.cell? ⟨gb136, 2, none⟩ = some (.int .i64 a1_2) ∧ w'.cell? ⟨gb136, 3, none⟩ = some (.string a1_3) ∧ w'.cell? ⟨gb136, 4, none⟩ = some (.string a1_4) ∧ w'.cell? ⟨gb136, 5, none⟩ = some (.int .i64 a1_5) ∧ w'.cell? ⟨gb136, 6, none⟩ = some (.int .u64 a1_6) ∧ w'.cell? ⟨gb136, 7, none⟩ = some (.int .u64 a1_7) ∧ w'.cell? ⟨gb136, 8, none⟩ = some (.bool a1_8) ∧ w'.cell? ⟨gb136, 9, none⟩ = some (.slice A1_9 l1_9.length c1_9) ∧ w'.cell? (ad138.add ((a1_0).toNat * 3)) = some (.string ((rd_T89 l0 a1_0).f0)) ∧ w'.cell? ⟨(ad138.add ((a1_0).toNat * 3)).block, (ad138.add ((a1_0).toNat * 3)).off + 1, none⟩ = some (.string ((rd_T89 l0 a1_0).f1)) ∧ w'.cell? ⟨(ad138.add ((a1_0).toNat * 3)).block, (ad138.add ((a1_0).toNat * 3)).off + 2, none⟩ = some (.string ((rd_T89 l0 a1_0).f2))) (ds := []) (tb 15 0) (by kernel_rfl) rfl (by kernel_rfl) ⟨(blk_cell BK136.out 0).trans rfl, (blk_cell BK136.out 1).trans rfl, (blk_cell BK136.out 2).trans rfl, (blk_cell BK136.out 3).trans rfl, (blk_cell BK136.out 4).trans rfl, (blk_cell BK136.out 5).trans rfl, (blk_cell BK136.out 6).trans rfl, (blk_cell BK136.out 7).trans rfl, (blk_cell BK136.out 8).trans rfl, (blk_cell BK136.out 9).trans rfl, ((HB.out.cell (World.block_lt_of_cell? w _ hw140_0)).trans hw140_0), ((HB.out.cell (World.block_lt_of_cell? w _ hw140_1)).trans hw140_1), ((HB.out.cell (World.block_lt_of_cell? w _ hw140_2)).trans hw140_2)⟩ (fun hHeld => ?_); refine with_tabW syntax_node.tab8 syntax_node.bits8 (fun HT_ HW_ => ?_)
       generalize w110.drew = w111 at BK136 HB hx140_0 hx140_1 hx140_2 hHeld ⊢
       refine pA 0 51 (tb 15 1) HT_ ?_
       refine pA 1 52 (tb 15 3) HT_ ?_
       refine pA 2 53 (tb 15 7) HT_ ?_
       refine pA 7 58 (tb 15 135) HT_ ?_
       refine tA 3 54 (tb 15 143) HT_ HW_ hHeld ?_
       refine pA 4 55 (tb 15 159) HT_ ?_
       refine pA 5 56 (tb 15 191) HT_ ?_
       refine tA 6 57 (tb 15 255) HT_ HW_ hHeld ?_
       refine tA 8 59 (tb 15 511) HT_ HW_ hHeld ?_
       refine oA 9 (some 60) (tb 15 1023) HT_ (fun K hK => ?_)
       refine gA Try.func62 #[.slice (some ad138) l0.length c0, .string ((rd_T89 l0 a1_0).f1), .slice A1_9 l1_9.length c1_9] ?_
       with_reducible refine (syntax_match.calls kj3 _ _ l0 ((rd_T89 l0 a1_0).f1) _ _ l1_9 t141 false _ ?side1 ?side2 ?side3 ?side4 A20.out).mono ?_
       (case side1 => exact (Kd.C_below HR0.out HB.out))
       (case side2 => exact HC0.out)
       (case side3 => exact (Kd.C_below HR1_9.out HB.out))
       (case side4 => exact HC1_9.out)
       rintro e w112 ⟨v143, rfl, ho0, hb⟩
       refine ⟨_, rfl, ?_⟩
       have HO144 := Aside0.mk (Kd.R_lower ho0 (below_size HB.out))
       replace BK136 := bk1 BK136 hb
       replace HB := hb1 HB hb
       (try clear hb)
       (try clear ho0)
       refine hK.out _ _ ⟨(blk_cell BK136.out 0).trans rfl, (blk_cell BK136.out 1).trans rfl, (blk_cell BK136.out 2).trans rfl, (blk_cell BK136.out 3).trans rfl, (blk_cell BK136.out 4).trans rfl, (blk_cell BK136.out 5).trans rfl, (blk_cell BK136.out 6).trans rfl, (blk_cell BK136.out 7).trans rfl, (blk_cell BK136.out 8).trans rfl, (blk_cell BK136.out 9).trans rfl, ((HB.out.cell (World.block_lt_of_cell? w _ hw140_0)).trans hw140_0), ((HB.out.cell (World.block_lt_of_cell? w _ hw140_1)).trans hw140_1), ((HB.out.cell (World.block_lt_of_cell? w _ hw140_2)).trans hw140_2)⟩ (fun hHeld => ?_)
       clear hK K
       refine nA ?_
       refine pA 10 50 (tb 15 2047) HT_ ?_
       refine pA 11 61 (tb 15 4095) HT_ ?_
       refine pA 12 62 (tb 15 8191) HT_ ?_
       refine pA 13 8 (tb 15 16383) HT_ ?_
       refine pA 14 9 (tb 15 32767) HT_ ?_
       refine done_ (done_of HT_.out (by kernel_rfl)) ?_
       try go_wp2
       go_ret
       exact ⟨by rfl, by repeat (with_reducible exact HB.out)⟩
     ·obtain rfl := Option.some.inj H
      obtain ⟨hcz113_0, hcz113_1, hcz113_2, hcz113_3, hcz113_4, hcz113_5, hcz113_6, hcz113_7, hcz113_8, hcz113_9⟩ := sq_cells10 (W := wc) (g := gb136) BK136.out; obtain ⟨hfz113_0, hfz113_1, hfz113_2, hfz113_3, hfz113_4, hfz113_5, hfz113_6, hfz113_7, hfz113_8, hfz113_9⟩ := sq_frozen10 BK136.out
      try go_wp2_with ((refine callA (some 37) Try.func60 #[.slice A0 l0.length c0, .int .i64 a1_0, .int .u8 a2] ?_; (with_reducible refine (syntax_has.calls _ _ l0 a1_0 a2 true _ ?side1 ?side2 A14.out).mono ?_); (case side1 => exact (Kd.C_below HR0.out HB.out)); (case side2 => exact HC0.out); rintro e w' ⟨rfl, ⟨nd, rfl⟩⟩; refine ⟨_, rfl, ?_⟩))
      (try (rw [drewN_self wc]; generalize hq_ : World.drewN wc _ = wc; have n0_ : Aside0 (wc.heap[gb136]? = some (.cells #[.int .i64 a1_0, .int .i64 a1_1, .int .i64 a1_2, .string a1_3, .string a1_4, .int .i64 a1_5, .int .u64 a1_6, .int .u64 a1_7, .bool a1_8, .slice A1_9 l1_9.length c1_9] 27 (0, 0))) := ⟨by rw [← hq_]; exact (by (with_reducible repeat (refine blk_drewN ?_ _)); exact BK136.out)⟩; have n1_ : Aside0 (Below w.heap.size w wc) := ⟨by rw [← hq_]; exact (by repeat (with_reducible first | exact HB.out | apply pw_below_drewN))⟩; clear BK136 HB hq_; have BK136 := n0_; have HB := n1_; clear n0_ n1_))
      replace BK136 := bkd BK136
      replace HB := hbd HB
      have p138 : 0 ≤ (a1_0 : Int) := of_decide_eq_true (by (with_reducible assumption))
      have q138 : a1_0 < (l0.length : Int) := of_decide_eq_true (by (with_reducible assumption))
      obtain ⟨ad138, e138, hx138_0, hx138_1, hx138_2⟩ := at_T89 HR0.out a1_0 p138 q138
      have hw138_2 := hx138_2
      have hw138_1 := hx138_1
      have hw138_0 := hx138_0
      cases e138
      replace hx138_0 := (HB.out.cell (World.block_lt_of_cell? w _ hx138_0)).trans hx138_0
      replace hx138_1 := (HB.out.cell (World.block_lt_of_cell? w _ hx138_1)).trans hx138_1
      replace hx138_2 := (HB.out.cell (World.block_lt_of_cell? w _ hx138_2)).trans hx138_2
      replace p138 := eq_true p138
      replace q138 := eq_true q138
      refine start_ (n := 9) (S := fun w' => w'.cell? ⟨gb136, 0, none⟩ = some (.int .i64 a1_0) ∧ w'.cell? ⟨gb136, 1, none⟩ = some (.int .i64 a1_1) ∧ w'.cell? ⟨gb136, 2, none⟩ = some (.int .i64 a1_2) ∧ w'.cell? ⟨gb136, 3, none⟩ = some (.string a1_3) ∧ w'.cell? ⟨gb136, 4, none⟩ = some (.string a1_4) ∧ w'.cell? ⟨gb136, 5, none⟩ = some (.int .i64 a1_5) ∧ w'.cell? ⟨gb136, 6, none⟩ = some (.int .u64 a1_6) ∧ w'.cell? ⟨gb136, 7, none⟩ = some (.int .u64 a1_7) ∧ w'.cell? ⟨gb136, 8, none⟩ = some (.bool a1_8) ∧ w'.cell? ⟨gb136, 9, none⟩ = some (.slice A1_9 l1_9.length c1_9) ∧ w'.cell? (ad138.add ((a1_0).toNat * 3)) = some (.string ((rd_T89 l0 a1_0).f0)) ∧ w'.cell? ⟨(ad138.add ((a1_0).toNat * 3)).block, (ad138.add ((a1_0).toNat * 3)).off + 1, none⟩ = some (.string ((rd_T89 l0 a1_0).f1)) ∧ w'.cell? ⟨(ad138.add ((a1_0).toNat * 3)).block, (ad138.add ((a1_0).toNat * 3)).off + 2, none⟩ = some (.string ((rd_T89 l0 a1_0).f2))) (ds := []) (tb 9 0) (by kernel_rfl) rfl (by kernel_rfl) ⟨(blk_cell BK136.out 0).trans rfl, (blk_cell BK136.out 1).trans rfl, (blk_cell BK136.out 2).trans rfl, (blk_cell BK136.out 3).trans rfl, (blk_cell BK136.out 4).trans rfl, (blk_cell BK136.out 5).trans rfl, (blk_cell BK136.out 6).trans rfl, (blk_cell BK136.out 7).trans rfl, (blk_cell BK136.out 8).trans rfl, (blk_cell BK136.out 9).trans rfl, ((HB.out.cell (World.block_lt_of_cell? w _ hw138_0)).trans hw138_0), ((HB.out.cell (World.block_lt_of_cell? w _ hw138_1)).trans hw138_1), ((HB.out.cell (World.block_lt_of_cell? w _ hw138_2)).trans hw138_2)⟩ (fun hHeld => ?_); refine with_tabW syntax_node.tab5 syntax_node.bits5 (fun HT_ HW_ => ?_)
      generalize wc.drew = w114 at BK136 HB hx138_0 hx138_1 hx138_2 hHeld ⊢
      refine pA 0 39 (tb 9 1) HT_ ?_
      refine pA 1 40 (tb 9 3) HT_ ?_
      refine tA 2 41 (tb 9 7) HT_ HW_ hHeld ?_
      refine pA 3 42 (tb 9 15) HT_ ?_
      refine pA 4 43 (tb 9 31) HT_ ?_
      refine tA 5 44 (tb 9 63) HT_ HW_ hHeld ?_
      refine tA 6 45 (tb 9 127) HT_ HW_ hHeld ?_
      refine oA 7 (some 46) (tb 9 255) HT_ (fun K hK => ?_)
      refine gA Try.func61 #[.string ((rd_T89 l0 a1_0).f2), .agg #[.int .i64 a1_0, .int .i64 a1_1, .int .i64 a1_2, .string a1_3, .string a1_4, .int .i64 a1_5, .int .u64 a1_6, .int .u64 a1_7, .bool a1_8, .slice A1_9 l1_9.length c1_9]] ?_
      with_reducible refine (syntax_fields.calls kj3 ((rd_T89 l0 a1_0).f2) a1_0 a1_1 a1_2 a1_3 a1_4 a1_5 a1_6 a1_7 a1_8 _ _ l1_9 t139 _ ?side1 ?side2 A18.out).mono ?_
      (case side1 => exact (Kd.C_below HR1_9.out HB.out))
      (case side2 => exact HC1_9.out)
      rintro e w115 ⟨rfl, hb⟩
      refine ⟨_, rfl, ?_⟩
      replace BK136 := bk1 BK136 hb
      replace HB := hb1 HB hb
      (try clear hb)
      refine hK.out _ _ ⟨(blk_cell BK136.out 0).trans rfl, (blk_cell BK136.out 1).trans rfl, (blk_cell BK136.out 2).trans rfl, (blk_cell BK136.out 3).trans rfl, (blk_cell BK136.out 4).trans rfl, (blk_cell BK136.out 5).trans rfl, (blk_cell BK136.out 6).trans rfl, (blk_cell BK136.out 7).trans rfl, (blk_cell BK136.out 8).trans rfl, (blk_cell BK136.out 9).trans rfl, ((HB.out.cell (World.block_lt_of_cell? w _ hw138_0)).trans hw138_0), ((HB.out.cell (World.block_lt_of_cell? w _ hw138_1)).trans hw138_1), ((HB.out.cell (World.block_lt_of_cell? w _ hw138_2)).trans hw138_2)⟩ (fun hHeld => ?_)
      clear hK K
      refine nA ?_
      refine pA 8 7 (tb 9 511) HT_ ?_
      refine done_ (done_of HT_.out (by kernel_rfl)) ?_
      try go_wp2
      go_ret
      exact ⟨by rfl, by repeat (with_reducible exact HB.out)⟩
    ·obtain rfl := Option.some.inj H
     obtain ⟨hcz116_0, hcz116_1, hcz116_2, hcz116_3, hcz116_4, hcz116_5, hcz116_6, hcz116_7, hcz116_8, hcz116_9⟩ := sq_cells10 (W := wc) (g := gb136) BK136.out; obtain ⟨hfz116_0, hfz116_1, hfz116_2, hfz116_3, hfz116_4, hfz116_5, hfz116_6, hfz116_7, hfz116_8, hfz116_9⟩ := sq_frozen10 BK136.out
     go_wp2_with ((refine callA (some 37) Try.func60 #[.slice A0 l0.length c0, .int .i64 a1_0, .int .u8 a2] ?_; (with_reducible refine (syntax_has.calls _ _ l0 a1_0 a2 false _ ?side1 ?side2 A14.out).mono ?_); (case side1 => exact (Kd.C_below HR0.out HB.out)); (case side2 => exact HC0.out); rintro e w' ⟨rfl, ⟨nd, rfl⟩⟩; refine ⟨_, rfl, ?_⟩))
     go_ret
     exact ⟨by rfl, by repeat (with_reducible first | exact HB.out | apply pw_below_drewN)⟩
end Go.Proofs.Ytlamgdibnnmbmaa.PSyn
end
section
namespace Go.Proofs.Ytlamgdibnnmbmaa.PSyn
open Go.RowKit Go.Proofs.YtlamgdibnnmbmaaW.PrintWords Go.Proofs.YtlamgdibnnmbmaaW.PrintLast Go.Proofs.YtlamgdibnnmbmaaW.PrintMore
attribute [local go_sem] max2_int min2_int max_two min_two max_three min_three max_four min_four
set_option linter.unusedVariables false
set_option linter.unusedSimpArgs false
def syntax_check.j0 : Nat → Int → Bool → Int → Int → Int → ByteArray → ByteArray → Int → Int → Int → Bool → List (S27) → Option (Int)
 | 0, _, _, _, _, _, _, _, _, _, _, _, _ => none
 | k + 1, x1, x17, x159000, x159001, x159002, x159003, x159004, x159005, x159006, x159007, x159008, x159009 => if x17 = true then (some 3) else ((syntax_shapes.f).bind fun t161 => ((syntax_node.f k t161 x159000 x159001 x159002 x159003 x159004 x159005 x159006 x159007 x159008 x159009 x1).bind fun t164 => (some t164)))
def syntax_check.f (k : Nat) (a0_0 : Int) (a0_1 : Int) (a0_2 : Int) (a0_3 : ByteArray) (a0_4 : ByteArray) (a0_5 : Int) (a0_6 : Int) (a0_7 : Int) (a0_8 : Bool) (l0_9 : List (S27)) (a1 : Int) : Option (Int) := (syntax_Measure.f k a0_0 a0_1 a0_2 a0_3 a0_4 a0_5 a0_6 a0_7 a0_8 l0_9).bind fun bt159 => (if bt159.1 > 4000 then (syntax_check.j0 k a1 true a0_0 a0_1 a0_2 a0_3 a0_4 a0_5 a0_6 a0_7 a0_8 l0_9) else (syntax_check.j0 k a1 (decide (bt159.2 > 60)) a0_0 a0_1 a0_2 a0_3 a0_4 a0_5 a0_6 a0_7 a0_8 l0_9))
theorem syntax_check.mono_l : ∀ k, (∀ y0 y1 y2 y3 y4 y5 y6 y7 y8 y9 y10 y11, LeO (syntax_check.j0 k y0 y1 y2 y3 y4 y5 y6 y7 y8 y9 y10 y11) (syntax_check.j0 (k + 1) y0 y1 y2 y3 y4 y5 y6 y7 y8 y9 y10 y11))
 | 0 => fun _ _ _ _ _ _ _ _ _ _ _ _ r h => by simp [syntax_check.j0] at h
 | k + 1 => by
  have ih0 := syntax_check.mono_l k
  ·intro y0 y1 y2 y3 y4 y5 y6 y7 y8 y9 y10 y11
   unfold syntax_check.j0
   repeat' first | with_reducible exact ih0 _ _ _ _ _ _ _ _ _ _ _ _ | with_reducible exact syntax_Measure.mono _ _ _ _ _ _ _ _ _ _ _ | with_reducible exact syntax_node.mono _ _ _ _ _ _ _ _ _ _ _ _ _ | with_reducible exact LeO.refl _ | with_reducible exact LeO.none _ | with_reducible refine LeO.ite ?_ ?_ | with_reducible refine LeO.bind ?_ (fun _ => ?_)
theorem syntax_check.mono : ∀ a0 a1 a2 a3 a4 a5 a6 a7 a8 a9 a10 k, LeO (syntax_check.f k a0 a1 a2 a3 a4 a5 a6 a7 a8 a9 a10) (syntax_check.f (k + 1) a0 a1 a2 a3 a4 a5 a6 a7 a8 a9 a10) := by
 intro a0 a1 a2 a3 a4 a5 a6 a7 a8 a9 a10 k
 have ih0 := syntax_check.mono_l k
 unfold syntax_check.f
 repeat' first | with_reducible exact ih0 _ _ _ _ _ _ _ _ _ _ _ _ | with_reducible exact syntax_Measure.mono _ _ _ _ _ _ _ _ _ _ _ | with_reducible exact syntax_node.mono _ _ _ _ _ _ _ _ _ _ _ _ _ | with_reducible exact LeO.refl _ | with_reducible exact LeO.none _ | with_reducible refine LeO.ite ?_ ?_ | with_reducible refine LeO.bind ?_ (fun _ => ?_)
set_option maxHeartbeats 8000000 in
set_option maxRecDepth 100000 in
theorem syntax_check.calls (k : Nat) (a0_0 : Int) (a0_1 : Int) (a0_2 : Int) (a0_3 : ByteArray) (a0_4 : ByteArray) (a0_5 : Int) (a0_6 : Int) (a0_7 : Int) (a0_8 : Bool) (A0_9 : Option Addr) (c0_9 : Nat) (l0_9 : List (S27)) (a1 : Int) (r : Int) (w : World) (hr0_9 : Kd.C k27 w A0_9 l0_9.length l0_9) (hc0_9 : l0_9.length ≤ c0_9) (h : syntax_check.f k a0_0 a0_1 a0_2 a0_3 a0_4 a0_5 a0_6 a0_7 a0_8 l0_9 a1 = some r) :
  Calls Try.prog 23 #[.agg #[.int .i64 a0_0, .int .i64 a0_1, .int .i64 a0_2, .string a0_3, .string a0_4, .int .i64 a0_5, .int .u64 a0_6, .int .u64 a0_7, .bool a0_8, .slice A0_9 l0_9.length c0_9], .int .u8 a1] w fun e w' => e = .returned (.int .i64 r) ∧ Below w.heap.size w w' := by
 have hu27 := Try.underlying27
 have HR0_9 := Aside0.mk hr0_9
 have HC0_9 := Aside0.mk hc0_9
 clear hr0_9 hc0_9
 have HB := Aside0.mk (Below.refl w.heap.size w)
 have H := h
 clear h
 unfold syntax_check.f at H
 replace H := bN H; obtain ⟨⟨t159, t160⟩, A3, H⟩ := H; dsimp only at H
 have HC4 := Aside0.mk H
 clear H
 go_enter Try.func23, Try.ntmps23
 go_upto_region 2 with (first | (refine boxA HB 2 #[.int .i64 a0_0, .int .i64 a0_1, .int .i64 a0_2, .string a0_3, .string a0_4, .int .i64 a0_5, .int .u64 a0_6, .int .u64 a0_7, .bool a0_8, .slice A0_9 l0_9.length c0_9] 27 ?_; clear HB; intro gb158 w5 BK158 GE158 hg hb HB; clear hb hg; have hcz6_0 : w5.cell? ⟨gb158, 0, none⟩ = some (.int .i64 a0_0) := (blk_cell BK158.out 0).trans rfl; have hcz6_1 : w5.cell? ⟨gb158, 1, none⟩ = some (.int .i64 a0_1) := (blk_cell BK158.out 1).trans rfl; have hcz6_2 : w5.cell? ⟨gb158, 2, none⟩ = some (.int .i64 a0_2) := (blk_cell BK158.out 2).trans rfl; have hcz6_3 : w5.cell? ⟨gb158, 3, none⟩ = some (.string a0_3) := (blk_cell BK158.out 3).trans rfl; have hcz6_4 : w5.cell? ⟨gb158, 4, none⟩ = some (.string a0_4) := (blk_cell BK158.out 4).trans rfl; have hcz6_5 : w5.cell? ⟨gb158, 5, none⟩ = some (.int .i64 a0_5) := (blk_cell BK158.out 5).trans rfl; have hcz6_6 : w5.cell? ⟨gb158, 6, none⟩ = some (.int .u64 a0_6) := (blk_cell BK158.out 6).trans rfl; have hcz6_7 : w5.cell? ⟨gb158, 7, none⟩ = some (.int .u64 a0_7) := (blk_cell BK158.out 7).trans rfl; have hcz6_8 : w5.cell? ⟨gb158, 8, none⟩ = some (.bool a0_8) := (blk_cell BK158.out 8).trans rfl; have hcz6_9 : w5.cell? ⟨gb158, 9, none⟩ = some (.slice A0_9 l0_9.length c0_9) := (blk_cell BK158.out 9).trans rfl; have hfz6_0 := blk_frozen BK158.out 0; have hfz6_1 := blk_frozen BK158.out 1; have hfz6_2 := blk_frozen BK158.out 2; have hfz6_3 := blk_frozen BK158.out 3; have hfz6_4 := blk_frozen BK158.out 4; have hfz6_5 := blk_frozen BK158.out 5; have hfz6_6 := blk_frozen BK158.out 6; have hfz6_7 := blk_frozen BK158.out 7; have hfz6_8 := blk_frozen BK158.out 8; have hfz6_9 := blk_frozen BK158.out 9) | (refine callA (some 9) Try.func12 #[.agg #[.int .i64 a0_0, .int .i64 a0_1, .int .i64 a0_2, .string a0_3, .string a0_4, .int .i64 a0_5, .int .u64 a0_6, .int .u64 a0_7, .bool a0_8, .slice A0_9 l0_9.length c0_9]] ?_; (with_reducible refine (syntax_Measure.calls k a0_0 a0_1 a0_2 a0_3 a0_4 a0_5 a0_6 a0_7 a0_8 _ _ l0_9 t159 t160 _ ?side1 ?side2 A3.out).mono ?_); (case side1 => exact (Kd.C_below HR0_9.out HB.out)); (case side2 => exact HC0_9.out); rintro e w7 ⟨rfl, hb⟩; refine ⟨_, rfl, ?_⟩; replace BK158 := bk1 BK158 hb; replace HB := hb1 HB hb; (try clear hb)))
 go_cut [17] (fun v17 wc => ∃ (kq : Nat) (x17_3 : Bool), v17 = .bool x17_3 ∧ Aside0 (syntax_check.j0 kq a1 x17_3 a0_0 a0_1 a0_2 a0_3 a0_4 a0_5 a0_6 a0_7 a0_8 l0_9 = some r) ∧ Aside0 (kq ≤ k) ∧ Aside0 (wc.heap[gb158]? = some (.cells #[.int .i64 a0_0, .int .i64 a0_1, .int .i64 a0_2, .string a0_3, .string a0_4, .int .i64 a0_5, .int .u64 a0_6, .int .u64 a0_7, .bool a0_8, (.slice A0_9 l0_9.length c0_9)] 27 (0, 0))) ∧ Aside0 (Below w.heap.size w wc))
 case first =>
  have H := HC4.out
  clear HC4
  replace H := iD H; rcases H with ⟨c8b0, H⟩ | ⟨c8b0, H⟩
  ·replace c8b0 : decide (4000 < t159) = true := c8b0
   (skip)
   have H' := Aside0.mk H
   clear H
   go_wp2
   go_meet
   case rel => exact ⟨_, (true), (by rfl), H', ⟨by omega⟩, ⟨by exact BK158.out⟩, ⟨by repeat (with_reducible exact HB.out)⟩⟩
  ·replace c8b0 : decide (4000 < t159) = false := c8b0
   (skip)
   have H' := Aside0.mk H
   clear H
   go_wp2
   go_meet
   case rel => exact ⟨_, (decide (t160 > 60)), (by rfl), H', ⟨by omega⟩, ⟨by exact BK158.out⟩, ⟨by repeat (with_reducible exact HB.out)⟩⟩
 case rest =>
  clear HC4
  (try clear hcz6_0 hcz6_1 hcz6_2 hcz6_3 hcz6_4 hcz6_5 hcz6_6 hcz6_7 hcz6_8 hcz6_9 hfz6_0 hfz6_1 hfz6_2 hfz6_3 hfz6_4 hfz6_5 hfz6_6 hfz6_7 hfz6_8 hfz6_9)
  obtain ⟨kq, x17_3, rfl, HA, HJ3, BK158, HB⟩ := hcut
  cases kq with
  | zero => exact absurd HA.out (by simp [syntax_check.j0])
  | succ kj3 =>
   have H := HA.out
   clear HA
   simp only [syntax_check.j0] at H
   replace H := iB H; rcases H with ⟨rfl, H⟩ | ⟨rfl, H⟩
   ·obtain rfl := Option.some.inj H
    go_wp2
    go_ret
    exact ⟨by rfl, by repeat (with_reducible exact HB.out)⟩
   ·replace H := bN H; obtain ⟨t161, A10, H⟩ := H
    replace H := bN H; obtain ⟨t164, A11, H⟩ := H
    obtain rfl := Option.some.inj H
    try go_wp2
    replace BK158 := bkd BK158
    replace HB := hbd HB
    refine start_ (n := 5) (S := fun w' => w'.cell? ⟨gb158, 0, none⟩ = some (.int .i64 a0_0) ∧ w'.cell? ⟨gb158, 1, none⟩ = some (.int .i64 a0_1) ∧ w'.cell? ⟨gb158, 2, none⟩ = some (.int .i64 a0_2) ∧ w'.cell? ⟨gb158, 3, none⟩ = some (.string a0_3) ∧ w'.cell? ⟨gb158, 4, none⟩ = some (.string a0_4) ∧ w'.cell? ⟨gb158, 5, none⟩ = some (.int .i64 a0_5) ∧ w'.cell? ⟨gb158, 6, none⟩ = some (.int .u64 a0_6) ∧ w'.cell? ⟨gb158, 7, none⟩ = some (.int .u64 a0_7) ∧ w'.cell? ⟨gb158, 8, none⟩ = some (.bool a0_8) ∧ w'.cell? ⟨gb158, 9, none⟩ = some (.slice A0_9 l0_9.length c0_9)) (ds := []) (tb 5 0) (by kernel_rfl) rfl (by kernel_rfl) ⟨(blk_cell BK158.out 0).trans rfl, (blk_cell BK158.out 1).trans rfl, (blk_cell BK158.out 2).trans rfl, (blk_cell BK158.out 3).trans rfl, (blk_cell BK158.out 4).trans rfl, (blk_cell BK158.out 5).trans rfl, (blk_cell BK158.out 6).trans rfl, (blk_cell BK158.out 7).trans rfl, (blk_cell BK158.out 8).trans rfl, (blk_cell BK158.out 9).trans rfl⟩ (fun hHeld => ?_)
    generalize wc.drew = w12 at BK158 HB hHeld ⊢
    refine pure_ (i := 2) (N := some 20) (v := ?_) (a' := ?_) #[false, false, true, false, false] rfl rfl (by kernel_rfl) (fun _ _ _ h => h) (Or.inl ⟨by rfl, ?_⟩) ?_ ?_
    rotate_left
    ·intro w'
     go_simp
     with_reducible rfl
    rotate_left
    ·simp only [Act.put, List.setIfInBounds_toArray, List.set_cons_zero, List.set_cons_succ, i64_w, i32_w]
     rfl
    refine take_ (i := 1) (N := some 19) (v := ?_) (a' := ?_) #[false, true, true, false, false] rfl rfl (by kernel_rfl) (fun _ _ _ h => h) (Or.inl ⟨by rfl, ?_⟩) hHeld ?_ ?_
    rotate_left
    ·rintro w' ⟨s0, s1, s2, s3, s4, s5, s6, s7, s8, s9⟩
     go_simp
     with_reducible rfl
    rotate_left
    ·simp only [Act.put, List.setIfInBounds_toArray, List.set_cons_zero, List.set_cons_succ, i64_w, i32_w]
     rfl
    refine one_ (i := 0) (N := some 18) #[true, true, true, false, false] rfl rfl (by kernel_rfl) (by decide) (fun K hK => ?_)
    refine gA Try.func33 #[] ?_
    with_reducible refine (syntax_shapes.calls  t161 _ A10.out).mono ?_
    rintro e w13 ⟨v162, rfl, ho0, hb⟩
    refine ⟨_, rfl, ?_⟩
    have HO163 := Aside0.mk (Kd.R_lower ho0 (below_size HB.out))
    replace BK158 := bk1 BK158 hb
    replace HB := hb1 HB hb
    (try clear hb)
    (try clear ho0)
    obtain ⟨Ao14, co14, eo14⟩ := Kd.R_slice HO163.out
    (subst eo14)
    refine hK.out _ _ ⟨(blk_cell BK158.out 0).trans rfl, (blk_cell BK158.out 1).trans rfl, (blk_cell BK158.out 2).trans rfl, (blk_cell BK158.out 3).trans rfl, (blk_cell BK158.out 4).trans rfl, (blk_cell BK158.out 5).trans rfl, (blk_cell BK158.out 6).trans rfl, (blk_cell BK158.out 7).trans rfl, (blk_cell BK158.out 8).trans rfl, (blk_cell BK158.out 9).trans rfl⟩ (fun hHeld => ?_)
    clear hK K
    refine nA ?_
    refine one_ (i := 3) (N := some 21) #[true, true, true, true, false] rfl rfl (by kernel_rfl) (by decide) (fun K hK => ?_)
    refine gA Try.func32 #[.slice Ao14 t161.length co14, .agg #[.int .i64 a0_0, .int .i64 a0_1, .int .i64 a0_2, .string a0_3, .string a0_4, .int .i64 a0_5, .int .u64 a0_6, .int .u64 a0_7, .bool a0_8, .slice A0_9 l0_9.length c0_9], .int .u8 a1] ?_
    with_reducible refine (syntax_node.calls kj3 _ _ t161 a0_0 a0_1 a0_2 a0_3 a0_4 a0_5 a0_6 a0_7 a0_8 _ _ l0_9 a1 t164 _ ?side1 ?side2 ?side3 ?side4 A11.out).mono ?_
    (case side1 => exact (Kd.R_reads' HO163.out).2.2)
    (case side2 => exact (Kd.R_reads' HO163.out).2.1)
    (case side3 => exact (Kd.C_below HR0_9.out HB.out))
    (case side4 => exact HC0_9.out)
    rintro e w15 ⟨rfl, hb⟩
    refine ⟨_, rfl, ?_⟩
    replace HO163 := Kd.rb1 HO163 hb
    replace BK158 := bk1 BK158 hb
    replace HB := hb1 HB hb
    (try clear hb)
    refine hK.out _ _ ⟨(blk_cell BK158.out 0).trans rfl, (blk_cell BK158.out 1).trans rfl, (blk_cell BK158.out 2).trans rfl, (blk_cell BK158.out 3).trans rfl, (blk_cell BK158.out 4).trans rfl, (blk_cell BK158.out 5).trans rfl, (blk_cell BK158.out 6).trans rfl, (blk_cell BK158.out 7).trans rfl, (blk_cell BK158.out 8).trans rfl, (blk_cell BK158.out 9).trans rfl⟩ (fun hHeld => ?_)
    clear hK K
    refine nA ?_
    refine pure_ (i := 4) (N := some 4) (v := ?_) (a' := ?_) #[true, true, true, true, true] rfl rfl (by kernel_rfl) (fun _ _ _ h => h) (Or.inl ⟨by rfl, ?_⟩) ?_ ?_
    rotate_left
    ·intro w'
     go_simp
     with_reducible rfl
    rotate_left
    ·simp only [Act.put, List.setIfInBounds_toArray, List.set_cons_zero, List.set_cons_succ, i64_w, i32_w]
     rfl
    refine done_ (by kernel_rfl) ?_
    try go_wp2
    go_ret
    exact ⟨by rfl, by repeat (with_reducible exact HB.out)⟩
end Go.Proofs.Ytlamgdibnnmbmaa.PSyn
end
section
namespace Go.Proofs.Ytlamgdibnnmbmaa.PSyn
open Go.RowKit Go.Proofs.YtlamgdibnnmbmaaW.PrintWords Go.Proofs.YtlamgdibnnmbmaaW.PrintLast Go.Proofs.YtlamgdibnnmbmaaW.PrintMore
attribute [local go_sem] max2_int min2_int max_two min_two max_three min_three max_four min_four
set_option linter.unusedVariables false
set_option linter.unusedSimpArgs false
def syntax_CheckExpr.f (k : Nat) (a0_0 : Int) (a0_1 : Int) (a0_2 : Int) (a0_3 : ByteArray) (a0_4 : ByteArray) (a0_5 : Int) (a0_6 : Int) (a0_7 : Int) (a0_8 : Bool) (l0_9 : List (S27)) : Option (Int) := (syntax_check.f k a0_0 a0_1 a0_2 a0_3 a0_4 a0_5 a0_6 a0_7 a0_8 l0_9 69).bind fun t166 => (some t166)
theorem syntax_CheckExpr.mono : ∀ a0 a1 a2 a3 a4 a5 a6 a7 a8 a9 k, LeO (syntax_CheckExpr.f k a0 a1 a2 a3 a4 a5 a6 a7 a8 a9) (syntax_CheckExpr.f (k + 1) a0 a1 a2 a3 a4 a5 a6 a7 a8 a9) := by
 intro a0 a1 a2 a3 a4 a5 a6 a7 a8 a9 k
 unfold syntax_CheckExpr.f
 repeat' first | with_reducible exact syntax_check.mono _ _ _ _ _ _ _ _ _ _ _ _ | with_reducible exact LeO.refl _ | with_reducible exact LeO.none _ | with_reducible refine LeO.ite ?_ ?_ | with_reducible refine LeO.bind ?_ (fun _ => ?_)
set_option maxHeartbeats 8000000 in
set_option maxRecDepth 100000 in
theorem syntax_CheckExpr.calls (k : Nat) (a0_0 : Int) (a0_1 : Int) (a0_2 : Int) (a0_3 : ByteArray) (a0_4 : ByteArray) (a0_5 : Int) (a0_6 : Int) (a0_7 : Int) (a0_8 : Bool) (A0_9 : Option Addr) (c0_9 : Nat) (l0_9 : List (S27)) (r : Int) (w : World) (hr0_9 : Kd.C k27 w A0_9 l0_9.length l0_9) (hc0_9 : l0_9.length ≤ c0_9) (h : syntax_CheckExpr.f k a0_0 a0_1 a0_2 a0_3 a0_4 a0_5 a0_6 a0_7 a0_8 l0_9 = some r) :
  Calls Try.prog 8 #[.agg #[.int .i64 a0_0, .int .i64 a0_1, .int .i64 a0_2, .string a0_3, .string a0_4, .int .i64 a0_5, .int .u64 a0_6, .int .u64 a0_7, .bool a0_8, .slice A0_9 l0_9.length c0_9]] w fun e w' => e = .returned (.int .i64 r) ∧ Below w.heap.size w w' := by
 have hu27 := Try.underlying27
 have HR0_9 := Aside0.mk hr0_9
 have HC0_9 := Aside0.mk hc0_9
 clear hr0_9 hc0_9
 have HB := Aside0.mk (Below.refl w.heap.size w)
 have H := h
 clear h
 unfold syntax_CheckExpr.f at H
 replace H := bN H; obtain ⟨t166, A2, H⟩ := H
 obtain rfl := Option.some.inj H
 go_enter Try.func8, Try.ntmps8
 go_wp2_with (first | (refine boxA HB 1 #[.int .i64 a0_0, .int .i64 a0_1, .int .i64 a0_2, .string a0_3, .string a0_4, .int .i64 a0_5, .int .u64 a0_6, .int .u64 a0_7, .bool a0_8, .slice A0_9 l0_9.length c0_9] 27 ?_; clear HB; intro gb165 w3 BK165 GE165 hg hb HB; clear hb hg; have hcz4_0 : w3.cell? ⟨gb165, 0, none⟩ = some (.int .i64 a0_0) := (blk_cell BK165.out 0).trans rfl; have hcz4_1 : w3.cell? ⟨gb165, 1, none⟩ = some (.int .i64 a0_1) := (blk_cell BK165.out 1).trans rfl; have hcz4_2 : w3.cell? ⟨gb165, 2, none⟩ = some (.int .i64 a0_2) := (blk_cell BK165.out 2).trans rfl; have hcz4_3 : w3.cell? ⟨gb165, 3, none⟩ = some (.string a0_3) := (blk_cell BK165.out 3).trans rfl; have hcz4_4 : w3.cell? ⟨gb165, 4, none⟩ = some (.string a0_4) := (blk_cell BK165.out 4).trans rfl; have hcz4_5 : w3.cell? ⟨gb165, 5, none⟩ = some (.int .i64 a0_5) := (blk_cell BK165.out 5).trans rfl; have hcz4_6 : w3.cell? ⟨gb165, 6, none⟩ = some (.int .u64 a0_6) := (blk_cell BK165.out 6).trans rfl; have hcz4_7 : w3.cell? ⟨gb165, 7, none⟩ = some (.int .u64 a0_7) := (blk_cell BK165.out 7).trans rfl; have hcz4_8 : w3.cell? ⟨gb165, 8, none⟩ = some (.bool a0_8) := (blk_cell BK165.out 8).trans rfl; have hcz4_9 : w3.cell? ⟨gb165, 9, none⟩ = some (.slice A0_9 l0_9.length c0_9) := (blk_cell BK165.out 9).trans rfl; have hfz4_0 := blk_frozen BK165.out 0; have hfz4_1 := blk_frozen BK165.out 1; have hfz4_2 := blk_frozen BK165.out 2; have hfz4_3 := blk_frozen BK165.out 3; have hfz4_4 := blk_frozen BK165.out 4; have hfz4_5 := blk_frozen BK165.out 5; have hfz4_6 := blk_frozen BK165.out 6; have hfz4_7 := blk_frozen BK165.out 7; have hfz4_8 := blk_frozen BK165.out 8; have hfz4_9 := blk_frozen BK165.out 9) | (refine callA (some 4) Try.func23 #[.agg #[.int .i64 a0_0, .int .i64 a0_1, .int .i64 a0_2, .string a0_3, .string a0_4, .int .i64 a0_5, .int .u64 a0_6, .int .u64 a0_7, .bool a0_8, .slice A0_9 l0_9.length c0_9], .int .u8 69] ?_; (with_reducible refine (syntax_check.calls k a0_0 a0_1 a0_2 a0_3 a0_4 a0_5 a0_6 a0_7 a0_8 _ _ l0_9 69 t166 _ ?side1 ?side2 A2.out).mono ?_); (case side1 => exact (Kd.C_below HR0_9.out HB.out)); (case side2 => exact HC0_9.out); rintro e w5 ⟨rfl, hb⟩; refine ⟨_, rfl, ?_⟩; replace BK165 := bk1 BK165 hb; replace HB := hb1 HB hb; (try clear hb)))
 go_ret
 exact ⟨by rfl, by repeat (with_reducible exact HB.out)⟩
end Go.Proofs.Ytlamgdibnnmbmaa.PSyn
end
