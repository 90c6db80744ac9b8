/- Part 39 of the proof of SyntaxExprsUptoSaid: The law SyntaxExprs, where the tree that it reads is of bulk at most 1048576: it returns true; the tree reads behind the call as it read before. Out of the plain theorem of YtlamgdibnnmbmaaPureSyntaxExprs and the printed contract. -/
import Derived.Test.YtlamgdibnnmbmaaQSyntaxExprsUpto13
import Derived.Test.YtlamgdibnnmbmaaQSyntaxExprsUpto29
import Derived.Test.YtlamgdibnnmbmaaQSyntaxExprsUpto37
import Derived.Test.YtlamgdibnnmbmaaQSyntaxExprsUpto16
import Derived.Test.YtlamgdibnnmbmaaQSyntaxExprsUpto36
import Derived.Test.YtlamgdibnnmbmaaQSyntaxExprsUpto17
import Derived.Test.YtlamgdibnnmbmaaQSyntaxExprsUpto32
import Derived.Test.YtlamgdibnnmbmaaQSyntaxExprsUpto19
section
namespace Go.Proofs.Ytlamgdibnnmbmaa.PSyn
open Go.RowKit Go.Proofs.YtlamgdibnnmbmaaW.PrintWords Go.Proofs.YtlamgdibnnmbmaaW.PrintLast Go.Proofs.YtlamgdibnnmbmaaW.PrintMore
attribute [local go_sem] max2_int min2_int max_two min_two max_three min_three max_four min_four
set_option linter.unusedVariables false
set_option linter.unusedSimpArgs false
attribute [local go_sem high] eqA24
def syntax_Same.f (a0_0 : Int) (a0_1 : Int) (a0_2 : Int) (a0_3 : ByteArray) (a0_4 : ByteArray) (a0_5 : Int) (a0_6 : Int) (a0_7 : Int) (a0_8 : Bool) (l0_9 : List (S27)) (a1_0 : Int) (a1_1 : Int) (a1_2 : Int) (a1_3 : ByteArray) (a1_4 : ByteArray) (a1_5 : Int) (a1_6 : Int) (a1_7 : Int) (a1_8 : Bool) (l1_9 : List (S27)) : Option (Bool) := if a0_0 = a1_0 then (if a0_3.toList = a1_3.toList then (if a0_4.toList = a1_4.toList then (if (a0_5 == a1_5 && (a0_6 == a1_6 && (a0_7 == a1_7))) = true then (if (a0_8 == a1_8) = true then ((EqualFunc_Same.f l0_9 l1_9).bind fun t169 => (some t169)) else (some false)) else (some false)) else (some false)) else (some false)) else (some false)
set_option maxHeartbeats 8000000 in
set_option maxRecDepth 100000 in
theorem syntax_Same.calls (a0_0 : Int) (a0_1 : Int) (a0_2 : Int) (a0_3 : ByteArray) (a0_4 : ByteArray) (a0_5 : Int) (a0_6 : Int) (a0_7 : Int) (a0_8 : Bool) (A0_9 : Option Addr) (c0_9 : Nat) (l0_9 : List (S27)) (a1_0 : Int) (a1_1 : Int) (a1_2 : Int) (a1_3 : ByteArray) (a1_4 : ByteArray) (a1_5 : Int) (a1_6 : Int) (a1_7 : Int) (a1_8 : Bool) (A1_9 : Option Addr) (c1_9 : Nat) (l1_9 : List (S27)) (r : Bool) (w : World) (hr0_9 : Kd.C k27 w A0_9 l0_9.length l0_9) (hc0_9 : l0_9.length ≤ c0_9) (hr1_9 : Kd.C k27 w A1_9 l1_9.length l1_9) (hc1_9 : l1_9.length ≤ c1_9) (h : syntax_Same.f a0_0 a0_1 a0_2 a0_3 a0_4 a0_5 a0_6 a0_7 a0_8 l0_9 a1_0 a1_1 a1_2 a1_3 a1_4 a1_5 a1_6 a1_7 a1_8 l1_9 = some r) :
  Calls Try.prog 14 #[.agg #[.int .i64 a0_0, .int .i64 a0_1, .int .i64 a0_2, .string a0_3, .string a0_4, .int .i64 a0_5, .int .u64 a0_6, .int .u64 a0_7, .bool a0_8, .slice A0_9 l0_9.length c0_9], .agg #[.int .i64 a1_0, .int .i64 a1_1, .int .i64 a1_2, .string a1_3, .string a1_4, .int .i64 a1_5, .int .u64 a1_6, .int .u64 a1_7, .bool a1_8, .slice A1_9 l1_9.length c1_9]] w fun e w' => e = .returned (.bool r) ∧ Below w.heap.size w w' := by
 have hu27 := Try.underlying27
 have hu24 := Try.underlying24
 have HR0_9 := Aside0.mk hr0_9
 have HC0_9 := Aside0.mk hc0_9
 clear hr0_9 hc0_9
 have HR1_9 := Aside0.mk hr1_9
 have HC1_9 := Aside0.mk hc1_9
 clear hr1_9 hc1_9
 have HB := Aside0.mk (Below.refl w.heap.size w)
 have H := h
 clear h
 unfold syntax_Same.f at H
 replace H := iE H; rcases H with ⟨c3b0, c3b1, H⟩ | ⟨c3, c3b0, c3b1, H⟩
 ·replace H := iE H; rcases H with ⟨c4b0, c4b1, H⟩ | ⟨c4, c4b0, c4b1, H⟩
  ·replace H := iE H; rcases H with ⟨c5b0, c5b1, H⟩ | ⟨c5, c5b0, c5b1, H⟩
   ·by_cases c6 : (a0_5 == a1_5 && (a0_6 == a1_6 && (a0_7 == a1_7))) = true
    ·rw [if_pos c6] at H
     have c6b0 : (a0_5 == a1_5 && (a0_6 == a1_6 && (a0_7 == a1_7))) = true := c6
     (try (have c6b1 : decide (a0_5 = a1_5 && (a0_6 == a1_6 && (a0_7 == a1_7))) = true := by simpa using c6))
     (try (have c6b2 : (a0_5 == a1_5 && (a0_6 == a1_6 && (a0_7 == a1_7))) = true := by simpa using c6))
     clear c6
     by_cases c7 : (a0_8 == a1_8) = true
     ·rw [if_pos c7] at H
      have c7b0 : (a0_8 == a1_8) = true := c7
      (try (have c7b1 : decide (a0_8 = a1_8) = true := by simpa using c7))
      (try (have c7b2 : (a0_8 == a1_8) = true := by simpa using c7))
      clear c7
      replace H := bN H; obtain ⟨t169, A8, H⟩ := H
      obtain rfl := Option.some.inj H
      go_enter Try.func14, Try.ntmps14
      go_wp2_with (first | (refine boxA HB 2 #[.int .i64 a0_0, .int .i64 a0_1, .int .i64 a0_2, .string a0_3, .string a0_4, .int .i64 a0_5, .int .u64 a0_6, .int .u64 a0_7, .bool a0_8, .slice A0_9 l0_9.length c0_9] 27 ?_; clear HB; intro gb167 w9 BK167 GE167 hg hb HB; clear hb hg) | (refine boxA HB 3 #[.int .i64 a1_0, .int .i64 a1_1, .int .i64 a1_2, .string a1_3, .string a1_4, .int .i64 a1_5, .int .u64 a1_6, .int .u64 a1_7, .bool a1_8, .slice A1_9 l1_9.length c1_9] 27 ?_; clear HB; intro gb168 w10 BK168 GE168 hg hb HB; have NB167_168 := nbA BK167 hg; have NB168_167 := nbB BK167 hg; replace BK167 := bk1 BK167 hb; clear hb hg; have hnb11 := NB167_168.out; have hnc11 := NB168_167.out; have hcz12_0 : w10.cell? ⟨gb167, 0, none⟩ = some (.int .i64 a0_0) := (blk_cell BK167.out 0).trans rfl; have hcz12_1 : w10.cell? ⟨gb167, 1, none⟩ = some (.int .i64 a0_1) := (blk_cell BK167.out 1).trans rfl; have hcz12_2 : w10.cell? ⟨gb167, 2, none⟩ = some (.int .i64 a0_2) := (blk_cell BK167.out 2).trans rfl; have hcz12_3 : w10.cell? ⟨gb167, 3, none⟩ = some (.string a0_3) := (blk_cell BK167.out 3).trans rfl; have hcz12_4 : w10.cell? ⟨gb167, 4, none⟩ = some (.string a0_4) := (blk_cell BK167.out 4).trans rfl; have hcz12_5 : w10.cell? ⟨gb167, 5, none⟩ = some (.int .i64 a0_5) := (blk_cell BK167.out 5).trans rfl; have hcz12_6 : w10.cell? ⟨gb167, 6, none⟩ = some (.int .u64 a0_6) := (blk_cell BK167.out 6).trans rfl; have hcz12_7 : w10.cell? ⟨gb167, 7, none⟩ = some (.int .u64 a0_7) := (blk_cell BK167.out 7).trans rfl; have hcz12_8 : w10.cell? ⟨gb167, 8, none⟩ = some (.bool a0_8) := (blk_cell BK167.out 8).trans rfl; have hcz12_9 : w10.cell? ⟨gb167, 9, none⟩ = some (.slice A0_9 l0_9.length c0_9) := (blk_cell BK167.out 9).trans rfl; have hfz12_0 := blk_frozen BK167.out 0; have hfz12_1 := blk_frozen BK167.out 1; have hfz12_2 := blk_frozen BK167.out 2; have hfz12_3 := blk_frozen BK167.out 3; have hfz12_4 := blk_frozen BK167.out 4; have hfz12_5 := blk_frozen BK167.out 5; have hfz12_6 := blk_frozen BK167.out 6; have hfz12_7 := blk_frozen BK167.out 7; have hfz12_8 := blk_frozen BK167.out 8; have hfz12_9 := blk_frozen BK167.out 9; have hcz13_0 : w10.cell? ⟨gb168, 0, none⟩ = some (.int .i64 a1_0) := (blk_cell BK168.out 0).trans rfl; have hcz13_1 : w10.cell? ⟨gb168, 1, none⟩ = some (.int .i64 a1_1) := (blk_cell BK168.out 1).trans rfl; have hcz13_2 : w10.cell? ⟨gb168, 2, none⟩ = some (.int .i64 a1_2) := (blk_cell BK168.out 2).trans rfl; have hcz13_3 : w10.cell? ⟨gb168, 3, none⟩ = some (.string a1_3) := (blk_cell BK168.out 3).trans rfl; have hcz13_4 : w10.cell? ⟨gb168, 4, none⟩ = some (.string a1_4) := (blk_cell BK168.out 4).trans rfl; have hcz13_5 : w10.cell? ⟨gb168, 5, none⟩ = some (.int .i64 a1_5) := (blk_cell BK168.out 5).trans rfl; have hcz13_6 : w10.cell? ⟨gb168, 6, none⟩ = some (.int .u64 a1_6) := (blk_cell BK168.out 6).trans rfl; have hcz13_7 : w10.cell? ⟨gb168, 7, none⟩ = some (.int .u64 a1_7) := (blk_cell BK168.out 7).trans rfl; have hcz13_8 : w10.cell? ⟨gb168, 8, none⟩ = some (.bool a1_8) := (blk_cell BK168.out 8).trans rfl; have hcz13_9 : w10.cell? ⟨gb168, 9, none⟩ = some (.slice A1_9 l1_9.length c1_9) := (blk_cell BK168.out 9).trans rfl; have hfz13_0 := blk_frozen BK168.out 0; have hfz13_1 := blk_frozen BK168.out 1; have hfz13_2 := blk_frozen BK168.out 2; have hfz13_3 := blk_frozen BK168.out 3; have hfz13_4 := blk_frozen BK168.out 4; have hfz13_5 := blk_frozen BK168.out 5; have hfz13_6 := blk_frozen BK168.out 6; have hfz13_7 := blk_frozen BK168.out 7; have hfz13_8 := blk_frozen BK168.out 8; have hfz13_9 := blk_frozen BK168.out 9) | (go_at_call 26; (with_reducible refine (EqualFunc_Same.calls _ _ l0_9 _ _ l1_9  t169 _ ?side1 ?side2 ?side3 ?side4 A8.out).mono ?_); (case side1 => exact (Kd.C_below HR0_9.out HB.out)); (case side2 => exact HC0_9.out); (case side3 => exact (Kd.C_below HR1_9.out HB.out)); (case side4 => exact HC1_9.out); rintro e w14 ⟨rfl, hb⟩; replace BK167 := bk1 BK167 hb; replace BK168 := bk1 BK168 hb; replace HB := hb1 HB hb; (try clear hb)))
      go_ret
      exact ⟨by rfl, by repeat (with_reducible exact HB.out)⟩
     ·rw [if_neg c7] at H
      have c7b0 : (a0_8 == a1_8) = false := by simpa using c7
      (try (have c7b1 : decide (a0_8 = a1_8) = false := by simpa using c7))
      (try (have c7b2 : (a0_8 == a1_8) = false := by simpa using c7))
      (try (have c7b3 : ¬ (a0_8 = a1_8) := by simpa using c7))
      clear c7
      obtain rfl := Option.some.inj H
      go_enter Try.func14, Try.ntmps14
      go_wp2_with (first | (refine boxA HB 2 #[.int .i64 a0_0, .int .i64 a0_1, .int .i64 a0_2, .string a0_3, .string a0_4, .int .i64 a0_5, .int .u64 a0_6, .int .u64 a0_7, .bool a0_8, .slice A0_9 l0_9.length c0_9] 27 ?_; clear HB; intro gb167 w15 BK167 GE167 hg hb HB; clear hb hg) | (refine boxA HB 3 #[.int .i64 a1_0, .int .i64 a1_1, .int .i64 a1_2, .string a1_3, .string a1_4, .int .i64 a1_5, .int .u64 a1_6, .int .u64 a1_7, .bool a1_8, .slice A1_9 l1_9.length c1_9] 27 ?_; clear HB; intro gb168 w16 BK168 GE168 hg hb HB; have NB167_168 := nbA BK167 hg; have NB168_167 := nbB BK167 hg; replace BK167 := bk1 BK167 hb; clear hb hg; have hnb17 := NB167_168.out; have hnc17 := NB168_167.out; have hcz18_0 : w16.cell? ⟨gb167, 0, none⟩ = some (.int .i64 a0_0) := (blk_cell BK167.out 0).trans rfl; have hcz18_1 : w16.cell? ⟨gb167, 1, none⟩ = some (.int .i64 a0_1) := (blk_cell BK167.out 1).trans rfl; have hcz18_2 : w16.cell? ⟨gb167, 2, none⟩ = some (.int .i64 a0_2) := (blk_cell BK167.out 2).trans rfl; have hcz18_3 : w16.cell? ⟨gb167, 3, none⟩ = some (.string a0_3) := (blk_cell BK167.out 3).trans rfl; have hcz18_4 : w16.cell? ⟨gb167, 4, none⟩ = some (.string a0_4) := (blk_cell BK167.out 4).trans rfl; have hcz18_5 : w16.cell? ⟨gb167, 5, none⟩ = some (.int .i64 a0_5) := (blk_cell BK167.out 5).trans rfl; have hcz18_6 : w16.cell? ⟨gb167, 6, none⟩ = some (.int .u64 a0_6) := (blk_cell BK167.out 6).trans rfl; have hcz18_7 : w16.cell? ⟨gb167, 7, none⟩ = some (.int .u64 a0_7) := (blk_cell BK167.out 7).trans rfl; have hcz18_8 : w16.cell? ⟨gb167, 8, none⟩ = some (.bool a0_8) := (blk_cell BK167.out 8).trans rfl; have hcz18_9 : w16.cell? ⟨gb167, 9, none⟩ = some (.slice A0_9 l0_9.length c0_9) := (blk_cell BK167.out 9).trans rfl; have hfz18_0 := blk_frozen BK167.out 0; have hfz18_1 := blk_frozen BK167.out 1; have hfz18_2 := blk_frozen BK167.out 2; have hfz18_3 := blk_frozen BK167.out 3; have hfz18_4 := blk_frozen BK167.out 4; have hfz18_5 := blk_frozen BK167.out 5; have hfz18_6 := blk_frozen BK167.out 6; have hfz18_7 := blk_frozen BK167.out 7; have hfz18_8 := blk_frozen BK167.out 8; have hfz18_9 := blk_frozen BK167.out 9; have hcz19_0 : w16.cell? ⟨gb168, 0, none⟩ = some (.int .i64 a1_0) := (blk_cell BK168.out 0).trans rfl; have hcz19_1 : w16.cell? ⟨gb168, 1, none⟩ = some (.int .i64 a1_1) := (blk_cell BK168.out 1).trans rfl; have hcz19_2 : w16.cell? ⟨gb168, 2, none⟩ = some (.int .i64 a1_2) := (blk_cell BK168.out 2).trans rfl; have hcz19_3 : w16.cell? ⟨gb168, 3, none⟩ = some (.string a1_3) := (blk_cell BK168.out 3).trans rfl; have hcz19_4 : w16.cell? ⟨gb168, 4, none⟩ = some (.string a1_4) := (blk_cell BK168.out 4).trans rfl; have hcz19_5 : w16.cell? ⟨gb168, 5, none⟩ = some (.int .i64 a1_5) := (blk_cell BK168.out 5).trans rfl; have hcz19_6 : w16.cell? ⟨gb168, 6, none⟩ = some (.int .u64 a1_6) := (blk_cell BK168.out 6).trans rfl; have hcz19_7 : w16.cell? ⟨gb168, 7, none⟩ = some (.int .u64 a1_7) := (blk_cell BK168.out 7).trans rfl; have hcz19_8 : w16.cell? ⟨gb168, 8, none⟩ = some (.bool a1_8) := (blk_cell BK168.out 8).trans rfl; have hcz19_9 : w16.cell? ⟨gb168, 9, none⟩ = some (.slice A1_9 l1_9.length c1_9) := (blk_cell BK168.out 9).trans rfl; have hfz19_0 := blk_frozen BK168.out 0; have hfz19_1 := blk_frozen BK168.out 1; have hfz19_2 := blk_frozen BK168.out 2; have hfz19_3 := blk_frozen BK168.out 3; have hfz19_4 := blk_frozen BK168.out 4; have hfz19_5 := blk_frozen BK168.out 5; have hfz19_6 := blk_frozen BK168.out 6; have hfz19_7 := blk_frozen BK168.out 7; have hfz19_8 := blk_frozen BK168.out 8; have hfz19_9 := blk_frozen BK168.out 9))
      go_ret
      exact ⟨by rfl, by repeat (with_reducible exact HB.out)⟩
    ·rw [if_neg c6] at H
     have c6b0 : (a0_5 == a1_5 && (a0_6 == a1_6 && (a0_7 == a1_7))) = false := by simpa using c6
     (try (have c6b1 : decide (a0_5 = a1_5 && (a0_6 == a1_6 && (a0_7 == a1_7))) = false := by simpa using c6))
     (try (have c6b2 : (a0_5 == a1_5 && (a0_6 == a1_6 && (a0_7 == a1_7))) = false := by simpa using c6))
     (try (have c6b3 : ¬ (a0_5 = a1_5 && (a0_6 == a1_6 && (a0_7 == a1_7))) := by simpa using c6))
     clear c6
     obtain rfl := Option.some.inj H
     go_enter Try.func14, Try.ntmps14
     go_wp2_with (first | (refine boxA HB 2 #[.int .i64 a0_0, .int .i64 a0_1, .int .i64 a0_2, .string a0_3, .string a0_4, .int .i64 a0_5, .int .u64 a0_6, .int .u64 a0_7, .bool a0_8, .slice A0_9 l0_9.length c0_9] 27 ?_; clear HB; intro gb167 w20 BK167 GE167 hg hb HB; clear hb hg) | (refine boxA HB 3 #[.int .i64 a1_0, .int .i64 a1_1, .int .i64 a1_2, .string a1_3, .string a1_4, .int .i64 a1_5, .int .u64 a1_6, .int .u64 a1_7, .bool a1_8, .slice A1_9 l1_9.length c1_9] 27 ?_; clear HB; intro gb168 w21 BK168 GE168 hg hb HB; have NB167_168 := nbA BK167 hg; have NB168_167 := nbB BK167 hg; replace BK167 := bk1 BK167 hb; clear hb hg; have hnb22 := NB167_168.out; have hnc22 := NB168_167.out; have hcz23_0 : w21.cell? ⟨gb167, 0, none⟩ = some (.int .i64 a0_0) := (blk_cell BK167.out 0).trans rfl; have hcz23_1 : w21.cell? ⟨gb167, 1, none⟩ = some (.int .i64 a0_1) := (blk_cell BK167.out 1).trans rfl; have hcz23_2 : w21.cell? ⟨gb167, 2, none⟩ = some (.int .i64 a0_2) := (blk_cell BK167.out 2).trans rfl; have hcz23_3 : w21.cell? ⟨gb167, 3, none⟩ = some (.string a0_3) := (blk_cell BK167.out 3).trans rfl; have hcz23_4 : w21.cell? ⟨gb167, 4, none⟩ = some (.string a0_4) := (blk_cell BK167.out 4).trans rfl; have hcz23_5 : w21.cell? ⟨gb167, 5, none⟩ = some (.int .i64 a0_5) := (blk_cell BK167.out 5).trans rfl; have hcz23_6 : w21.cell? ⟨gb167, 6, none⟩ = some (.int .u64 a0_6) := (blk_cell BK167.out 6).trans rfl; have hcz23_7 : w21.cell? ⟨gb167, 7, none⟩ = some (.int .u64 a0_7) := (blk_cell BK167.out 7).trans rfl; have hcz23_8 : w21.cell? ⟨gb167, 8, none⟩ = some (.bool a0_8) := (blk_cell BK167.out 8).trans rfl; have hcz23_9 : w21.cell? ⟨gb167, 9, none⟩ = some (.slice A0_9 l0_9.length c0_9) := (blk_cell BK167.out 9).trans rfl; have hfz23_0 := blk_frozen BK167.out 0; have hfz23_1 := blk_frozen BK167.out 1; have hfz23_2 := blk_frozen BK167.out 2; have hfz23_3 := blk_frozen BK167.out 3; have hfz23_4 := blk_frozen BK167.out 4; have hfz23_5 := blk_frozen BK167.out 5; have hfz23_6 := blk_frozen BK167.out 6; have hfz23_7 := blk_frozen BK167.out 7; have hfz23_8 := blk_frozen BK167.out 8; have hfz23_9 := blk_frozen BK167.out 9; have hcz24_0 : w21.cell? ⟨gb168, 0, none⟩ = some (.int .i64 a1_0) := (blk_cell BK168.out 0).trans rfl; have hcz24_1 : w21.cell? ⟨gb168, 1, none⟩ = some (.int .i64 a1_1) := (blk_cell BK168.out 1).trans rfl; have hcz24_2 : w21.cell? ⟨gb168, 2, none⟩ = some (.int .i64 a1_2) := (blk_cell BK168.out 2).trans rfl; have hcz24_3 : w21.cell? ⟨gb168, 3, none⟩ = some (.string a1_3) := (blk_cell BK168.out 3).trans rfl; have hcz24_4 : w21.cell? ⟨gb168, 4, none⟩ = some (.string a1_4) := (blk_cell BK168.out 4).trans rfl; have hcz24_5 : w21.cell? ⟨gb168, 5, none⟩ = some (.int .i64 a1_5) := (blk_cell BK168.out 5).trans rfl; have hcz24_6 : w21.cell? ⟨gb168, 6, none⟩ = some (.int .u64 a1_6) := (blk_cell BK168.out 6).trans rfl; have hcz24_7 : w21.cell? ⟨gb168, 7, none⟩ = some (.int .u64 a1_7) := (blk_cell BK168.out 7).trans rfl; have hcz24_8 : w21.cell? ⟨gb168, 8, none⟩ = some (.bool a1_8) := (blk_cell BK168.out 8).trans rfl; have hcz24_9 : w21.cell? ⟨gb168, 9, none⟩ = some (.slice A1_9 l1_9.length c1_9) := (blk_cell BK168.out 9).trans rfl; have hfz24_0 := blk_frozen BK168.out 0; have hfz24_1 := blk_frozen BK168.out 1; have hfz24_2 := blk_frozen BK168.out 2; have hfz24_3 := blk_frozen BK168.out 3; have hfz24_4 := blk_frozen BK168.out 4; have hfz24_5 := blk_frozen BK168.out 5; have hfz24_6 := blk_frozen BK168.out 6; have hfz24_7 := blk_frozen BK168.out 7; have hfz24_8 := blk_frozen BK168.out 8; have hfz24_9 := blk_frozen BK168.out 9))
     go_ret
     exact ⟨by rfl, by repeat (with_reducible exact HB.out)⟩
   ·obtain rfl := Option.some.inj H
    go_enter Try.func14, Try.ntmps14
    go_wp2_with (first | (refine boxA HB 2 #[.int .i64 a0_0, .int .i64 a0_1, .int .i64 a0_2, .string a0_3, .string a0_4, .int .i64 a0_5, .int .u64 a0_6, .int .u64 a0_7, .bool a0_8, .slice A0_9 l0_9.length c0_9] 27 ?_; clear HB; intro gb167 w25 BK167 GE167 hg hb HB; clear hb hg) | (refine boxA HB 3 #[.int .i64 a1_0, .int .i64 a1_1, .int .i64 a1_2, .string a1_3, .string a1_4, .int .i64 a1_5, .int .u64 a1_6, .int .u64 a1_7, .bool a1_8, .slice A1_9 l1_9.length c1_9] 27 ?_; clear HB; intro gb168 w26 BK168 GE168 hg hb HB; have NB167_168 := nbA BK167 hg; have NB168_167 := nbB BK167 hg; replace BK167 := bk1 BK167 hb; clear hb hg; have hnb27 := NB167_168.out; have hnc27 := NB168_167.out; have hcz28_0 : w26.cell? ⟨gb167, 0, none⟩ = some (.int .i64 a0_0) := (blk_cell BK167.out 0).trans rfl; have hcz28_1 : w26.cell? ⟨gb167, 1, none⟩ = some (.int .i64 a0_1) := (blk_cell BK167.out 1).trans rfl; have hcz28_2 : w26.cell? ⟨gb167, 2, none⟩ = some (.int .i64 a0_2) := (blk_cell BK167.out 2).trans rfl; have hcz28_3 : w26.cell? ⟨gb167, 3, none⟩ = some (.string a0_3) := (blk_cell BK167.out 3).trans rfl; have hcz28_4 : w26.cell? ⟨gb167, 4, none⟩ = some (.string a0_4) := (blk_cell BK167.out 4).trans rfl; have hcz28_5 : w26.cell? ⟨gb167, 5, none⟩ = some (.int .i64 a0_5) := (blk_cell BK167.out 5).trans rfl; have hcz28_6 : w26.cell? ⟨gb167, 6, none⟩ = some (.int .u64 a0_6) := (blk_cell BK167.out 6).trans rfl; have hcz28_7 : w26.cell? ⟨gb167, 7, none⟩ = some (.int .u64 a0_7) := (blk_cell BK167.out 7).trans rfl; have hcz28_8 : w26.cell? ⟨gb167, 8, none⟩ = some (.bool a0_8) := (blk_cell BK167.out 8).trans rfl; have hcz28_9 : w26.cell? ⟨gb167, 9, none⟩ = some (.slice A0_9 l0_9.length c0_9) := (blk_cell BK167.out 9).trans rfl; have hfz28_0 := blk_frozen BK167.out 0; have hfz28_1 := blk_frozen BK167.out 1; have hfz28_2 := blk_frozen BK167.out 2; have hfz28_3 := blk_frozen BK167.out 3; have hfz28_4 := blk_frozen BK167.out 4; have hfz28_5 := blk_frozen BK167.out 5; have hfz28_6 := blk_frozen BK167.out 6; have hfz28_7 := blk_frozen BK167.out 7; have hfz28_8 := blk_frozen BK167.out 8; have hfz28_9 := blk_frozen BK167.out 9; have hcz29_0 : w26.cell? ⟨gb168, 0, none⟩ = some (.int .i64 a1_0) := (blk_cell BK168.out 0).trans rfl; have hcz29_1 : w26.cell? ⟨gb168, 1, none⟩ = some (.int .i64 a1_1) := (blk_cell BK168.out 1).trans rfl; have hcz29_2 : w26.cell? ⟨gb168, 2, none⟩ = some (.int .i64 a1_2) := (blk_cell BK168.out 2).trans rfl; have hcz29_3 : w26.cell? ⟨gb168, 3, none⟩ = some (.string a1_3) := (blk_cell BK168.out 3).trans rfl; have hcz29_4 : w26.cell? ⟨gb168, 4, none⟩ = some (.string a1_4) := (blk_cell BK168.out 4).trans rfl; have hcz29_5 : w26.cell? ⟨gb168, 5, none⟩ = some (.int .i64 a1_5) := (blk_cell BK168.out 5).trans rfl; have hcz29_6 : w26.cell? ⟨gb168, 6, none⟩ = some (.int .u64 a1_6) := (blk_cell BK168.out 6).trans rfl; have hcz29_7 : w26.cell? ⟨gb168, 7, none⟩ = some (.int .u64 a1_7) := (blk_cell BK168.out 7).trans rfl; have hcz29_8 : w26.cell? ⟨gb168, 8, none⟩ = some (.bool a1_8) := (blk_cell BK168.out 8).trans rfl; have hcz29_9 : w26.cell? ⟨gb168, 9, none⟩ = some (.slice A1_9 l1_9.length c1_9) := (blk_cell BK168.out 9).trans rfl; have hfz29_0 := blk_frozen BK168.out 0; have hfz29_1 := blk_frozen BK168.out 1; have hfz29_2 := blk_frozen BK168.out 2; have hfz29_3 := blk_frozen BK168.out 3; have hfz29_4 := blk_frozen BK168.out 4; have hfz29_5 := blk_frozen BK168.out 5; have hfz29_6 := blk_frozen BK168.out 6; have hfz29_7 := blk_frozen BK168.out 7; have hfz29_8 := blk_frozen BK168.out 8; have hfz29_9 := blk_frozen BK168.out 9))
    go_ret
    exact ⟨by rfl, by repeat (with_reducible exact HB.out)⟩
  ·obtain rfl := Option.some.inj H
   go_enter Try.func14, Try.ntmps14
   go_wp2_with (first | (refine boxA HB 2 #[.int .i64 a0_0, .int .i64 a0_1, .int .i64 a0_2, .string a0_3, .string a0_4, .int .i64 a0_5, .int .u64 a0_6, .int .u64 a0_7, .bool a0_8, .slice A0_9 l0_9.length c0_9] 27 ?_; clear HB; intro gb167 w30 BK167 GE167 hg hb HB; clear hb hg) | (refine boxA HB 3 #[.int .i64 a1_0, .int .i64 a1_1, .int .i64 a1_2, .string a1_3, .string a1_4, .int .i64 a1_5, .int .u64 a1_6, .int .u64 a1_7, .bool a1_8, .slice A1_9 l1_9.length c1_9] 27 ?_; clear HB; intro gb168 w31 BK168 GE168 hg hb HB; have NB167_168 := nbA BK167 hg; have NB168_167 := nbB BK167 hg; replace BK167 := bk1 BK167 hb; clear hb hg; have hnb32 := NB167_168.out; have hnc32 := NB168_167.out; have hcz33_0 : w31.cell? ⟨gb167, 0, none⟩ = some (.int .i64 a0_0) := (blk_cell BK167.out 0).trans rfl; have hcz33_1 : w31.cell? ⟨gb167, 1, none⟩ = some (.int .i64 a0_1) := (blk_cell BK167.out 1).trans rfl; have hcz33_2 : w31.cell? ⟨gb167, 2, none⟩ = some (.int .i64 a0_2) := (blk_cell BK167.out 2).trans rfl; have hcz33_3 : w31.cell? ⟨gb167, 3, none⟩ = some (.string a0_3) := (blk_cell BK167.out 3).trans rfl; have hcz33_4 : w31.cell? ⟨gb167, 4, none⟩ = some (.string a0_4) := (blk_cell BK167.out 4).trans rfl; have hcz33_5 : w31.cell? ⟨gb167, 5, none⟩ = some (.int .i64 a0_5) := (blk_cell BK167.out 5).trans rfl; have hcz33_6 : w31.cell? ⟨gb167, 6, none⟩ = some (.int .u64 a0_6) := (blk_cell BK167.out 6).trans rfl; have hcz33_7 : w31.cell? ⟨gb167, 7, none⟩ = some (.int .u64 a0_7) := (blk_cell BK167.out 7).trans rfl; have hcz33_8 : w31.cell? ⟨gb167, 8, none⟩ = some (.bool a0_8) := (blk_cell BK167.out 8).trans rfl; have hcz33_9 : w31.cell? ⟨gb167, 9, none⟩ = some (.slice A0_9 l0_9.length c0_9) := (blk_cell BK167.out 9).trans rfl; have hfz33_0 := blk_frozen BK167.out 0; have hfz33_1 := blk_frozen BK167.out 1; have hfz33_2 := blk_frozen BK167.out 2; have hfz33_3 := blk_frozen BK167.out 3; have hfz33_4 := blk_frozen BK167.out 4; have hfz33_5 := blk_frozen BK167.out 5; have hfz33_6 := blk_frozen BK167.out 6; have hfz33_7 := blk_frozen BK167.out 7; have hfz33_8 := blk_frozen BK167.out 8; have hfz33_9 := blk_frozen BK167.out 9; have hcz34_0 : w31.cell? ⟨gb168, 0, none⟩ = some (.int .i64 a1_0) := (blk_cell BK168.out 0).trans rfl; have hcz34_1 : w31.cell? ⟨gb168, 1, none⟩ = some (.int .i64 a1_1) := (blk_cell BK168.out 1).trans rfl; have hcz34_2 : w31.cell? ⟨gb168, 2, none⟩ = some (.int .i64 a1_2) := (blk_cell BK168.out 2).trans rfl; have hcz34_3 : w31.cell? ⟨gb168, 3, none⟩ = some (.string a1_3) := (blk_cell BK168.out 3).trans rfl; have hcz34_4 : w31.cell? ⟨gb168, 4, none⟩ = some (.string a1_4) := (blk_cell BK168.out 4).trans rfl; have hcz34_5 : w31.cell? ⟨gb168, 5, none⟩ = some (.int .i64 a1_5) := (blk_cell BK168.out 5).trans rfl; have hcz34_6 : w31.cell? ⟨gb168, 6, none⟩ = some (.int .u64 a1_6) := (blk_cell BK168.out 6).trans rfl; have hcz34_7 : w31.cell? ⟨gb168, 7, none⟩ = some (.int .u64 a1_7) := (blk_cell BK168.out 7).trans rfl; have hcz34_8 : w31.cell? ⟨gb168, 8, none⟩ = some (.bool a1_8) := (blk_cell BK168.out 8).trans rfl; have hcz34_9 : w31.cell? ⟨gb168, 9, none⟩ = some (.slice A1_9 l1_9.length c1_9) := (blk_cell BK168.out 9).trans rfl; have hfz34_0 := blk_frozen BK168.out 0; have hfz34_1 := blk_frozen BK168.out 1; have hfz34_2 := blk_frozen BK168.out 2; have hfz34_3 := blk_frozen BK168.out 3; have hfz34_4 := blk_frozen BK168.out 4; have hfz34_5 := blk_frozen BK168.out 5; have hfz34_6 := blk_frozen BK168.out 6; have hfz34_7 := blk_frozen BK168.out 7; have hfz34_8 := blk_frozen BK168.out 8; have hfz34_9 := blk_frozen BK168.out 9))
   go_ret
   exact ⟨by rfl, by repeat (with_reducible exact HB.out)⟩
 ·obtain rfl := Option.some.inj H
  go_enter Try.func14, Try.ntmps14
  go_wp2_with (first | (refine boxA HB 2 #[.int .i64 a0_0, .int .i64 a0_1, .int .i64 a0_2, .string a0_3, .string a0_4, .int .i64 a0_5, .int .u64 a0_6, .int .u64 a0_7, .bool a0_8, .slice A0_9 l0_9.length c0_9] 27 ?_; clear HB; intro gb167 w35 BK167 GE167 hg hb HB; clear hb hg) | (refine boxA HB 3 #[.int .i64 a1_0, .int .i64 a1_1, .int .i64 a1_2, .string a1_3, .string a1_4, .int .i64 a1_5, .int .u64 a1_6, .int .u64 a1_7, .bool a1_8, .slice A1_9 l1_9.length c1_9] 27 ?_; clear HB; intro gb168 w36 BK168 GE168 hg hb HB; have NB167_168 := nbA BK167 hg; have NB168_167 := nbB BK167 hg; replace BK167 := bk1 BK167 hb; clear hb hg; have hnb37 := NB167_168.out; have hnc37 := NB168_167.out; have hcz38_0 : w36.cell? ⟨gb167, 0, none⟩ = some (.int .i64 a0_0) := (blk_cell BK167.out 0).trans rfl; have hcz38_1 : w36.cell? ⟨gb167, 1, none⟩ = some (.int .i64 a0_1) := (blk_cell BK167.out 1).trans rfl; have hcz38_2 : w36.cell? ⟨gb167, 2, none⟩ = some (.int .i64 a0_2) := (blk_cell BK167.out 2).trans rfl; have hcz38_3 : w36.cell? ⟨gb167, 3, none⟩ = some (.string a0_3) := (blk_cell BK167.out 3).trans rfl; have hcz38_4 : w36.cell? ⟨gb167, 4, none⟩ = some (.string a0_4) := (blk_cell BK167.out 4).trans rfl; have hcz38_5 : w36.cell? ⟨gb167, 5, none⟩ = some (.int .i64 a0_5) := (blk_cell BK167.out 5).trans rfl; have hcz38_6 : w36.cell? ⟨gb167, 6, none⟩ = some (.int .u64 a0_6) := (blk_cell BK167.out 6).trans rfl; have hcz38_7 : w36.cell? ⟨gb167, 7, none⟩ = some (.int .u64 a0_7) := (blk_cell BK167.out 7).trans rfl; have hcz38_8 : w36.cell? ⟨gb167, 8, none⟩ = some (.bool a0_8) := (blk_cell BK167.out 8).trans rfl; have hcz38_9 : w36.cell? ⟨gb167, 9, none⟩ = some (.slice A0_9 l0_9.length c0_9) := (blk_cell BK167.out 9).trans rfl; have hfz38_0 := blk_frozen BK167.out 0; have hfz38_1 := blk_frozen BK167.out 1; have hfz38_2 := blk_frozen BK167.out 2; have hfz38_3 := blk_frozen BK167.out 3; have hfz38_4 := blk_frozen BK167.out 4; have hfz38_5 := blk_frozen BK167.out 5; have hfz38_6 := blk_frozen BK167.out 6; have hfz38_7 := blk_frozen BK167.out 7; have hfz38_8 := blk_frozen BK167.out 8; have hfz38_9 := blk_frozen BK167.out 9; have hcz39_0 : w36.cell? ⟨gb168, 0, none⟩ = some (.int .i64 a1_0) := (blk_cell BK168.out 0).trans rfl; have hcz39_1 : w36.cell? ⟨gb168, 1, none⟩ = some (.int .i64 a1_1) := (blk_cell BK168.out 1).trans rfl; have hcz39_2 : w36.cell? ⟨gb168, 2, none⟩ = some (.int .i64 a1_2) := (blk_cell BK168.out 2).trans rfl; have hcz39_3 : w36.cell? ⟨gb168, 3, none⟩ = some (.string a1_3) := (blk_cell BK168.out 3).trans rfl; have hcz39_4 : w36.cell? ⟨gb168, 4, none⟩ = some (.string a1_4) := (blk_cell BK168.out 4).trans rfl; have hcz39_5 : w36.cell? ⟨gb168, 5, none⟩ = some (.int .i64 a1_5) := (blk_cell BK168.out 5).trans rfl; have hcz39_6 : w36.cell? ⟨gb168, 6, none⟩ = some (.int .u64 a1_6) := (blk_cell BK168.out 6).trans rfl; have hcz39_7 : w36.cell? ⟨gb168, 7, none⟩ = some (.int .u64 a1_7) := (blk_cell BK168.out 7).trans rfl; have hcz39_8 : w36.cell? ⟨gb168, 8, none⟩ = some (.bool a1_8) := (blk_cell BK168.out 8).trans rfl; have hcz39_9 : w36.cell? ⟨gb168, 9, none⟩ = some (.slice A1_9 l1_9.length c1_9) := (blk_cell BK168.out 9).trans rfl; have hfz39_0 := blk_frozen BK168.out 0; have hfz39_1 := blk_frozen BK168.out 1; have hfz39_2 := blk_frozen BK168.out 2; have hfz39_3 := blk_frozen BK168.out 3; have hfz39_4 := blk_frozen BK168.out 4; have hfz39_5 := blk_frozen BK168.out 5; have hfz39_6 := blk_frozen BK168.out 6; have hfz39_7 := blk_frozen BK168.out 7; have hfz39_8 := blk_frozen BK168.out 8; have hfz39_9 := blk_frozen BK168.out 9))
  go_ret
  exact ⟨by rfl, by repeat (with_reducible exact HB.out)⟩
end Go.Proofs.Ytlamgdibnnmbmaa.PSyn
end
section
namespace Go.Proofs.Ytlamgdibnnmbmaa.PSyn
open Go.RowKit Go.Proofs.YtlamgdibnnmbmaaW.PrintWords Go.Proofs.YtlamgdibnnmbmaaW.PrintLast Go.Proofs.YtlamgdibnnmbmaaW.PrintMore
attribute [local go_sem] max2_int min2_int max_two min_two max_three min_three max_four min_four
set_option linter.unusedVariables false
set_option linter.unusedSimpArgs false
def masklaw1_treed.f (k : Nat)  : Option (Bool) := (syntax_CheckExpr.f k 79 0 0 (⟨#[113]⟩ : ByteArray) (⟨#[]⟩ : ByteArray) 0 0 0 false ([] : List (S27))).bind fun t170 => (if t170 = 0 then ((syntax_CheckExpr.f k 79 0 0 (⟨#[]⟩ : ByteArray) (⟨#[]⟩ : ByteArray) 0 0 0 false ([] : List (S27))).bind fun t171 => (if t171 = 4 then ((syntax_Same.f 121 3 0 (⟨#[]⟩ : ByteArray) (⟨#[]⟩ : ByteArray) 0 0 0 false ([] : List (S27)) 121 0 0 (⟨#[]⟩ : ByteArray) (⟨#[]⟩ : ByteArray) 0 0 0 false ([] : List (S27))).bind fun t172 => (some t172)) else (some false))) else (some false))
theorem masklaw1_treed.mono : ∀ k, LeO (masklaw1_treed.f k ) (masklaw1_treed.f (k + 1) ) := by
 intro  k
 unfold masklaw1_treed.f
 repeat' first | with_reducible exact syntax_CheckExpr.mono _ _ _ _ _ _ _ _ _ _ _ | with_reducible exact LeO.refl _ | with_reducible exact LeO.none _ | with_reducible refine LeO.ite ?_ ?_ | with_reducible refine LeO.bind ?_ (fun _ => ?_)
set_option maxHeartbeats 8000000 in
set_option maxRecDepth 100000 in
theorem masklaw1_treed.calls (k : Nat)  (r : Bool) (w : World) (h : masklaw1_treed.f k  = some r) :
  Calls Try.prog 7 #[] w fun e w' => e = .returned (.bool r) ∧ Below w.heap.size w w' := by
 have hu27 := Try.underlying27
 have HB := Aside0.mk (Below.refl w.heap.size w)
 have H := h
 clear h
 unfold masklaw1_treed.f at H
 replace H := bN H; obtain ⟨t170, A1, H⟩ := H
 replace H := iE H; rcases H with ⟨c2b0, c2b1, H⟩ | ⟨c2, c2b0, c2b1, H⟩
 ·replace H := bN H; obtain ⟨t171, A3, H⟩ := H
  replace H := iE H; rcases H with ⟨c4b0, c4b1, H⟩ | ⟨c4, c4b0, c4b1, H⟩
  ·replace H := bN H; obtain ⟨t172, A5, H⟩ := H
   obtain rfl := Option.some.inj H
   go_enter Try.func7, Try.ntmps7
   go_wp2_with (first | (refine callA (some 2) Try.func8 #[.agg #[.int .i64 79, .int .i64 0, .int .i64 0, .string (⟨#[113]⟩ : ByteArray), .string (⟨#[]⟩ : ByteArray), .int .i64 0, .int .u64 0, .int .u64 0, .bool false, .slice none 0 0]] ?_; (refine (syntax_CheckExpr.calls k 79 0 0 (⟨#[113]⟩ : ByteArray) (⟨#[]⟩ : ByteArray) 0 0 0 false _ _ ([] : List (S27)) t170 _ ?side1 ?side2 A1.out).mono ?_); (case side1 => exact Kd.C_nil _ _); (case side2 => exact Nat.le_refl _); rintro e w6 ⟨rfl, hb⟩; refine ⟨_, rfl, ?_⟩; replace HB := hb1 HB hb; (try clear hb)) | (go_at_call 8; (refine (syntax_CheckExpr.calls k 79 0 0 (⟨#[]⟩ : ByteArray) (⟨#[]⟩ : ByteArray) 0 0 0 false _ _ ([] : List (S27)) t171 _ ?side1 ?side2 A3.out).mono ?_); (case side1 => exact Kd.C_nil _ _); (case side2 => exact Nat.le_refl _); rintro e w7 ⟨rfl, hb⟩; replace HB := hb1 HB hb; (try clear hb)) | (go_at_call 14; (refine (syntax_Same.calls 121 3 0 (⟨#[]⟩ : ByteArray) (⟨#[]⟩ : ByteArray) 0 0 0 false _ _ ([] : List (S27)) 121 0 0 (⟨#[]⟩ : ByteArray) (⟨#[]⟩ : ByteArray) 0 0 0 false _ _ ([] : List (S27)) t172 _ ?side1 ?side2 ?side3 ?side4 A5.out).mono ?_); (case side1 => exact Kd.C_nil _ _); (case side2 => exact Nat.le_refl _); (case side3 => exact Kd.C_nil _ _); (case side4 => exact Nat.le_refl _); rintro e w8 ⟨rfl, hb⟩; replace HB := hb1 HB hb; (try clear hb)))
   go_ret
   exact ⟨by rfl, by repeat (with_reducible exact HB.out)⟩
  ·obtain rfl := Option.some.inj H
   go_enter Try.func7, Try.ntmps7
   go_wp2_with (first | (refine callA (some 2) Try.func8 #[.agg #[.int .i64 79, .int .i64 0, .int .i64 0, .string (⟨#[113]⟩ : ByteArray), .string (⟨#[]⟩ : ByteArray), .int .i64 0, .int .u64 0, .int .u64 0, .bool false, .slice none 0 0]] ?_; (refine (syntax_CheckExpr.calls k 79 0 0 (⟨#[113]⟩ : ByteArray) (⟨#[]⟩ : ByteArray) 0 0 0 false _ _ ([] : List (S27)) t170 _ ?side1 ?side2 A1.out).mono ?_); (case side1 => exact Kd.C_nil _ _); (case side2 => exact Nat.le_refl _); rintro e w9 ⟨rfl, hb⟩; refine ⟨_, rfl, ?_⟩; replace HB := hb1 HB hb; (try clear hb)) | (go_at_call 8; (refine (syntax_CheckExpr.calls k 79 0 0 (⟨#[]⟩ : ByteArray) (⟨#[]⟩ : ByteArray) 0 0 0 false _ _ ([] : List (S27)) t171 _ ?side1 ?side2 A3.out).mono ?_); (case side1 => exact Kd.C_nil _ _); (case side2 => exact Nat.le_refl _); rintro e w10 ⟨rfl, hb⟩; replace HB := hb1 HB hb; (try clear hb)))
   go_ret
   exact ⟨by rfl, by repeat (with_reducible exact HB.out)⟩
 ·obtain rfl := Option.some.inj H
  go_enter Try.func7, Try.ntmps7
  go_wp2_with ((refine callA (some 2) Try.func8 #[.agg #[.int .i64 79, .int .i64 0, .int .i64 0, .string (⟨#[113]⟩ : ByteArray), .string (⟨#[]⟩ : ByteArray), .int .i64 0, .int .u64 0, .int .u64 0, .bool false, .slice none 0 0]] ?_; (refine (syntax_CheckExpr.calls k 79 0 0 (⟨#[113]⟩ : ByteArray) (⟨#[]⟩ : ByteArray) 0 0 0 false _ _ ([] : List (S27)) t170 _ ?side1 ?side2 A1.out).mono ?_); (case side1 => exact Kd.C_nil _ _); (case side2 => exact Nat.le_refl _); rintro e w11 ⟨rfl, hb⟩; refine ⟨_, rfl, ?_⟩; replace HB := hb1 HB hb; (try clear hb)))
  go_ret
  exact ⟨by rfl, by repeat (with_reducible exact HB.out)⟩
end Go.Proofs.Ytlamgdibnnmbmaa.PSyn
end
section
namespace Go.Proofs.Ytlamgdibnnmbmaa.PSyn
open Go.RowKit Go.Proofs.YtlamgdibnnmbmaaW.PrintWords Go.Proofs.YtlamgdibnnmbmaaW.PrintLast Go.Proofs.YtlamgdibnnmbmaaW.PrintMore
attribute [local go_sem] max2_int min2_int max_two min_two max_three min_three max_four min_four
set_option linter.unusedVariables false
set_option linter.unusedSimpArgs false
def maskref1_TreeFault.j0 : Nat → ByteArray → Bool → Int → Int → Int → ByteArray → ByteArray → Int → Int → Int → Bool → List (S27) → Option (Int)
 | 0, _, _, _, _, _, _, _, _, _, _, _, _ => none
 | k + 1, x1, x17, x249000, x249001, x249002, x249003, x249004, x249005, x249006, x249007, x249008, x249009 => if x17 = true then (some 3) else ((maskref1_forms.f k).bind fun t251 => ((maskref1_nodeFault.f k t251 x249000 x249001 x249002 x249003 x249004 x249005 x249006 x249007 x249008 x249009 x1).bind fun t254 => (some t254)))
def maskref1_TreeFault.f (k : Nat) (a0_0 : Int) (a0_1 : Int) (a0_2 : Int) (a0_3 : ByteArray) (a0_4 : ByteArray) (a0_5 : Int) (a0_6 : Int) (a0_7 : Int) (a0_8 : Bool) (l0_9 : List (S27)) (a1 : ByteArray) : Option (Int) := (maskref1_Weigh.f k a0_0 a0_1 a0_2 a0_3 a0_4 a0_5 a0_6 a0_7 a0_8 l0_9).bind fun bt249 => (if bt249.1 > 4000 then (maskref1_TreeFault.j0 k a1 true a0_0 a0_1 a0_2 a0_3 a0_4 a0_5 a0_6 a0_7 a0_8 l0_9) else (maskref1_TreeFault.j0 k a1 (decide (bt249.2 > 60)) a0_0 a0_1 a0_2 a0_3 a0_4 a0_5 a0_6 a0_7 a0_8 l0_9))
set_option maxHeartbeats 8000000 in
set_option maxRecDepth 100000 in
theorem maskref1_TreeFault.calls (k : Nat) (a0_0 : Int) (a0_1 : Int) (a0_2 : Int) (a0_3 : ByteArray) (a0_4 : ByteArray) (a0_5 : Int) (a0_6 : Int) (a0_7 : Int) (a0_8 : Bool) (A0_9 : Option Addr) (c0_9 : Nat) (l0_9 : List (S27)) (a1 : ByteArray) (r : Int) (w : World) (hr0_9 : Kd.C k27 w A0_9 l0_9.length l0_9) (hc0_9 : l0_9.length ≤ c0_9) (h : maskref1_TreeFault.f k a0_0 a0_1 a0_2 a0_3 a0_4 a0_5 a0_6 a0_7 a0_8 l0_9 a1 = some r) :
  Calls Try.prog 9 #[.agg #[.int .i64 a0_0, .int .i64 a0_1, .int .i64 a0_2, .string a0_3, .string a0_4, .int .i64 a0_5, .int .u64 a0_6, .int .u64 a0_7, .bool a0_8, .slice A0_9 l0_9.length c0_9], .string a1] w fun e w' => e = .returned (.int .i64 r) ∧ Below w.heap.size w w' := by
 have hu27 := Try.underlying27
 have HR0_9 := Aside0.mk hr0_9
 have HC0_9 := Aside0.mk hc0_9
 clear hr0_9 hc0_9
 have HB := Aside0.mk (Below.refl w.heap.size w)
 have H := h
 clear h
 unfold maskref1_TreeFault.f at H
 replace H := bN H; obtain ⟨⟨t249, t250⟩, A3, H⟩ := H; dsimp only at H
 have HC4 := Aside0.mk H
 clear H
 go_enter Try.func9, Try.ntmps9
 go_upto_region 2 with (first | (refine boxA HB 2 #[.int .i64 a0_0, .int .i64 a0_1, .int .i64 a0_2, .string a0_3, .string a0_4, .int .i64 a0_5, .int .u64 a0_6, .int .u64 a0_7, .bool a0_8, .slice A0_9 l0_9.length c0_9] 27 ?_; clear HB; intro gb248 w5 BK248 GE248 hg hb HB; clear hb hg; obtain ⟨hcz6_0, hcz6_1, hcz6_2, hcz6_3, hcz6_4, hcz6_5, hcz6_6, hcz6_7, hcz6_8, hcz6_9, hfz6_0, hfz6_1, hfz6_2, hfz6_3, hfz6_4, hfz6_5, hfz6_6, hfz6_7, hfz6_8, hfz6_9⟩ := cf10 BK248) | (refine callA (some 9) Try.func11 #[.agg #[.int .i64 a0_0, .int .i64 a0_1, .int .i64 a0_2, .string a0_3, .string a0_4, .int .i64 a0_5, .int .u64 a0_6, .int .u64 a0_7, .bool a0_8, .slice A0_9 l0_9.length c0_9]] ?_; (with_reducible refine (maskref1_Weigh.calls k a0_0 a0_1 a0_2 a0_3 a0_4 a0_5 a0_6 a0_7 a0_8 _ _ l0_9 t249 t250 _ ?side1 ?side2 A3.out).mono ?_); (case side1 => exact (Kd.C_below HR0_9.out HB.out)); (case side2 => exact HC0_9.out); rintro e w7 ⟨rfl, hb⟩; refine ⟨_, rfl, ?_⟩; replace BK248 := bk1 BK248 hb; replace HB := hb1 HB hb; (try clear hb)))
 go_cut [17] (fun v17 wc => ∃ (kq : Nat) (x17_3 : Bool), v17 = .bool x17_3 ∧ Aside0 (maskref1_TreeFault.j0 kq a1 x17_3 a0_0 a0_1 a0_2 a0_3 a0_4 a0_5 a0_6 a0_7 a0_8 l0_9 = some r) ∧ Aside0 (kq ≤ k) ∧ Aside0 (wc.heap[gb248]? = some (.cells #[.int .i64 a0_0, .int .i64 a0_1, .int .i64 a0_2, .string a0_3, .string a0_4, .int .i64 a0_5, .int .u64 a0_6, .int .u64 a0_7, .bool a0_8, (.slice A0_9 l0_9.length c0_9)] 27 (0, 0))) ∧ Aside0 (Below w.heap.size w wc))
 case first =>
  have H := HC4.out
  clear HC4
  replace H := iD H; rcases H with ⟨c8b0, H⟩ | ⟨c8b0, H⟩
  ·replace c8b0 : decide (4000 < t249) = true := c8b0
   (skip)
   have H' := Aside0.mk H
   clear H
   go_wp2
   go_meet
   case rel => exact ⟨_, (true), (by rfl), H', ⟨by omega⟩, ⟨by exact BK248.out⟩, ⟨by repeat (with_reducible exact HB.out)⟩⟩
  ·replace c8b0 : decide (4000 < t249) = false := c8b0
   (skip)
   have H' := Aside0.mk H
   clear H
   go_wp2
   go_meet
   case rel => exact ⟨_, (decide (t250 > 60)), (by rfl), H', ⟨by omega⟩, ⟨by exact BK248.out⟩, ⟨by repeat (with_reducible exact HB.out)⟩⟩
 case rest =>
  clear HC4
  (try clear hcz6_0 hcz6_1 hcz6_2 hcz6_3 hcz6_4 hcz6_5 hcz6_6 hcz6_7 hcz6_8 hcz6_9 hfz6_0 hfz6_1 hfz6_2 hfz6_3 hfz6_4 hfz6_5 hfz6_6 hfz6_7 hfz6_8 hfz6_9)
  obtain ⟨kq, x17_3, rfl, HA, HJ3, BK248, HB⟩ := hcut
  cases kq with
  | zero => exact absurd HA.out (by simp [maskref1_TreeFault.j0])
  | succ kj3 =>
   have H := HA.out
   clear HA
   simp only [maskref1_TreeFault.j0] at H
   replace H := iB H; rcases H with ⟨rfl, H⟩ | ⟨rfl, H⟩
   ·obtain rfl := Option.some.inj H
    go_wp2
    go_ret
    exact ⟨by rfl, by repeat (with_reducible exact HB.out)⟩
   ·replace H := bN H; obtain ⟨t251, A10, H⟩ := H
    replace H := bN H; obtain ⟨t254, A11, H⟩ := H
    obtain rfl := Option.some.inj H
    try go_wp2
    replace BK248 := bkd BK248
    replace HB := hbd HB
    refine start_ (n := 5) (S := fun w' => w'.cell? ⟨gb248, 0, none⟩ = some (.int .i64 a0_0) ∧ w'.cell? ⟨gb248, 1, none⟩ = some (.int .i64 a0_1) ∧ w'.cell? ⟨gb248, 2, none⟩ = some (.int .i64 a0_2) ∧ w'.cell? ⟨gb248, 3, none⟩ = some (.string a0_3) ∧ w'.cell? ⟨gb248, 4, none⟩ = some (.string a0_4) ∧ w'.cell? ⟨gb248, 5, none⟩ = some (.int .i64 a0_5) ∧ w'.cell? ⟨gb248, 6, none⟩ = some (.int .u64 a0_6) ∧ w'.cell? ⟨gb248, 7, none⟩ = some (.int .u64 a0_7) ∧ w'.cell? ⟨gb248, 8, none⟩ = some (.bool a0_8) ∧ w'.cell? ⟨gb248, 9, none⟩ = some (.slice A0_9 l0_9.length c0_9)) (ds := []) (tb 5 0) (by kernel_rfl) rfl (by kernel_rfl) ⟨(blk_cell BK248.out 0).trans rfl, (blk_cell BK248.out 1).trans rfl, (blk_cell BK248.out 2).trans rfl, (blk_cell BK248.out 3).trans rfl, (blk_cell BK248.out 4).trans rfl, (blk_cell BK248.out 5).trans rfl, (blk_cell BK248.out 6).trans rfl, (blk_cell BK248.out 7).trans rfl, (blk_cell BK248.out 8).trans rfl, (blk_cell BK248.out 9).trans rfl⟩ (fun hHeld => ?_)
    generalize wc.drew = w12 at BK248 HB hHeld ⊢
    refine pure_ (i := 2) (N := some 20) (v := ?_) (a' := ?_) #[false, false, true, false, false] rfl rfl (by kernel_rfl) (fun _ _ _ h => h) (Or.inl ⟨by rfl, ?_⟩) ?_ ?_
    rotate_left
    ·intro w'
     go_simp
     with_reducible rfl
    rotate_left
    ·simp only [Act.put, List.setIfInBounds_toArray, List.set_cons_zero, List.set_cons_succ, i64_w, i32_w]
     rfl
    refine take_ (i := 1) (N := some 19) (v := ?_) (a' := ?_) #[false, true, true, false, false] rfl rfl (by kernel_rfl) (fun _ _ _ h => h) (Or.inl ⟨by rfl, ?_⟩) hHeld ?_ ?_
    rotate_left
    ·rintro w' ⟨s0, s1, s2, s3, s4, s5, s6, s7, s8, s9⟩
     go_simp
     with_reducible rfl
    rotate_left
    ·simp only [Act.put, List.setIfInBounds_toArray, List.set_cons_zero, List.set_cons_succ, i64_w, i32_w]
     rfl
    refine one_ (i := 0) (N := some 18) #[true, true, true, false, false] rfl rfl (by kernel_rfl) (by decide) (fun K hK => ?_)
    refine gA Try.func25 #[] ?_
    with_reducible refine (maskref1_forms.calls kj3  t251 _ A10.out).mono ?_
    rintro e w13 ⟨v252, rfl, ho0, hb⟩
    refine ⟨_, rfl, ?_⟩
    have HO253 := Aside0.mk (Kd.R_lower ho0 (below_size HB.out))
    replace BK248 := bk1 BK248 hb
    replace HB := hb1 HB hb
    (try clear hb)
    (try clear ho0)
    obtain ⟨Ao14, co14, eo14⟩ := Kd.R_slice HO253.out
    (subst eo14)
    refine hK.out _ _ ⟨(blk_cell BK248.out 0).trans rfl, (blk_cell BK248.out 1).trans rfl, (blk_cell BK248.out 2).trans rfl, (blk_cell BK248.out 3).trans rfl, (blk_cell BK248.out 4).trans rfl, (blk_cell BK248.out 5).trans rfl, (blk_cell BK248.out 6).trans rfl, (blk_cell BK248.out 7).trans rfl, (blk_cell BK248.out 8).trans rfl, (blk_cell BK248.out 9).trans rfl⟩ (fun hHeld => ?_)
    clear hK K
    refine nA ?_
    refine one_ (i := 3) (N := some 21) #[true, true, true, true, false] rfl rfl (by kernel_rfl) (by decide) (fun K hK => ?_)
    refine gA Try.func24 #[.slice Ao14 t251.length co14, .agg #[.int .i64 a0_0, .int .i64 a0_1, .int .i64 a0_2, .string a0_3, .string a0_4, .int .i64 a0_5, .int .u64 a0_6, .int .u64 a0_7, .bool a0_8, .slice A0_9 l0_9.length c0_9], .string a1] ?_
    with_reducible refine (maskref1_nodeFault.calls kj3 _ _ t251 a0_0 a0_1 a0_2 a0_3 a0_4 a0_5 a0_6 a0_7 a0_8 _ _ l0_9 a1 t254 _ ?side1 ?side2 ?side3 ?side4 A11.out).mono ?_
    (case side1 => exact (Kd.R_reads' HO253.out).2.2)
    (case side2 => exact (Kd.R_reads' HO253.out).2.1)
    (case side3 => exact (Kd.C_below HR0_9.out HB.out))
    (case side4 => exact HC0_9.out)
    rintro e w15 ⟨rfl, hb⟩
    refine ⟨_, rfl, ?_⟩
    replace HO253 := Kd.rb1 HO253 hb
    replace BK248 := bk1 BK248 hb
    replace HB := hb1 HB hb
    (try clear hb)
    refine hK.out _ _ ⟨(blk_cell BK248.out 0).trans rfl, (blk_cell BK248.out 1).trans rfl, (blk_cell BK248.out 2).trans rfl, (blk_cell BK248.out 3).trans rfl, (blk_cell BK248.out 4).trans rfl, (blk_cell BK248.out 5).trans rfl, (blk_cell BK248.out 6).trans rfl, (blk_cell BK248.out 7).trans rfl, (blk_cell BK248.out 8).trans rfl, (blk_cell BK248.out 9).trans rfl⟩ (fun hHeld => ?_)
    clear hK K
    refine nA ?_
    refine pure_ (i := 4) (N := some 4) (v := ?_) (a' := ?_) #[true, true, true, true, true] rfl rfl (by kernel_rfl) (fun _ _ _ h => h) (Or.inl ⟨by rfl, ?_⟩) ?_ ?_
    rotate_left
    ·intro w'
     go_simp
     with_reducible rfl
    rotate_left
    ·simp only [Act.put, List.setIfInBounds_toArray, List.set_cons_zero, List.set_cons_succ, i64_w, i32_w]
     rfl
    refine done_ (by kernel_rfl) ?_
    try go_wp2
    go_ret
    exact ⟨by rfl, by repeat (with_reducible exact HB.out)⟩
end Go.Proofs.Ytlamgdibnnmbmaa.PSyn
end
section
namespace Go.Proofs.Ytlamgdibnnmbmaa.PSyn
open Go.RowKit Go.Proofs.YtlamgdibnnmbmaaW.PrintWords Go.Proofs.YtlamgdibnnmbmaaW.PrintLast Go.Proofs.YtlamgdibnnmbmaaW.PrintMore
attribute [local go_sem] max2_int min2_int max_two min_two max_three min_three max_four min_four
set_option linter.unusedVariables false
set_option linter.unusedSimpArgs false
def masklaw1_SyntaxExprs.f (k : Nat) (a0_0 : Int) (a0_1 : Int) (a0_2 : Int) (a0_3 : ByteArray) (a0_4 : ByteArray) (a0_5 : Int) (a0_6 : Int) (a0_7 : Int) (a0_8 : Bool) (l0_9 : List (S27)) : Option (Bool) := (masklaw1_treed.f k).bind fun t256 => (if t256 = true then ((syntax_CheckExpr.f k a0_0 a0_1 a0_2 a0_3 a0_4 a0_5 a0_6 a0_7 a0_8 l0_9).bind fun t257 => ((maskref1_TreeFault.f k a0_0 a0_1 a0_2 a0_3 a0_4 a0_5 a0_6 a0_7 a0_8 l0_9 (⟨#[69]⟩ : ByteArray)).bind fun t258 => (some (t257 == t258)))) else (some false))
def masklaw1_SyntaxExprs.T1 : Bool × List (List Nat × List Nat) := (true, [([], []), ([0, 0], [0]), ([1], [1]), ([2, 1, 1], [1, 2]), ([1], [1]), ([4, 3, 1], [1, 4]), ([3, 5, 1], [1, 3, 5]), ([1, 6], [1, 6]), ([7, 5, 0, 1, 2, 3, 4, 5, 6, 7], [7])])
def masklaw1_SyntaxExprs.B1 : List Nat := [0, 1, 3, 7, 3, 31, 63, 127, 255]
theorem masklaw1_SyntaxExprs.tab1 : rtab .any (opsOf Try.f3 1) = masklaw1_SyntaxExprs.T1 := by kernel_rfl
theorem masklaw1_SyntaxExprs.bits1 : waitsOk masklaw1_SyntaxExprs.T1.2 masklaw1_SyntaxExprs.B1 = true := by kernel_rfl
set_option maxHeartbeats 8000000 in
set_option maxRecDepth 100000 in
theorem masklaw1_SyntaxExprs.calls (k : Nat) (a0_0 : Int) (a0_1 : Int) (a0_2 : Int) (a0_3 : ByteArray) (a0_4 : ByteArray) (a0_5 : Int) (a0_6 : Int) (a0_7 : Int) (a0_8 : Bool) (A0_9 : Option Addr) (c0_9 : Nat) (l0_9 : List (S27)) (r : Bool) (w : World) (hr0_9 : Kd.C k27 w A0_9 l0_9.length l0_9) (hc0_9 : l0_9.length ≤ c0_9) (h : masklaw1_SyntaxExprs.f k a0_0 a0_1 a0_2 a0_3 a0_4 a0_5 a0_6 a0_7 a0_8 l0_9 = some r) :
  Calls Try.prog 3 #[.agg #[.int .i64 a0_0, .int .i64 a0_1, .int .i64 a0_2, .string a0_3, .string a0_4, .int .i64 a0_5, .int .u64 a0_6, .int .u64 a0_7, .bool a0_8, .slice A0_9 l0_9.length c0_9]] w fun e w' => e = .returned (.bool r) ∧ Below w.heap.size w w' := by
 have hu27 := Try.underlying27
 have HR0_9 := Aside0.mk hr0_9
 have HC0_9 := Aside0.mk hc0_9
 clear hr0_9 hc0_9
 have HB := Aside0.mk (Below.refl w.heap.size w)
 have H := h
 clear h
 unfold masklaw1_SyntaxExprs.f at H
 replace H := bN H; obtain ⟨t256, A2, H⟩ := H
 replace H := iB H; rcases H with ⟨rfl, H⟩ | ⟨rfl, H⟩
 ·replace H := bN H; obtain ⟨t257, A4, H⟩ := H
  replace H := bN H; obtain ⟨t258, A5, H⟩ := H
  obtain rfl := Option.some.inj H
  go_enter Try.func3, Try.ntmps3
  try go_wp2_with ((refine boxA HB 1 #[.int .i64 a0_0, .int .i64 a0_1, .int .i64 a0_2, .string a0_3, .string a0_4, .int .i64 a0_5, .int .u64 a0_6, .int .u64 a0_7, .bool a0_8, .slice A0_9 l0_9.length c0_9] 27 ?_; clear HB; intro gb255 w6 BK255 GE255 hg hb HB; clear hb hg))
  replace BK255 := bkd BK255
  replace HB := hbd HB
  refine start_ (n := 9) (S := fun w' => w'.cell? ⟨gb255, 0, none⟩ = some (.int .i64 a0_0) ∧ w'.cell? ⟨gb255, 1, none⟩ = some (.int .i64 a0_1) ∧ w'.cell? ⟨gb255, 2, none⟩ = some (.int .i64 a0_2) ∧ w'.cell? ⟨gb255, 3, none⟩ = some (.string a0_3) ∧ w'.cell? ⟨gb255, 4, none⟩ = some (.string a0_4) ∧ w'.cell? ⟨gb255, 5, none⟩ = some (.int .i64 a0_5) ∧ w'.cell? ⟨gb255, 6, none⟩ = some (.int .u64 a0_6) ∧ w'.cell? ⟨gb255, 7, none⟩ = some (.int .u64 a0_7) ∧ w'.cell? ⟨gb255, 8, none⟩ = some (.bool a0_8) ∧ w'.cell? ⟨gb255, 9, none⟩ = some (.slice A0_9 l0_9.length c0_9)) (ds := []) (tb 9 0) (by kernel_rfl) rfl (by kernel_rfl) ⟨(blk_cell BK255.out 0).trans rfl, (blk_cell BK255.out 1).trans rfl, (blk_cell BK255.out 2).trans rfl, (blk_cell BK255.out 3).trans rfl, (blk_cell BK255.out 4).trans rfl, (blk_cell BK255.out 5).trans rfl, (blk_cell BK255.out 6).trans rfl, (blk_cell BK255.out 7).trans rfl, (blk_cell BK255.out 8).trans rfl, (blk_cell BK255.out 9).trans rfl⟩ (fun hHeld => ?_); refine with_tabW masklaw1_SyntaxExprs.tab1 masklaw1_SyntaxExprs.bits1 (fun HT_ HW_ => ?_)
  generalize w6.drew = w7 at BK255 HB hHeld ⊢
  refine oA 0 (some 3) (tb 9 1) HT_ (fun K hK => ?_)
  refine gA Try.func7 #[] ?_
  with_reducible refine (masklaw1_treed.calls k  true _ A2.out).mono ?_
  rintro e w8 ⟨rfl, hb⟩
  refine ⟨_, rfl, ?_⟩
  replace BK255 := bk1 BK255 hb
  replace HB := hb1 HB hb
  (try clear hb)
  refine hK.out _ _ ⟨(blk_cell BK255.out 0).trans rfl, (blk_cell BK255.out 1).trans rfl, (blk_cell BK255.out 2).trans rfl, (blk_cell BK255.out 3).trans rfl, (blk_cell BK255.out 4).trans rfl, (blk_cell BK255.out 5).trans rfl, (blk_cell BK255.out 6).trans rfl, (blk_cell BK255.out 7).trans rfl, (blk_cell BK255.out 8).trans rfl, (blk_cell BK255.out 9).trans rfl⟩ (fun hHeld => ?_)
  clear hK K
  refine nA ?_
  refine pA 1 4 (tb 9 3) HT_ ?_
  refine tA 2 5 (tb 9 7) HT_ HW_ hHeld ?_
  refine tA 4 7 (tb 9 23) HT_ HW_ hHeld ?_
  refine oA 3 (some 6) (tb 9 31) HT_ (fun K hK => ?_)
  refine gA Try.func8 #[.agg #[.int .i64 a0_0, .int .i64 a0_1, .int .i64 a0_2, .string a0_3, .string a0_4, .int .i64 a0_5, .int .u64 a0_6, .int .u64 a0_7, .bool a0_8, .slice A0_9 l0_9.length c0_9]] ?_
  with_reducible refine (syntax_CheckExpr.calls k a0_0 a0_1 a0_2 a0_3 a0_4 a0_5 a0_6 a0_7 a0_8 _ _ l0_9 t257 _ ?side1 ?side2 A4.out).mono ?_
  (case side1 => exact (Kd.C_below HR0_9.out HB.out))
  (case side2 => exact HC0_9.out)
  rintro e w9 ⟨rfl, hb⟩
  refine ⟨_, rfl, ?_⟩
  replace BK255 := bk1 BK255 hb
  replace HB := hb1 HB hb
  (try clear hb)
  refine hK.out _ _ ⟨(blk_cell BK255.out 0).trans rfl, (blk_cell BK255.out 1).trans rfl, (blk_cell BK255.out 2).trans rfl, (blk_cell BK255.out 3).trans rfl, (blk_cell BK255.out 4).trans rfl, (blk_cell BK255.out 5).trans rfl, (blk_cell BK255.out 6).trans rfl, (blk_cell BK255.out 7).trans rfl, (blk_cell BK255.out 8).trans rfl, (blk_cell BK255.out 9).trans rfl⟩ (fun hHeld => ?_)
  clear hK K
  refine nA ?_
  refine oA 5 (some 8) (tb 9 63) HT_ (fun K hK => ?_)
  refine gA Try.func9 #[.agg #[.int .i64 a0_0, .int .i64 a0_1, .int .i64 a0_2, .string a0_3, .string a0_4, .int .i64 a0_5, .int .u64 a0_6, .int .u64 a0_7, .bool a0_8, .slice A0_9 l0_9.length c0_9], .string (⟨#[69]⟩ : ByteArray)] ?_
  with_reducible refine (maskref1_TreeFault.calls k a0_0 a0_1 a0_2 a0_3 a0_4 a0_5 a0_6 a0_7 a0_8 _ _ l0_9 (⟨#[69]⟩ : ByteArray) t258 _ ?side1 ?side2 A5.out).mono ?_
  (case side1 => exact (Kd.C_below HR0_9.out HB.out))
  (case side2 => exact HC0_9.out)
  rintro e w10 ⟨rfl, hb⟩
  refine ⟨_, rfl, ?_⟩
  replace BK255 := bk1 BK255 hb
  replace HB := hb1 HB hb
  (try clear hb)
  refine hK.out _ _ ⟨(blk_cell BK255.out 0).trans rfl, (blk_cell BK255.out 1).trans rfl, (blk_cell BK255.out 2).trans rfl, (blk_cell BK255.out 3).trans rfl, (blk_cell BK255.out 4).trans rfl, (blk_cell BK255.out 5).trans rfl, (blk_cell BK255.out 6).trans rfl, (blk_cell BK255.out 7).trans rfl, (blk_cell BK255.out 8).trans rfl, (blk_cell BK255.out 9).trans rfl⟩ (fun hHeld => ?_)
  clear hK K
  refine nA ?_
  refine pA 6 9 (tb 9 127) HT_ ?_
  refine pA 7 10 (tb 9 255) HT_ ?_
  refine pA 8 2 (tb 9 511) HT_ ?_
  refine done_ (done_of HT_.out (by kernel_rfl)) ?_
  try go_wp2
  go_ret
  exact ⟨by rfl, by repeat (with_reducible exact HB.out)⟩
 ·obtain rfl := Option.some.inj H
  go_enter Try.func3, Try.ntmps3
  try go_wp2_with ((refine boxA HB 1 #[.int .i64 a0_0, .int .i64 a0_1, .int .i64 a0_2, .string a0_3, .string a0_4, .int .i64 a0_5, .int .u64 a0_6, .int .u64 a0_7, .bool a0_8, .slice A0_9 l0_9.length c0_9] 27 ?_; clear HB; intro gb255 w11 BK255 GE255 hg hb HB; clear hb hg))
  replace BK255 := bkd BK255
  replace HB := hbd HB
  refine start_ (n := 9) (S := fun w' => True) (ds := []) (tb 9 0) (by kernel_rfl) rfl (by kernel_rfl) trivial (fun hHeld => ?_); refine with_tabW masklaw1_SyntaxExprs.tab1 masklaw1_SyntaxExprs.bits1 (fun HT_ HW_ => ?_)
  generalize w11.drew = w12 at BK255 HB hHeld ⊢
  refine oA 0 (some 3) (tb 9 1) HT_ (fun K hK => ?_)
  refine gA Try.func7 #[] ?_
  with_reducible refine (masklaw1_treed.calls k  false _ A2.out).mono ?_
  rintro e w13 ⟨rfl, hb⟩
  refine ⟨_, rfl, ?_⟩
  replace BK255 := bk1 BK255 hb
  replace HB := hb1 HB hb
  (try clear hb)
  refine hK.out _ _ trivial (fun hHeld => ?_)
  clear hK K
  refine nA ?_
  refine pA 1 4 (tb 9 3) HT_ ?_
  refine pU 2 5 (tb 9 7) HT_ ?_
  refine pU 3 6 (tb 9 15) HT_ ?_
  refine pU 4 7 (tb 9 31) HT_ ?_
  refine pU 5 8 (tb 9 63) HT_ ?_
  refine pU 6 9 (tb 9 127) HT_ ?_
  refine pA 7 10 (tb 9 255) HT_ ?_
  refine pA 8 2 (tb 9 511) HT_ ?_
  refine done_ (done_of HT_.out (by kernel_rfl)) ?_
  try go_wp2
  go_ret
  exact ⟨by rfl, by repeat (with_reducible exact HB.out)⟩
end Go.Proofs.Ytlamgdibnnmbmaa.PSyn
end
