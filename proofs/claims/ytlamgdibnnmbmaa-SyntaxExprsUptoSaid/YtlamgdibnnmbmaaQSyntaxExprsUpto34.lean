/- Part 35 of the proof of SyntaxExprsUptoSaid: The law SyntaxExprs, where the tree that it reads is of bulk at most 1048576: it returns true; the tree reads behind the call as it read before. Out of the plain theorem of YtlamgdibnnmbmaaPureSyntaxExprs and the printed contract. -/
import Derived.Test.YtlamgdibnnmbmaaQSyntaxExprsUpto33
section
namespace Go.Proofs.Ytlamgdibnnmbmaa.PSyn
open Go.RowKit Go.Proofs.YtlamgdibnnmbmaaW.PrintWords Go.Proofs.YtlamgdibnnmbmaaW.PrintLast Go.Proofs.YtlamgdibnnmbmaaW.PrintMore
set_option linter.unusedVariables false
set_option linter.unusedSimpArgs false
def bareB (b : S27) : Bool := b.f3.data.toList.isEmpty && (b.f4.data.toList.isEmpty && (!nz b.f5.f0 b.f5.f1 b.f5.f2 && (!b.f6 && b.f7.isEmpty)))
theorem bare_is (b : S27) : syntax_bare.f b.f0 b.f1 b.f2 b.f3 b.f4 b.f5.f0 b.f5.f1 b.f5.f2 b.f6 b.f7 = some (bareB b) := by
  unfold syntax_bare.f bareB nz
  rw [ByteArray.toList_eq, ByteArray.toList_eq]
  by_cases h3 : b.f3.data.toList = []
  · rw [if_pos h3]
    by_cases h4 : b.f4.data.toList = []
    · rw [if_pos h4, h3, h4]
      have e : (b.f5.f0 == 0 && (b.f5.f1 == 0 && (b.f5.f2 == 0))) = !(!(b.f5.f0 == 0) || (!(b.f5.f1 == 0) || (!(b.f5.f2 == 0)))) := by
        cases b.f5.f0 == 0 <;> cases b.f5.f1 == 0 <;> cases b.f5.f2 == 0 <;> rfl
      rw [e]
      generalize (!(b.f5.f0 == 0) || (!(b.f5.f1 == 0) || (!(b.f5.f2 == 0)))) = z
      have e7 : ((b.f7.length : Int) == 0) = b.f7.isEmpty := by
        rw [Bool.eq_iff_iff, beq_iff_eq, List.isEmpty_iff, ← List.length_eq_zero_iff]; omega
      rw [e7]
      cases z <;> cases b.f6 <;> rfl
    · rw [if_neg h4, List.isEmpty_eq_false_iff.2 h4]; simp
  · rw [if_neg h3, List.isEmpty_eq_false_iff.2 h3]; simp
section
variable (c : UInt8) (a : S27) (hl : a.f7.length ≤ 2000000) (b : S27) (i : Nat) (hb : rd_T27 a.f7 (i : Int) = b) (hi : i < a.f7.length) (n : Nat) (hn : a.f7.length = n)
def P69 (n : Nat) : List ByteArray := toB (List.replicate n 69)
def faultL (k : Nat) (c : UInt8) (P : List ByteArray) (i : Int) (a : S27) : Option Int := maskref1_nodeFault.l0 k formsL (ofL [c]) P a.f7 (a.f7.length : Int) i a.f0 a.f1 a.f2 a.f3 a.f4 a.f5.f0 a.f5.f1 a.f5.f2 a.f6 a.f7
def fault4 (k : Nat) (c : UInt8) (P : List ByteArray) (q : Bool) (i : Int) (r : Bool) (a b : S27) : Option Int := maskref1_nodeFault.j4 k formsL (ofL [c]) P (ofL [69]) q a.f7 (a.f7.length : Int) i r a.f0 a.f1 a.f2 a.f3 a.f4 a.f5.f0 a.f5.f1 a.f5.f2 a.f6 a.f7 b.f0 b.f1 b.f2 b.f3 b.f4 b.f5.f0 b.f5.f1 b.f5.f2 b.f6 b.f7
def faultF (k : Nat) (a : S27) (c : UInt8) : Option Int := maskref1_nodeFault.f k formsL a.f0 a.f1 a.f2 a.f3 a.f4 a.f5.f0 a.f5.f1 a.f5.f2 a.f6 a.f7 (ofL [c])
theorem P69_at (h : i < n) : rdOf ByteArray.empty (P69 n) (i : Int) = ofL [69] := by
  unfold rdOf P69 toB
  rw [Int.toNat_natCast, List.getD_eq_getElem?_getD, List.getElem?_eq_getElem (by simpa using h)]
  simp
include hb hi
theorem fault_first (e : Int) (h : Ev (fun k => fault4 k c (P69 a.f7.length) (selB a.f0 i) (i : Int) (decide (b.f0 = 0) && !bareB b) a b) e) : Ev (fun k => faultL k c (P69 a.f7.length) (i : Int) a) e := by
  have hP : (P69 a.f7.length).length = a.f7.length := by simp [P69, toB]
  have j3 : Ev (fun k => maskref1_nodeFault.j3 k formsL (ofL [c]) (P69 a.f7.length) (ofL [69]) (selB a.f0 i) a.f7 (a.f7.length : Int) (i : Int) a.f0 a.f1 a.f2 a.f3 a.f4 a.f5.f0 a.f5.f1 a.f5.f2 a.f6 a.f7 b.f0 b.f1 b.f2 b.f3 b.f4 b.f5.f0 b.f5.f1 b.f5.f2 b.f6 b.f7) e := by
    refine Ev.step (fun k => by rw [maskref1_nodeFault.j3]) ?_
    unfold fault4 bareB nz at h
    rw [ByteArray.toList_eq, ByteArray.toList_eq]
    by_cases h0 : b.f0 = 0
    · rw [decide_eq_true h0, Bool.true_and] at h
      refine Ev.pos h0 ?_
      by_cases h3 : b.f3.data.toList = []
      · refine Ev.pos h3 ?_
        rw [h3] at h
        by_cases h4 : b.f4.data.toList = []
        · refine Ev.pos h4 ?_
          rw [h4] at h
          revert h
          generalize (!(b.f5.f0 == 0) || (!(b.f5.f1 == 0) || (!(b.f5.f2 == 0)))) = z
          intro h
          cases z with
          | true => exact Ev.pos rfl h
          | false =>
            refine Ev.neg (by decide) ?_
            revert h
            generalize b.f6 = s6
            intro h
            cases s6 with
            | true => exact Ev.pos rfl h
            | false =>
              refine Ev.neg (by decide) ?_
              have e7 : decide ((b.f7.length : Int) > 0) = !b.f7.isEmpty := by
                rw [Bool.eq_iff_iff, decide_eq_true_iff]
                cases b.f7 <;> simp
              rw [e7]; exact h
        · refine Ev.neg h4 ?_
          rw [List.isEmpty_eq_false_iff.2 h4] at h; exact h
      · refine Ev.neg h3 ?_
        rw [List.isEmpty_eq_false_iff.2 h3] at h; exact h
    · rw [decide_eq_false h0, Bool.false_and] at h
      exact Ev.neg h0 h
  refine Ev.step (fun k => by rw [faultL, maskref1_nodeFault.l0]) ?_
  rw [hb, P69_at i _ hi]
  refine Ev.pos (by omega) (Ev.pos (by omega) (Ev.pos (by omega) (Ev.pos (by omega) ?_)))
  by_cases h0 : i = 0
  · refine Ev.pos (by omega) ?_
    by_cases hs : a.f0 = 80 ∨ a.f0 = 81 ∨ a.f0 = 82 ∨ a.f0 = 83
    · rw [sel_yes a i hs, decide_eq_true h0] at j3
      by_cases k0 : a.f0 = 80
      · exact Ev.pos k0 j3
      refine Ev.neg k0 ?_
      by_cases k1 : a.f0 = 81
      · exact Ev.pos k1 j3
      refine Ev.neg k1 ?_
      by_cases k2 : a.f0 = 82
      · exact Ev.pos k2 j3
      refine Ev.neg k2 ?_
      rw [show (a.f0 == 83) = true from beq_iff_eq.2 (by omega)]
      exact j3
    · rw [sel_no a i hs] at j3
      refine Ev.neg (by omega) (Ev.neg (by omega) (Ev.neg (by omega) ?_))
      rw [show (a.f0 == 83) = false from beq_eq_false_iff_ne.2 (by omega)]
      exact j3
  · refine Ev.neg (by omega) ?_
    have : selB a.f0 i = false := by unfold selB; rw [decide_eq_false h0, Bool.false_and]
    rw [this] at j3
    exact j3
omit hb hi in
theorem fault_bare (P : List ByteArray) (q : Bool) : Ev (fun k => fault4 k c P q (i : Int) true a b) 4 := by
  refine Ev.step (fun k => by rw [fault4, maskref1_nodeFault.j4]) ?_
  exact Ev.pos rfl (Ev.now _)
omit hb hi in
theorem fault_none (P : List ByteArray) (q : Bool) (h0 : b.f0 = 0) (e : Int) (h : Ev (fun k => faultL k c P (wrap64 ((i : Int) + 1)) a) e) : Ev (fun k => fault4 k c P q (i : Int) false a b) e := by
  refine Ev.step (fun k => by rw [fault4, maskref1_nodeFault.j4]) ?_
  exact Ev.neg (by decide) (Ev.pos h0 h)
omit hb hi in
theorem fault_bad (P : List ByteArray) (h0 : b.f0 ≠ 0) (hs : selB a.f0 i = true) (h114 : b.f0 = 114) : Ev (fun k => fault4 k c P (selB a.f0 i) (i : Int) false a b) 8 := by
  refine Ev.step (fun k => by rw [fault4, maskref1_nodeFault.j4]) ?_
  refine Ev.neg (by decide) (Ev.neg h0 (Ev.pos hs ?_))
  rw [show (b.f0 == 114) = true from beq_iff_eq.2 h114]
  refine Ev.step (fun k => by rw [maskref1_nodeFault.j5]) ?_
  exact Ev.pos rfl (Ev.now _)
omit hb hi in
theorem fault_sub (P : List ByteArray) (h0 : b.f0 ≠ 0) (hs : ¬ (selB a.f0 i = true ∧ b.f0 = 114)) (e1 e : Int) (h1 : Ev (fun k => faultF k b (cls4 a.f0 i c)) e1)
    (h : Ev (fun k => if e1 = 0 then faultL k c P (wrap64 ((i : Int) + 1)) a else some e1) e) : Ev (fun k => fault4 k c P (selB a.f0 i) (i : Int) false a b) e := by
  have j7 : Ev (fun k => maskref1_nodeFault.j7 k formsL (ofL [c]) P (ofL [cls4 a.f0 i c]) a.f7 (a.f7.length : Int) (i : Int) a.f0 a.f1 a.f2 a.f3 a.f4 a.f5.f0 a.f5.f1 a.f5.f2 a.f6 a.f7 b.f0 b.f1 b.f2 b.f3 b.f4 b.f5.f0 b.f5.f1 b.f5.f2 b.f6 b.f7) e := by
    refine Ev.step (fun k => by rw [maskref1_nodeFault.j7]) ?_
    exact Ev.bind (show Ev (fun k => maskref1_nodeFault.f k formsL b.f0 b.f1 b.f2 b.f3 b.f4 b.f5.f0 b.f5.f1 b.f5.f2 b.f6 b.f7 (ofL [cls4 a.f0 i c])) e1 from h1) h
  have j5 : Ev (fun k => maskref1_nodeFault.j5 k formsL (ofL [c]) P (ofL [69]) (selB a.f0 i) a.f7 (a.f7.length : Int) (i : Int) false a.f0 a.f1 a.f2 a.f3 a.f4 a.f5.f0 a.f5.f1 a.f5.f2 a.f6 a.f7 b.f0 b.f1 b.f2 b.f3 b.f4 b.f5.f0 b.f5.f1 b.f5.f2 b.f6 b.f7) e := by
    refine Ev.step (fun k => by rw [maskref1_nodeFault.j5]) ?_
    refine Ev.neg (by decide) ?_
    unfold cls4 cls3 at j7
    by_cases hq : selB a.f0 i = true
    · rw [if_pos hq] at j7
      refine Ev.pos hq ?_
      refine Ev.step (fun k => by rw [maskref1_nodeFault.j6]) ?_
      exact Ev.pos rfl j7
    · rw [if_neg hq] at j7
      refine Ev.neg hq ?_
      rw [ofL_toList]
      by_cases hk : a.f0 = 114
      · refine Ev.pos hk ?_
        refine Ev.step (fun k => by rw [maskref1_nodeFault.j6]) ?_
        by_cases h116 : c = 116
        · rw [if_pos ⟨hk, h116⟩] at j7
          exact Ev.pos (by rw [h116]; rfl) j7
        · rw [if_neg (fun h => h116 h.2)] at j7
          exact Ev.neg (by simpa using h116) j7
      · rw [if_neg (fun h => hk h.1)] at j7
        refine Ev.neg hk (show Ev (fun k => maskref1_nodeFault.j6 k formsL (ofL [c]) P (ofL [69]) a.f7 (a.f7.length : Int) (i : Int) false a.f0 a.f1 a.f2 a.f3 a.f4 a.f5.f0 a.f5.f1 a.f5.f2 a.f6 a.f7 b.f0 b.f1 b.f2 b.f3 b.f4 b.f5.f0 b.f5.f1 b.f5.f2 b.f6 b.f7) e from ?_)
        refine Ev.step (fun k => by rw [maskref1_nodeFault.j6]) ?_
        exact Ev.neg (by decide) j7
  refine Ev.step (fun k => by rw [fault4, maskref1_nodeFault.j4]) ?_
  refine Ev.neg (by decide) (Ev.neg h0 ?_)
  by_cases hq : selB a.f0 i = true
  · refine Ev.pos hq ?_
    rw [show (b.f0 == 114) = false from beq_eq_false_iff_ne.2 (fun h => hs ⟨hq, h⟩)]
    exact j5
  · exact Ev.neg hq j5
end
end Go.Proofs.Ytlamgdibnnmbmaa.PSyn
end
