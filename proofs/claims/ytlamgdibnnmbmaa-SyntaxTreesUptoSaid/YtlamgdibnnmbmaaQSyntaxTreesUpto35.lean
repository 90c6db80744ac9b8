/- The law SyntaxTrees, where the trees that it reads are of bulk at most 1048576: it returns true; the trees read behind the call as it read before. Out of the plain theorem of YtlamgdibnnmbmaaTr5. -/
import Derived.Test.YtlamgdibnnmbmaaRows
import Derived.Test.YtlamgdibnnmbmaaQSyntaxTreesUpto34
import Derived.Test.YtlamgdibnnmbmaaQSyntaxTreesUpto14
import Derived.WalkKit
import Derived.ProofKit
import Derived.OpenShut
import Derived.ShutString
import Derived.ChangeOld
import Derived.Below
import Derived.SizedLaws
import Derived.Lib.SmallJoins
import Derived.LaidMore
import Derived.Stop.Joined
import Derived.JoinedCond
section
namespace Go.Proofs.Ytlamgdibnnmbmaa.RowSyntaxTrees
open Go.ChangeShapes Go.WideShapes Go.ChangeAt Go.RowKit Go.Joins
open Go.ChangeMaps (open_string shut_string)
open Go.Proofs.YtlamgdibnnmbmaaW.PrintWords Go.Proofs.YtlamgdibnnmbmaaW.PrintLast Go.Proofs.YtlamgdibnnmbmaaW.PrintMore PSyn
set_option linter.unusedVariables false
theorem own : ownKnob Try.prog.godebug = none := by kernel_rfl
theorem laidOut : laidOutB Try.prog = true := by kernel_rfl
theorem read_some (os : Os) {H : Type} (enc : TypeId × Value → H) : (DataW.whole enc Try.checked.prog (World.plainHolding Try.checked.prog os ⟨#[], #[.agg #[.int .i64 0, .int .i64 0, .int .i64 0, .string ByteArray.empty, .string ByteArray.empty, .int .i64 0, .int .u64 0, .int .u64 0, .bool false, .slice none 0 0], .agg #[.int .i64 0, .int .i64 0, .int .i64 0, .string ByteArray.empty, .string ByteArray.empty, .int .i64 0, .int .u64 0, .int .u64 0, .bool false, .slice none 0 0], .int .i64 0], []⟩).memory Try.f5.params.toList (Rows.OpenSpec.upto Rows.syntaxTreesSpec).vars false (#[.agg #[.int .i64 0, .int .i64 0, .int .i64 0, .string ByteArray.empty, .string ByteArray.empty, .int .i64 0, .int .u64 0, .int .u64 0, .bool false, .slice none 0 0], .agg #[.int .i64 0, .int .i64 0, .int .i64 0, .string ByteArray.empty, .string ByteArray.empty, .int .i64 0, .int .u64 0, .int .u64 0, .bool false, .slice none 0 0], .int .i64 0] : Array Value).toList 8).isSome = true := by kernel_rfl
set_option maxRecDepth 100000 in
theorem lifted (os : Os) (started : os.Started) (H : Type) (enc : TypeId × Value → H) (F : Stop.Interp) :
    ReturnsInHanded {} Try.checked os 5 .any ((Rows.OpenSpec.upto Rows.syntaxTreesSpec).pre6 enc Try.prog Try.f5 [] false) (((Rows.OpenSpec.upto Rows.syntaxTreesSpec).at F).post enc Try.prog Try.f5 false true false false) := by
  refine returnsInHanded_of_cond (C := Try.checked) (s := Rows.OpenSpec.upto Rows.syntaxTreesSpec) (k := Rows.uptoSmall) (F := F) rfl own started (by kernel_rfl) Try.func5
    (OpenSpec.witness (enc := enc) (C := Try.checked) (k := Rows.uptoSmall) rfl false ⟨#[], #[.agg #[.int .i64 0, .int .i64 0, .int .i64 0, .string ByteArray.empty, .string ByteArray.empty, .int .i64 0, .int .u64 0, .int .u64 0, .bool false, .slice none 0 0], .agg #[.int .i64 0, .int .i64 0, .int .i64 0, .string ByteArray.empty, .string ByteArray.empty, .int .i64 0, .int .u64 0, .int .u64 0, .bool false, .slice none 0 0], .int .i64 0], []⟩ 8 (by kernel_rfl) (by kernel_rfl) (by kernel_rfl) (Option.some_get (read_some os enc)).symm rfl (by kernel_rfl) (by kernel_rfl)) ?_
  intro W base args ds gs before hval0 hW _ hkk _
  have hval : ∀ (j : Nat) t v, Try.f5.params[j]? = some t → args[j]? = some v → Value.okWide Try.prog W .any base t v := hval0
  have hW' := hW
  obtain ⟨p, q, hA0, hV, rfl, hfz, hnd⟩ := hW
  have hA : DataW.TrodAll enc Try.prog W 0 (fun _ => true) true Try.f5.params.toList args.toList ds p := hA0
  rw [Try.params5] at hA hval
  obtain ⟨v0, vs0, d0, ds0, p0, q0, hargs, rfl, rfl, h0, r0⟩ := trodAll_cons hA
  obtain ⟨v1, vs1, d1, ds1, p1, q1, rfl, rfl, rfl, h1, r1⟩ := trodAll_cons r0
  obtain ⟨v2, vs2, d2, ds2, p2, q2, rfl, rfl, rfl, h2, r2⟩ := trodAll_cons r1
  obtain ⟨rfl, rfl, rfl⟩ := trodAll_nil r2
  obtain rfl : args = #[v0, v1, v2] := by cases args; simp_all
  obtain ⟨rfl, rfl⟩ := trodVars_none hV
  have k0 := h0
  have k1 := h1
  have k2 := h2
  have lt0 : ∀ x ∈ p0, x.block < W.heap.size := by obtain ⟨m, hm⟩ := k0; exact DataW.trod_lt m _ _ _ hm
  have lt1 : ∀ x ∈ p1, x.block < W.heap.size := by obtain ⟨m, hm⟩ := k1; exact DataW.trod_lt m _ _ _ hm
  have lt2 : ∀ x ∈ p2, x.block < W.heap.size := by obtain ⟨m, hm⟩ := k2; exact DataW.trod_lt m _ _ _ hm
  have K0 : ∀ W', Below W.heap.size W W' → DataW.Trod enc Try.prog W' 0 (fun b => decide (b < W.heap.size)) true 27 v0 d0 p0 := fun W' bel => Below.trod laidOut (by kernel_rfl) (of_decide_eq_true (by kernel_rfl)) k0 bel lt0
  have K1 : ∀ W', Below W.heap.size W W' → DataW.Trod enc Try.prog W' 0 (fun b => decide (b < W.heap.size)) true 27 v1 d1 p1 := fun W' bel => Below.trod laidOut (by kernel_rfl) (of_decide_eq_true (by kernel_rfl)) k1 bel lt1
  have K2 : ∀ W', Below W.heap.size W W' → DataW.Trod enc Try.prog W' 0 (fun b => decide (b < W.heap.size)) true 3 v2 d2 p2 := fun W' bel => Below.trod laidOut (by kernel_rfl) (of_decide_eq_true (by kernel_rfl)) k2 bel lt2
  obtain ⟨cs0, rfl, hsz0⟩ := okWide_struct Try.underlying27 (hval 0 27 v0 rfl rfl)
  obtain ⟨cs1, rfl, hsz1⟩ := okWide_struct Try.underlying27 (hval 1 27 v1 rfl rfl)
  obtain ⟨stop, rfl, rfl, rfl, _⟩ := open_int Try.underlying3 (hval 2 3 v2 rfl rfl) h2
  obtain ⟨m0, hm0⟩ := h0
  obtain ⟨m1, hm1⟩ := h1
  obtain ⟨a, hKa, _, _, hb0⟩ := tree_at m0 H enc W _ _ hm0
  obtain ⟨b, hKb, _, _, hb1⟩ := tree_at m1 H enc W _ _ hm1
  have hBs : a.bulk ≤ 1048576 ∧ b.bulk ≤ 1048576 := by
    have h1 : Rows.uptoBulkAll ([d0, d1, .lit (.int .i64 stop)] ++ ([] : List (DataW H))) ≤ 1048576 := of_decide_eq_true hkk
    simp only [List.append_nil, Rows.uptoBulkAll] at h1
    simp only at hb0 hb1
    omega
  have e0 : cs0 = (Value.agg cs0).cells.toList.toArray := by simp [Value.cells]
  have e1 : cs1 = (Value.agg cs1).cells.toList.toArray := by simp [Value.cells]
  refine (show Calls Try.prog 5 #[.agg cs0, .agg cs1, .int .i64 stop] W _ from ?_)
  have key := PSyn.trees_law a b stop _ _ W hKa hKb hBs.1 hBs.2
  rw [← e0, ← e1] at key
  refine key.mono fun e W' ⟨he, bel⟩ => ?_
  subst he
  exact ⟨_, rfl, _, _, _, [], _, [], hW', trodAll_mk1 (shut_bool Try.underlying4 _), (trodAll_cons_mk (K0 _ bel) (trodAll_cons_mk (K1 _ bel) (trodAll_cons_mk (K2 _ bel) trodAll_mk0))), rfl, bel.frame _, fun h => by cases h⟩
theorem over : Rows.syntaxTreesUptoRow.holds Try.pinned (Rows.OpenSpec.upto Rows.syntaxTreesSpec) :=
  OpenClaim.holds_of_cond 5 Try.f5 rfl rfl rfl rfl rfl rfl rfl ⟨rfl, rfl, rfl, rfl, rfl⟩ rfl rfl rfl rfl rfl (by kernel_rfl) Try.func5 (by kernel_rfl)
    (of_decide_eq_true (by kernel_rfl)) (by unfold Func.isWrapper; rw [if_neg (of_decide_eq_false (by kernel_rfl))]; exact ⟨rfl, rfl⟩)
    (fun os started H enc _ F => by
      have e : OpenClaim.pre enc Try.pinned.checked.prog Try.f5 (Rows.OpenSpec.upto Rows.syntaxTreesSpec) Rows.syntaxTreesUptoRow = (Rows.OpenSpec.upto Rows.syntaxTreesSpec).pre6 enc Try.prog Try.f5 [] false := OpenClaim.pre_of_none' rfl
      rw [e]
      exact lifted os started H enc F)
end Go.Proofs.Ytlamgdibnnmbmaa.RowSyntaxTrees
namespace Go.Proofs.Ytlamgdibnnmbmaa
theorem syntaxTrees_holds : Rows.SyntaxTreesUptoSaid := RowSyntaxTrees.over
#print axioms syntaxTrees_holds
end Go.Proofs.Ytlamgdibnnmbmaa
end
