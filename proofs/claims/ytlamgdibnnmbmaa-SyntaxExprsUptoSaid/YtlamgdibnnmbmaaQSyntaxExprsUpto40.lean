/- The law SyntaxExprs, where the tree that it reads is of bulk at most 1048576: it returns true; the tree reads behind the call as it read before. Out of the plain theorem of YtlamgdibnnmbmaaPureSyntaxExprs and the printed contract. -/
import Derived.Test.YtlamgdibnnmbmaaRows
import Derived.Test.YtlamgdibnnmbmaaQSyntaxExprsUpto39
import Derived.Test.YtlamgdibnnmbmaaQSyntaxExprsUpto14
import Derived.WalkKit
import Derived.ProofKit
import Derived.OpenShut
import Derived.ShutString
import Derived.ChangeOld
import Derived.Below
import Derived.SizedLaws
import Derived.Lib.SmallJoins
import Derived.LaidMore
import Derived.Stop.Joined
import Derived.JoinedCond
section
namespace Go.Proofs.Ytlamgdibnnmbmaa.RowSyntaxExprs
open Go.ChangeShapes Go.WideShapes Go.ChangeAt Go.RowKit Go.Joins
open Go.ChangeMaps (open_string shut_string)
open Go.Proofs.YtlamgdibnnmbmaaW.PrintWords Go.Proofs.YtlamgdibnnmbmaaW.PrintLast Go.Proofs.YtlamgdibnnmbmaaW.PrintMore PSyn
set_option linter.unusedVariables false
theorem own : ownKnob Try.prog.godebug = none := by kernel_rfl
theorem laidOut : laidOutB Try.prog = true := by kernel_rfl
theorem read_some (os : Os) {H : Type} (enc : TypeId × Value → H) : (DataW.whole enc Try.checked.prog (World.plainHolding Try.checked.prog os ⟨#[], #[.agg #[.int .i64 0, .int .i64 0, .int .i64 0, .string ByteArray.empty, .string ByteArray.empty, .int .i64 0, .int .u64 0, .int .u64 0, .bool false, .slice none 0 0]], []⟩).memory Try.f3.params.toList (Rows.OpenSpec.upto Rows.syntaxExprsSpec).vars false (#[.agg #[.int .i64 0, .int .i64 0, .int .i64 0, .string ByteArray.empty, .string ByteArray.empty, .int .i64 0, .int .u64 0, .int .u64 0, .bool false, .slice none 0 0]] : Array Value).toList 8).isSome = true := by kernel_rfl
set_option maxRecDepth 100000 in
theorem lifted (os : Os) (started : os.Started) (H : Type) (enc : TypeId × Value → H) (F : Stop.Interp) :
    ReturnsInHanded {} Try.checked os 3 .any ((Rows.OpenSpec.upto Rows.syntaxExprsSpec).pre6 enc Try.prog Try.f3 [] false) (((Rows.OpenSpec.upto Rows.syntaxExprsSpec).at F).post enc Try.prog Try.f3 false true false false) := by
  refine returnsInHanded_of_cond (C := Try.checked) (s := Rows.OpenSpec.upto Rows.syntaxExprsSpec) (k := Rows.uptoSmall) (F := F) rfl own started (by kernel_rfl) Try.func3
    (OpenSpec.witness (enc := enc) (C := Try.checked) (k := Rows.uptoSmall) rfl false ⟨#[], #[.agg #[.int .i64 0, .int .i64 0, .int .i64 0, .string ByteArray.empty, .string ByteArray.empty, .int .i64 0, .int .u64 0, .int .u64 0, .bool false, .slice none 0 0]], []⟩ 8 (by kernel_rfl) (by kernel_rfl) (by kernel_rfl) (Option.some_get (read_some os enc)).symm rfl (by kernel_rfl) (by kernel_rfl)) ?_
  intro W base args ds gs before hval0 hW _ hkk _
  have hval : ∀ (j : Nat) t v, Try.f3.params[j]? = some t → args[j]? = some v → Value.okWide Try.prog W .any base t v := hval0
  have hW' := hW
  obtain ⟨p, q, hA0, hV, rfl, hfz, hnd⟩ := hW
  have hA : DataW.TrodAll enc Try.prog W 0 (fun _ => true) true Try.f3.params.toList args.toList ds p := hA0
  rw [Try.params3] at hA hval
  obtain ⟨v0, vs0, d0, ds0, p0, q0, hargs, rfl, rfl, h0, r0⟩ := trodAll_cons hA
  obtain ⟨rfl, rfl, rfl⟩ := trodAll_nil r0
  obtain rfl : args = #[v0] := by cases args; simp_all
  obtain ⟨rfl, rfl⟩ := trodVars_none hV
  have k0 := h0
  have lt0 : ∀ x ∈ p0, x.block < W.heap.size := by obtain ⟨m, hm⟩ := k0; exact DataW.trod_lt m _ _ _ hm
  have K0 : ∀ W', Below W.heap.size W W' → DataW.Trod enc Try.prog W' 0 (fun b => decide (b < W.heap.size)) true 27 v0 d0 p0 := fun W' bel => Below.trod laidOut (by kernel_rfl) (of_decide_eq_true (by kernel_rfl)) k0 bel lt0
  obtain ⟨cs, rfl, hsz⟩ := okWide_struct Try.underlying27 (hval 0 27 v0 rfl rfl)
  obtain ⟨m, hm⟩ := h0
  obtain ⟨a, hK, hl10, hok, hb⟩ := tree_at m H enc W _ _ hm
  have hB : a.bulk ≤ 1048576 := by
    have h1 : Rows.uptoBulkAll ([d0] ++ ([] : List (DataW H))) ≤ 1048576 := of_decide_eq_true hkk
    simp only [List.append_nil, Rows.uptoBulkAll] at h1
    simp only at hb
    omega
  obtain ⟨A9, c9, hcs, lc, hC⟩ := k27_open hK
  have hcs' : cs = #[.int .i64 a.f0, .int .i64 a.f1, .int .i64 a.f2, .string a.f3, .string a.f4, .int .i64 a.f5.f0, .int .u64 a.f5.f1, .int .u64 a.f5.f2, .bool a.f6, .slice A9 a.f7.length c9] := by
    cases cs
    simpa [Value.cells] using hcs
  clear hA0 hval0 hsz hm hK
  subst hcs'
  obtain ⟨k, h⟩ := SyntaxExprs_pure a hok hB
  refine (PSyn.masklaw1_SyntaxExprs.calls k a.f0 a.f1 a.f2 a.f3 a.f4 a.f5.f0 a.f5.f1 a.f5.f2 a.f6 A9 c9 a.f7 true W hC lc h).mono fun e W' ⟨he, bel⟩ => ?_
  subst he
  exact ⟨_, rfl, _, _, _, [], _, [], hW', trodAll_mk1 (shut_bool Try.underlying4 _), (trodAll_cons_mk (K0 _ bel) trodAll_mk0), rfl, bel.frame _, fun h => by cases h⟩
theorem over : Rows.syntaxExprsUptoRow.holds Try.pinned (Rows.OpenSpec.upto Rows.syntaxExprsSpec) :=
  OpenClaim.holds_of_cond 3 Try.f3 rfl rfl rfl rfl rfl rfl rfl ⟨rfl, rfl, rfl, rfl, rfl⟩ rfl rfl rfl rfl rfl (by kernel_rfl) Try.func3 (by kernel_rfl)
    (of_decide_eq_true (by kernel_rfl)) (by unfold Func.isWrapper; rw [if_neg (of_decide_eq_false (by kernel_rfl))]; exact ⟨rfl, rfl⟩)
    (fun os started H enc _ F => by
      have e : OpenClaim.pre enc Try.pinned.checked.prog Try.f3 (Rows.OpenSpec.upto Rows.syntaxExprsSpec) Rows.syntaxExprsUptoRow = (Rows.OpenSpec.upto Rows.syntaxExprsSpec).pre6 enc Try.prog Try.f3 [] false := OpenClaim.pre_of_none' rfl
      rw [e]
      exact lifted os started H enc F)
end Go.Proofs.Ytlamgdibnnmbmaa.RowSyntaxExprs
namespace Go.Proofs.Ytlamgdibnnmbmaa
theorem syntaxExprs_holds : Rows.SyntaxExprsUptoSaid := RowSyntaxExprs.over
#print axioms syntaxExprs_holds
end Go.Proofs.Ytlamgdibnnmbmaa
end
