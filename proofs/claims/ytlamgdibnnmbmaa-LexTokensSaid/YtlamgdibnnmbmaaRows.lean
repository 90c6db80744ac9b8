/-
  NARROWER THAN 'FOR EVERY INPUT', by the rows' own cells (each row's printed sentence says how): SyntaxExprs: loops · SyntaxFiles: loops · SyntaxTrees: loops.
  DERIVED. THE GIVEN ROWS OF THIS SEAT. 4 by the template 'for every input the law returns true; each argument reads behind the call as it read before'; 0 by the template 'total and deterministic' (their statements: YtlamgdibnnmbmaaTotals.lean).
  GIVEN WITH THE SEED: the statements are not yours to turn. If you find one false, say at which input.
  Laid BY PROGRAM, IN A SANDBOX (cutbox-rows.mjs): the forced cells as the released guide's own fill.sh prints them over the translation 633b3acea87161d9… (all of the seat's roots in one cut). By AI agents, Wed Nov 11 2026. No macro, syntax, notation, axiom, sorry.
-/
import Derived.Test.YtlamgdibnnmbmaaChecked
import GoSem.Claim
import GoSem.ClaimJoined
import GoSem.ClaimMapViews
import Derived.JoinedTies
import Derived.KernelRfl
namespace Go.Proofs.Ytlamgdibnnmbmaa
/- THE CELL 'sum', in the pinned program and in every row, IS THE sha256 OF THE DUMP (.gsa) THAT YtlamgdibnnmbmaaProg.lean LOADS. Nothing in Lean hashes anything: it is a label: what it is worth is what the hold of that sum in a sandbox is worth. -/
noncomputable def Try.pinned : Pinned := { name := "ytlamgdibnnmbmaa", sum := "633b3acea87161d979cc4cb0a4b50d137bb0ba16ca90b58c655fe8a5d592678e", checked := Try.checked }
namespace Rows
def none {H : Type} : Left H := { results := [], args := [] }

/-- 'masklaw1.SyntaxExprs': WHATEVER THE INPUT: true; the input reads as it did. -/
def syntaxExprsSpec : ChangeSpec := { name := "syntaxExprs", fn := fun _ => fun
  | [d] => { results := [.lit (.bool true)], args := [d] }
  | _ => none }
def syntaxExprsRow : OpenClaim := { program := "ytlamgdibnnmbmaa", sum := "633b3acea87161d979cc4cb0a4b50d137bb0ba16ca90b58c655fe8a5d592678e", func := "maskwright/masklaw1.SyntaxExprs", spec := "syntaxExprs", inPlace := ["internal/bytealg.IndexByteString", "internal/bytealg.IndexString"], unfollowed := true, recurses := true, named := ["internal/bytealg.MaxLen"], loops := true, apart := false }
def SyntaxExprsSaid : Prop := syntaxExprsRow.holds Try.pinned (OpenSpec.ofChange syntaxExprsSpec)

/-- ITS FALSE NEIGHBOUR: 'it returns false'. Refute it at one input. -/
def syntaxExprsWrong : ChangeSpec := { name := "syntaxExprs", fn := fun _ => fun
  | [d] => { results := [.lit (.bool false)], args := [d] }
  | _ => none }
def SyntaxExprsWrongFalsely : Prop := syntaxExprsRow.holds Try.pinned (OpenSpec.ofChange syntaxExprsWrong)

/-- 'masklaw1.SyntaxFiles': WHATEVER THE INPUT: true; the input reads as it did. -/
def syntaxFilesSpec : ChangeSpec := { name := "syntaxFiles", fn := fun _ => fun
  | [d] => { results := [.lit (.bool true)], args := [d] }
  | _ => none }
def syntaxFilesRow : OpenClaim := { program := "ytlamgdibnnmbmaa", sum := "633b3acea87161d979cc4cb0a4b50d137bb0ba16ca90b58c655fe8a5d592678e", func := "maskwright/masklaw1.SyntaxFiles", spec := "syntaxFiles", inPlace := ["internal/bytealg.IndexByteString", "internal/bytealg.IndexString"], unfollowed := true, recurses := true, named := ["internal/bytealg.MaxLen"], loops := true, apart := false }
def SyntaxFilesSaid : Prop := syntaxFilesRow.holds Try.pinned (OpenSpec.ofChange syntaxFilesSpec)

/-- ITS FALSE NEIGHBOUR: 'it returns false'. Refute it at one input. -/
def syntaxFilesWrong : ChangeSpec := { name := "syntaxFiles", fn := fun _ => fun
  | [d] => { results := [.lit (.bool false)], args := [d] }
  | _ => none }
def SyntaxFilesWrongFalsely : Prop := syntaxFilesRow.holds Try.pinned (OpenSpec.ofChange syntaxFilesWrong)

/-- 'masklaw1.SyntaxTrees': WHATEVER THE INPUT: true; the input reads as it did. -/
def syntaxTreesSpec : ChangeSpec := { name := "syntaxTrees", fn := fun _ => fun
  | [d1, d2, d3] => { results := [.lit (.bool true)], args := [d1, d2, d3] }
  | _ => none }
def syntaxTreesRow : OpenClaim := { program := "ytlamgdibnnmbmaa", sum := "633b3acea87161d979cc4cb0a4b50d137bb0ba16ca90b58c655fe8a5d592678e", func := "maskwright/masklaw1.SyntaxTrees", spec := "syntaxTrees", inPlace := ["internal/bytealg.IndexByteString", "internal/bytealg.IndexString"], unfollowed := true, recurses := true, named := ["internal/bytealg.MaxLen"], loops := true, apart := false }
def SyntaxTreesSaid : Prop := syntaxTreesRow.holds Try.pinned (OpenSpec.ofChange syntaxTreesSpec)

/-- ITS FALSE NEIGHBOUR: 'it returns false'. Refute it at one input. -/
def syntaxTreesWrong : ChangeSpec := { name := "syntaxTrees", fn := fun _ => fun
  | [d1, d2, d3] => { results := [.lit (.bool false)], args := [d1, d2, d3] }
  | _ => none }
def SyntaxTreesWrongFalsely : Prop := syntaxTreesRow.holds Try.pinned (OpenSpec.ofChange syntaxTreesWrong)

/-- 'masklaw1.LexTokens': WHATEVER THE INPUT: true; the input reads as it did. -/
def lexTokensSpec : ChangeSpec := { name := "lexTokens", fn := fun _ => fun
  | [d] => { results := [.lit (.bool true)], args := [d] }
  | _ => none }
def lexTokensRow : OpenClaim := { program := "ytlamgdibnnmbmaa", sum := "633b3acea87161d979cc4cb0a4b50d137bb0ba16ca90b58c655fe8a5d592678e", func := "maskwright/masklaw1.LexTokens", spec := "lexTokens", inPlace := ["internal/bytealg.IndexByteString", "internal/bytealg.IndexString"], unfollowed := true, recurses := true, named := ["internal/bytealg.MaxLen"], apart := false }
def LexTokensSaid : Prop := lexTokensRow.holds Try.pinned (OpenSpec.ofChange lexTokensSpec)

/-- ITS FALSE NEIGHBOUR: 'it returns false'. Refute it at one input. -/
def lexTokensWrong : ChangeSpec := { name := "lexTokens", fn := fun _ => fun
  | [d] => { results := [.lit (.bool false)], args := [d] }
  | _ => none }
def LexTokensWrongFalsely : Prop := lexTokensRow.holds Try.pinned (OpenSpec.ofChange lexTokensWrong)

/- THE SECOND FORM. 'bulk': how many values and letters a reading holds, each counted each time it is reached (what is shared counts as often as it is met; a slice's spare places count too). A statement '..UptoSaid' is the law's where the arguments, and the package variables that the reading takes, are together of bulk at most 1048576: NARROWER than '..Said'. Prove '..Said' where nothing that the law and all that it calls make is longer than what came in: it says more and counts as full. Else prove '..UptoSaid'. A law counts once. -/
mutual
def uptoBulk {H : Type} : DataW H → Nat
  | .lit (.string bytes) => bytes.length + 1
  | .lit _ => 1
  | .nil => 1
  | .ptr d => uptoBulk d + 1
  | .slice elems spare => uptoBulkAll elems + uptoBulkAll spare + 1
  | .agg parts => uptoBulkAll parts + 1
  | .iface _ d => uptoBulk d + 1
  | .map entries => uptoBulkEntries entries + 1
  | .held _ => 1
def uptoBulkAll {H : Type} : List (DataW H) → Nat
  | [] => 0
  | d :: r => uptoBulk d + uptoBulkAll r
def uptoBulkEntries {H : Type} : List (Lit × DataW H) → Nat
  | [] => 0
  | x :: r => uptoBulkEntry x + uptoBulkEntries r
def uptoBulkEntry {H : Type} : Lit × DataW H → Nat
  | (.string bytes, d) => bytes.length + uptoBulk d + 1
  | (_, d) => uptoBulk d + 1
 end
def uptoSmall : (H : Type) → List (DataW H) → Bool := fun _ ds => decide (uptoBulkAll ds ≤ 1048576)
def OpenSpec.upto (s : _root_.Go.ChangeSpec) : _root_.Go.OpenSpec := { _root_.Go.OpenSpec.ofChange s with cond := some uptoSmall }

/-- 'masklaw1.SyntaxExprs', WHERE WHAT IT READS IS OF BULK AT MOST 1048576: true; the input reads as it did. -/
def syntaxExprsUptoRow : OpenClaim := { program := "ytlamgdibnnmbmaa", sum := "633b3acea87161d979cc4cb0a4b50d137bb0ba16ca90b58c655fe8a5d592678e", func := "maskwright/masklaw1.SyntaxExprs", spec := "syntaxExprs", inPlace := ["internal/bytealg.IndexByteString", "internal/bytealg.IndexString"], unfollowed := true, recurses := true, named := ["internal/bytealg.MaxLen"], loops := true, apart := false, narrowed := true }
def SyntaxExprsUptoSaid : Prop := syntaxExprsUptoRow.holds Try.pinned (OpenSpec.upto syntaxExprsSpec)

/-- 'masklaw1.SyntaxFiles', WHERE WHAT IT READS IS OF BULK AT MOST 1048576: true; the input reads as it did. -/
def syntaxFilesUptoRow : OpenClaim := { program := "ytlamgdibnnmbmaa", sum := "633b3acea87161d979cc4cb0a4b50d137bb0ba16ca90b58c655fe8a5d592678e", func := "maskwright/masklaw1.SyntaxFiles", spec := "syntaxFiles", inPlace := ["internal/bytealg.IndexByteString", "internal/bytealg.IndexString"], unfollowed := true, recurses := true, named := ["internal/bytealg.MaxLen"], loops := true, apart := false, narrowed := true }
def SyntaxFilesUptoSaid : Prop := syntaxFilesUptoRow.holds Try.pinned (OpenSpec.upto syntaxFilesSpec)

/-- 'masklaw1.SyntaxTrees', WHERE WHAT IT READS IS OF BULK AT MOST 1048576: true; the input reads as it did. -/
def syntaxTreesUptoRow : OpenClaim := { program := "ytlamgdibnnmbmaa", sum := "633b3acea87161d979cc4cb0a4b50d137bb0ba16ca90b58c655fe8a5d592678e", func := "maskwright/masklaw1.SyntaxTrees", spec := "syntaxTrees", inPlace := ["internal/bytealg.IndexByteString", "internal/bytealg.IndexString"], unfollowed := true, recurses := true, named := ["internal/bytealg.MaxLen"], loops := true, apart := false, narrowed := true }
def SyntaxTreesUptoSaid : Prop := syntaxTreesUptoRow.holds Try.pinned (OpenSpec.upto syntaxTreesSpec)

/-- 'masklaw1.LexTokens', WHERE WHAT IT READS IS OF BULK AT MOST 1048576: true; the input reads as it did. -/
def lexTokensUptoRow : OpenClaim := { program := "ytlamgdibnnmbmaa", sum := "633b3acea87161d979cc4cb0a4b50d137bb0ba16ca90b58c655fe8a5d592678e", func := "maskwright/masklaw1.LexTokens", spec := "lexTokens", inPlace := ["internal/bytealg.IndexByteString", "internal/bytealg.IndexString"], unfollowed := true, recurses := true, named := ["internal/bytealg.MaxLen"], apart := false, narrowed := true }
def LexTokensUptoSaid : Prop := lexTokensUptoRow.holds Try.pinned (OpenSpec.upto lexTokensSpec)

end Rows
end Go.Proofs.Ytlamgdibnnmbmaa
