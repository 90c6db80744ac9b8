/- Part 20 of the proof of SyntaxExprsUptoSaid: The law SyntaxExprs, where the tree that it reads is of bulk at most 1048576: it returns true; the tree reads behind the call as it read before. Out of the plain theorem of YtlamgdibnnmbmaaPureSyntaxExprs and the printed contract. -/
import Derived.Test.YtlamgdibnnmbmaaQSyntaxExprsUpto13
import Derived.Laws.Tables
import Derived.Test.YtlamgdibnnmbmaaQSyntaxExprsUpto16
section
namespace Go.Proofs.Ytlamgdibnnmbmaa.PSyn
open Go.RowKit Go.Proofs.YtlamgdibnnmbmaaW.PrintWords Go.Proofs.YtlamgdibnnmbmaaW.PrintLast Go.Proofs.YtlamgdibnnmbmaaW.PrintMore
set_option linter.unusedVariables false
def shapesL : List S89 := [(⟨(⟨#[45]⟩ : ByteArray), (⟨#[]⟩ : ByteArray), (⟨#[]⟩ : ByteArray)⟩ : S89), (⟨(⟨#[70]⟩ : ByteArray), (⟨#[73, 42]⟩ : ByteArray), (⟨#[]⟩ : ByteArray)⟩ : S89), (⟨(⟨#[73]⟩ : ByteArray), (⟨#[112, 113, 98]⟩ : ByteArray), (⟨#[78]⟩ : ByteArray)⟩ : S89), (⟨(⟨#[73]⟩ : ByteArray), (⟨#[112, 105]⟩ : ByteArray), (⟨#[78]⟩ : ByteArray)⟩ : S89), (⟨(⟨#[112]⟩ : ByteArray), (⟨#[80, 42]⟩ : ByteArray), (⟨#[]⟩ : ByteArray)⟩ : S89), (⟨(⟨#[80]⟩ : ByteArray), (⟨#[69]⟩ : ByteArray), (⟨#[78]⟩ : ByteArray)⟩ : S89), (⟨(⟨#[113]⟩ : ByteArray), (⟨#[81, 42]⟩ : ByteArray), (⟨#[]⟩ : ByteArray)⟩ : S89), (⟨(⟨#[81]⟩ : ByteArray), (⟨#[84]⟩ : ByteArray), (⟨#[78]⟩ : ByteArray)⟩ : S89), (⟨(⟨#[81]⟩ : ByteArray), (⟨#[84]⟩ : ByteArray), (⟨#[78]⟩ : ByteArray)⟩ : S89), (⟨(⟨#[81]⟩ : ByteArray), (⟨#[84, 69, 63]⟩ : ByteArray), (⟨#[78]⟩ : ByteArray)⟩ : S89), (⟨(⟨#[81]⟩ : ByteArray), (⟨#[110, 110]⟩ : ByteArray), (⟨#[78]⟩ : ByteArray)⟩ : S89), (⟨(⟨#[98]⟩ : ByteArray), (⟨#[77, 42]⟩ : ByteArray), (⟨#[]⟩ : ByteArray)⟩ : S89), (⟨(⟨#[105]⟩ : ByteArray), (⟨#[86, 42]⟩ : ByteArray), (⟨#[]⟩ : ByteArray)⟩ : S89), (⟨(⟨#[110]⟩ : ByteArray), (⟨#[]⟩ : ByteArray), (⟨#[78]⟩ : ByteArray)⟩ : S89), (⟨(⟨#[84]⟩ : ByteArray), (⟨#[82, 63]⟩ : ByteArray), (⟨#[83]⟩ : ByteArray)⟩ : S89), (⟨(⟨#[84]⟩ : ByteArray), (⟨#[]⟩ : ByteArray), (⟨#[78]⟩ : ByteArray)⟩ : S89), (⟨(⟨#[82]⟩ : ByteArray), (⟨#[69, 69]⟩ : ByteArray), (⟨#[]⟩ : ByteArray)⟩ : S89), (⟨(⟨#[77, 86]⟩ : ByteArray), (⟨#[84, 68, 43]⟩ : ByteArray), (⟨#[]⟩ : ByteArray)⟩ : S89), (⟨(⟨#[77, 118]⟩ : ByteArray), (⟨#[84, 68, 43]⟩ : ByteArray), (⟨#[]⟩ : ByteArray)⟩ : S89), (⟨(⟨#[68]⟩ : ByteArray), (⟨#[82, 63, 69, 63]⟩ : ByteArray), (⟨#[78]⟩ : ByteArray)⟩ : S89), (⟨(⟨#[73, 77]⟩ : ByteArray), (⟨#[69]⟩ : ByteArray), (⟨#[78]⟩ : ByteArray)⟩ : S89), (⟨(⟨#[73, 77]⟩ : ByteArray), (⟨#[82, 109, 43]⟩ : ByteArray), (⟨#[78]⟩ : ByteArray)⟩ : S89), (⟨(⟨#[109]⟩ : ByteArray), (⟨#[69, 63]⟩ : ByteArray), (⟨#[78]⟩ : ByteArray)⟩ : S89), (⟨(⟨#[73, 77]⟩ : ByteArray), (⟨#[102, 43]⟩ : ByteArray), (⟨#[78]⟩ : ByteArray)⟩ : S89), (⟨(⟨#[102]⟩ : ByteArray), (⟨#[84]⟩ : ByteArray), (⟨#[78]⟩ : ByteArray)⟩ : S89), (⟨(⟨#[86]⟩ : ByteArray), (⟨#[100, 43]⟩ : ByteArray), (⟨#[78]⟩ : ByteArray)⟩ : S89), (⟨(⟨#[100]⟩ : ByteArray), (⟨#[]⟩ : ByteArray), (⟨#[78]⟩ : ByteArray)⟩ : S89), (⟨(⟨#[100]⟩ : ByteArray), (⟨#[]⟩ : ByteArray), (⟨#[78]⟩ : ByteArray)⟩ : S89), (⟨(⟨#[73, 77]⟩ : ByteArray), (⟨#[84, 97, 104]⟩ : ByteArray), (⟨#[78]⟩ : ByteArray)⟩ : S89), (⟨(⟨#[97]⟩ : ByteArray), (⟨#[103, 42]⟩ : ByteArray), (⟨#[]⟩ : ByteArray)⟩ : S89), (⟨(⟨#[103]⟩ : ByteArray), (⟨#[84]⟩ : ByteArray), (⟨#[78]⟩ : ByteArray)⟩ : S89), (⟨(⟨#[104]⟩ : ByteArray), (⟨#[118, 42, 83, 42]⟩ : ByteArray), (⟨#[]⟩ : ByteArray)⟩ : S89), (⟨(⟨#[77]⟩ : ByteArray), (⟨#[116, 69]⟩ : ByteArray), (⟨#[]⟩ : ByteArray)⟩ : S89), (⟨(⟨#[77]⟩ : ByteArray), (⟨#[83]⟩ : ByteArray), (⟨#[]⟩ : ByteArray)⟩ : S89), (⟨(⟨#[77]⟩ : ByteArray), (⟨#[101, 83]⟩ : ByteArray), (⟨#[]⟩ : ByteArray)⟩ : S89), (⟨(⟨#[77]⟩ : ByteArray), (⟨#[83]⟩ : ByteArray), (⟨#[]⟩ : ByteArray)⟩ : S89), (⟨(⟨#[77]⟩ : ByteArray), (⟨#[83]⟩ : ByteArray), (⟨#[]⟩ : ByteArray)⟩ : S89), (⟨(⟨#[101]⟩ : ByteArray), (⟨#[71, 43]⟩ : ByteArray), (⟨#[]⟩ : ByteArray)⟩ : S89), (⟨(⟨#[71]⟩ : ByteArray), (⟨#[116]⟩ : ByteArray), (⟨#[]⟩ : ByteArray)⟩ : S89), (⟨(⟨#[71]⟩ : ByteArray), (⟨#[116]⟩ : ByteArray), (⟨#[]⟩ : ByteArray)⟩ : S89), (⟨(⟨#[71]⟩ : ByteArray), (⟨#[116]⟩ : ByteArray), (⟨#[]⟩ : ByteArray)⟩ : S89), (⟨(⟨#[77]⟩ : ByteArray), (⟨#[110, 120, 120]⟩ : ByteArray), (⟨#[78]⟩ : ByteArray)⟩ : S89), (⟨(⟨#[77]⟩ : ByteArray), (⟨#[110, 120]⟩ : ByteArray), (⟨#[78]⟩ : ByteArray)⟩ : S89), (⟨(⟨#[120]⟩ : ByteArray), (⟨#[66, 42]⟩ : ByteArray), (⟨#[]⟩ : ByteArray)⟩ : S89), (⟨(⟨#[66]⟩ : ByteArray), (⟨#[69]⟩ : ByteArray), (⟨#[78]⟩ : ByteArray)⟩ : S89), (⟨(⟨#[77]⟩ : ByteArray), (⟨#[110, 69, 69, 98]⟩ : ByteArray), (⟨#[78]⟩ : ByteArray)⟩ : S89), (⟨(⟨#[77, 119]⟩ : ByteArray), (⟨#[69, 98, 119, 63]⟩ : ByteArray), (⟨#[78]⟩ : ByteArray)⟩ : S89), (⟨(⟨#[119]⟩ : ByteArray), (⟨#[98]⟩ : ByteArray), (⟨#[78]⟩ : ByteArray)⟩ : S89), (⟨(⟨#[77]⟩ : ByteArray), (⟨#[116, 88, 88]⟩ : ByteArray), (⟨#[78]⟩ : ByteArray)⟩ : S89), (⟨(⟨#[77]⟩ : ByteArray), (⟨#[116, 88, 88]⟩ : ByteArray), (⟨#[78]⟩ : ByteArray)⟩ : S89), (⟨(⟨#[88]⟩ : ByteArray), (⟨#[69]⟩ : ByteArray), (⟨#[]⟩ : ByteArray)⟩ : S89), (⟨(⟨#[88]⟩ : ByteArray), (⟨#[88, 69, 117, 63, 88]⟩ : ByteArray), (⟨#[]⟩ : ByteArray)⟩ : S89), (⟨(⟨#[88]⟩ : ByteArray), (⟨#[88, 43]⟩ : ByteArray), (⟨#[]⟩ : ByteArray)⟩ : S89), (⟨(⟨#[88]⟩ : ByteArray), (⟨#[88, 88]⟩ : ByteArray), (⟨#[]⟩ : ByteArray)⟩ : S89), (⟨(⟨#[88]⟩ : ByteArray), (⟨#[88, 69, 117, 63]⟩ : ByteArray), (⟨#[]⟩ : ByteArray)⟩ : S89), (⟨(⟨#[117]⟩ : ByteArray), (⟨#[]⟩ : ByteArray), (⟨#[]⟩ : ByteArray)⟩ : S89), (⟨(⟨#[83]⟩ : ByteArray), (⟨#[83, 42]⟩ : ByteArray), (⟨#[]⟩ : ByteArray)⟩ : S89), (⟨(⟨#[83]⟩ : ByteArray), (⟨#[69, 83, 83, 63]⟩ : ByteArray), (⟨#[]⟩ : ByteArray)⟩ : S89), (⟨(⟨#[83]⟩ : ByteArray), (⟨#[69, 67, 42]⟩ : ByteArray), (⟨#[]⟩ : ByteArray)⟩ : S89), (⟨(⟨#[83]⟩ : ByteArray), (⟨#[69, 67, 42]⟩ : ByteArray), (⟨#[]⟩ : ByteArray)⟩ : S89), (⟨(⟨#[83]⟩ : ByteArray), (⟨#[69, 67, 42]⟩ : ByteArray), (⟨#[]⟩ : ByteArray)⟩ : S89), (⟨(⟨#[67]⟩ : ByteArray), (⟨#[69, 42, 83]⟩ : ByteArray), (⟨#[]⟩ : ByteArray)⟩ : S89), (⟨(⟨#[83]⟩ : ByteArray), (⟨#[69, 83]⟩ : ByteArray), (⟨#[]⟩ : ByteArray)⟩ : S89), (⟨(⟨#[83]⟩ : ByteArray), (⟨#[69, 83]⟩ : ByteArray), (⟨#[]⟩ : ByteArray)⟩ : S89), (⟨(⟨#[83]⟩ : ByteArray), (⟨#[69, 69, 83]⟩ : ByteArray), (⟨#[78]⟩ : ByteArray)⟩ : S89), (⟨(⟨#[83]⟩ : ByteArray), (⟨#[69, 69, 83]⟩ : ByteArray), (⟨#[78]⟩ : ByteArray)⟩ : S89), (⟨(⟨#[83]⟩ : ByteArray), (⟨#[116, 69, 69, 63]⟩ : ByteArray), (⟨#[]⟩ : ByteArray)⟩ : S89), (⟨(⟨#[83]⟩ : ByteArray), (⟨#[116, 69, 69, 63]⟩ : ByteArray), (⟨#[]⟩ : ByteArray)⟩ : S89), (⟨(⟨#[83]⟩ : ByteArray), (⟨#[69]⟩ : ByteArray), (⟨#[]⟩ : ByteArray)⟩ : S89), (⟨(⟨#[83]⟩ : ByteArray), (⟨#[101]⟩ : ByteArray), (⟨#[]⟩ : ByteArray)⟩ : S89), (⟨(⟨#[83]⟩ : ByteArray), (⟨#[69]⟩ : ByteArray), (⟨#[]⟩ : ByteArray)⟩ : S89), (⟨(⟨#[83]⟩ : ByteArray), (⟨#[69, 42]⟩ : ByteArray), (⟨#[88]⟩ : ByteArray)⟩ : S89), (⟨(⟨#[83]⟩ : ByteArray), (⟨#[69, 42]⟩ : ByteArray), (⟨#[88]⟩ : ByteArray)⟩ : S89), (⟨(⟨#[83]⟩ : ByteArray), (⟨#[69, 42]⟩ : ByteArray), (⟨#[88]⟩ : ByteArray)⟩ : S89), (⟨(⟨#[83]⟩ : ByteArray), (⟨#[69, 42]⟩ : ByteArray), (⟨#[88]⟩ : ByteArray)⟩ : S89), (⟨(⟨#[83]⟩ : ByteArray), (⟨#[69]⟩ : ByteArray), (⟨#[88]⟩ : ByteArray)⟩ : S89), (⟨(⟨#[83]⟩ : ByteArray), (⟨#[]⟩ : ByteArray), (⟨#[]⟩ : ByteArray)⟩ : S89), (⟨(⟨#[83]⟩ : ByteArray), (⟨#[]⟩ : ByteArray), (⟨#[]⟩ : ByteArray)⟩ : S89), (⟨(⟨#[69, 117]⟩ : ByteArray), (⟨#[]⟩ : ByteArray), (⟨#[86]⟩ : ByteArray)⟩ : S89), (⟨(⟨#[69, 117, 116]⟩ : ByteArray), (⟨#[]⟩ : ByteArray), (⟨#[78]⟩ : ByteArray)⟩ : S89), (⟨(⟨#[69, 117, 116]⟩ : ByteArray), (⟨#[69]⟩ : ByteArray), (⟨#[78]⟩ : ByteArray)⟩ : S89), (⟨(⟨#[69, 117, 116]⟩ : ByteArray), (⟨#[69, 69]⟩ : ByteArray), (⟨#[]⟩ : ByteArray)⟩ : S89), (⟨(⟨#[69, 117, 116]⟩ : ByteArray), (⟨#[69, 69, 69]⟩ : ByteArray), (⟨#[]⟩ : ByteArray)⟩ : S89), (⟨(⟨#[69, 117, 116]⟩ : ByteArray), (⟨#[69, 69, 69]⟩ : ByteArray), (⟨#[]⟩ : ByteArray)⟩ : S89), (⟨(⟨#[69, 117]⟩ : ByteArray), (⟨#[69, 42]⟩ : ByteArray), (⟨#[78]⟩ : ByteArray)⟩ : S89), (⟨(⟨#[69, 117]⟩ : ByteArray), (⟨#[69]⟩ : ByteArray), (⟨#[]⟩ : ByteArray)⟩ : S89), (⟨(⟨#[69, 117]⟩ : ByteArray), (⟨#[69]⟩ : ByteArray), (⟨#[]⟩ : ByteArray)⟩ : S89), (⟨(⟨#[69, 117]⟩ : ByteArray), (⟨#[69]⟩ : ByteArray), (⟨#[]⟩ : ByteArray)⟩ : S89), (⟨(⟨#[69, 117]⟩ : ByteArray), (⟨#[69]⟩ : ByteArray), (⟨#[]⟩ : ByteArray)⟩ : S89), (⟨(⟨#[69, 117]⟩ : ByteArray), (⟨#[69]⟩ : ByteArray), (⟨#[]⟩ : ByteArray)⟩ : S89), (⟨(⟨#[69, 117]⟩ : ByteArray), (⟨#[69]⟩ : ByteArray), (⟨#[]⟩ : ByteArray)⟩ : S89), (⟨(⟨#[69, 117]⟩ : ByteArray), (⟨#[69]⟩ : ByteArray), (⟨#[]⟩ : ByteArray)⟩ : S89), (⟨(⟨#[69, 117]⟩ : ByteArray), (⟨#[69, 69]⟩ : ByteArray), (⟨#[]⟩ : ByteArray)⟩ : S89), (⟨(⟨#[69, 117]⟩ : ByteArray), (⟨#[69, 69]⟩ : ByteArray), (⟨#[]⟩ : ByteArray)⟩ : S89), (⟨(⟨#[69, 117]⟩ : ByteArray), (⟨#[69, 69]⟩ : ByteArray), (⟨#[]⟩ : ByteArray)⟩ : S89), (⟨(⟨#[69, 117]⟩ : ByteArray), (⟨#[69, 69]⟩ : ByteArray), (⟨#[]⟩ : ByteArray)⟩ : S89), (⟨(⟨#[69, 117]⟩ : ByteArray), (⟨#[69, 69]⟩ : ByteArray), (⟨#[]⟩ : ByteArray)⟩ : S89), (⟨(⟨#[69, 117]⟩ : ByteArray), (⟨#[69, 69]⟩ : ByteArray), (⟨#[]⟩ : ByteArray)⟩ : S89), (⟨(⟨#[69, 117]⟩ : ByteArray), (⟨#[69, 69]⟩ : ByteArray), (⟨#[]⟩ : ByteArray)⟩ : S89), (⟨(⟨#[69, 117]⟩ : ByteArray), (⟨#[69, 69]⟩ : ByteArray), (⟨#[]⟩ : ByteArray)⟩ : S89), (⟨(⟨#[69, 117]⟩ : ByteArray), (⟨#[69, 69]⟩ : ByteArray), (⟨#[]⟩ : ByteArray)⟩ : S89), (⟨(⟨#[69, 117]⟩ : ByteArray), (⟨#[69, 69]⟩ : ByteArray), (⟨#[]⟩ : ByteArray)⟩ : S89), (⟨(⟨#[69, 117]⟩ : ByteArray), (⟨#[69, 69]⟩ : ByteArray), (⟨#[]⟩ : ByteArray)⟩ : S89), (⟨(⟨#[69, 117]⟩ : ByteArray), (⟨#[69, 69]⟩ : ByteArray), (⟨#[]⟩ : ByteArray)⟩ : S89), (⟨(⟨#[69, 117]⟩ : ByteArray), (⟨#[69, 69]⟩ : ByteArray), (⟨#[]⟩ : ByteArray)⟩ : S89), (⟨(⟨#[69, 117]⟩ : ByteArray), (⟨#[69, 69]⟩ : ByteArray), (⟨#[]⟩ : ByteArray)⟩ : S89), (⟨(⟨#[69, 117]⟩ : ByteArray), (⟨#[69, 69]⟩ : ByteArray), (⟨#[]⟩ : ByteArray)⟩ : S89), (⟨(⟨#[69, 117]⟩ : ByteArray), (⟨#[69, 69]⟩ : ByteArray), (⟨#[]⟩ : ByteArray)⟩ : S89), (⟨(⟨#[69, 117]⟩ : ByteArray), (⟨#[69, 69]⟩ : ByteArray), (⟨#[]⟩ : ByteArray)⟩ : S89), (⟨(⟨#[69, 117]⟩ : ByteArray), (⟨#[69, 69]⟩ : ByteArray), (⟨#[]⟩ : ByteArray)⟩ : S89), (⟨(⟨#[69, 117]⟩ : ByteArray), (⟨#[69, 69]⟩ : ByteArray), (⟨#[]⟩ : ByteArray)⟩ : S89), (⟨(⟨#[69, 117]⟩ : ByteArray), (⟨#[69, 69]⟩ : ByteArray), (⟨#[]⟩ : ByteArray)⟩ : S89), (⟨(⟨#[69, 117]⟩ : ByteArray), (⟨#[69, 69]⟩ : ByteArray), (⟨#[]⟩ : ByteArray)⟩ : S89), (⟨(⟨#[69, 117]⟩ : ByteArray), (⟨#[69, 69, 69]⟩ : ByteArray), (⟨#[]⟩ : ByteArray)⟩ : S89), (⟨(⟨#[69, 117, 116]⟩ : ByteArray), (⟨#[69, 43]⟩ : ByteArray), (⟨#[]⟩ : ByteArray)⟩ : S89), (⟨(⟨#[69, 117]⟩ : ByteArray), (⟨#[69, 69]⟩ : ByteArray), (⟨#[]⟩ : ByteArray)⟩ : S89), (⟨(⟨#[69, 117]⟩ : ByteArray), (⟨#[69]⟩ : ByteArray), (⟨#[]⟩ : ByteArray)⟩ : S89), (⟨(⟨#[69, 117]⟩ : ByteArray), (⟨#[69]⟩ : ByteArray), (⟨#[]⟩ : ByteArray)⟩ : S89), (⟨(⟨#[69, 117]⟩ : ByteArray), (⟨#[69, 69]⟩ : ByteArray), (⟨#[]⟩ : ByteArray)⟩ : S89), (⟨(⟨#[69, 117]⟩ : ByteArray), (⟨#[69]⟩ : ByteArray), (⟨#[]⟩ : ByteArray)⟩ : S89), (⟨(⟨#[69, 117]⟩ : ByteArray), (⟨#[69]⟩ : ByteArray), (⟨#[]⟩ : ByteArray)⟩ : S89), (⟨(⟨#[69, 117]⟩ : ByteArray), (⟨#[]⟩ : ByteArray), (⟨#[]⟩ : ByteArray)⟩ : S89)]
def syntax_shapes.f : Option (List S89) := some shapesL
def buildAll (P : Program) : List Oper → Act → Option Act
  | [], a => some a
  | o :: l, a =>
    match o.guard, o.op with
    | none, .build t parts =>
      match P.built t (parts.map fun (i, x) => (i, a.eval x)).toList with
      | some cs => buildAll P l (a.put o.dst (.agg cs))
      | none => none
    | _, _ => none
theorem wpList_builds {P : Program} {ops : Array Oper} {rest : List Oper} {Q : Exit → Act → World → Prop} {w : World} : ∀ (l : List Oper) (a a' : Act), buildAll P l a = some a' → wpList P ops Q rest a' w → wpList P ops Q (l ++ rest) a w
  | [], a, a', h, k => by injection h with h; subst h; exact k
  | o :: l, a, a', h, k => by
    cases hg : o.guard with
    | some g => rw [buildAll, hg] at h; cases h
    | none =>
      cases ho : o.op with
      | build t parts =>
        rw [buildAll, hg, ho] at h
        simp only at h
        cases hb : P.built t (parts.map fun (i, x) => (i, a.eval x)).toList with
        | none => rw [hb] at h; cases h
        | some cs =>
          rw [hb] at h
          simp only at h
          refine wpList_build hg t parts ho (by rw [hb]; rfl) ?_
          rw [hb]
          exact wpList_builds l _ a' h k
      | _ => rw [buildAll, hg, ho] at h; cases h
theorem wpList_split {P : Program} {ops : Array Oper} {Q : Exit → Act → World → Prop} {a : Act} {w : World} {l : List Oper} (n : Nat) (h : wpList P ops Q (l.take n ++ l.drop n) a w) : wpList P ops Q l a w := by
  rwa [List.take_append_drop] at h
theorem region_table {α : Type} (D : Kd α) {P : Program} {id : Nat} {l : List Oper} {Q : Exit → Act → World → Prop} {a : Act} {w : World} (n d N : Nat) (e : TypeId) (xs : List α) (inner : List Value)
    (hf : (buildAll P (l.take n) a).isSome = true) (hl : l.drop n = [l.getD n default, l.getD (n + 1) default])
    (hg1 : (l.getD n default).guard = none) (hd1 : (l.getD n default).dst = some d) (hsz : ((buildAll P (l.take n) a).getD a).tmps.size = N) (hdN : d < N) (h0 : 0 < d)
    (hrun : ∀ w, (execOp ((buildAll P (l.take n) a).getD a).eval (l.getD n default)).run P w = .ok (.value (.slice (some ⟨w.heap.size, 0, none⟩) xs.length xs.length)) (w.alloc (.cells inner.toArray e)))
    (hrep : Reps (D.M w w.heap.size (fun _ => True)) D.sz xs inner) (hm : xs.length ≤ 9223372036854775807)
    (hg2 : (l.getD (n + 1) default).guard = none) (hd2 : (l.getD (n + 1) default).dst = some 0) (ho2 : (l.getD (n + 1) default).op = .assign (.tmp d)) (hdef : ((buildAll P (l.take n) a).getD a).defers = [])
    (h : ∀ (A : Act) (v : Value) (w1 : World), A.defers = [] → A.tmps.getD 0 undef = v → D.R e w1 w.heap.size (fun _ => True) v xs → Below w.heap.size w w1 → Q .normal A w1) : (Code.region id l.toArray false).wp P Q a w := by
  generalize l.getD (n + 1) default = o2 at hl hg2 hd2 ho2
  refine wp_region_lit (wpList_split n ?_)
  obtain ⟨a', ha⟩ := Option.isSome_iff_exists.1 hf
  refine wpList_builds _ a a' ha ?_
  rw [ha] at hsz hrun hdef
  simp only [Option.getD_some] at hsz hrun hdef
  rw [hl]
  refine Kd.R_lit D w.heap.size e hg1 hd1 (xs := xs) (inner := inner) (ok := fun _ => True) (okp := fun _ => True) (hrun w) hrep (fun _ h => h) trivial (Below.refl _ _) (Nat.le_refl _) hm ?_
  intro v w1 hR hB _ _
  have hev : (a'.put (some d) v).eval (.tmp d) = v := by
    simp [Act.eval, Act.put, hsz, hdN]
  rw [hd1]
  refine Kd.event_run (v := v) (w1 := w1) hg2 ?_ ?_
  · unfold execOp
    simp [ho2, hev]
  · rw [hd2]
    refine wpList_nil (h _ v w1 ?_ ?_ hR hB)
    · simp [Act.put, hdef]
    · have h1 : 0 < N := by omega
      simp [Act.put, hsz, h1]
def cells89 (l : List S89) : List Value := l.flatMap fun s => [.string s.f0, .string s.f1, .string s.f2]
theorem reps89 (w : World) (base : Nat) (ok : Nat → Prop) : ∀ l : List S89, Reps (k89.M w base ok) k89.sz l (cells89 l)
  | [] => ⟨rfl, fun j p h => by simp at h⟩
  | s :: l => by
    obtain ⟨h1, h2⟩ := reps89 w base ok l
    have e3 : k89.sz = 3 := rfl
    rw [e3] at h1 h2 ⊢
    refine ⟨by simp only [cells89, List.flatMap_cons, List.length_append, List.length_cons, List.length_nil] at h1 ⊢; omega, fun j p hj => ?_⟩
    cases j with
    | zero =>
      simp only [List.getElem?_cons_zero, Option.some.injEq] at hj
      subst hj
      exact k89_mkM w base ok s
    | succ j =>
      have := h2 j p (by simpa using hj)
      rw [Nat.add_mul, Nat.one_mul, Nat.add_comm (j * 3) 3, ← List.drop_drop]
      exact this
set_option maxRecDepth 100000 in
theorem syntax_shapes.calls (r : List S89) (w : World) (h : syntax_shapes.f = some r) :
    Calls Try.prog 33 #[] w fun e w' => ∃ v0_ : Value, e = .returned (v0_) ∧ Kd.R k89 89 w' w.heap.size (fun _ => True) v0_ r ∧ Below w.heap.size w w' := by
  obtain rfl := Option.some.inj h
  clear h
  go_enter Try.func33, Try.ntmps33
  go_upto_region 1 with (fail)
  refine region_table k89 122 123 124 89 shapesL (cells89 shapesL) (by kernel_rfl) (by kernel_rfl) (by kernel_rfl) (by kernel_rfl) (by kernel_rfl) (by decide) (by decide) (fun w => by kernel_rfl) (reps89 _ _ _ _) (by decide +kernel) (by kernel_rfl) (by kernel_rfl) (by kernel_rfl) (by kernel_rfl) ?_
  intro A v w1 hA h0 hR hB
  rename_i K hK
  refine hK _ _ (wp_ret ?_)
  refine bodyPost_ret (v := v) ?_ hA ⟨v, rfl, hR, hB⟩
  have h1 : A.tmps[0]?.getD undef = v := by simpa using h0
  simp [results, h1]
end Go.Proofs.Ytlamgdibnnmbmaa.PSyn
end
section
namespace Go.Proofs.Ytlamgdibnnmbmaa.PSyn
open Go.RowKit Go.Proofs.YtlamgdibnnmbmaaW.PrintWords Go.Proofs.YtlamgdibnnmbmaaW.PrintLast Go.Proofs.YtlamgdibnnmbmaaW.PrintMore
attribute [local go_sem] max2_int min2_int max_two min_two max_three min_three max_four min_four
set_option linter.unusedVariables false
set_option linter.unusedSimpArgs false
mutual
def maskref1_Split.l0 : Nat → ByteArray → List ByteArray → Int → Int → Option (List ByteArray)
 | 0, _, _, _, _ => none
 | k + 1, x0, x3, x4, x5 => if x5 ≤ (x0.size : Int) then (if x5 = (x0.size : Int) then (maskref1_Split.j1 k x0 x3 x4 x5 true) else (if 0 ≤ x5 then (if x5 < (x0.size : Int) then (maskref1_Split.j1 k x0 x3 x4 x5 ((bt x0 x5) == 32)) else (none)) else (none))) else (some x3)
def maskref1_Split.j1 : Nat → ByteArray → List ByteArray → Int → Int → Bool → Option (List ByteArray)
 | 0, _, _, _, _, _ => none
 | k + 1, x0, x3, x4, x5, x21 => if x21 = true then (if x5 > x4 then (if 0 ≤ x4 then (if x4 ≤ x5 then (if x5 ≤ (x0.size : Int) then (if x3.length < 8796093022208 then (maskref1_Split.l0 k x0 (x3 ++ [x0.extract (x4 : Int).toNat (x5 : Int).toNat]) (wrap64 (x5 + 1)) (wrap64 (x5 + 1))) else (none)) else (none)) else (none)) else (none)) else (maskref1_Split.l0 k x0 x3 (wrap64 (x5 + 1)) (wrap64 (x5 + 1)))) else (maskref1_Split.l0 k x0 x3 x4 (wrap64 (x5 + 1)))
end
def maskref1_Split.f (k : Nat) (a0 : ByteArray) : Option (List ByteArray) := maskref1_Split.l0 k a0 ([] : List ByteArray) 0 0
theorem maskref1_Split.mono_l : ∀ k, (∀ y0 y1 y2 y3, LeO (maskref1_Split.l0 k y0 y1 y2 y3) (maskref1_Split.l0 (k + 1) y0 y1 y2 y3)) ∧ (∀ y0 y1 y2 y3 y4, LeO (maskref1_Split.j1 k y0 y1 y2 y3 y4) (maskref1_Split.j1 (k + 1) y0 y1 y2 y3 y4))
 | 0 => ⟨fun _ _ _ _ r h => by simp [maskref1_Split.l0] at h, fun _ _ _ _ _ r h => by simp [maskref1_Split.j1] at h⟩
 | k + 1 => by
  obtain ⟨ih0, ih1⟩ := maskref1_Split.mono_l k
  refine ⟨?_, ?_⟩
  ·intro y0 y1 y2 y3
   unfold maskref1_Split.l0
   repeat' first | with_reducible exact ih0 _ _ _ _ | with_reducible exact ih1 _ _ _ _ _ | with_reducible exact LeO.refl _ | with_reducible exact LeO.none _ | with_reducible refine LeO.ite ?_ ?_ | with_reducible refine LeO.bind ?_ (fun _ => ?_)
  ·intro y0 y1 y2 y3 y4
   unfold maskref1_Split.j1
   repeat' first | with_reducible exact ih0 _ _ _ _ | with_reducible exact ih1 _ _ _ _ _ | with_reducible exact LeO.refl _ | with_reducible exact LeO.none _ | with_reducible refine LeO.ite ?_ ?_ | with_reducible refine LeO.bind ?_ (fun _ => ?_)
theorem maskref1_Split.mono : ∀ a0 k, LeO (maskref1_Split.f k a0) (maskref1_Split.f (k + 1) a0) := by
 intro a0 k
 obtain ⟨ih0, ih1⟩ := maskref1_Split.mono_l k
 unfold maskref1_Split.f
 repeat' first | with_reducible exact ih0 _ _ _ _ | with_reducible exact ih1 _ _ _ _ _ | with_reducible exact LeO.refl _ | with_reducible exact LeO.none _ | with_reducible refine LeO.ite ?_ ?_ | with_reducible refine LeO.bind ?_ (fun _ => ?_)
set_option maxHeartbeats 8000000 in
set_option maxRecDepth 100000 in
theorem maskref1_Split.calls (k : Nat) (a0 : ByteArray) (r : List ByteArray) (w : World) (h : maskref1_Split.f k a0 = some r) :
  Calls Try.prog 38 #[.string a0] w fun e w' => ∃ v0_ : Value, e = .returned (v0_) ∧ Kd.R Kd.string 9 w' w.heap.size (fun _ => True) v0_ r ∧ Below w.heap.size w w' := by
 have HB := Aside0.mk (Below.refl w.heap.size w)
 have H := h
 clear h
 unfold maskref1_Split.f at H
 have H' := Aside0.mk H
 clear H
 go_enter Try.func38, Try.ntmps38
 go_wp2
 go_loopg [3, 4, 5] k (fun kq v3 v4 v5 w' => ∃ (x3_1 : List ByteArray) (x4_1 : Int) (x5_1 : Int), v4 = .int .i64 x4_1 ∧ v5 = .int .i64 x5_1 ∧ Aside0 (maskref1_Split.l0 kq a0 x3_1 x4_1 x5_1 = some r) ∧ Aside0 (kq ≤ k) ∧ Aside0 (Kd.R Kd.string 9 w' w.heap.size (fun _ => True) v3 x3_1) ∧ Aside0 (Below w.heap.size w w'))
 case atStart => exact ⟨([] : List ByteArray), (0), (0), (by rfl), (by rfl), H', ⟨Nat.le_refl _⟩, ⟨by exact Kd.R_nil _ _ _ _ _⟩, ⟨by repeat (with_reducible exact HB.out)⟩⟩
 case round =>
  clear H'
  obtain ⟨x3_1, x4_1, x5_1, rfl, rfl, HA, HK1, HO_3, HB⟩ := hrel
  cases gk with
  | zero => exact absurd HA.out (by simp [maskref1_Split.l0])
  | succ k1 =>
   have H := HA.out
   clear HA
   simp only [maskref1_Split.l0] at H
   replace H := iD H; rcases H with ⟨c2b0, H⟩ | ⟨c2b0, H⟩
   ·have HC3 := Aside0.mk H
    clear H
    go_upto_region 6 with (fail)
    go_cut [21] (fun v21 wc => ∃ (kq : Nat) (x21_2 : Bool), v21 = .bool x21_2 ∧ Aside0 (maskref1_Split.j1 kq a0 x3_1 x4_1 x5_1 x21_2 = some r) ∧ Aside0 (kq ≤ k1) ∧ Aside0 (Kd.R Kd.string 9 wc w.heap.size (fun _ => True) u3 x3_1) ∧ Aside0 (Below w.heap.size w wc))
    case first =>
     have H := HC3.out
     clear HC3
     replace H := iE H; rcases H with ⟨c4b0, c4b1, H⟩ | ⟨c4, c4b0, c4b1, H⟩
     ·(skip)
      have H' := Aside0.mk H
      clear H
      go_wp2
      go_meet
      case rel => exact ⟨_, (true), (by rfl), H', ⟨by have := HK1.out; omega⟩, ⟨by exact HO_3.out⟩, ⟨by repeat (with_reducible exact HB.out)⟩⟩
     ·(skip)
      replace H := iN H; obtain ⟨c5b0, H⟩ := H
      replace H := iN H; obtain ⟨c6b0, H⟩ := H
      have H' := Aside0.mk H
      clear H
      have p7 : 0 ≤ (x5_1 : Int) := of_decide_eq_true (by (with_reducible assumption))
      have q7 : x5_1 < (a0.size : Int) := of_decide_eq_true (by (with_reducible assumption))
      have hx7 := bt_at a0 x5_1
      replace p7 := eq_true p7
      replace q7 := eq_true q7
      go_wp2
      go_meet
      case rel => exact ⟨_, ((bt a0 x5_1) == 32), (by rfl), H', ⟨by have := HK1.out; omega⟩, ⟨by exact HO_3.out⟩, ⟨by repeat (with_reducible exact HB.out)⟩⟩
    case rest =>
     clear HC3
     (try clear c2b0)
     obtain ⟨kq, x21_2, rfl, HA, HJ2, HO_3, HB⟩ := hcut
     cases kq with
     | zero => exact absurd HA.out (by simp [maskref1_Split.j1])
     | succ kj2 =>
      have H := HA.out
      clear HA
      simp only [maskref1_Split.j1] at H
      replace H := iB H; rcases H with ⟨rfl, H⟩ | ⟨rfl, H⟩
      ·replace H := iD H; rcases H with ⟨c9b0, H⟩ | ⟨c9b0, H⟩
       ·replace c9b0 : decide (x4_1 < x5_1) = true := c9b0
        by_cases c10 : 0 ≤ x4_1
        ·rw [if_pos c10] at H
         have c10b0 := eq_true c10
         have c10b1 : decide (0 ≤ x4_1) = true := decide_eq_true c10
         clear c10
         by_cases c11 : x4_1 ≤ x5_1
         ·rw [if_pos c11] at H
          have c11b0 := eq_true c11
          have c11b1 : decide (x4_1 ≤ x5_1) = true := decide_eq_true c11
          clear c11
          by_cases c12 : x5_1 ≤ (a0.size : Int)
          ·rw [if_pos c12] at H
           have c12b0 := eq_true c12
           have c12b1 : decide (x5_1 ≤ (a0.size : Int)) = true := decide_eq_true c12
           clear c12
           by_cases c13 : x3_1.length < 8796093022208
           ·rw [if_pos c13] at H
            have LMc13 := Aside0.mk c13
            clear c13
            obtain ⟨y225, hy225⟩ : ∃ y_ : List ByteArray, y_ = (x3_1 ++ [a0.extract (x4_1 : Int).toNat (x5_1 : Int).toNat]) := ⟨_, rfl⟩
            replace H : (maskref1_Split.l0 kj2 a0 y225 (wrap64 (x5_1 + 1)) (wrap64 (x5_1 + 1))) = some r := by (rw [hy225]; with_reducible exact H)
            have Ny225 := Aside0.mk hy225
            clear hy225
            have H' := Aside0.mk H
            clear H
            go_wp2_with (((with_reducible refine gate_builtin (b := .append) (xs := #[.tmp 25, .tmp 30]) rfl ?_); at_builtin; refine Kd.R_append Kd.string (w0 := w) w.heap.size rfl (.tmp 25) (.tmp 30) 75 9 (.string ⟨#[]⟩) 16 rfl Try.underlying75 info9 rfl (by decide) (by omega) u3 x3_1 (a0.extract (x4_1 : Int).toNat (x5_1 : Int).toNat) [.string (a0.extract (x4_1 : Int).toNat (x5_1 : Int).toNat)] (fun _ => True) (fun _ => False) rfl rfl ?aP (fun _ hk => hk.elim) ?aF ?aO ?aB ?aS ?aL ?_; (case aP => exact rfl); (case aB => exact HB.out); (case aF => exact (fun _ _ => trivial)); (case aO => exact HO_3.out); (case aS => exact (below_size HB.out)); (case aL => have := LMc13.out; omega); intro v226 w14 ho hb hg hat; rw [← Ny225.out] at ho; replace HB := Aside0.mk (hb); have HO227 := Aside0.mk (ho); clear HO_3; clear ho hb hg hat))
            go_roundg kj2
            case measure => have := HK1.out; have := HJ2.out; omega
            case rel => exact ⟨(y225), (wrap64 (x5_1 + 1)), (wrap64 (x5_1 + 1)), (by rfl), (by rfl), H', ⟨by have := HK1.out; have := HJ2.out; omega⟩, ⟨by exact HO227.out⟩, ⟨by repeat (with_reducible exact HB.out)⟩⟩
           ·rw [if_neg c13] at H
            exact absurd H (by simp)
          ·rw [if_neg c12] at H
           exact absurd H (by simp)
         ·rw [if_neg c11] at H
          exact absurd H (by simp)
        ·rw [if_neg c10] at H
         exact absurd H (by simp)
       ·replace c9b0 : decide (x4_1 < x5_1) = false := c9b0
        have H' := Aside0.mk H
        clear H
        go_wp2
        go_roundg kj2
        case measure => have := HK1.out; have := HJ2.out; omega
        case rel => exact ⟨(x3_1), (wrap64 (x5_1 + 1)), (wrap64 (x5_1 + 1)), (by rfl), (by rfl), H', ⟨by have := HK1.out; have := HJ2.out; omega⟩, ⟨by exact HO_3.out⟩, ⟨by repeat (with_reducible exact HB.out)⟩⟩
      ·have H' := Aside0.mk H
       clear H
       go_wp2
       go_roundg kj2
       case measure => have := HK1.out; have := HJ2.out; omega
       case rel => exact ⟨(x3_1), (x4_1), (wrap64 (x5_1 + 1)), (by rfl), (by rfl), H', ⟨by have := HK1.out; have := HJ2.out; omega⟩, ⟨by exact HO_3.out⟩, ⟨by repeat (with_reducible exact HB.out)⟩⟩
   ·obtain rfl := Option.some.inj H
    go_wp2
    go_ret
    exact ⟨_, by rfl, by exact HO_3.out, by repeat (with_reducible exact HB.out)⟩
end Go.Proofs.Ytlamgdibnnmbmaa.PSyn
end
section
namespace Go.Proofs.Ytlamgdibnnmbmaa.PSyn
open Go.RowKit Go.Proofs.YtlamgdibnnmbmaaW.PrintWords Go.Proofs.YtlamgdibnnmbmaaW.PrintLast Go.Proofs.YtlamgdibnnmbmaaW.PrintMore
attribute [local go_sem] max2_int min2_int max_two min_two max_three min_three max_four min_four
set_option linter.unusedVariables false
set_option linter.unusedSimpArgs false
def maskref1_forms.l0 : Nat → List (S73) → List ByteArray → List ByteArray → Int → Int → Option ((List (S73)))
 | 0, _, _, _, _, _ => none
 | k + 1, x1, x2, x8, x9, x10 => if x10 < x9 then (if 0 ≤ x10 then (if x10 < (x8.length : Int) then (if (rdOf ByteArray.empty x8 x10).toList = ([47] : List UInt8) then (if 0 < (x2.length : Int) then (if 1 < (x2.length : Int) then (if 2 < (x2.length : Int) then (if (rdOf ByteArray.empty x2 1).toList = ([45] : List UInt8) then (if x1.length < 2932031007402 then (maskref1_forms.l0 k (x1 ++ [(⟨rdOf ByteArray.empty x2 0, (⟨#[]⟩ : ByteArray), rdOf ByteArray.empty x2 2⟩ : S73)]) ([] : List ByteArray) x8 x9 (wrap64 (x10 + 1))) else (none)) else (if x1.length < 2932031007402 then (maskref1_forms.l0 k (x1 ++ [(⟨rdOf ByteArray.empty x2 0, rdOf ByteArray.empty x2 1, rdOf ByteArray.empty x2 2⟩ : S73)]) ([] : List ByteArray) x8 x9 (wrap64 (x10 + 1))) else (none))) else (none)) else (none)) else (none)) else (if x2.length < 8796093022208 then (maskref1_forms.l0 k x1 (x2 ++ [rdOf ByteArray.empty x8 x10]) x8 x9 (wrap64 (x10 + 1))) else (none))) else (none)) else (none)) else (some x1)
def maskref1_forms.f (k : Nat)  : Option ((List (S73))) := (maskref1_Split.f k (⟨#[45, 32, 45, 32, 45, 32, 47, 32, 70, 32, 73, 42, 32, 45, 32, 47, 32, 73, 32, 112, 113, 98, 32, 78, 32, 47, 32, 73, 32, 112, 105, 32, 78, 32, 47, 32, 112, 32, 80, 42, 32, 45, 32, 47, 32, 80, 32, 69, 32, 78, 32, 47, 32, 113, 32, 81, 42, 32, 45, 32, 47, 32, 81, 32, 84, 32, 78, 32, 47, 32, 81, 32, 84, 32, 78, 32, 47, 32, 81, 32, 84, 69, 63, 32, 78, 32, 47, 32, 81, 32, 110, 110, 32, 78, 32, 47, 32, 98, 32, 77, 42, 32, 45, 32, 47, 32, 105, 32, 86, 42, 32, 45, 32, 47, 32, 110, 32, 45, 32, 78, 32, 47, 32, 84, 32, 82, 63, 32, 83, 32, 47, 32, 84, 32, 45, 32, 78, 32, 47, 32, 82, 32, 69, 69, 32, 45, 32, 47, 32, 77, 86, 32, 84, 68, 43, 32, 45, 32, 47, 32, 77, 118, 32, 84, 68, 43, 32, 45, 32, 47, 32, 68, 32, 82, 63, 69, 63, 32, 78, 32, 47, 32, 73, 77, 32, 69, 32, 78, 32, 47, 32, 73, 77, 32, 82, 109, 43, 32, 78, 32, 47, 32, 109, 32, 69, 63, 32, 78, 32, 47, 32, 73, 77, 32, 102, 43, 32, 78, 32, 47, 32, 102, 32, 84, 32, 78, 32, 47, 32, 86, 32, 100, 43, 32, 78, 32, 47, 32, 100, 32, 45, 32, 78, 32, 47, 32, 100, 32, 45, 32, 78, 32, 47, 32, 73, 77, 32, 84, 97, 104, 32, 78, 32, 47, 32, 97, 32, 103, 42, 32, 45, 32, 47, 32, 103, 32, 84, 32, 78, 32, 47, 32, 104, 32, 118, 42, 83, 42, 32, 45, 32, 47, 32, 77, 32, 116, 69, 32, 45, 32, 47, 32, 77, 32, 83, 32, 45, 32, 47, 32, 77, 32, 101, 83, 32, 45, 32, 47, 32, 77, 32, 83, 32, 45, 32, 47, 32, 77, 32, 83, 32, 45, 32, 47, 32, 101, 32, 71, 43, 32, 45, 32, 47, 32, 71, 32, 116, 32, 45, 32, 47, 32, 71, 32, 116, 32, 45, 32, 47, 32, 71, 32, 116, 32, 45, 32, 47, 32, 77, 32, 110, 120, 120, 32, 78, 32, 47, 32, 77, 32, 110, 120, 32, 78, 32, 47, 32, 120, 32, 66, 42, 32, 45, 32, 47, 32, 66, 32, 69, 32, 78, 32, 47, 32, 77, 32, 110, 69, 69, 98, 32, 78, 32, 47, 32, 77, 119, 32, 69, 98, 119, 63, 32, 78, 32, 47, 32, 119, 32, 98, 32, 78, 32, 47, 32, 77, 32, 116, 88, 88, 32, 78, 32, 47, 32, 77, 32, 116, 88, 88, 32, 78, 32, 47, 32, 88, 32, 69, 32, 45, 32, 47, 32, 88, 32, 88, 69, 117, 63, 88, 32, 45, 32, 47, 32, 88, 32, 88, 88, 43, 32, 45, 32, 47, 32, 88, 32, 88, 88, 32, 45, 32, 47, 32, 88, 32, 88, 69, 117, 63, 32, 45, 32, 47, 32, 117, 32, 45, 32, 45, 32, 47, 32, 83, 32, 83, 42, 32, 45, 32, 47, 32, 83, 32, 69, 83, 83, 63, 32, 45, 32, 47, 32, 83, 32, 69, 67, 42, 32, 45, 32, 47, 32, 83, 32, 69, 67, 42, 32, 45, 32, 47, 32, 83, 32, 69, 67, 42, 32, 45, 32, 47, 32, 67, 32, 69, 42, 83, 32, 45, 32, 47, 32, 83, 32, 69, 83, 32, 45, 32, 47, 32, 83, 32, 69, 83, 32, 45, 32, 47, 32, 83, 32, 69, 69, 83, 32, 78, 32, 47, 32, 83, 32, 69, 69, 83, 32, 78, 32, 47, 32, 83, 32, 116, 69, 69, 63, 32, 45, 32, 47, 32, 83, 32, 116, 69, 69, 63, 32, 45, 32, 47, 32, 83, 32, 69, 32, 45, 32, 47, 32, 83, 32, 101, 32, 45, 32, 47, 32, 83, 32, 69, 32, 45, 32, 47, 32, 83, 32, 69, 42, 32, 88, 32, 47, 32, 83, 32, 69, 42, 32, 88, 32, 47, 32, 83, 32, 69, 42, 32, 88, 32, 47, 32, 83, 32, 69, 42, 32, 88, 32, 47, 32, 83, 32, 69, 32, 88, 32, 47, 32, 83, 32, 45, 32, 45, 32, 47, 32, 83, 32, 45, 32, 45, 32, 47, 32, 69, 117, 32, 45, 32, 86, 32, 47, 32, 69, 117, 116, 32, 45, 32, 78, 32, 47, 32, 69, 117, 116, 32, 69, 32, 78, 32, 47, 32, 69, 117, 116, 32, 69, 69, 32, 45, 32, 47, 32, 69, 117, 116, 32, 69, 69, 69, 32, 45, 32, 47, 32, 69, 117, 116, 32, 69, 69, 69, 32, 45, 32, 47, 32, 69, 117, 32, 69, 42, 32, 78, 32, 47, 32, 69, 117, 32, 69, 32, 45, 32, 47, 32, 69, 117, 32, 69, 32, 45, 32, 47, 32, 69, 117, 32, 69, 32, 45, 32, 47, 32, 69, 117, 32, 69, 32, 45, 32, 47, 32, 69, 117, 32, 69, 32, 45, 32, 47, 32, 69, 117, 32, 69, 32, 45, 32, 47, 32, 69, 117, 32, 69, 32, 45, 32, 47, 32, 69, 117, 32, 69, 69, 32, 45, 32, 47, 32, 69, 117, 32, 69, 69, 32, 45, 32, 47, 32, 69, 117, 32, 69, 69, 32, 45, 32, 47, 32, 69, 117, 32, 69, 69, 32, 45, 32, 47, 32, 69, 117, 32, 69, 69, 32, 45, 32, 47, 32, 69, 117, 32, 69, 69, 32, 45, 32, 47, 32, 69, 117, 32, 69, 69, 32, 45, 32, 47, 32, 69, 117, 32, 69, 69, 32, 45, 32, 47, 32, 69, 117, 32, 69, 69, 32, 45, 32, 47, 32, 69, 117, 32, 69, 69, 32, 45, 32, 47, 32, 69, 117, 32, 69, 69, 32, 45, 32, 47, 32, 69, 117, 32, 69, 69, 32, 45, 32, 47, 32, 69, 117, 32, 69, 69, 32, 45, 32, 47, 32, 69, 117, 32, 69, 69, 32, 45, 32, 47, 32, 69, 117, 32, 69, 69, 32, 45, 32, 47, 32, 69, 117, 32, 69, 69, 32, 45, 32, 47, 32, 69, 117, 32, 69, 69, 32, 45, 32, 47, 32, 69, 117, 32, 69, 69, 32, 45, 32, 47, 32, 69, 117, 32, 69, 69, 32, 45, 32, 47, 32, 69, 117, 32, 69, 69, 32, 45, 32, 47, 32, 69, 117, 32, 69, 69, 32, 45, 32, 47, 32, 69, 117, 32, 69, 69, 69, 32, 45, 32, 47, 32, 69, 117, 116, 32, 69, 43, 32, 45, 32, 47, 32, 69, 117, 32, 69, 69, 32, 45, 32, 47, 32, 69, 117, 32, 69, 32, 45, 32, 47, 32, 69, 117, 32, 69, 32, 45, 32, 47, 32, 69, 117, 32, 69, 69, 32, 45, 32, 47, 32, 69, 117, 32, 69, 32, 45, 32, 47, 32, 69, 117, 32, 69, 32, 45, 32, 47, 32, 69, 117, 32, 45, 32, 45]⟩ : ByteArray)).bind fun t228 => (if t228.length < 8796093022208 then ((some (t228 ++ [(⟨#[47]⟩ : ByteArray)] : List ByteArray)).bind fun y231 => (maskref1_forms.l0 k ([] : List (S73)) ([] : List ByteArray) y231 (y231.length : Int) 0)) else (none))
theorem maskref1_forms.mono_l : ∀ k, (∀ y0 y1 y2 y3 y4, LeO (maskref1_forms.l0 k y0 y1 y2 y3 y4) (maskref1_forms.l0 (k + 1) y0 y1 y2 y3 y4))
 | 0 => fun _ _ _ _ _ r h => by simp [maskref1_forms.l0] at h
 | k + 1 => by
  have ih0 := maskref1_forms.mono_l k
  ·intro y0 y1 y2 y3 y4
   unfold maskref1_forms.l0
   repeat' first | with_reducible exact ih0 _ _ _ _ _ | with_reducible exact maskref1_Split.mono _ _ | with_reducible exact LeO.refl _ | with_reducible exact LeO.none _ | with_reducible refine LeO.ite ?_ ?_ | with_reducible refine LeO.bind ?_ (fun _ => ?_)
def maskref1_forms.T8 : Bool × List (List Nat × List Nat) := (true, [([], []), ([0], [0]), ([1], [1]), ([], []), ([3], [3]), ([4], [4]), ([], []), ([6], [6]), ([7], [7]), ([2, 5, 8], [2, 5, 8]), ([], []), ([10, 9, 0, 1, 2, 3, 4, 5, 6, 7, 8, 9, 10], [9, 10])])
def maskref1_forms.B8 : List Nat := [0, 1, 3, 0, 8, 24, 0, 64, 192, 511, 0, 2047]
theorem maskref1_forms.tab8 : rtab .any (opsOf Try.f25 8) = maskref1_forms.T8 := by kernel_rfl
theorem maskref1_forms.bits8 : waitsOk maskref1_forms.T8.2 maskref1_forms.B8 = true := by kernel_rfl
set_option maxHeartbeats 8000000 in
set_option maxRecDepth 100000 in
theorem maskref1_forms.calls (k : Nat)  (r : List (S73)) (w : World) (h : maskref1_forms.f k  = some r) :
  Calls Try.prog 25 #[] w fun e w' => ∃ v0_ : Value, e = .returned (v0_) ∧ Kd.R k73 73 w' w.heap.size (fun _ => True) v0_ r ∧ Below w.heap.size w w' := by
 have hu73 := Try.underlying73
 have HB := Aside0.mk (Below.refl w.heap.size w)
 have H := h
 clear h
 unfold maskref1_forms.f at H
 replace H := bN H; obtain ⟨t228, A1, H⟩ := H
 by_cases c2 : t228.length < 8796093022208
 ·rw [if_pos c2] at H
  have LMc2 := Aside0.mk c2
  clear c2
  obtain ⟨y231, hy231⟩ : ∃ y_ : List ByteArray, y_ = (t228 ++ [(⟨#[47]⟩ : ByteArray)]) := ⟨_, rfl⟩
  replace H : (maskref1_forms.l0 k ([] : List (S73)) ([] : List ByteArray) y231 (y231.length : Int) 0) = some r := by (have H2_ := (Option.bind_some _ _).symm.trans H; rw [hy231]; with_reducible exact H2_)
  have Ny231 := Aside0.mk hy231
  clear hy231
  have H' := Aside0.mk H
  clear H
  go_enter Try.func25, Try.ntmps25
  go_wp2_with (first | (refine callA (some 6) Try.func38 #[.string (⟨#[45, 32, 45, 32, 45, 32, 47, 32, 70, 32, 73, 42, 32, 45, 32, 47, 32, 73, 32, 112, 113, 98, 32, 78, 32, 47, 32, 73, 32, 112, 105, 32, 78, 32, 47, 32, 112, 32, 80, 42, 32, 45, 32, 47, 32, 80, 32, 69, 32, 78, 32, 47, 32, 113, 32, 81, 42, 32, 45, 32, 47, 32, 81, 32, 84, 32, 78, 32, 47, 32, 81, 32, 84, 32, 78, 32, 47, 32, 81, 32, 84, 69, 63, 32, 78, 32, 47, 32, 81, 32, 110, 110, 32, 78, 32, 47, 32, 98, 32, 77, 42, 32, 45, 32, 47, 32, 105, 32, 86, 42, 32, 45, 32, 47, 32, 110, 32, 45, 32, 78, 32, 47, 32, 84, 32, 82, 63, 32, 83, 32, 47, 32, 84, 32, 45, 32, 78, 32, 47, 32, 82, 32, 69, 69, 32, 45, 32, 47, 32, 77, 86, 32, 84, 68, 43, 32, 45, 32, 47, 32, 77, 118, 32, 84, 68, 43, 32, 45, 32, 47, 32, 68, 32, 82, 63, 69, 63, 32, 78, 32, 47, 32, 73, 77, 32, 69, 32, 78, 32, 47, 32, 73, 77, 32, 82, 109, 43, 32, 78, 32, 47, 32, 109, 32, 69, 63, 32, 78, 32, 47, 32, 73, 77, 32, 102, 43, 32, 78, 32, 47, 32, 102, 32, 84, 32, 78, 32, 47, 32, 86, 32, 100, 43, 32, 78, 32, 47, 32, 100, 32, 45, 32, 78, 32, 47, 32, 100, 32, 45, 32, 78, 32, 47, 32, 73, 77, 32, 84, 97, 104, 32, 78, 32, 47, 32, 97, 32, 103, 42, 32, 45, 32, 47, 32, 103, 32, 84, 32, 78, 32, 47, 32, 104, 32, 118, 42, 83, 42, 32, 45, 32, 47, 32, 77, 32, 116, 69, 32, 45, 32, 47, 32, 77, 32, 83, 32, 45, 32, 47, 32, 77, 32, 101, 83, 32, 45, 32, 47, 32, 77, 32, 83, 32, 45, 32, 47, 32, 77, 32, 83, 32, 45, 32, 47, 32, 101, 32, 71, 43, 32, 45, 32, 47, 32, 71, 32, 116, 32, 45, 32, 47, 32, 71, 32, 116, 32, 45, 32, 47, 32, 71, 32, 116, 32, 45, 32, 47, 32, 77, 32, 110, 120, 120, 32, 78, 32, 47, 32, 77, 32, 110, 120, 32, 78, 32, 47, 32, 120, 32, 66, 42, 32, 45, 32, 47, 32, 66, 32, 69, 32, 78, 32, 47, 32, 77, 32, 110, 69, 69, 98, 32, 78, 32, 47, 32, 77, 119, 32, 69, 98, 119, 63, 32, 78, 32, 47, 32, 119, 32, 98, 32, 78, 32, 47, 32, 77, 32, 116, 88, 88, 32, 78, 32, 47, 32, 77, 32, 116, 88, 88, 32, 78, 32, 47, 32, 88, 32, 69, 32, 45, 32, 47, 32, 88, 32, 88, 69, 117, 63, 88, 32, 45, 32, 47, 32, 88, 32, 88, 88, 43, 32, 45, 32, 47, 32, 88, 32, 88, 88, 32, 45, 32, 47, 32, 88, 32, 88, 69, 117, 63, 32, 45, 32, 47, 32, 117, 32, 45, 32, 45, 32, 47, 32, 83, 32, 83, 42, 32, 45, 32, 47, 32, 83, 32, 69, 83, 83, 63, 32, 45, 32, 47, 32, 83, 32, 69, 67, 42, 32, 45, 32, 47, 32, 83, 32, 69, 67, 42, 32, 45, 32, 47, 32, 83, 32, 69, 67, 42, 32, 45, 32, 47, 32, 67, 32, 69, 42, 83, 32, 45, 32, 47, 32, 83, 32, 69, 83, 32, 45, 32, 47, 32, 83, 32, 69, 83, 32, 45, 32, 47, 32, 83, 32, 69, 69, 83, 32, 78, 32, 47, 32, 83, 32, 69, 69, 83, 32, 78, 32, 47, 32, 83, 32, 116, 69, 69, 63, 32, 45, 32, 47, 32, 83, 32, 116, 69, 69, 63, 32, 45, 32, 47, 32, 83, 32, 69, 32, 45, 32, 47, 32, 83, 32, 101, 32, 45, 32, 47, 32, 83, 32, 69, 32, 45, 32, 47, 32, 83, 32, 69, 42, 32, 88, 32, 47, 32, 83, 32, 69, 42, 32, 88, 32, 47, 32, 83, 32, 69, 42, 32, 88, 32, 47, 32, 83, 32, 69, 42, 32, 88, 32, 47, 32, 83, 32, 69, 32, 88, 32, 47, 32, 83, 32, 45, 32, 45, 32, 47, 32, 83, 32, 45, 32, 45, 32, 47, 32, 69, 117, 32, 45, 32, 86, 32, 47, 32, 69, 117, 116, 32, 45, 32, 78, 32, 47, 32, 69, 117, 116, 32, 69, 32, 78, 32, 47, 32, 69, 117, 116, 32, 69, 69, 32, 45, 32, 47, 32, 69, 117, 116, 32, 69, 69, 69, 32, 45, 32, 47, 32, 69, 117, 116, 32, 69, 69, 69, 32, 45, 32, 47, 32, 69, 117, 32, 69, 42, 32, 78, 32, 47, 32, 69, 117, 32, 69, 32, 45, 32, 47, 32, 69, 117, 32, 69, 32, 45, 32, 47, 32, 69, 117, 32, 69, 32, 45, 32, 47, 32, 69, 117, 32, 69, 32, 45, 32, 47, 32, 69, 117, 32, 69, 32, 45, 32, 47, 32, 69, 117, 32, 69, 32, 45, 32, 47, 32, 69, 117, 32, 69, 32, 45, 32, 47, 32, 69, 117, 32, 69, 69, 32, 45, 32, 47, 32, 69, 117, 32, 69, 69, 32, 45, 32, 47, 32, 69, 117, 32, 69, 69, 32, 45, 32, 47, 32, 69, 117, 32, 69, 69, 32, 45, 32, 47, 32, 69, 117, 32, 69, 69, 32, 45, 32, 47, 32, 69, 117, 32, 69, 69, 32, 45, 32, 47, 32, 69, 117, 32, 69, 69, 32, 45, 32, 47, 32, 69, 117, 32, 69, 69, 32, 45, 32, 47, 32, 69, 117, 32, 69, 69, 32, 45, 32, 47, 32, 69, 117, 32, 69, 69, 32, 45, 32, 47, 32, 69, 117, 32, 69, 69, 32, 45, 32, 47, 32, 69, 117, 32, 69, 69, 32, 45, 32, 47, 32, 69, 117, 32, 69, 69, 32, 45, 32, 47, 32, 69, 117, 32, 69, 69, 32, 45, 32, 47, 32, 69, 117, 32, 69, 69, 32, 45, 32, 47, 32, 69, 117, 32, 69, 69, 32, 45, 32, 47, 32, 69, 117, 32, 69, 69, 32, 45, 32, 47, 32, 69, 117, 32, 69, 69, 32, 45, 32, 47, 32, 69, 117, 32, 69, 69, 32, 45, 32, 47, 32, 69, 117, 32, 69, 69, 32, 45, 32, 47, 32, 69, 117, 32, 69, 69, 32, 45, 32, 47, 32, 69, 117, 32, 69, 69, 69, 32, 45, 32, 47, 32, 69, 117, 116, 32, 69, 43, 32, 45, 32, 47, 32, 69, 117, 32, 69, 69, 32, 45, 32, 47, 32, 69, 117, 32, 69, 32, 45, 32, 47, 32, 69, 117, 32, 69, 32, 45, 32, 47, 32, 69, 117, 32, 69, 69, 32, 45, 32, 47, 32, 69, 117, 32, 69, 32, 45, 32, 47, 32, 69, 117, 32, 69, 32, 45, 32, 47, 32, 69, 117, 32, 45, 32, 45]⟩ : ByteArray)] ?_; (with_reducible refine (maskref1_Split.calls k (⟨#[45, 32, 45, 32, 45, 32, 47, 32, 70, 32, 73, 42, 32, 45, 32, 47, 32, 73, 32, 112, 113, 98, 32, 78, 32, 47, 32, 73, 32, 112, 105, 32, 78, 32, 47, 32, 112, 32, 80, 42, 32, 45, 32, 47, 32, 80, 32, 69, 32, 78, 32, 47, 32, 113, 32, 81, 42, 32, 45, 32, 47, 32, 81, 32, 84, 32, 78, 32, 47, 32, 81, 32, 84, 32, 78, 32, 47, 32, 81, 32, 84, 69, 63, 32, 78, 32, 47, 32, 81, 32, 110, 110, 32, 78, 32, 47, 32, 98, 32, 77, 42, 32, 45, 32, 47, 32, 105, 32, 86, 42, 32, 45, 32, 47, 32, 110, 32, 45, 32, 78, 32, 47, 32, 84, 32, 82, 63, 32, 83, 32, 47, 32, 84, 32, 45, 32, 78, 32, 47, 32, 82, 32, 69, 69, 32, 45, 32, 47, 32, 77, 86, 32, 84, 68, 43, 32, 45, 32, 47, 32, 77, 118, 32, 84, 68, 43, 32, 45, 32, 47, 32, 68, 32, 82, 63, 69, 63, 32, 78, 32, 47, 32, 73, 77, 32, 69, 32, 78, 32, 47, 32, 73, 77, 32, 82, 109, 43, 32, 78, 32, 47, 32, 109, 32, 69, 63, 32, 78, 32, 47, 32, 73, 77, 32, 102, 43, 32, 78, 32, 47, 32, 102, 32, 84, 32, 78, 32, 47, 32, 86, 32, 100, 43, 32, 78, 32, 47, 32, 100, 32, 45, 32, 78, 32, 47, 32, 100, 32, 45, 32, 78, 32, 47, 32, 73, 77, 32, 84, 97, 104, 32, 78, 32, 47, 32, 97, 32, 103, 42, 32, 45, 32, 47, 32, 103, 32, 84, 32, 78, 32, 47, 32, 104, 32, 118, 42, 83, 42, 32, 45, 32, 47, 32, 77, 32, 116, 69, 32, 45, 32, 47, 32, 77, 32, 83, 32, 45, 32, 47, 32, 77, 32, 101, 83, 32, 45, 32, 47, 32, 77, 32, 83, 32, 45, 32, 47, 32, 77, 32, 83, 32, 45, 32, 47, 32, 101, 32, 71, 43, 32, 45, 32, 47, 32, 71, 32, 116, 32, 45, 32, 47, 32, 71, 32, 116, 32, 45, 32, 47, 32, 71, 32, 116, 32, 45, 32, 47, 32, 77, 32, 110, 120, 120, 32, 78, 32, 47, 32, 77, 32, 110, 120, 32, 78, 32, 47, 32, 120, 32, 66, 42, 32, 45, 32, 47, 32, 66, 32, 69, 32, 78, 32, 47, 32, 77, 32, 110, 69, 69, 98, 32, 78, 32, 47, 32, 77, 119, 32, 69, 98, 119, 63, 32, 78, 32, 47, 32, 119, 32, 98, 32, 78, 32, 47, 32, 77, 32, 116, 88, 88, 32, 78, 32, 47, 32, 77, 32, 116, 88, 88, 32, 78, 32, 47, 32, 88, 32, 69, 32, 45, 32, 47, 32, 88, 32, 88, 69, 117, 63, 88, 32, 45, 32, 47, 32, 88, 32, 88, 88, 43, 32, 45, 32, 47, 32, 88, 32, 88, 88, 32, 45, 32, 47, 32, 88, 32, 88, 69, 117, 63, 32, 45, 32, 47, 32, 117, 32, 45, 32, 45, 32, 47, 32, 83, 32, 83, 42, 32, 45, 32, 47, 32, 83, 32, 69, 83, 83, 63, 32, 45, 32, 47, 32, 83, 32, 69, 67, 42, 32, 45, 32, 47, 32, 83, 32, 69, 67, 42, 32, 45, 32, 47, 32, 83, 32, 69, 67, 42, 32, 45, 32, 47, 32, 67, 32, 69, 42, 83, 32, 45, 32, 47, 32, 83, 32, 69, 83, 32, 45, 32, 47, 32, 83, 32, 69, 83, 32, 45, 32, 47, 32, 83, 32, 69, 69, 83, 32, 78, 32, 47, 32, 83, 32, 69, 69, 83, 32, 78, 32, 47, 32, 83, 32, 116, 69, 69, 63, 32, 45, 32, 47, 32, 83, 32, 116, 69, 69, 63, 32, 45, 32, 47, 32, 83, 32, 69, 32, 45, 32, 47, 32, 83, 32, 101, 32, 45, 32, 47, 32, 83, 32, 69, 32, 45, 32, 47, 32, 83, 32, 69, 42, 32, 88, 32, 47, 32, 83, 32, 69, 42, 32, 88, 32, 47, 32, 83, 32, 69, 42, 32, 88, 32, 47, 32, 83, 32, 69, 42, 32, 88, 32, 47, 32, 83, 32, 69, 32, 88, 32, 47, 32, 83, 32, 45, 32, 45, 32, 47, 32, 83, 32, 45, 32, 45, 32, 47, 32, 69, 117, 32, 45, 32, 86, 32, 47, 32, 69, 117, 116, 32, 45, 32, 78, 32, 47, 32, 69, 117, 116, 32, 69, 32, 78, 32, 47, 32, 69, 117, 116, 32, 69, 69, 32, 45, 32, 47, 32, 69, 117, 116, 32, 69, 69, 69, 32, 45, 32, 47, 32, 69, 117, 116, 32, 69, 69, 69, 32, 45, 32, 47, 32, 69, 117, 32, 69, 42, 32, 78, 32, 47, 32, 69, 117, 32, 69, 32, 45, 32, 47, 32, 69, 117, 32, 69, 32, 45, 32, 47, 32, 69, 117, 32, 69, 32, 45, 32, 47, 32, 69, 117, 32, 69, 32, 45, 32, 47, 32, 69, 117, 32, 69, 32, 45, 32, 47, 32, 69, 117, 32, 69, 32, 45, 32, 47, 32, 69, 117, 32, 69, 32, 45, 32, 47, 32, 69, 117, 32, 69, 69, 32, 45, 32, 47, 32, 69, 117, 32, 69, 69, 32, 45, 32, 47, 32, 69, 117, 32, 69, 69, 32, 45, 32, 47, 32, 69, 117, 32, 69, 69, 32, 45, 32, 47, 32, 69, 117, 32, 69, 69, 32, 45, 32, 47, 32, 69, 117, 32, 69, 69, 32, 45, 32, 47, 32, 69, 117, 32, 69, 69, 32, 45, 32, 47, 32, 69, 117, 32, 69, 69, 32, 45, 32, 47, 32, 69, 117, 32, 69, 69, 32, 45, 32, 47, 32, 69, 117, 32, 69, 69, 32, 45, 32, 47, 32, 69, 117, 32, 69, 69, 32, 45, 32, 47, 32, 69, 117, 32, 69, 69, 32, 45, 32, 47, 32, 69, 117, 32, 69, 69, 32, 45, 32, 47, 32, 69, 117, 32, 69, 69, 32, 45, 32, 47, 32, 69, 117, 32, 69, 69, 32, 45, 32, 47, 32, 69, 117, 32, 69, 69, 32, 45, 32, 47, 32, 69, 117, 32, 69, 69, 32, 45, 32, 47, 32, 69, 117, 32, 69, 69, 32, 45, 32, 47, 32, 69, 117, 32, 69, 69, 32, 45, 32, 47, 32, 69, 117, 32, 69, 69, 32, 45, 32, 47, 32, 69, 117, 32, 69, 69, 32, 45, 32, 47, 32, 69, 117, 32, 69, 69, 69, 32, 45, 32, 47, 32, 69, 117, 116, 32, 69, 43, 32, 45, 32, 47, 32, 69, 117, 32, 69, 69, 32, 45, 32, 47, 32, 69, 117, 32, 69, 32, 45, 32, 47, 32, 69, 117, 32, 69, 32, 45, 32, 47, 32, 69, 117, 32, 69, 69, 32, 45, 32, 47, 32, 69, 117, 32, 69, 32, 45, 32, 47, 32, 69, 117, 32, 69, 32, 45, 32, 47, 32, 69, 117, 32, 45, 32, 45]⟩ : ByteArray) t228 _ A1.out).mono ?_); rintro e w3 ⟨v229, rfl, ho0, hb⟩; refine ⟨_, rfl, ?_⟩; have HO230 := Aside0.mk (Kd.R_lower ho0 (below_size HB.out)); replace HB := hb1 HB hb; (try clear hb); (try clear ho0)) | ((with_reducible refine gate_builtin (b := .append) (xs := #[.tmp 6, .tmp 7]) rfl ?_); at_builtin; refine Kd.R_append Kd.string (w0 := w) w.heap.size rfl (.tmp 6) (.tmp 7) 75 9 (.string ⟨#[]⟩) 16 rfl Try.underlying75 info9 rfl (by decide) (by omega) v229 t228 (⟨#[47]⟩ : ByteArray) [.string (⟨#[47]⟩ : ByteArray)] (fun _ => True) (fun _ => False) rfl rfl ?aP (fun _ hk => hk.elim) ?aF ?aO ?aB ?aS ?aL ?_; (case aP => exact rfl); (case aB => exact HB.out); (case aF => exact (fun _ _ => trivial)); (case aO => exact HO230.out); (case aS => exact (below_size HB.out)); (case aL => have := LMc2.out; omega); intro v232 w4 ho hb hg hat; rw [← Ny231.out] at ho; replace HB := Aside0.mk (hb); have HO233 := Aside0.mk (ho); clear HO230; clear ho hb hg hat; obtain ⟨Ao5, co5, eo5⟩ := Kd.R_slice HO233.out; subst eo5))
  go_loopg [1, 2, 10] k (fun kq v1 v2 v10 w' => ∃ (x1_1 : List (S73)) (x2_1 : List ByteArray) (x10_1 : Int), v10 = .int .i64 x10_1 ∧ Aside0 (maskref1_forms.l0 kq x1_1 x2_1 y231 (y231.length : Int) x10_1 = some r) ∧ Aside0 (kq ≤ k) ∧ Aside0 (Kd.R k73 73 w' w.heap.size (fun _ => True) v1 x1_1) ∧ Aside0 (Kd.R Kd.string 9 w' w.heap.size (fun k_ => some k_ ≠ ((.slice Ao5 y231.length co5) : Value).ownBlock) v2 x2_1) ∧ Aside0 (Kd.R Kd.string 9 w' w.heap.size (fun k_ => some k_ ≠ (v2 : Value).ownBlock) (.slice Ao5 y231.length co5) y231) ∧ Aside0 (Below w.heap.size w w'))
  case atStart => exact ⟨([] : List (S73)), ([] : List ByteArray), (0), (by rfl), H', ⟨Nat.le_refl _⟩, ⟨by exact Kd.R_nil _ _ _ _ _⟩, ⟨by exact Kd.R_nil _ _ _ _ _⟩, ⟨by exact Kd.R_mono HO233.out (fun _ hk => (by simp [Value.ownBlock]))⟩, ⟨by repeat (with_reducible exact HB.out)⟩⟩
  case round =>
   clear H'
   obtain ⟨x1_1, x2_1, x10_1, rfl, HA, HK1, HO_1, HO_2, HO_8, HB⟩ := hrel
   cases gk with
   | zero => exact absurd HA.out (by simp [maskref1_forms.l0])
   | succ k1 =>
    have H := HA.out
    clear HA
    simp only [maskref1_forms.l0] at H
    replace H := iD H; rcases H with ⟨c6b0, H⟩ | ⟨c6b0, H⟩
    ·replace H := iN H; obtain ⟨c7b0, H⟩ := H
     replace H := iN H; obtain ⟨c8b0, H⟩ := H
     replace H := iE H; rcases H with ⟨c9b0, c9b1, H⟩ | ⟨c9, c9b0, c9b1, H⟩
     ·by_cases c10 : 0 < (x2_1.length : Int)
      ·rw [if_pos c10] at H
       have c10b0 : decide (0 < (x2_1.length : Int)) = true := decide_eq_true c10
       have c10b1 : decide (0 < x2_1.length) = true := decide_eq_true (by omega)
       clear c10
       by_cases c11 : 1 < (x2_1.length : Int)
       ·rw [if_pos c11] at H
        have c11b0 : decide (1 < (x2_1.length : Int)) = true := decide_eq_true c11
        have c11b1 : decide (1 < x2_1.length) = true := decide_eq_true (by omega)
        clear c11
        by_cases c12 : 2 < (x2_1.length : Int)
        ·rw [if_pos c12] at H
         have c12b0 : decide (2 < (x2_1.length : Int)) = true := decide_eq_true c12
         have c12b1 : decide (2 < x2_1.length) = true := decide_eq_true (by omega)
         clear c12
         replace H := iE H; rcases H with ⟨c13b0, c13b1, H⟩ | ⟨c13, c13b0, c13b1, H⟩
         ·by_cases c14 : x1_1.length < 2932031007402
          ·rw [if_pos c14] at H
           have LMc14 := Aside0.mk c14
           clear c14
           obtain ⟨y242, hy242⟩ : ∃ y_ : List (S73), y_ = (x1_1 ++ [(⟨rdOf ByteArray.empty x2_1 0, (⟨#[]⟩ : ByteArray), rdOf ByteArray.empty x2_1 2⟩ : S73)]) := ⟨_, rfl⟩
           replace H : (maskref1_forms.l0 k1 y242 ([] : List ByteArray) y231 (y231.length : Int) (wrap64 (x10_1 + 1))) = some r := by (rw [hy242]; with_reducible exact H)
           have Ny242 := Aside0.mk hy242
           clear hy242
           have H' := Aside0.mk H
           clear H
           have p234 : 0 ≤ (x10_1 : Int) := of_decide_eq_true (by (with_reducible assumption))
           have q234 : x10_1 < (y231.length : Int) := of_decide_eq_true (by (with_reducible assumption))
           obtain ⟨ad234, e234, hx234_0⟩ := Kd.at_string (Kd.R_reads' HO_8.out).2.2 x10_1 p234 q234
           cases e234
           replace p234 := eq_true p234
           replace q234 := eq_true q234
           try go_wp2
           replace HO_1 := Aside0.mk (Kd.R_drew HO_1.out)
           replace HO_2 := Aside0.mk (Kd.R_drew HO_2.out)
           replace HO_8 := Aside0.mk (Kd.R_drew HO_8.out)
           replace HB := hbd HB
           obtain ⟨Ao16, co16, eo16⟩ := Kd.R_slice HO_2.out
           (subst eo16)
           have p238 : 0 ≤ (0 : Int) := (by omega)
           have q238 : 0 < (x2_1.length : Int) := of_decide_eq_true (by (with_reducible assumption))
           obtain ⟨ad238, e238, hx238_0⟩ := Kd.at_string (Kd.R_reads' HO_2.out).2.2 0 p238 q238
           cases e238
           have qi238 : (0 < x2_1.length) = True := eq_true (by omega)
           (try rw [show (0 : Int).toNat = 0 from rfl] at hx238_0)
           (try rw [Addr.add_zero'] at hx238_0)
           replace p238 := eq_true p238
           replace q238 := eq_true q238
           have p239 : 0 ≤ (1 : Int) := (by omega)
           have q239 : 1 < (x2_1.length : Int) := of_decide_eq_true (by (with_reducible assumption))
           obtain ⟨ad239, e239, hx239_0⟩ := Kd.at_string (Kd.R_reads' HO_2.out).2.2 1 p239 q239
           obtain rfl : ad238 = ad239 := (by injection e239)
           (try simp only [show (1 : Int).toNat = 1 from rfl, Nat.reduceMul, Nat.reduceEqDiff, Go.Addr.add, ↓reduceIte] at hx239_0)
           have qi239 : (1 < x2_1.length) = True := eq_true (by omega)
           replace p239 := eq_true p239
           replace q239 := eq_true q239
           have p240 : 0 ≤ (2 : Int) := (by omega)
           have q240 : 2 < (x2_1.length : Int) := of_decide_eq_true (by (with_reducible assumption))
           obtain ⟨ad240, e240, hx240_0⟩ := Kd.at_string (Kd.R_reads' HO_2.out).2.2 2 p240 q240
           obtain rfl : ad238 = ad240 := (by injection e240)
           (try simp only [show (2 : Int).toNat = 2 from rfl, Nat.reduceMul, Nat.reduceEqDiff, Go.Addr.add, ↓reduceIte] at hx240_0)
           have qi240 : (2 < x2_1.length) = True := eq_true (by omega)
           replace p240 := eq_true p240
           replace q240 := eq_true q240
           refine start_ (n := 12) (S := fun w' => w'.cell? ad238 = some (.string (rdOf ByteArray.empty x2_1 0)) ∧ w'.cell? ⟨ad238.block, ad238.off + 1, none⟩ = some (.string (rdOf ByteArray.empty x2_1 1)) ∧ w'.cell? ⟨ad238.block, ad238.off + 2, none⟩ = some (.string (rdOf ByteArray.empty x2_1 2))) (ds := []) (tb 12 0) (by kernel_rfl) rfl (by kernel_rfl) ⟨hx238_0, hx239_0, hx240_0⟩ (fun hHeld => ?_); refine with_tabW maskref1_forms.tab8 maskref1_forms.bits8 (fun HT_ HW_ => ?_)
           generalize wr.drew = w15 at HO_1 HO_2 HO_8 HB hx238_0 hx239_0 hx240_0 hHeld ⊢
           refine pA 0 20 (tb 12 1) HT_ ?_
           refine pA 1 21 (tb 12 3) HT_ ?_
           refine pA 3 23 (tb 12 11) HT_ ?_
           refine pA 4 24 (tb 12 27) HT_ ?_
           refine pA 6 26 (tb 12 91) HT_ ?_
           refine pA 7 27 (tb 12 219) HT_ ?_
           refine tA 2 22 (tb 12 223) HT_ HW_ hHeld ?_
           refine tA 5 25 (tb 12 255) HT_ HW_ hHeld ?_
           refine tA 8 28 (tb 12 511) HT_ HW_ hHeld ?_
           refine pA 9 29 (tb 12 1023) HT_ ?_
           refine oA 10 (some 5) (tb 12 2047) HT_ (fun K hK => ?_)
           refine box_step ?hg (N := 5) ?hd (cs := #[.string (⟨#[]⟩ : ByteArray), .string (⟨#[]⟩ : ByteArray), .string (⟨#[]⟩ : ByteArray)]) (t := 73) ?hr ?_; (case hd => rfl); (case hg => rfl); (case hr => (go_simp; done))
           intro gb241 hg w17 hbox hb
           have HS0_ := (hb.cell (World.block_lt_of_cell? _ _ (hHeld.1))).trans (hHeld.1)
           have HS1_ := (hb.cell (World.block_lt_of_cell? _ _ (hHeld.2.1))).trans (hHeld.2.1)
           have HS2_ := (hb.cell (World.block_lt_of_cell? _ _ (hHeld.2.2))).trans (hHeld.2.2)
           replace HO_1 := Aside0.mk (Kd.R_below (Kd.R_elderB HO_1.out gb241 (Nat.le_of_eq hg.symm)) hb)
           replace HO_2 := Kd.rb1 HO_2 hb
           replace HO_8 := Kd.rb1 HO_8 hb
           have BK241 := Aside0.mk (hbox)
           have GW241 := ge1 HB hg
           have GE241 := ge1 HB hg
           replace HB := hb1 HB hb
           clear hb hbox hg
           refine hK.out _ _ ⟨HS0_, HS1_, HS2_⟩ (fun hHeld => ?_)
           clear hK K
           refine nA ?_
           refine oA 11 (none) (tb 12 4095) HT_ (fun K hK => ?_)
           have hs18 : w17.cell? ⟨gb241, 0, none⟩ = some (.string (⟨#[]⟩ : ByteArray)) := (blk_cell BK241.out 0).trans rfl
           have hfs18 := blk_frozen BK241.out 0
           have hs19 : w17.cell? ⟨gb241, 1, none⟩ = some (.string (⟨#[]⟩ : ByteArray)) := (blk_cell BK241.out 1).trans rfl
           have hfs19 := blk_frozen BK241.out 1
           have hs20 : w17.cell? ⟨gb241, 2, none⟩ = some (.string (⟨#[]⟩ : ByteArray)) := (blk_cell BK241.out 2).trans rfl
           have hfs20 := blk_frozen BK241.out 2
           refine skip_ (w1 := ?_) (by rfl) rfl ?_ ?_
           rotate_left
           ·go_simp
            rfl
           refine hK.out _ _ ⟨((cell_far (p := ⟨gb241, _, none⟩) (by exact Kd.own_blk (Kd.R_ne HO_2.out BK241.out (by decide))) _).trans (((cell_far (p := ⟨gb241, _, none⟩) (by exact Kd.own_blk (Kd.R_ne HO_2.out BK241.out (by decide))) _).trans (((cell_far (p := ⟨gb241, _, none⟩) (by exact Kd.own_blk (Kd.R_ne HO_2.out BK241.out (by decide))) _).trans (hHeld.1)))))), ((cell_far (p := ⟨gb241, _, none⟩) (by (dsimp only; exact Kd.own_blk (Kd.R_ne HO_2.out BK241.out (by decide)))) _).trans (((cell_far (p := ⟨gb241, _, none⟩) (by (dsimp only; exact Kd.own_blk (Kd.R_ne HO_2.out BK241.out (by decide)))) _).trans (((cell_far (p := ⟨gb241, _, none⟩) (by (dsimp only; exact Kd.own_blk (Kd.R_ne HO_2.out BK241.out (by decide)))) _).trans (hHeld.2.1)))))), ((cell_far (p := ⟨gb241, _, none⟩) (by (dsimp only; exact Kd.own_blk (Kd.R_ne HO_2.out BK241.out (by decide)))) _).trans (((cell_far (p := ⟨gb241, _, none⟩) (by (dsimp only; exact Kd.own_blk (Kd.R_ne HO_2.out BK241.out (by decide)))) _).trans (((cell_far (p := ⟨gb241, _, none⟩) (by (dsimp only; exact Kd.own_blk (Kd.R_ne HO_2.out BK241.out (by decide)))) _).trans (hHeld.2.2))))))⟩ (fun hHeld => ?_)
           clear hK K
           refine done_ (done_of HT_.out (by kernel_rfl)) ?_
           obtain ⟨hcz21_0, hcz21_1, hcz21_2, hfz21_0, hfz21_1, hfz21_2⟩ := cf3 BK241
           have hq10 : (w17.setCell ⟨gb241, 0, none⟩ (.string (rdOf ByteArray.empty x2_1 0))).cell? ⟨gb241, 0, none⟩ = some (.string (rdOf ByteArray.empty x2_1 0)) := World.cell?_setCell_same _ _ _ hcz21_0
           have hq11 : (w17.setCell ⟨gb241, 0, none⟩ (.string (rdOf ByteArray.empty x2_1 0))).cell? ⟨gb241, 1, none⟩ = some (.string ⟨#[]⟩) := by go_simp
           have hq12 : (w17.setCell ⟨gb241, 0, none⟩ (.string (rdOf ByteArray.empty x2_1 0))).cell? ⟨gb241, 2, none⟩ = some (.string ⟨#[]⟩) := by go_simp
           have hq20 : ((w17.setCell ⟨gb241, 0, none⟩ (.string (rdOf ByteArray.empty x2_1 0))).setCell ⟨gb241, 1, none⟩ (.string (rdOf ByteArray.empty x2_1 1))).cell? ⟨gb241, 0, none⟩ = some (.string (rdOf ByteArray.empty x2_1 0)) := by go_simp
           have hq21 : ((w17.setCell ⟨gb241, 0, none⟩ (.string (rdOf ByteArray.empty x2_1 0))).setCell ⟨gb241, 1, none⟩ (.string (rdOf ByteArray.empty x2_1 1))).cell? ⟨gb241, 1, none⟩ = some (.string (rdOf ByteArray.empty x2_1 1)) := World.cell?_setCell_same _ _ _ hq11
           have hq22 : ((w17.setCell ⟨gb241, 0, none⟩ (.string (rdOf ByteArray.empty x2_1 0))).setCell ⟨gb241, 1, none⟩ (.string (rdOf ByteArray.empty x2_1 1))).cell? ⟨gb241, 2, none⟩ = some (.string ⟨#[]⟩) := by go_simp
           have hq30 : (((w17.setCell ⟨gb241, 0, none⟩ (.string (rdOf ByteArray.empty x2_1 0))).setCell ⟨gb241, 1, none⟩ (.string (rdOf ByteArray.empty x2_1 1))).setCell ⟨gb241, 2, none⟩ (.string (rdOf ByteArray.empty x2_1 2))).cell? ⟨gb241, 0, none⟩ = some (.string (rdOf ByteArray.empty x2_1 0)) := by go_simp
           have hq31 : (((w17.setCell ⟨gb241, 0, none⟩ (.string (rdOf ByteArray.empty x2_1 0))).setCell ⟨gb241, 1, none⟩ (.string (rdOf ByteArray.empty x2_1 1))).setCell ⟨gb241, 2, none⟩ (.string (rdOf ByteArray.empty x2_1 2))).cell? ⟨gb241, 1, none⟩ = some (.string (rdOf ByteArray.empty x2_1 1)) := by go_simp
           have hq32 : (((w17.setCell ⟨gb241, 0, none⟩ (.string (rdOf ByteArray.empty x2_1 0))).setCell ⟨gb241, 1, none⟩ (.string (rdOf ByteArray.empty x2_1 1))).setCell ⟨gb241, 2, none⟩ (.string (rdOf ByteArray.empty x2_1 2))).cell? ⟨gb241, 2, none⟩ = some (.string (rdOf ByteArray.empty x2_1 2)) := World.cell?_setCell_same _ _ _ hq22
           have hq40 : ((((w17.setCell ⟨gb241, 0, none⟩ (.string (rdOf ByteArray.empty x2_1 0))).setCell ⟨gb241, 1, none⟩ (.string (rdOf ByteArray.empty x2_1 1))).setCell ⟨gb241, 2, none⟩ (.string (rdOf ByteArray.empty x2_1 2))).setCell ⟨gb241, 1, none⟩ (.string ⟨#[]⟩)).cell? ⟨gb241, 0, none⟩ = some (.string (rdOf ByteArray.empty x2_1 0)) := by go_simp
           have hq41 : ((((w17.setCell ⟨gb241, 0, none⟩ (.string (rdOf ByteArray.empty x2_1 0))).setCell ⟨gb241, 1, none⟩ (.string (rdOf ByteArray.empty x2_1 1))).setCell ⟨gb241, 2, none⟩ (.string (rdOf ByteArray.empty x2_1 2))).setCell ⟨gb241, 1, none⟩ (.string ⟨#[]⟩)).cell? ⟨gb241, 1, none⟩ = some (.string ⟨#[]⟩) := World.cell?_setCell_same _ _ _ hq31
           have hq42 : ((((w17.setCell ⟨gb241, 0, none⟩ (.string (rdOf ByteArray.empty x2_1 0))).setCell ⟨gb241, 1, none⟩ (.string (rdOf ByteArray.empty x2_1 1))).setCell ⟨gb241, 2, none⟩ (.string (rdOf ByteArray.empty x2_1 2))).setCell ⟨gb241, 1, none⟩ (.string ⟨#[]⟩)).cell? ⟨gb241, 2, none⟩ = some (.string (rdOf ByteArray.empty x2_1 2)) := by go_simp
           try go_wp2_with (((with_reducible refine gate_builtin (b := .append) (xs := #[.tmp 34, .tmp 36]) rfl ?_); at_builtin; refine Kd.R_append k73 (w0 := w) w.heap.size rfl (.tmp 34) (.tmp 36) 55 73 (.agg #[(.string ⟨#[]⟩), (.string ⟨#[]⟩), (.string ⟨#[]⟩)]) 48 rfl Try.underlying55 info73 rfl (by decide) (by omega) u1 x1_1 (⟨rdOf ByteArray.empty x2_1 0, (⟨#[]⟩ : ByteArray), rdOf ByteArray.empty x2_1 2⟩ : S73) [.string (rdOf ByteArray.empty x2_1 0), .string (⟨#[]⟩ : ByteArray), .string (rdOf ByteArray.empty x2_1 2)] (fun k_ => k_ ≠ gb241) (fun _ => False) rfl (by (go_simp; done)) ?aP (fun _ hk => hk.elim) ?aF ?aO ?aB ?aS ?aL ?_; (case aP => exact k73_mkM _ _ _ (⟨rdOf ByteArray.empty x2_1 0, (⟨#[]⟩ : ByteArray), rdOf ByteArray.empty x2_1 2⟩ : S73)); (case aB => exact (by repeat (with_reducible first | exact HB.out | refine below_set ?_ GE241.out))); (case aF => exact (fun k_ hk => Kd.freshB (g := gb241) (o := .cells #[.string (rdOf ByteArray.empty x2_1 0), .string (⟨#[]⟩ : ByteArray), .string (rdOf ByteArray.empty x2_1 2)] 73 (0, 0)) (by refine blk_put (cs := #[.string (rdOf ByteArray.empty x2_1 0), .string (rdOf ByteArray.empty x2_1 1), .string (rdOf ByteArray.empty x2_1 2)]) ?_ 1 _ rfl; refine blk_put (cs := #[.string (rdOf ByteArray.empty x2_1 0), .string (rdOf ByteArray.empty x2_1 1), .string (⟨#[]⟩ : ByteArray)]) ?_ 2 _ rfl; refine blk_put (cs := #[.string (rdOf ByteArray.empty x2_1 0), .string (⟨#[]⟩ : ByteArray), .string (⟨#[]⟩ : ByteArray)]) ?_ 1 _ rfl; refine blk_put (cs := #[.string (⟨#[]⟩ : ByteArray), .string (⟨#[]⟩ : ByteArray), .string (⟨#[]⟩ : ByteArray)]) ?_ 0 _ rfl; exact BK241.out) k_ hk)); (case aO => exact (by exact Kd.R_mono (Kd.R_far (p := ⟨gb241, 1, none⟩) (Kd.R_far (p := ⟨gb241, 2, none⟩) (Kd.R_far (p := ⟨gb241, 1, none⟩) (Kd.R_far (p := ⟨gb241, 0, none⟩) (Kd.R_mono HO_1.out (fun k_ hk => (⟨hk, hk.2⟩ : _ ∧ k_ ≠ gb241))) (fun _ hk => hk.2) (.string (rdOf ByteArray.empty x2_1 0))) (fun _ hk => hk.2) (.string (rdOf ByteArray.empty x2_1 1))) (fun _ hk => hk.2) (.string (rdOf ByteArray.empty x2_1 2))) (fun _ hk => hk.2) (.string (⟨#[]⟩ : ByteArray))) (fun _ hk => hk.1.2))); (case aS => exact (below_size (by repeat (with_reducible first | exact HB.out | refine below_set ?_ GE241.out)))); (case aL => have := LMc14.out; omega); intro v243 w22 ho hb hg hat; rw [← Ny242.out] at ho; replace HO_2 := Aside0.mk (Kd.R_over' (by exact (Kd.R_mono (Kd.R_far (p := ⟨gb241, 1, none⟩) (Kd.R_far (p := ⟨gb241, 2, none⟩) (Kd.R_far (p := ⟨gb241, 1, none⟩) (Kd.R_far (p := ⟨gb241, 0, none⟩) (Kd.R_types HO_2.out BK241.out (by decide)) (fun _ hk => hk.2) (.string (rdOf ByteArray.empty x2_1 0))) (fun _ hk => hk.2) (.string (rdOf ByteArray.empty x2_1 1))) (fun _ hk => hk.2) (.string (rdOf ByteArray.empty x2_1 2))) (fun _ hk => hk.2) (.string (⟨#[]⟩ : ByteArray))) (fun _ h_ => h_.1))) (Kd.R_typed (by exact (Kd.R_mono (Kd.R_far (p := ⟨gb241, 1, none⟩) (Kd.R_far (p := ⟨gb241, 2, none⟩) (Kd.R_far (p := ⟨gb241, 1, none⟩) (Kd.R_far (p := ⟨gb241, 0, none⟩) (Kd.R_mono HO_1.out (fun k_ hk => (⟨hk, hk.2⟩ : _ ∧ k_ ≠ gb241))) (fun _ hk => hk.2) (.string (rdOf ByteArray.empty x2_1 0))) (fun _ hk => hk.2) (.string (rdOf ByteArray.empty x2_1 1))) (fun _ hk => hk.2) (.string (rdOf ByteArray.empty x2_1 2))) (fun _ hk => hk.2) (.string (⟨#[]⟩ : ByteArray))) (fun _ h_ => h_.1)))) (by decide) hg); replace HO_8 := Aside0.mk (Kd.R_over' (by exact (Kd.R_mono (Kd.R_far (p := ⟨gb241, 1, none⟩) (Kd.R_far (p := ⟨gb241, 2, none⟩) (Kd.R_far (p := ⟨gb241, 1, none⟩) (Kd.R_far (p := ⟨gb241, 0, none⟩) (Kd.R_types HO_8.out BK241.out (by decide)) (fun _ hk => hk.2) (.string (rdOf ByteArray.empty x2_1 0))) (fun _ hk => hk.2) (.string (rdOf ByteArray.empty x2_1 1))) (fun _ hk => hk.2) (.string (rdOf ByteArray.empty x2_1 2))) (fun _ hk => hk.2) (.string (⟨#[]⟩ : ByteArray))) (fun _ h_ => h_.1))) (Kd.R_typed (by exact (Kd.R_mono (Kd.R_far (p := ⟨gb241, 1, none⟩) (Kd.R_far (p := ⟨gb241, 2, none⟩) (Kd.R_far (p := ⟨gb241, 1, none⟩) (Kd.R_far (p := ⟨gb241, 0, none⟩) (Kd.R_mono HO_1.out (fun k_ hk => (⟨hk, hk.2⟩ : _ ∧ k_ ≠ gb241))) (fun _ hk => hk.2) (.string (rdOf ByteArray.empty x2_1 0))) (fun _ hk => hk.2) (.string (rdOf ByteArray.empty x2_1 1))) (fun _ hk => hk.2) (.string (rdOf ByteArray.empty x2_1 2))) (fun _ hk => hk.2) (.string (⟨#[]⟩ : ByteArray))) (fun _ h_ => h_.1)))) (by decide) hg); replace BK241 := Aside0.mk (blk_grown (g := gb241) (o := .cells #[.string (rdOf ByteArray.empty x2_1 0), .string (⟨#[]⟩ : ByteArray), .string (rdOf ByteArray.empty x2_1 2)] 73 (0, 0)) (by refine blk_put (cs := #[.string (rdOf ByteArray.empty x2_1 0), .string (rdOf ByteArray.empty x2_1 1), .string (rdOf ByteArray.empty x2_1 2)]) ?_ 1 _ rfl; refine blk_put (cs := #[.string (rdOf ByteArray.empty x2_1 0), .string (rdOf ByteArray.empty x2_1 1), .string (⟨#[]⟩ : ByteArray)]) ?_ 2 _ rfl; refine blk_put (cs := #[.string (rdOf ByteArray.empty x2_1 0), .string (⟨#[]⟩ : ByteArray), .string (⟨#[]⟩ : ByteArray)]) ?_ 1 _ rfl; refine blk_put (cs := #[.string (⟨#[]⟩ : ByteArray), .string (⟨#[]⟩ : ByteArray), .string (⟨#[]⟩ : ByteArray)]) ?_ 0 _ rfl; exact BK241.out) hg (Kd.R_away HO_1.out (fun _ hk => hk.2))); replace HB := Aside0.mk (hb); have HO244 := Aside0.mk (ho); clear HO_1; clear ho hb hg hat))
           go_roundg k1
           case measure => have := HK1.out; omega
           case rel => exact ⟨(y242), ([] : List ByteArray), (wrap64 (x10_1 + 1)), (by rfl), H', ⟨by have := HK1.out; omega⟩, ⟨by exact Kd.R_mono HO244.out (fun _ hk => trivial)⟩, ⟨by exact Kd.R_nil _ _ _ _ _⟩, ⟨by exact Kd.R_mono HO_8.out (fun _ hk => (by simp [Value.ownBlock]))⟩, ⟨by repeat (with_reducible exact HB.out)⟩⟩
          ·rw [if_neg c14] at H
           exact absurd H (by simp)
         ·by_cases c23 : x1_1.length < 2932031007402
          ·rw [if_pos c23] at H
           have LMc23 := Aside0.mk c23
           clear c23
           obtain ⟨y245, hy245⟩ : ∃ y_ : List (S73), y_ = (x1_1 ++ [(⟨rdOf ByteArray.empty x2_1 0, rdOf ByteArray.empty x2_1 1, rdOf ByteArray.empty x2_1 2⟩ : S73)]) := ⟨_, rfl⟩
           replace H : (maskref1_forms.l0 k1 y245 ([] : List ByteArray) y231 (y231.length : Int) (wrap64 (x10_1 + 1))) = some r := by (rw [hy245]; with_reducible exact H)
           have Ny245 := Aside0.mk hy245
           clear hy245
           have H' := Aside0.mk H
           clear H
           have p234 : 0 ≤ (x10_1 : Int) := of_decide_eq_true (by (with_reducible assumption))
           have q234 : x10_1 < (y231.length : Int) := of_decide_eq_true (by (with_reducible assumption))
           obtain ⟨ad234, e234, hx234_0⟩ := Kd.at_string (Kd.R_reads' HO_8.out).2.2 x10_1 p234 q234
           cases e234
           replace p234 := eq_true p234
           replace q234 := eq_true q234
           try go_wp2
           replace HO_1 := Aside0.mk (Kd.R_drew HO_1.out)
           replace HO_2 := Aside0.mk (Kd.R_drew HO_2.out)
           replace HO_8 := Aside0.mk (Kd.R_drew HO_8.out)
           replace HB := hbd HB
           obtain ⟨Ao25, co25, eo25⟩ := Kd.R_slice HO_2.out
           (subst eo25)
           have p238 : 0 ≤ (0 : Int) := (by omega)
           have q238 : 0 < (x2_1.length : Int) := of_decide_eq_true (by (with_reducible assumption))
           obtain ⟨ad238, e238, hx238_0⟩ := Kd.at_string (Kd.R_reads' HO_2.out).2.2 0 p238 q238
           cases e238
           have qi238 : (0 < x2_1.length) = True := eq_true (by omega)
           (try rw [show (0 : Int).toNat = 0 from rfl] at hx238_0)
           (try rw [Addr.add_zero'] at hx238_0)
           replace p238 := eq_true p238
           replace q238 := eq_true q238
           have p239 : 0 ≤ (1 : Int) := (by omega)
           have q239 : 1 < (x2_1.length : Int) := of_decide_eq_true (by (with_reducible assumption))
           obtain ⟨ad239, e239, hx239_0⟩ := Kd.at_string (Kd.R_reads' HO_2.out).2.2 1 p239 q239
           obtain rfl : ad238 = ad239 := (by injection e239)
           (try simp only [show (1 : Int).toNat = 1 from rfl, Nat.reduceMul, Nat.reduceEqDiff, Go.Addr.add, ↓reduceIte] at hx239_0)
           have qi239 : (1 < x2_1.length) = True := eq_true (by omega)
           replace p239 := eq_true p239
           replace q239 := eq_true q239
           have p240 : 0 ≤ (2 : Int) := (by omega)
           have q240 : 2 < (x2_1.length : Int) := of_decide_eq_true (by (with_reducible assumption))
           obtain ⟨ad240, e240, hx240_0⟩ := Kd.at_string (Kd.R_reads' HO_2.out).2.2 2 p240 q240
           obtain rfl : ad238 = ad240 := (by injection e240)
           (try simp only [show (2 : Int).toNat = 2 from rfl, Nat.reduceMul, Nat.reduceEqDiff, Go.Addr.add, ↓reduceIte] at hx240_0)
           have qi240 : (2 < x2_1.length) = True := eq_true (by omega)
           replace p240 := eq_true p240
           replace q240 := eq_true q240
           refine start_ (n := 12) (S := fun w' => w'.cell? ad238 = some (.string (rdOf ByteArray.empty x2_1 0)) ∧ w'.cell? ⟨ad238.block, ad238.off + 1, none⟩ = some (.string (rdOf ByteArray.empty x2_1 1)) ∧ w'.cell? ⟨ad238.block, ad238.off + 2, none⟩ = some (.string (rdOf ByteArray.empty x2_1 2))) (ds := []) (tb 12 0) (by kernel_rfl) rfl (by kernel_rfl) ⟨hx238_0, hx239_0, hx240_0⟩ (fun hHeld => ?_); refine with_tabW maskref1_forms.tab8 maskref1_forms.bits8 (fun HT_ HW_ => ?_)
           generalize wr.drew = w24 at HO_1 HO_2 HO_8 HB hx238_0 hx239_0 hx240_0 hHeld ⊢
           refine pA 0 20 (tb 12 1) HT_ ?_
           refine pA 1 21 (tb 12 3) HT_ ?_
           refine pA 3 23 (tb 12 11) HT_ ?_
           refine pA 4 24 (tb 12 27) HT_ ?_
           refine pA 6 26 (tb 12 91) HT_ ?_
           refine pA 7 27 (tb 12 219) HT_ ?_
           refine tA 2 22 (tb 12 223) HT_ HW_ hHeld ?_
           refine tA 5 25 (tb 12 255) HT_ HW_ hHeld ?_
           refine tA 8 28 (tb 12 511) HT_ HW_ hHeld ?_
           refine pA 9 29 (tb 12 1023) HT_ ?_
           refine oA 10 (some 5) (tb 12 2047) HT_ (fun K hK => ?_)
           refine box_step ?hg (N := 5) ?hd (cs := #[.string (⟨#[]⟩ : ByteArray), .string (⟨#[]⟩ : ByteArray), .string (⟨#[]⟩ : ByteArray)]) (t := 73) ?hr ?_; (case hd => rfl); (case hg => rfl); (case hr => (go_simp; done))
           intro gb241 hg w26 hbox hb
           have HS0_ := (hb.cell (World.block_lt_of_cell? _ _ (hHeld.1))).trans (hHeld.1)
           have HS1_ := (hb.cell (World.block_lt_of_cell? _ _ (hHeld.2.1))).trans (hHeld.2.1)
           have HS2_ := (hb.cell (World.block_lt_of_cell? _ _ (hHeld.2.2))).trans (hHeld.2.2)
           replace HO_1 := Aside0.mk (Kd.R_below (Kd.R_elderB HO_1.out gb241 (Nat.le_of_eq hg.symm)) hb)
           replace HO_2 := Kd.rb1 HO_2 hb
           replace HO_8 := Kd.rb1 HO_8 hb
           have BK241 := Aside0.mk (hbox)
           have GW241 := ge1 HB hg
           have GE241 := ge1 HB hg
           replace HB := hb1 HB hb
           clear hb hbox hg
           refine hK.out _ _ ⟨HS0_, HS1_, HS2_⟩ (fun hHeld => ?_)
           clear hK K
           refine nA ?_
           refine oA 11 (none) (tb 12 4095) HT_ (fun K hK => ?_)
           have hs27 : w26.cell? ⟨gb241, 0, none⟩ = some (.string (⟨#[]⟩ : ByteArray)) := (blk_cell BK241.out 0).trans rfl
           have hfs27 := blk_frozen BK241.out 0
           have hs28 : w26.cell? ⟨gb241, 1, none⟩ = some (.string (⟨#[]⟩ : ByteArray)) := (blk_cell BK241.out 1).trans rfl
           have hfs28 := blk_frozen BK241.out 1
           have hs29 : w26.cell? ⟨gb241, 2, none⟩ = some (.string (⟨#[]⟩ : ByteArray)) := (blk_cell BK241.out 2).trans rfl
           have hfs29 := blk_frozen BK241.out 2
           refine skip_ (w1 := ?_) (by rfl) rfl ?_ ?_
           rotate_left
           ·go_simp
            rfl
           refine hK.out _ _ ⟨((cell_far (p := ⟨gb241, _, none⟩) (by exact Kd.own_blk (Kd.R_ne HO_2.out BK241.out (by decide))) _).trans (((cell_far (p := ⟨gb241, _, none⟩) (by exact Kd.own_blk (Kd.R_ne HO_2.out BK241.out (by decide))) _).trans (((cell_far (p := ⟨gb241, _, none⟩) (by exact Kd.own_blk (Kd.R_ne HO_2.out BK241.out (by decide))) _).trans (hHeld.1)))))), ((cell_far (p := ⟨gb241, _, none⟩) (by (dsimp only; exact Kd.own_blk (Kd.R_ne HO_2.out BK241.out (by decide)))) _).trans (((cell_far (p := ⟨gb241, _, none⟩) (by (dsimp only; exact Kd.own_blk (Kd.R_ne HO_2.out BK241.out (by decide)))) _).trans (((cell_far (p := ⟨gb241, _, none⟩) (by (dsimp only; exact Kd.own_blk (Kd.R_ne HO_2.out BK241.out (by decide)))) _).trans (hHeld.2.1)))))), ((cell_far (p := ⟨gb241, _, none⟩) (by (dsimp only; exact Kd.own_blk (Kd.R_ne HO_2.out BK241.out (by decide)))) _).trans (((cell_far (p := ⟨gb241, _, none⟩) (by (dsimp only; exact Kd.own_blk (Kd.R_ne HO_2.out BK241.out (by decide)))) _).trans (((cell_far (p := ⟨gb241, _, none⟩) (by (dsimp only; exact Kd.own_blk (Kd.R_ne HO_2.out BK241.out (by decide)))) _).trans (hHeld.2.2))))))⟩ (fun hHeld => ?_)
           clear hK K
           refine done_ (done_of HT_.out (by kernel_rfl)) ?_
           obtain ⟨hcz30_0, hcz30_1, hcz30_2, hfz30_0, hfz30_1, hfz30_2⟩ := cf3 BK241
           try go_wp2_with (((with_reducible refine gate_builtin (b := .append) (xs := #[.tmp 34, .tmp 36]) rfl ?_); at_builtin; refine Kd.R_append k73 (w0 := w) w.heap.size rfl (.tmp 34) (.tmp 36) 55 73 (.agg #[(.string ⟨#[]⟩), (.string ⟨#[]⟩), (.string ⟨#[]⟩)]) 48 rfl Try.underlying55 info73 rfl (by decide) (by omega) u1 x1_1 (⟨rdOf ByteArray.empty x2_1 0, rdOf ByteArray.empty x2_1 1, rdOf ByteArray.empty x2_1 2⟩ : S73) [.string (rdOf ByteArray.empty x2_1 0), .string (rdOf ByteArray.empty x2_1 1), .string (rdOf ByteArray.empty x2_1 2)] (fun k_ => k_ ≠ gb241) (fun _ => False) rfl (by (go_simp; done)) ?aP (fun _ hk => hk.elim) ?aF ?aO ?aB ?aS ?aL ?_; (case aP => exact k73_mkM _ _ _ (⟨rdOf ByteArray.empty x2_1 0, rdOf ByteArray.empty x2_1 1, rdOf ByteArray.empty x2_1 2⟩ : S73)); (case aB => exact (by repeat (with_reducible first | exact HB.out | refine below_set ?_ GE241.out))); (case aF => exact (fun k_ hk => Kd.freshB (g := gb241) (o := .cells #[.string (rdOf ByteArray.empty x2_1 0), .string (rdOf ByteArray.empty x2_1 1), .string (rdOf ByteArray.empty x2_1 2)] 73 (0, 0)) (by refine blk_put (cs := #[.string (rdOf ByteArray.empty x2_1 0), .string (rdOf ByteArray.empty x2_1 1), .string (⟨#[]⟩ : ByteArray)]) ?_ 2 _ rfl; refine blk_put (cs := #[.string (rdOf ByteArray.empty x2_1 0), .string (⟨#[]⟩ : ByteArray), .string (⟨#[]⟩ : ByteArray)]) ?_ 1 _ rfl; refine blk_put (cs := #[.string (⟨#[]⟩ : ByteArray), .string (⟨#[]⟩ : ByteArray), .string (⟨#[]⟩ : ByteArray)]) ?_ 0 _ rfl; exact BK241.out) k_ hk)); (case aO => exact (by exact Kd.R_mono (Kd.R_far (p := ⟨gb241, 2, none⟩) (Kd.R_far (p := ⟨gb241, 1, none⟩) (Kd.R_far (p := ⟨gb241, 0, none⟩) (Kd.R_mono HO_1.out (fun k_ hk => (⟨hk, hk.2⟩ : _ ∧ k_ ≠ gb241))) (fun _ hk => hk.2) (.string (rdOf ByteArray.empty x2_1 0))) (fun _ hk => hk.2) (.string (rdOf ByteArray.empty x2_1 1))) (fun _ hk => hk.2) (.string (rdOf ByteArray.empty x2_1 2))) (fun _ hk => hk.1.2))); (case aS => exact (below_size (by repeat (with_reducible first | exact HB.out | refine below_set ?_ GE241.out)))); (case aL => have := LMc23.out; omega); intro v246 w31 ho hb hg hat; rw [← Ny245.out] at ho; replace HO_2 := Aside0.mk (Kd.R_over' (by exact (Kd.R_mono (Kd.R_far (p := ⟨gb241, 2, none⟩) (Kd.R_far (p := ⟨gb241, 1, none⟩) (Kd.R_far (p := ⟨gb241, 0, none⟩) (Kd.R_types HO_2.out BK241.out (by decide)) (fun _ hk => hk.2) (.string (rdOf ByteArray.empty x2_1 0))) (fun _ hk => hk.2) (.string (rdOf ByteArray.empty x2_1 1))) (fun _ hk => hk.2) (.string (rdOf ByteArray.empty x2_1 2))) (fun _ h_ => h_.1))) (Kd.R_typed (by exact (Kd.R_mono (Kd.R_far (p := ⟨gb241, 2, none⟩) (Kd.R_far (p := ⟨gb241, 1, none⟩) (Kd.R_far (p := ⟨gb241, 0, none⟩) (Kd.R_mono HO_1.out (fun k_ hk => (⟨hk, hk.2⟩ : _ ∧ k_ ≠ gb241))) (fun _ hk => hk.2) (.string (rdOf ByteArray.empty x2_1 0))) (fun _ hk => hk.2) (.string (rdOf ByteArray.empty x2_1 1))) (fun _ hk => hk.2) (.string (rdOf ByteArray.empty x2_1 2))) (fun _ h_ => h_.1)))) (by decide) hg); replace HO_8 := Aside0.mk (Kd.R_over' (by exact (Kd.R_mono (Kd.R_far (p := ⟨gb241, 2, none⟩) (Kd.R_far (p := ⟨gb241, 1, none⟩) (Kd.R_far (p := ⟨gb241, 0, none⟩) (Kd.R_types HO_8.out BK241.out (by decide)) (fun _ hk => hk.2) (.string (rdOf ByteArray.empty x2_1 0))) (fun _ hk => hk.2) (.string (rdOf ByteArray.empty x2_1 1))) (fun _ hk => hk.2) (.string (rdOf ByteArray.empty x2_1 2))) (fun _ h_ => h_.1))) (Kd.R_typed (by exact (Kd.R_mono (Kd.R_far (p := ⟨gb241, 2, none⟩) (Kd.R_far (p := ⟨gb241, 1, none⟩) (Kd.R_far (p := ⟨gb241, 0, none⟩) (Kd.R_mono HO_1.out (fun k_ hk => (⟨hk, hk.2⟩ : _ ∧ k_ ≠ gb241))) (fun _ hk => hk.2) (.string (rdOf ByteArray.empty x2_1 0))) (fun _ hk => hk.2) (.string (rdOf ByteArray.empty x2_1 1))) (fun _ hk => hk.2) (.string (rdOf ByteArray.empty x2_1 2))) (fun _ h_ => h_.1)))) (by decide) hg); replace BK241 := Aside0.mk (blk_grown (g := gb241) (o := .cells #[.string (rdOf ByteArray.empty x2_1 0), .string (rdOf ByteArray.empty x2_1 1), .string (rdOf ByteArray.empty x2_1 2)] 73 (0, 0)) (by refine blk_put (cs := #[.string (rdOf ByteArray.empty x2_1 0), .string (rdOf ByteArray.empty x2_1 1), .string (⟨#[]⟩ : ByteArray)]) ?_ 2 _ rfl; refine blk_put (cs := #[.string (rdOf ByteArray.empty x2_1 0), .string (⟨#[]⟩ : ByteArray), .string (⟨#[]⟩ : ByteArray)]) ?_ 1 _ rfl; refine blk_put (cs := #[.string (⟨#[]⟩ : ByteArray), .string (⟨#[]⟩ : ByteArray), .string (⟨#[]⟩ : ByteArray)]) ?_ 0 _ rfl; exact BK241.out) hg (Kd.R_away HO_1.out (fun _ hk => hk.2))); replace HB := Aside0.mk (hb); have HO247 := Aside0.mk (ho); clear HO_1; clear ho hb hg hat))
           go_roundg k1
           case measure => have := HK1.out; omega
           case rel => exact ⟨(y245), ([] : List ByteArray), (wrap64 (x10_1 + 1)), (by rfl), H', ⟨by have := HK1.out; omega⟩, ⟨by exact Kd.R_mono HO247.out (fun _ hk => trivial)⟩, ⟨by exact Kd.R_nil _ _ _ _ _⟩, ⟨by exact Kd.R_mono HO_8.out (fun _ hk => (by simp [Value.ownBlock]))⟩, ⟨by repeat (with_reducible exact HB.out)⟩⟩
          ·rw [if_neg c23] at H
           exact absurd H (by simp)
        ·rw [if_neg c12] at H
         exact absurd H (by simp)
       ·rw [if_neg c11] at H
        exact absurd H (by simp)
      ·rw [if_neg c10] at H
       exact absurd H (by simp)
     ·by_cases c32 : x2_1.length < 8796093022208
      ·rw [if_pos c32] at H
       have LMc32 := Aside0.mk c32
       clear c32
       obtain ⟨y235, hy235⟩ : ∃ y_ : List ByteArray, y_ = (x2_1 ++ [rdOf ByteArray.empty y231 x10_1]) := ⟨_, rfl⟩
       replace H : (maskref1_forms.l0 k1 x1_1 y235 y231 (y231.length : Int) (wrap64 (x10_1 + 1))) = some r := by (rw [hy235]; with_reducible exact H)
       have Ny235 := Aside0.mk hy235
       clear hy235
       have H' := Aside0.mk H
       clear H
       have p234 : 0 ≤ (x10_1 : Int) := of_decide_eq_true (by (with_reducible assumption))
       have q234 : x10_1 < (y231.length : Int) := of_decide_eq_true (by (with_reducible assumption))
       obtain ⟨ad234, e234, hx234_0⟩ := Kd.at_string (Kd.R_reads' HO_8.out).2.2 x10_1 p234 q234
       cases e234
       replace p234 := eq_true p234
       replace q234 := eq_true q234
       go_wp2_with (((with_reducible refine gate_builtin (b := .append) (xs := #[.tmp 16, .tmp 18]) rfl ?_); at_builtin; refine Kd.R_append Kd.string (w0 := w) w.heap.size rfl (.tmp 16) (.tmp 18) 75 9 (.string ⟨#[]⟩) 16 rfl Try.underlying75 info9 rfl (by decide) (by omega) u2 x2_1 (rdOf ByteArray.empty y231 x10_1) [.string (rdOf ByteArray.empty y231 x10_1)] (fun k_ => some k_ ≠ (.slice (some ad234) y231.length co5 : Value).ownBlock) (fun _ => False) rfl rfl ?aP (fun _ hk => hk.elim) ?aF ?aO ?aB ?aS ?aL ?_; (case aP => exact rfl); (case aB => exact HB.out); (case aF => exact (fun k_ hk => Kd.fresh' (Kd.R_lt HO_8.out) k_ hk)); (case aO => exact HO_2.out); (case aS => exact (below_size HB.out)); (case aL => have := LMc32.out; omega); intro v236 w33 ho hb hg hat; rw [← Ny235.out] at ho; replace HO_1 := Aside0.mk (Kd.R_over' HO_1.out (Kd.R_typed HO_2.out) (by decide) hg); replace HO_8 := Aside0.mk (Kd.R_after (ok := (fun _ => True)) (by exact Kd.R_mono HO_8.out (fun _ hk => ⟨trivial, hk⟩)) hg hat); replace HB := Aside0.mk (hb); have HO237 := Aside0.mk (ho); clear HO_2; clear ho hb hg hat))
       go_roundg k1
       case measure => have := HK1.out; omega
       case rel => exact ⟨(x1_1), (y235), (wrap64 (x10_1 + 1)), (by rfl), H', ⟨by have := HK1.out; omega⟩, ⟨by exact HO_1.out⟩, ⟨by exact HO237.out⟩, ⟨by exact Kd.R_mono HO_8.out (fun _ hk => hk.2)⟩, ⟨by repeat (with_reducible exact HB.out)⟩⟩
      ·rw [if_neg c32] at H
       exact absurd H (by simp)
    ·obtain rfl := Option.some.inj H
     go_wp2
     go_ret
     exact ⟨_, by rfl, by exact HO_1.out, by repeat (with_reducible exact HB.out)⟩
 ·rw [if_neg c2] at H
  exact absurd H (by simp)
end Go.Proofs.Ytlamgdibnnmbmaa.PSyn
end
