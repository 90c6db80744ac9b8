/- Part 27 of the proof of SyntaxTreesUptoSaid: The law SyntaxTrees, where the trees that it reads are of bulk at most 1048576: it returns true; the trees read behind the call as it read before. Out of the plain theorem of YtlamgdibnnmbmaaTr5. -/
import Derived.Test.YtlamgdibnnmbmaaQSyntaxTreesUpto13
import Derived.Laws.Tables
section
namespace Go.Proofs.Ytlamgdibnnmbmaa.PSyn
open Go.RowKit Go.Proofs.YtlamgdibnnmbmaaW.PrintWords Go.Proofs.YtlamgdibnnmbmaaW.PrintLast Go.Proofs.YtlamgdibnnmbmaaW.PrintMore
set_option linter.unusedVariables false
def shapesL : List S89 := [(⟨(⟨#[45]⟩ : ByteArray), (⟨#[]⟩ : ByteArray), (⟨#[]⟩ : ByteArray)⟩ : S89), (⟨(⟨#[70]⟩ : ByteArray), (⟨#[73, 42]⟩ : ByteArray), (⟨#[]⟩ : ByteArray)⟩ : S89), (⟨(⟨#[73]⟩ : ByteArray), (⟨#[112, 113, 98]⟩ : ByteArray), (⟨#[78]⟩ : ByteArray)⟩ : S89), (⟨(⟨#[73]⟩ : ByteArray), (⟨#[112, 105]⟩ : ByteArray), (⟨#[78]⟩ : ByteArray)⟩ : S89), (⟨(⟨#[112]⟩ : ByteArray), (⟨#[80, 42]⟩ : ByteArray), (⟨#[]⟩ : ByteArray)⟩ : S89), (⟨(⟨#[80]⟩ : ByteArray), (⟨#[69]⟩ : ByteArray), (⟨#[78]⟩ : ByteArray)⟩ : S89), (⟨(⟨#[113]⟩ : ByteArray), (⟨#[81, 42]⟩ : ByteArray), (⟨#[]⟩ : ByteArray)⟩ : S89), (⟨(⟨#[81]⟩ : ByteArray), (⟨#[84]⟩ : ByteArray), (⟨#[78]⟩ : ByteArray)⟩ : S89), (⟨(⟨#[81]⟩ : ByteArray), (⟨#[84]⟩ : ByteArray), (⟨#[78]⟩ : ByteArray)⟩ : S89), (⟨(⟨#[81]⟩ : ByteArray), (⟨#[84, 69, 63]⟩ : ByteArray), (⟨#[78]⟩ : ByteArray)⟩ : S89), (⟨(⟨#[81]⟩ : ByteArray), (⟨#[110, 110]⟩ : ByteArray), (⟨#[78]⟩ : ByteArray)⟩ : S89), (⟨(⟨#[98]⟩ : ByteArray), (⟨#[77, 42]⟩ : ByteArray), (⟨#[]⟩ : ByteArray)⟩ : S89), (⟨(⟨#[105]⟩ : ByteArray), (⟨#[86, 42]⟩ : ByteArray), (⟨#[]⟩ : ByteArray)⟩ : S89), (⟨(⟨#[110]⟩ : ByteArray), (⟨#[]⟩ : ByteArray), (⟨#[78]⟩ : ByteArray)⟩ : S89), (⟨(⟨#[84]⟩ : ByteArray), (⟨#[82, 63]⟩ : ByteArray), (⟨#[83]⟩ : ByteArray)⟩ : S89), (⟨(⟨#[84]⟩ : ByteArray), (⟨#[]⟩ : ByteArray), (⟨#[78]⟩ : ByteArray)⟩ : S89), (⟨(⟨#[82]⟩ : ByteArray), (⟨#[69, 69]⟩ : ByteArray), (⟨#[]⟩ : ByteArray)⟩ : S89), (⟨(⟨#[77, 86]⟩ : ByteArray), (⟨#[84, 68, 43]⟩ : ByteArray), (⟨#[]⟩ : ByteArray)⟩ : S89), (⟨(⟨#[77, 118]⟩ : ByteArray), (⟨#[84, 68, 43]⟩ : ByteArray), (⟨#[]⟩ : ByteArray)⟩ : S89), (⟨(⟨#[68]⟩ : ByteArray), (⟨#[82, 63, 69, 63]⟩ : ByteArray), (⟨#[78]⟩ : ByteArray)⟩ : S89), (⟨(⟨#[73, 77]⟩ : ByteArray), (⟨#[69]⟩ : ByteArray), (⟨#[78]⟩ : ByteArray)⟩ : S89), (⟨(⟨#[73, 77]⟩ : ByteArray), (⟨#[82, 109, 43]⟩ : ByteArray), (⟨#[78]⟩ : ByteArray)⟩ : S89), (⟨(⟨#[109]⟩ : ByteArray), (⟨#[69, 63]⟩ : ByteArray), (⟨#[78]⟩ : ByteArray)⟩ : S89), (⟨(⟨#[73, 77]⟩ : ByteArray), (⟨#[102, 43]⟩ : ByteArray), (⟨#[78]⟩ : ByteArray)⟩ : S89), (⟨(⟨#[102]⟩ : ByteArray), (⟨#[84]⟩ : ByteArray), (⟨#[78]⟩ : ByteArray)⟩ : S89), (⟨(⟨#[86]⟩ : ByteArray), (⟨#[100, 43]⟩ : ByteArray), (⟨#[78]⟩ : ByteArray)⟩ : S89), (⟨(⟨#[100]⟩ : ByteArray), (⟨#[]⟩ : ByteArray), (⟨#[78]⟩ : ByteArray)⟩ : S89), (⟨(⟨#[100]⟩ : ByteArray), (⟨#[]⟩ : ByteArray), (⟨#[78]⟩ : ByteArray)⟩ : S89), (⟨(⟨#[73, 77]⟩ : ByteArray), (⟨#[84, 97, 104]⟩ : ByteArray), (⟨#[78]⟩ : ByteArray)⟩ : S89), (⟨(⟨#[97]⟩ : ByteArray), (⟨#[103, 42]⟩ : ByteArray), (⟨#[]⟩ : ByteArray)⟩ : S89), (⟨(⟨#[103]⟩ : ByteArray), (⟨#[84]⟩ : ByteArray), (⟨#[78]⟩ : ByteArray)⟩ : S89), (⟨(⟨#[104]⟩ : ByteArray), (⟨#[118, 42, 83, 42]⟩ : ByteArray), (⟨#[]⟩ : ByteArray)⟩ : S89), (⟨(⟨#[77]⟩ : ByteArray), (⟨#[116, 69]⟩ : ByteArray), (⟨#[]⟩ : ByteArray)⟩ : S89), (⟨(⟨#[77]⟩ : ByteArray), (⟨#[83]⟩ : ByteArray), (⟨#[]⟩ : ByteArray)⟩ : S89), (⟨(⟨#[77]⟩ : ByteArray), (⟨#[101, 83]⟩ : ByteArray), (⟨#[]⟩ : ByteArray)⟩ : S89), (⟨(⟨#[77]⟩ : ByteArray), (⟨#[83]⟩ : ByteArray), (⟨#[]⟩ : ByteArray)⟩ : S89), (⟨(⟨#[77]⟩ : ByteArray), (⟨#[83]⟩ : ByteArray), (⟨#[]⟩ : ByteArray)⟩ : S89), (⟨(⟨#[101]⟩ : ByteArray), (⟨#[71, 43]⟩ : ByteArray), (⟨#[]⟩ : ByteArray)⟩ : S89), (⟨(⟨#[71]⟩ : ByteArray), (⟨#[116]⟩ : ByteArray), (⟨#[]⟩ : ByteArray)⟩ : S89), (⟨(⟨#[71]⟩ : ByteArray), (⟨#[116]⟩ : ByteArray), (⟨#[]⟩ : ByteArray)⟩ : S89), (⟨(⟨#[71]⟩ : ByteArray), (⟨#[116]⟩ : ByteArray), (⟨#[]⟩ : ByteArray)⟩ : S89), (⟨(⟨#[77]⟩ : ByteArray), (⟨#[110, 120, 120]⟩ : ByteArray), (⟨#[78]⟩ : ByteArray)⟩ : S89), (⟨(⟨#[77]⟩ : ByteArray), (⟨#[110, 120]⟩ : ByteArray), (⟨#[78]⟩ : ByteArray)⟩ : S89), (⟨(⟨#[120]⟩ : ByteArray), (⟨#[66, 42]⟩ : ByteArray), (⟨#[]⟩ : ByteArray)⟩ : S89), (⟨(⟨#[66]⟩ : ByteArray), (⟨#[69]⟩ : ByteArray), (⟨#[78]⟩ : ByteArray)⟩ : S89), (⟨(⟨#[77]⟩ : ByteArray), (⟨#[110, 69, 69, 98]⟩ : ByteArray), (⟨#[78]⟩ : ByteArray)⟩ : S89), (⟨(⟨#[77, 119]⟩ : ByteArray), (⟨#[69, 98, 119, 63]⟩ : ByteArray), (⟨#[78]⟩ : ByteArray)⟩ : S89), (⟨(⟨#[119]⟩ : ByteArray), (⟨#[98]⟩ : ByteArray), (⟨#[78]⟩ : ByteArray)⟩ : S89), (⟨(⟨#[77]⟩ : ByteArray), (⟨#[116, 88, 88]⟩ : ByteArray), (⟨#[78]⟩ : ByteArray)⟩ : S89), (⟨(⟨#[77]⟩ : ByteArray), (⟨#[116, 88, 88]⟩ : ByteArray), (⟨#[78]⟩ : ByteArray)⟩ : S89), (⟨(⟨#[88]⟩ : ByteArray), (⟨#[69]⟩ : ByteArray), (⟨#[]⟩ : ByteArray)⟩ : S89), (⟨(⟨#[88]⟩ : ByteArray), (⟨#[88, 69, 117, 63, 88]⟩ : ByteArray), (⟨#[]⟩ : ByteArray)⟩ : S89), (⟨(⟨#[88]⟩ : ByteArray), (⟨#[88, 43]⟩ : ByteArray), (⟨#[]⟩ : ByteArray)⟩ : S89), (⟨(⟨#[88]⟩ : ByteArray), (⟨#[88, 88]⟩ : ByteArray), (⟨#[]⟩ : ByteArray)⟩ : S89), (⟨(⟨#[88]⟩ : ByteArray), (⟨#[88, 69, 117, 63]⟩ : ByteArray), (⟨#[]⟩ : ByteArray)⟩ : S89), (⟨(⟨#[117]⟩ : ByteArray), (⟨#[]⟩ : ByteArray), (⟨#[]⟩ : ByteArray)⟩ : S89), (⟨(⟨#[83]⟩ : ByteArray), (⟨#[83, 42]⟩ : ByteArray), (⟨#[]⟩ : ByteArray)⟩ : S89), (⟨(⟨#[83]⟩ : ByteArray), (⟨#[69, 83, 83, 63]⟩ : ByteArray), (⟨#[]⟩ : ByteArray)⟩ : S89), (⟨(⟨#[83]⟩ : ByteArray), (⟨#[69, 67, 42]⟩ : ByteArray), (⟨#[]⟩ : ByteArray)⟩ : S89), (⟨(⟨#[83]⟩ : ByteArray), (⟨#[69, 67, 42]⟩ : ByteArray), (⟨#[]⟩ : ByteArray)⟩ : S89), (⟨(⟨#[83]⟩ : ByteArray), (⟨#[69, 67, 42]⟩ : ByteArray), (⟨#[]⟩ : ByteArray)⟩ : S89), (⟨(⟨#[67]⟩ : ByteArray), (⟨#[69, 42, 83]⟩ : ByteArray), (⟨#[]⟩ : ByteArray)⟩ : S89), (⟨(⟨#[83]⟩ : ByteArray), (⟨#[69, 83]⟩ : ByteArray), (⟨#[]⟩ : ByteArray)⟩ : S89), (⟨(⟨#[83]⟩ : ByteArray), (⟨#[69, 83]⟩ : ByteArray), (⟨#[]⟩ : ByteArray)⟩ : S89), (⟨(⟨#[83]⟩ : ByteArray), (⟨#[69, 69, 83]⟩ : ByteArray), (⟨#[78]⟩ : ByteArray)⟩ : S89), (⟨(⟨#[83]⟩ : ByteArray), (⟨#[69, 69, 83]⟩ : ByteArray), (⟨#[78]⟩ : ByteArray)⟩ : S89), (⟨(⟨#[83]⟩ : ByteArray), (⟨#[116, 69, 69, 63]⟩ : ByteArray), (⟨#[]⟩ : ByteArray)⟩ : S89), (⟨(⟨#[83]⟩ : ByteArray), (⟨#[116, 69, 69, 63]⟩ : ByteArray), (⟨#[]⟩ : ByteArray)⟩ : S89), (⟨(⟨#[83]⟩ : ByteArray), (⟨#[69]⟩ : ByteArray), (⟨#[]⟩ : ByteArray)⟩ : S89), (⟨(⟨#[83]⟩ : ByteArray), (⟨#[101]⟩ : ByteArray), (⟨#[]⟩ : ByteArray)⟩ : S89), (⟨(⟨#[83]⟩ : ByteArray), (⟨#[69]⟩ : ByteArray), (⟨#[]⟩ : ByteArray)⟩ : S89), (⟨(⟨#[83]⟩ : ByteArray), (⟨#[69, 42]⟩ : ByteArray), (⟨#[88]⟩ : ByteArray)⟩ : S89), (⟨(⟨#[83]⟩ : ByteArray), (⟨#[69, 42]⟩ : ByteArray), (⟨#[88]⟩ : ByteArray)⟩ : S89), (⟨(⟨#[83]⟩ : ByteArray), (⟨#[69, 42]⟩ : ByteArray), (⟨#[88]⟩ : ByteArray)⟩ : S89), (⟨(⟨#[83]⟩ : ByteArray), (⟨#[69, 42]⟩ : ByteArray), (⟨#[88]⟩ : ByteArray)⟩ : S89), (⟨(⟨#[83]⟩ : ByteArray), (⟨#[69]⟩ : ByteArray), (⟨#[88]⟩ : ByteArray)⟩ : S89), (⟨(⟨#[83]⟩ : ByteArray), (⟨#[]⟩ : ByteArray), (⟨#[]⟩ : ByteArray)⟩ : S89), (⟨(⟨#[83]⟩ : ByteArray), (⟨#[]⟩ : ByteArray), (⟨#[]⟩ : ByteArray)⟩ : S89), (⟨(⟨#[69, 117]⟩ : ByteArray), (⟨#[]⟩ : ByteArray), (⟨#[86]⟩ : ByteArray)⟩ : S89), (⟨(⟨#[69, 117, 116]⟩ : ByteArray), (⟨#[]⟩ : ByteArray), (⟨#[78]⟩ : ByteArray)⟩ : S89), (⟨(⟨#[69, 117, 116]⟩ : ByteArray), (⟨#[69]⟩ : ByteArray), (⟨#[78]⟩ : ByteArray)⟩ : S89), (⟨(⟨#[69, 117, 116]⟩ : ByteArray), (⟨#[69, 69]⟩ : ByteArray), (⟨#[]⟩ : ByteArray)⟩ : S89), (⟨(⟨#[69, 117, 116]⟩ : ByteArray), (⟨#[69, 69, 69]⟩ : ByteArray), (⟨#[]⟩ : ByteArray)⟩ : S89), (⟨(⟨#[69, 117, 116]⟩ : ByteArray), (⟨#[69, 69, 69]⟩ : ByteArray), (⟨#[]⟩ : ByteArray)⟩ : S89), (⟨(⟨#[69, 117]⟩ : ByteArray), (⟨#[69, 42]⟩ : ByteArray), (⟨#[78]⟩ : ByteArray)⟩ : S89), (⟨(⟨#[69, 117]⟩ : ByteArray), (⟨#[69]⟩ : ByteArray), (⟨#[]⟩ : ByteArray)⟩ : S89), (⟨(⟨#[69, 117]⟩ : ByteArray), (⟨#[69]⟩ : ByteArray), (⟨#[]⟩ : ByteArray)⟩ : S89), (⟨(⟨#[69, 117]⟩ : ByteArray), (⟨#[69]⟩ : ByteArray), (⟨#[]⟩ : ByteArray)⟩ : S89), (⟨(⟨#[69, 117]⟩ : ByteArray), (⟨#[69]⟩ : ByteArray), (⟨#[]⟩ : ByteArray)⟩ : S89), (⟨(⟨#[69, 117]⟩ : ByteArray), (⟨#[69]⟩ : ByteArray), (⟨#[]⟩ : ByteArray)⟩ : S89), (⟨(⟨#[69, 117]⟩ : ByteArray), (⟨#[69]⟩ : ByteArray), (⟨#[]⟩ : ByteArray)⟩ : S89), (⟨(⟨#[69, 117]⟩ : ByteArray), (⟨#[69]⟩ : ByteArray), (⟨#[]⟩ : ByteArray)⟩ : S89), (⟨(⟨#[69, 117]⟩ : ByteArray), (⟨#[69, 69]⟩ : ByteArray), (⟨#[]⟩ : ByteArray)⟩ : S89), (⟨(⟨#[69, 117]⟩ : ByteArray), (⟨#[69, 69]⟩ : ByteArray), (⟨#[]⟩ : ByteArray)⟩ : S89), (⟨(⟨#[69, 117]⟩ : ByteArray), (⟨#[69, 69]⟩ : ByteArray), (⟨#[]⟩ : ByteArray)⟩ : S89), (⟨(⟨#[69, 117]⟩ : ByteArray), (⟨#[69, 69]⟩ : ByteArray), (⟨#[]⟩ : ByteArray)⟩ : S89), (⟨(⟨#[69, 117]⟩ : ByteArray), (⟨#[69, 69]⟩ : ByteArray), (⟨#[]⟩ : ByteArray)⟩ : S89), (⟨(⟨#[69, 117]⟩ : ByteArray), (⟨#[69, 69]⟩ : ByteArray), (⟨#[]⟩ : ByteArray)⟩ : S89), (⟨(⟨#[69, 117]⟩ : ByteArray), (⟨#[69, 69]⟩ : ByteArray), (⟨#[]⟩ : ByteArray)⟩ : S89), (⟨(⟨#[69, 117]⟩ : ByteArray), (⟨#[69, 69]⟩ : ByteArray), (⟨#[]⟩ : ByteArray)⟩ : S89), (⟨(⟨#[69, 117]⟩ : ByteArray), (⟨#[69, 69]⟩ : ByteArray), (⟨#[]⟩ : ByteArray)⟩ : S89), (⟨(⟨#[69, 117]⟩ : ByteArray), (⟨#[69, 69]⟩ : ByteArray), (⟨#[]⟩ : ByteArray)⟩ : S89), (⟨(⟨#[69, 117]⟩ : ByteArray), (⟨#[69, 69]⟩ : ByteArray), (⟨#[]⟩ : ByteArray)⟩ : S89), (⟨(⟨#[69, 117]⟩ : ByteArray), (⟨#[69, 69]⟩ : ByteArray), (⟨#[]⟩ : ByteArray)⟩ : S89), (⟨(⟨#[69, 117]⟩ : ByteArray), (⟨#[69, 69]⟩ : ByteArray), (⟨#[]⟩ : ByteArray)⟩ : S89), (⟨(⟨#[69, 117]⟩ : ByteArray), (⟨#[69, 69]⟩ : ByteArray), (⟨#[]⟩ : ByteArray)⟩ : S89), (⟨(⟨#[69, 117]⟩ : ByteArray), (⟨#[69, 69]⟩ : ByteArray), (⟨#[]⟩ : ByteArray)⟩ : S89), (⟨(⟨#[69, 117]⟩ : ByteArray), (⟨#[69, 69]⟩ : ByteArray), (⟨#[]⟩ : ByteArray)⟩ : S89), (⟨(⟨#[69, 117]⟩ : ByteArray), (⟨#[69, 69]⟩ : ByteArray), (⟨#[]⟩ : ByteArray)⟩ : S89), (⟨(⟨#[69, 117]⟩ : ByteArray), (⟨#[69, 69]⟩ : ByteArray), (⟨#[]⟩ : ByteArray)⟩ : S89), (⟨(⟨#[69, 117]⟩ : ByteArray), (⟨#[69, 69]⟩ : ByteArray), (⟨#[]⟩ : ByteArray)⟩ : S89), (⟨(⟨#[69, 117]⟩ : ByteArray), (⟨#[69, 69]⟩ : ByteArray), (⟨#[]⟩ : ByteArray)⟩ : S89), (⟨(⟨#[69, 117]⟩ : ByteArray), (⟨#[69, 69]⟩ : ByteArray), (⟨#[]⟩ : ByteArray)⟩ : S89), (⟨(⟨#[69, 117]⟩ : ByteArray), (⟨#[69, 69, 69]⟩ : ByteArray), (⟨#[]⟩ : ByteArray)⟩ : S89), (⟨(⟨#[69, 117, 116]⟩ : ByteArray), (⟨#[69, 43]⟩ : ByteArray), (⟨#[]⟩ : ByteArray)⟩ : S89), (⟨(⟨#[69, 117]⟩ : ByteArray), (⟨#[69, 69]⟩ : ByteArray), (⟨#[]⟩ : ByteArray)⟩ : S89), (⟨(⟨#[69, 117]⟩ : ByteArray), (⟨#[69]⟩ : ByteArray), (⟨#[]⟩ : ByteArray)⟩ : S89), (⟨(⟨#[69, 117]⟩ : ByteArray), (⟨#[69]⟩ : ByteArray), (⟨#[]⟩ : ByteArray)⟩ : S89), (⟨(⟨#[69, 117]⟩ : ByteArray), (⟨#[69, 69]⟩ : ByteArray), (⟨#[]⟩ : ByteArray)⟩ : S89), (⟨(⟨#[69, 117]⟩ : ByteArray), (⟨#[69]⟩ : ByteArray), (⟨#[]⟩ : ByteArray)⟩ : S89), (⟨(⟨#[69, 117]⟩ : ByteArray), (⟨#[69]⟩ : ByteArray), (⟨#[]⟩ : ByteArray)⟩ : S89), (⟨(⟨#[69, 117]⟩ : ByteArray), (⟨#[]⟩ : ByteArray), (⟨#[]⟩ : ByteArray)⟩ : S89)]
def syntax_shapes.f : Option (List S89) := some shapesL
def buildAll (P : Program) : List Oper → Act → Option Act
  | [], a => some a
  | o :: l, a =>
    match o.guard, o.op with
    | none, .build t parts =>
      match P.built t (parts.map fun (i, x) => (i, a.eval x)).toList with
      | some cs => buildAll P l (a.put o.dst (.agg cs))
      | none => none
    | _, _ => none
theorem wpList_builds {P : Program} {ops : Array Oper} {rest : List Oper} {Q : Exit → Act → World → Prop} {w : World} : ∀ (l : List Oper) (a a' : Act), buildAll P l a = some a' → wpList P ops Q rest a' w → wpList P ops Q (l ++ rest) a w
  | [], a, a', h, k => by injection h with h; subst h; exact k
  | o :: l, a, a', h, k => by
    cases hg : o.guard with
    | some g => rw [buildAll, hg] at h; cases h
    | none =>
      cases ho : o.op with
      | build t parts =>
        rw [buildAll, hg, ho] at h
        simp only at h
        cases hb : P.built t (parts.map fun (i, x) => (i, a.eval x)).toList with
        | none => rw [hb] at h; cases h
        | some cs =>
          rw [hb] at h
          simp only at h
          refine wpList_build hg t parts ho (by rw [hb]; rfl) ?_
          rw [hb]
          exact wpList_builds l _ a' h k
      | _ => rw [buildAll, hg, ho] at h; cases h
theorem wpList_split {P : Program} {ops : Array Oper} {Q : Exit → Act → World → Prop} {a : Act} {w : World} {l : List Oper} (n : Nat) (h : wpList P ops Q (l.take n ++ l.drop n) a w) : wpList P ops Q l a w := by
  rwa [List.take_append_drop] at h
theorem region_table {α : Type} (D : Kd α) {P : Program} {id : Nat} {l : List Oper} {Q : Exit → Act → World → Prop} {a : Act} {w : World} (n d N : Nat) (e : TypeId) (xs : List α) (inner : List Value)
    (hf : (buildAll P (l.take n) a).isSome = true) (hl : l.drop n = [l.getD n default, l.getD (n + 1) default])
    (hg1 : (l.getD n default).guard = none) (hd1 : (l.getD n default).dst = some d) (hsz : ((buildAll P (l.take n) a).getD a).tmps.size = N) (hdN : d < N) (h0 : 0 < d)
    (hrun : ∀ w, (execOp ((buildAll P (l.take n) a).getD a).eval (l.getD n default)).run P w = .ok (.value (.slice (some ⟨w.heap.size, 0, none⟩) xs.length xs.length)) (w.alloc (.cells inner.toArray e)))
    (hrep : Reps (D.M w w.heap.size (fun _ => True)) D.sz xs inner) (hm : xs.length ≤ 9223372036854775807)
    (hg2 : (l.getD (n + 1) default).guard = none) (hd2 : (l.getD (n + 1) default).dst = some 0) (ho2 : (l.getD (n + 1) default).op = .assign (.tmp d)) (hdef : ((buildAll P (l.take n) a).getD a).defers = [])
    (h : ∀ (A : Act) (v : Value) (w1 : World), A.defers = [] → A.tmps.getD 0 undef = v → D.R e w1 w.heap.size (fun _ => True) v xs → Below w.heap.size w w1 → Q .normal A w1) : (Code.region id l.toArray false).wp P Q a w := by
  generalize l.getD (n + 1) default = o2 at hl hg2 hd2 ho2
  refine wp_region_lit (wpList_split n ?_)
  obtain ⟨a', ha⟩ := Option.isSome_iff_exists.1 hf
  refine wpList_builds _ a a' ha ?_
  rw [ha] at hsz hrun hdef
  simp only [Option.getD_some] at hsz hrun hdef
  rw [hl]
  refine Kd.R_lit D w.heap.size e hg1 hd1 (xs := xs) (inner := inner) (ok := fun _ => True) (okp := fun _ => True) (hrun w) hrep (fun _ h => h) trivial (Below.refl _ _) (Nat.le_refl _) hm ?_
  intro v w1 hR hB _ _
  have hev : (a'.put (some d) v).eval (.tmp d) = v := by
    simp [Act.eval, Act.put, hsz, hdN]
  rw [hd1]
  refine Kd.event_run (v := v) (w1 := w1) hg2 ?_ ?_
  · unfold execOp
    simp [ho2, hev]
  · rw [hd2]
    refine wpList_nil (h _ v w1 ?_ ?_ hR hB)
    · simp [Act.put, hdef]
    · have h1 : 0 < N := by omega
      simp [Act.put, hsz, h1]
def cells89 (l : List S89) : List Value := l.flatMap fun s => [.string s.f0, .string s.f1, .string s.f2]
theorem reps89 (w : World) (base : Nat) (ok : Nat → Prop) : ∀ l : List S89, Reps (k89.M w base ok) k89.sz l (cells89 l)
  | [] => ⟨rfl, fun j p h => by simp at h⟩
  | s :: l => by
    obtain ⟨h1, h2⟩ := reps89 w base ok l
    have e3 : k89.sz = 3 := rfl
    rw [e3] at h1 h2 ⊢
    refine ⟨by simp only [cells89, List.flatMap_cons, List.length_append, List.length_cons, List.length_nil] at h1 ⊢; omega, fun j p hj => ?_⟩
    cases j with
    | zero =>
      simp only [List.getElem?_cons_zero, Option.some.injEq] at hj
      subst hj
      exact k89_mkM w base ok s
    | succ j =>
      have := h2 j p (by simpa using hj)
      rw [Nat.add_mul, Nat.one_mul, Nat.add_comm (j * 3) 3, ← List.drop_drop]
      exact this
set_option maxRecDepth 100000 in
theorem syntax_shapes.calls (r : List S89) (w : World) (h : syntax_shapes.f = some r) :
    Calls Try.prog 33 #[] w fun e w' => ∃ v0_ : Value, e = .returned (v0_) ∧ Kd.R k89 89 w' w.heap.size (fun _ => True) v0_ r ∧ Below w.heap.size w w' := by
  obtain rfl := Option.some.inj h
  clear h
  go_enter Try.func33, Try.ntmps33
  go_upto_region 1 with (fail)
  refine region_table k89 122 123 124 89 shapesL (cells89 shapesL) (by kernel_rfl) (by kernel_rfl) (by kernel_rfl) (by kernel_rfl) (by kernel_rfl) (by decide) (by decide) (fun w => by kernel_rfl) (reps89 _ _ _ _) (by decide +kernel) (by kernel_rfl) (by kernel_rfl) (by kernel_rfl) (by kernel_rfl) ?_
  intro A v w1 hA h0 hR hB
  rename_i K hK
  refine hK _ _ (wp_ret ?_)
  refine bodyPost_ret (v := v) ?_ hA ⟨v, rfl, hR, hB⟩
  have h1 : A.tmps[0]?.getD undef = v := by simpa using h0
  simp [results, h1]
end Go.Proofs.Ytlamgdibnnmbmaa.PSyn
end
