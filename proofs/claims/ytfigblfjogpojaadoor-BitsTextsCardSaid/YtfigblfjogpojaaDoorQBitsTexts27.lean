/- Part 28 of the proof of BitsTextsCardSaid: The law BitsTexts: for all arguments it returns true; each argument reads behind the call as it read before. Out of the plain theorem of YtfigblfjogpojaaDoorPureBitsTexts and the printed contract. -/
import Derived.Test.YtfigblfjogpojaaDoorQBitsTexts26
import Derived.Test.YtfigblfjogpojaaDoorQBitsTexts15
import Derived.Test.YtfigblfjogpojaaDoorQBitsTexts20
import Derived.Test.YtfigblfjogpojaaDoorQBitsTexts14
import Derived.Test.YtfigblfjogpojaaDoorQBitsTexts22
section
namespace Go.Proofs.YtfigblfjogpojaaDoor.PBits
open Go.RowKit Go.Proofs.YtfigblfjogpojaaDoorW.PrintWords Go.Proofs.YtfigblfjogpojaaDoorW.PrintLast Go.Proofs.YtfigblfjogpojaaDoorW.PrintMore Go.Proofs.YtfigblfjogpojaaDoor.Bz
set_option linter.unusedVariables false
set_option linter.unusedSimpArgs false
structure Any2 (w v x wn vn xn : Nat) : Prop where
  b1 : 1 ≤ w
  b2 : w ≤ 64
  v : v < 2 ^ w
  x : x < 2 ^ w
  n1 : 1 ≤ wn
  n2 : wn ≤ 64
  vn : vn < 2 ^ wn
  xn : xn < 2 ^ wn
end Go.Proofs.YtfigblfjogpojaaDoor.PBits
end
