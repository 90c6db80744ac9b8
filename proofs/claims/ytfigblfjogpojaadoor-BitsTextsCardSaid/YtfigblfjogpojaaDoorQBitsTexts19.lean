/- Part 20 of the proof of BitsTextsCardSaid: The law BitsTexts: for all arguments it returns true; each argument reads behind the call as it read before. Out of the plain theorem of YtfigblfjogpojaaDoorPureBitsTexts and the printed contract. -/
import Derived.Test.YtfigblfjogpojaaDoorQBitsTexts18
section
namespace Go.Proofs.YtfigblfjogpojaaDoor.PBits
open Go.RowKit Go.Proofs.YtfigblfjogpojaaDoorW.PrintWords Go.Proofs.YtfigblfjogpojaaDoorW.PrintLast Go.Proofs.YtfigblfjogpojaaDoorW.PrintMore Go.Proofs.YtfigblfjogpojaaDoor.Bz
set_option linter.unusedVariables false
set_option linter.unusedSimpArgs false
structure Two (w va xa vb xb : Nat) : Prop where
  w1 : 1 ≤ w
  w64 : w ≤ 64
  va : va < 2 ^ w
  xa : xa < 2 ^ w
  vb : vb < 2 ^ w
  xb : xb < 2 ^ w
theorem okB_of {w v x : Nat} (h1 : 1 ≤ w) (h2 : w ≤ 64) (hv : v < 2 ^ w) (hx : x < 2 ^ w) : okB (w : Int) v x = true := by
  unfold okB; rw [decide_eq_true_iff, Int.toNat_natCast]; exact ⟨by omega, by omega, hv, hx⟩
structure Gives (g : Nat → Option (Int × Int × Int)) (w : Nat) (f : Nat → Int) (V X : Nat) : Prop where
  ev : Ev g ((w : Int), (V : Int), (X : Int))
  v : V < 2 ^ w
  x : X < 2 ^ w
  st : ∀ i, i < w → st V X i = f i
theorem Gives.B {g : Nat → Option (Int × Int × Int)} {w : Nat} {f : Nat → Int} {V X : Nat} (h : Gives g w f V X) (h1 : 1 ≤ w) (h2 : w ≤ 64) {l : List Int} (hl : l.length = w) (hf : ∀ i, i < w → l.getD i 0 = f i) :
    Ev (fun k => maskref1_B.f k l) ((w : Int), (V : Int), (X : Int)) := B_is h1 h2 hl h.v h.x fun i hi => (hf i hi).trans (h.st i hi).symm
end Go.Proofs.YtfigblfjogpojaaDoor.PBits
end
