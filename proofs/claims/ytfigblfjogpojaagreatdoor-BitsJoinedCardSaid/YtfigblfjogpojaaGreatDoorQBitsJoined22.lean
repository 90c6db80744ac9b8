/- Part 23 of the proof of BitsJoinedCardSaid: The law BitsJoined: for all arguments it returns true; each argument reads behind the call as it read before. Out of the plain theorem of YtfigblfjogpojaaGreatDoorPureBitsJoined and the printed contract. -/
import Derived.Test.YtfigblfjogpojaaGreatDoorQBitsJoined21
section
namespace Go.Proofs.YtfigblfjogpojaaGreatDoor.PBits
open Go.RowKit Go.Proofs.YtfigblfjogpojaaGreatDoorW.PrintWords Go.Proofs.YtfigblfjogpojaaGreatDoorW.PrintLast Go.Proofs.YtfigblfjogpojaaGreatDoorW.PrintMore Go.Proofs.YtfigblfjogpojaaGreatDoor.Bz
set_option linter.unusedVariables false
set_option linter.unusedSimpArgs false
structure Two (w va xa vb xb : Nat) : Prop where
  w1 : 1 ≤ w
  w64 : w ≤ 64
  va : va < 2 ^ w
  xa : xa < 2 ^ w
  vb : vb < 2 ^ w
  xb : xb < 2 ^ w
theorem okB_of {w v x : Nat} (h1 : 1 ≤ w) (h2 : w ≤ 64) (hv : v < 2 ^ w) (hx : x < 2 ^ w) : okB (w : Int) v x = true := by
  unfold okB; rw [decide_eq_true_iff, Int.toNat_natCast]; exact ⟨by omega, by omega, hv, hx⟩
theorem Two.alike {w va xa vb xb : Nat} (h : Two w va xa vb xb) : Ev (fun k => bits_alike.f k (w : Int) (va : Int) (xa : Int) (w : Int) (vb : Int) (xb : Int)) true :=
  (alike_ev (lt64 h.va h.w64) (lt64 h.xa h.w64) (lt64 h.vb h.w64) (lt64 h.xb h.w64)).eq (by rw [okB_of h.w1 h.w64 h.va h.xa, okB_of h.w1 h.w64 h.vb h.xb]; simp)
structure Gives (g : Nat → Option (Int × Int × Int)) (w : Nat) (f : Nat → Int) (V X : Nat) : Prop where
  ev : Ev g ((w : Int), (V : Int), (X : Int))
  v : V < 2 ^ w
  x : X < 2 ^ w
  st : ∀ i, i < w → st V X i = f i
theorem Gives.B {g : Nat → Option (Int × Int × Int)} {w : Nat} {f : Nat → Int} {V X : Nat} (h : Gives g w f V X) (h1 : 1 ≤ w) (h2 : w ≤ 64) {l : List Int} (hl : l.length = w) (hf : ∀ i, i < w → l.getD i 0 = f i) :
    Ev (fun k => maskref1_B.f k l) ((w : Int), (V : Int), (X : Int)) := B_is h1 h2 hl h.v h.x fun i hi => (hf i hi).trans (h.st i hi).symm
theorem make3_gives {w one unk : Nat} (h64 : w ≤ 64) (ho : one < 2 ^ 64) (hu : unk < 2 ^ 64) : Gives (fun _ => bits_make3.f (w : Int) (one : Int) (unk : Int)) w (fun i => stb (one.testBit i || unk.testBit i) (unk.testBit i)) ((one ||| unk) &&& msk w) (unk &&& msk w) := by
  have m := msk_lt' h64
  have m6 := msk_lt w
  refine ⟨?_, and_lt' m, and_lt' m, ?_⟩
  · unfold bits_make3.f
    refine Ev.bnd (mask_is w) (Ev.bnd (mask_is w) ((Ev.now _).eq ?_))
    rw [or_n _ _ ho hu, and_n _ _ (or_lt ho hu) m6, and_n _ _ hu m6]
  · intro i hi
    unfold st
    have hm : (msk w).testBit i = true := by rw [testBit_msk]; simp; exact ⟨hi, by omega⟩
    simp only [Nat.testBit_and, Nat.testBit_or, hm, Bool.and_true]
end Go.Proofs.YtfigblfjogpojaaGreatDoor.PBits
end
