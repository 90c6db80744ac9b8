/- Part 29 of the proof of SyntaxTreesUptoSaid: The law SyntaxTrees, where the trees that it reads are of bulk at most 1048576: it returns true; the trees read behind the call as it read before. Out of the plain theorem of YtlamgdibnnmbmaaTr5. -/
import Derived.Test.YtlamgdibnnmbmaaQSyntaxTreesUpto27
import Derived.Test.YtlamgdibnnmbmaaQSyntaxTreesUpto0
section
namespace Go.Proofs.Ytlamgdibnnmbmaa
open Go.RowKit Go.Proofs.YtlamgdibnnmbmaaW.PrintWords
def strings_IndexByte.f (a0 : ByteArray) (a1 : Int) : Option Int := some (Lib.indexByte a0.data.toList a1.toNat.toUInt8)
theorem strings_IndexByte.calls (a0 : ByteArray) (a1 : Int) (r : Int) (w : World) (h : strings_IndexByte.f a0 a1 = some r) :
    Calls Try.prog 51 #[.string a0, .int .u8 a1] w fun e w' => e = .returned (.int .i64 r) ∧ Drawn0 w w' := by
  unfold strings_IndexByte.f at h
  injection h with h
  subst h
  exact (Try.strings_IndexByte a0 a1 w).mono fun e w' ⟨he, hw⟩ => ⟨he, by rw [hw]; exact Drawn0.refl w⟩
def strings_Contains.f (a0 a1 : ByteArray) : Option Bool :=
  if a1.size = 1 then some (decide (0 ≤ Lib.indexByte a0.data.toList (bt a1 0).toNat.toUInt8)) else none
theorem strings_Contains.calls (a0 a1 : ByteArray) (r : Bool) (w : World) (h : strings_Contains.f a0 a1 = some r) :
    Calls Try.prog 74 #[.string a0, .string a1] w fun e w' => e = .returned (.bool r) ∧ Drawn0 w w' := by
  unfold strings_Contains.f at h
  split at h
  · rename_i h1
    injection h with h
    subst h
    obtain ⟨c, rfl⟩ : ∃ c : UInt8, a1 = ⟨#[c]⟩ := by
      obtain ⟨⟨l⟩⟩ := a1
      match l, h1 with
      | [c], _ => exact ⟨c, rfl⟩
    have hb : (bt ⟨#[c]⟩ 0).toNat.toUInt8 = c := by
      have h0 : bt ⟨#[c]⟩ 0 = (c.toNat : Int) := rfl
      rw [h0, Int.toNat_natCast]
      exact UInt8.ofNat_toNat
    rw [hb]
    exact (Try.strings_Contains_one a0 c w).mono fun e w' ⟨he, hw⟩ => ⟨he, by rw [hw]; exact Drawn0.refl w⟩
  · cases h
end Go.Proofs.Ytlamgdibnnmbmaa
end
