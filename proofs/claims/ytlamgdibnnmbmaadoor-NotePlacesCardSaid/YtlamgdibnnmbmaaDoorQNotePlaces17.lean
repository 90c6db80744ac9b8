/- Part 18 of the proof of NotePlacesCardSaid: The law NotePlaces: for all arguments it returns true; each argument reads behind the call as it read before. Out of the plain theorem of YtlamgdibnnmbmaaDoorPureNotePlaces and the printed contract. -/
import Derived.Test.YtlamgdibnnmbmaaDoorQNotePlaces15
section
namespace Go.Proofs.YtlamgdibnnmbmaaDoor
open Go.RowKit Go.Proofs.YtlamgdibnnmbmaaDoorW.PrintWords
def strconv_Itoa.f (a0 : Int) : Option ByteArray := if 0 ≤ a0 ∧ a0 < 100 then some ⟨(Lib.decDigits a0.toNat).toArray⟩ else none
theorem strconv_Itoa.calls (a0 : Int) (r : ByteArray) (w : World) (h : strconv_Itoa.f a0 = some r) :
    Calls Tryd.prog 39 #[.int .i64 a0] w fun e w' => e = .returned (.string r) ∧ Drawn0 w w' := by
  unfold strconv_Itoa.f at h
  split at h
  · rename_i h1
    injection h with h
    subst h
    obtain ⟨n, rfl⟩ := Int.eq_ofNat_of_zero_le h1.1
    rw [Int.toNat_natCast]
    exact (Tryd.strconv_Itoa_small n (by omega) w).mono fun e w' ⟨he, hw⟩ => ⟨he, by rw [hw]; exact Drawn0.refl w⟩
  · cases h
theorem one_letter {a : ByteArray} (h : a.size = 1) : ∃ c : UInt8, a = ⟨#[c]⟩ ∧ (bt ⟨#[c]⟩ 0).toNat.toUInt8 = c := by
  obtain ⟨⟨l⟩⟩ := a
  match l, h with
  | [c], _ =>
    refine ⟨c, rfl, ?_⟩
    have h0 : bt ⟨#[c]⟩ 0 = (c.toNat : Int) := rfl
    rw [h0, Int.toNat_natCast]
    exact UInt8.ofNat_toNat
def strings_Count.f (a0 a1 : ByteArray) : Option Int := if a1.size = 1 then some (Lib.countByte a0.data.toList (bt a1 0).toNat.toUInt8 : Int) else none
theorem strings_Count.calls (a0 a1 : ByteArray) (r : Int) (w : World) (h : strings_Count.f a0 a1 = some r) :
    Calls Tryd.prog 42 #[.string a0, .string a1] w fun e w' => e = .returned (.int .i64 r) ∧ Drawn0 w w' := by
  unfold strings_Count.f at h
  split at h
  · rename_i h1
    injection h with h
    subst h
    obtain ⟨c, rfl, hb⟩ := one_letter h1
    rw [hb]
    exact (Tryd.strings_Count_one a0 c w).mono fun e w' ⟨he, hw⟩ => ⟨he, by rw [hw]; exact Drawn0.refl w⟩
  · cases h
def strings_LastIndex.f (a0 a1 : ByteArray) : Option Int := if a1.size = 1 ∧ a0.size < 4611686018427387904 then some (Lib.lastIndexByte a0 (bt a1 0)) else none
theorem strings_LastIndex.calls (a0 a1 : ByteArray) (r : Int) (w : World) (h : strings_LastIndex.f a0 a1 = some r) :
    Calls Tryd.prog 43 #[.string a0, .string a1] w fun e w' => e = .returned (.int .i64 r) ∧ Drawn0 w w' := by
  unfold strings_LastIndex.f at h
  split at h
  · rename_i h1
    injection h with h
    subst h
    obtain ⟨h1, h2⟩ := h1
    refine (Tryd.strings_LastIndex_one a0 a1 h1 h2 w).mono fun e w' ⟨he, hw⟩ => ⟨?_, by rw [hw]; exact Drawn0.refl w⟩
    rw [he]
    obtain ⟨c, rfl, hb⟩ := one_letter h1
    rfl
  · cases h
end Go.Proofs.YtlamgdibnnmbmaaDoor
end
