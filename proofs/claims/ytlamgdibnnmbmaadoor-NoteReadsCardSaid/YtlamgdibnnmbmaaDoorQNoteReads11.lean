/- Part 12 of the proof of NoteReadsCardSaid: The law NoteReads: for all arguments it returns true; each argument reads behind the call as it read before. Out of the plain theorem of YtlamgdibnnmbmaaDoorPureNoteReads and the printed contract. -/
import Derived.Test.YtlamgdibnnmbmaaDoorQNoteReads10
import Derived.Lib.AtoiErrMem
section
namespace Go.Proofs.YtlamgdibnnmbmaaDoor.PRead
open Go.RowKit Go.Proofs.YtlamgdibnnmbmaaDoorW.PrintWords
structure Glob (w : World) : Prop where
  len : ∃ m, w.cell? ⟨0, 0, none⟩ = some (.int .i64 m)
theorem Glob.below {w w' : World} (h : Glob w) (hb : Below w.heap.size w w') : Glob w' := by
  obtain ⟨m, hm⟩ := h.len
  refine ⟨m, ?_⟩
  have hlt : 0 < w.heap.size := by
    rcases Nat.eq_zero_or_pos w.heap.size with h0 | h0
    · unfold World.cell? at hm
      rw [Array.getElem?_eq_none (by omega)] at hm
      cases hm
    · exact h0
  unfold World.cell? at hm ⊢
  rw [hb.block 0 hlt]
  exact hm
def strings_HasPrefix.f (a0 a1 : ByteArray) : Option Bool := some (Lib.hasPrefix a0.data.toList a1.data.toList)
theorem strings_HasPrefix.calls (a0 a1 : ByteArray) (r : Bool) (w : World) (h : strings_HasPrefix.f a0 a1 = some r) :
    Calls Tryd.prog 64 #[.string a0, .string a1] w fun e w' => e = .returned (.bool r) ∧ Drawn0 w w' := by
  unfold strings_HasPrefix.f at h
  injection h with h
  subst h
  exact (Tryd.strings_HasPrefix a0 a1 w).mono fun e w' ⟨he, hw⟩ => ⟨he, by rw [hw]; exact Drawn0.refl w⟩
def strings_Cut.f (a0 a1 : ByteArray) : Option (ByteArray × ByteArray × Bool) :=
  if a0.size < 4294967281 then some (⟨(Lib.cut a0.data.toList a1.data.toList).1.toArray⟩, ⟨(Lib.cut a0.data.toList a1.data.toList).2.1.toArray⟩, (Lib.cut a0.data.toList a1.data.toList).2.2) else none
theorem strings_Cut.calls (a0 a1 r1 r2 : ByteArray) (r3 : Bool) (w : World) (h : strings_Cut.f a0 a1 = some (r1, r2, r3)) (hG : Glob w) :
    Calls Tryd.prog 66 #[.string a0, .string a1] w fun e w' => e = .returned (.tuple #[.string r1, .string r2, .bool r3]) ∧ Drawn0 w w' := by
  unfold strings_Cut.f at h
  split at h
  · rename_i h1
    injection h with h
    injection h with e1 h
    injection h with e2 e3
    subst e1 e2 e3
    obtain ⟨m, hm⟩ := hG.len
    exact (Tryd.strings_Cut a0 a1 m w h1 hm).mono fun e w' ⟨he, hw⟩ => ⟨he, ⟨hw⟩⟩
  · cases h
def strings_SplitN.f (a0 a1 : ByteArray) (a2 : Int) : Option (List ByteArray) :=
  if a0.size < 4294967281 ∧ 1 ≤ a1.size ∧ 1 ≤ a2 ∧ a2 ≤ 1000 then some (Lib.splitB a1 0 (min a2.toNat (a0.size + 1) - 1) a0) else none
theorem strings_SplitN.calls (a0 a1 : ByteArray) (a2 : Int) (r : List ByteArray) (w : World) (h : strings_SplitN.f a0 a1 a2 = some r) (hG : Glob w) :
    Calls Tryd.prog 63 #[.string a0, .string a1, .int .i64 a2] w fun e w' => ∃ v, e = .returned v ∧ Kd.R Kd.string 9 w' w.heap.size (fun _ => True) v r ∧ Below w.heap.size w w' := by
  unfold strings_SplitN.f at h
  split at h
  · rename_i h1
    injection h with h
    subst h
    obtain ⟨h1, h2, h3, h4⟩ := h1
    obtain ⟨n, rfl⟩ := Int.eq_ofNat_of_zero_le (show 0 ≤ a2 by omega)
    rw [Int.toNat_natCast]
    obtain ⟨m, hm⟩ := hG.len
    refine (Tryd.strings_SplitN a0 a1 n m w h1 hm h2 (by omega) (by omega)).mono fun e w' ⟨he, hw⟩ => ?_
    have hl := Lib.splitB_length_le a1 0 (min n (a0.size + 1) - 1) a0
    have hcap : (Lib.splitB a1 0 (min n (a0.size + 1) - 1) a0).length ≤ min n (a0.size + 1) := by omega
    have hmx : min n (a0.size + 1) ≤ 1000 := by omega
    generalize Lib.splitB a1 0 (min n (a0.size + 1) - 1) a0 = L at he hw hl hcap
    generalize min n (a0.size + 1) = cap at he hw hl hcap hmx
    subst hw
    refine ⟨_, he, ?_, below_alloc (Below.refl _ _) _⟩
    refine Kd.R_of_own (enc := Value.string) (h1 := fun _ => rfl) ⟨?_, .inr ⟨w.heap.size, cap, Lib.cellsOf L cap, rfl, Nat.le_refl _, heap_alloc_new w _, hcap, by simp only [maxLen]; omega, by rw [Lib.cellsOf_size hcap, Nat.mul_one], ?_⟩⟩ (fun _ _ => trivial)
    · simp [encs]
    · unfold Lib.cellsOf encs
      rw [Nat.mul_one, List.take_append_of_le_length (by rw [List.length_map]; exact Nat.le_refl _), List.take_of_length_le (by rw [List.length_map]; exact Nat.le_refl _)]
  · cases h
def strconv_Atoi.f (a0 : ByteArray) : Option (Int × Unit) := if a0.size ≤ 18 then (Lib.atoi a0.data.toList).map fun n => (n, ()) else none
theorem strconv_Atoi.calls (a0 : ByteArray) (r1 : Int) (r2 : Unit) (w : World) (h : strconv_Atoi.f a0 = some (r1, r2)) :
    Calls Tryd.prog 88 #[.string a0] w fun e w' => e = .returned (.tuple #[.int .i64 r1, .nilIface]) ∧ Below w.heap.size w w' := by
  unfold strconv_Atoi.f at h
  split at h
  · rename_i h1
    obtain ⟨n, hn, h⟩ := Option.map_eq_some_iff.1 h
    injection h with e1 e2
    subst e1
    refine (Tryd.strconv_Atoi a0 n h1 hn w).mono fun e w' ⟨he, s, hw⟩ => ⟨he, ?_⟩
    rw [hw]
    exact Lib.bytesWorld_below w 5 s
  · cases h
end Go.Proofs.YtlamgdibnnmbmaaDoor.PRead
end
