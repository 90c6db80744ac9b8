/- Part 12 of the proof of NoteChecksCardSaid: The law NoteChecks: for all arguments it returns true; each argument reads behind the call as it read before. Out of the plain theorem of YtlamgdibnnmbmaaDoorPureNoteChecks and the printed contract. -/
import Derived.Test.YtlamgdibnnmbmaaDoorQNoteChecks10
import Derived.Lib.AppendIntMem
section
namespace Go.Proofs.YtlamgdibnnmbmaaDoor
open Go.RowKit Go.Proofs.YtlamgdibnnmbmaaDoorW.PrintWords
structure Glob (w : World) : Prop where
  pow : Lib.TabIs Tryd.prog w "internal/strconv.uint64pow10" .u64 Lib.pow10Tab
theorem var_lt {w : World} {n : String} {g : Nat} {k : IntKind} {zs : List Int} (hn : Tryd.prog.globalNamed n = some g) (h : Lib.TabIs Tryd.prog w n k zs) : g < w.heap.size := by
  unfold Lib.TabIs World.var? at h
  rw [hn] at h
  rcases Nat.lt_or_ge g w.heap.size with h1 | h1
  · exact h1
  · rw [Option.bind_some, Array.getElem?_eq_none h1] at h
    cases h
theorem var_below {B : Nat} {w w' : World} (hb : Below B w w') {n : String} {g : Nat} (hn : Tryd.prog.globalNamed n = some g) (hg : g < B) : w'.var? Tryd.prog n = w.var? Tryd.prog n := by
  unfold World.var?
  rw [hn, Option.bind_some, Option.bind_some, hb.block g hg]
theorem pow_at : ∃ g, Tryd.prog.globalNamed "internal/strconv.uint64pow10" = some g := Option.isSome_iff_exists.1 (by kernel_rfl)
theorem Glob.below {w w' : World} (h : Glob w) (hb : Below w.heap.size w w') : Glob w' := by
  obtain ⟨g, hg⟩ := pow_at
  exact ⟨(var_below hb hg (var_lt hg h.pow)).trans h.pow⟩
def strconv_Itoa_all.f (a0 : Int) : Option ByteArray := if -9223372036854775808 ≤ a0 ∧ a0 ≤ 9223372036854775807 then some ⟨(Lib.itoa a0).toArray⟩ else none
theorem strconv_Itoa_all.calls (a0 : Int) (r : ByteArray) (w : World) (h : strconv_Itoa_all.f a0 = some r) (hG : Glob w) :
    Calls Tryd.prog 39 #[.int .i64 a0] w fun e w' => e = .returned (.string r) ∧ Below w.heap.size w w' := by
  unfold strconv_Itoa_all.f at h
  split at h
  · rename_i h1
    injection h with h
    subst h
    refine (Tryd.strconv_Itoa a0 h1.1 h1.2 w hG.pow).mono fun e w' ⟨he, k, os, hw⟩ => ⟨he, ?_⟩
    rw [hw]
    exact Lib.below_grow _ _ (Nat.le_refl _) k os
  · cases h
end Go.Proofs.YtlamgdibnnmbmaaDoor
end
