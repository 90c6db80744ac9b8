/- Part 46 of the proof of BitsTextsCardSaid: The law BitsTexts: for all arguments it returns true; each argument reads behind the call as it read before. Out of the plain theorem of YtfigblfjogpojaaDoorPureBitsTexts and the printed contract. -/
import Derived.Test.YtfigblfjogpojaaDoorQBitsTexts44
import Derived.Lib.OthersKept
section
namespace Go.Proofs.YtfigblfjogpojaaDoor
open Go Go.RowKit Go.Proofs.YtfigblfjogpojaaDoorW.PrintWords Go.Proofs.YtfigblfjogpojaaDoorW.PrintLast Go.Proofs.YtfigblfjogpojaaDoorW.PrintMore
theorem sizeMap {c x : Int} (h : (litD .u8 .i64 [(98, 1), (111, 3), (104, 4), (100, 99)] (.map [] : DataW Unit)).atKey (.int .u8 x) (.lit (.int .i64 0)) = .lit (.int .i64 c)) :
    c = if x = 98 then 1 else if x = 111 then 3 else if x = 104 then 4 else if x = 100 then 99 else 0 := by
  have e : litD .u8 .i64 [(98, 1), (111, 3), (104, 4), (100, 99)] (.map [] : DataW Unit) = .map [(.int .u8 98, .lit (.int .i64 1)), (.int .u8 100, .lit (.int .i64 99)), (.int .u8 104, .lit (.int .i64 4)), (.int .u8 111, .lit (.int .i64 3))] := by rfl
  rw [e] at h
  by_cases h1 : x = 98
  · subst h1; simp [DataW.atKey, Lit.sameKey] at h; rw [if_pos rfl]; exact h.symm
  · rw [if_neg h1]
    by_cases h2 : x = 111
    · subst h2; simp [DataW.atKey, Lit.sameKey] at h; rw [if_pos rfl]; exact h.symm
    · rw [if_neg h2]
      by_cases h3 : x = 104
      · subst h3; simp [DataW.atKey, Lit.sameKey] at h; rw [if_pos rfl]; exact h.symm
      · rw [if_neg h3]
        by_cases h4 : x = 100
        · subst h4; simp [DataW.atKey, Lit.sameKey] at h; rw [if_pos rfl]; exact h.symm
        · rw [if_neg h4]
          have n1 : ¬ (98 : Int) = x := fun q => h1 q.symm
          have n2 : ¬ (111 : Int) = x := fun q => h2 q.symm
          have n3 : ¬ (104 : Int) = x := fun q => h3 q.symm
          have n4 : ¬ (100 : Int) = x := fun q => h4 q.symm
          simp [DataW.atKey, Lit.sameKey, n1, n2, n3, n4] at h; exact h.symm
def readK.f (_ _ : Int) : Option ByteArray := some ⟨#[]⟩
def sizeT.f (x : Int) : Option Int := if 0 ≤ x ∧ x ≤ 255 then some (if x = 98 then 1 else if x = 111 then 3 else if x = 104 then 4 else if x = 100 then 99 else 0) else none
theorem sizeT_wf {x c : Int} (h : sizeT.f x = some c) : (Lit.int .u8 x).wf = true := by
  unfold sizeT.f at h
  split at h
  · rename_i h1
    simp [Lit.wf, IntKind.min, IntKind.max, IntKind.signed, IntKind.bits]; omega
  · cases h
theorem sizeT_eq {x c r : Int} (h : sizeT.f x = some r) (hat : (litD .u8 .i64 [(98, 1), (111, 3), (104, 4), (100, 99)] (.map [] : DataW Unit)).atKey (.int .u8 x) (.lit (.int .i64 0)) = .lit (.int .i64 c)) : c = r := by
  unfold sizeT.f at h
  split at h
  · injection h with h
    rw [sizeMap hat, h]
  · cases h
theorem next_in (w : World) (k : Nat) (T : ByteArray) (x : Int) (hx : 0 ≤ x) (hlt : x < (T.size : Int)) (ha : bt T x ≤ 127) (hk : w.heap[k]? = some (.stringIter T x.toNat)) :
    ∀ ty, (Instr.next (.pointer (some ⟨k, 0, none⟩)) true ty).run Tryd.prog w = .ok (.tuple #[.bool true, .int .i64 x, .int .i32 (bt T x)]) (w.iterAt k T (x.toNat + 1)) := by
  intro ty
  have hl : x.toNat < T.size := by omega
  have hb : ((T[x.toNat]'hl).toNat : Int) = bt T x := by
    unfold bt
    rw [dif_pos hl]
  rw [Lib.run_next_ascii_at w k T x.toNat ty hk hl (by omega), hb, Int.toNat_of_nonneg hx]
theorem next_out (w : World) (k : Nat) (T : ByteArray) (x : Int) (hlt : ¬ x < (T.size : Int)) (hk : w.heap[k]? = some (.stringIter T x.toNat)) :
    ∀ ty, (Instr.next (.pointer (some ⟨k, 0, none⟩)) true ty).run Tryd.prog w = .ok (.tuple #[.bool false]) w :=
  fun ty => Lib.run_next_end_at w k T x.toNat ty hk (by omega)
theorem iter_start (w : World) (T : ByteArray) : (w.iter T 0).heap[w.heap.size]? = some (.stringIter T 0) := (MapKept.heap_alloc w _).1
theorem iter_blk {w : World} {T : ByteArray} {g : Nat} {o : Obj} (h : w.heap[g]? = some o) : (w.iter T 0).heap[g]? = some o := by
  have hlt : g < w.heap.size := (Array.getElem?_eq_some_iff.1 h).1
  exact (Below.heap_alloc w _ g hlt).trans h
theorem iter_below {B : Nat} {w0 w : World} {T : ByteArray} (h : Below B w0 w) (hB : B ≤ w.heap.size) : Below B w0 (w.iter T 0) := h.alloc hB _
end Go.Proofs.YtfigblfjogpojaaDoor
end
