/- Part 26 of the proof of NoteSortsCardSaid: The law NoteSorts: for all arguments it returns true; each argument reads behind the call as it read before. Out of the plain theorem of YtlamgdibnnmbmaaDoorPureNoteSorts and the printed contract. -/
import Derived.Test.YtlamgdibnnmbmaaDoorQNoteSorts24
import Derived.Test.YtlamgdibnnmbmaaDoorQNoteSorts0
import Derived.Test.YtlamgdibnnmbmaaDoorQNoteSorts7
import Derived.WalkKit
import Derived.Laws.Tables
import Derived.Great.Walk
import Derived.MapKept
import Derived.Below
section
namespace Go.Proofs.YtlamgdibnnmbmaaDoor
open Go.RowKit Go.Proofs.YtlamgdibnnmbmaaDoorW.PrintWords Go.Proofs.YtlamgdibnnmbmaaDoorW.PrintLast Go.Proofs.YtlamgdibnnmbmaaDoorW.PrintMore
set_option linter.unusedVariables false
set_option linter.unusedSimpArgs false
def nameWords : List ByteArray := [⟨#[]⟩, ⟨#[97, 114, 103, 117, 109, 101, 110, 116]⟩, ⟨#[114, 97, 110, 103, 101]⟩, ⟨#[108, 97, 114, 103, 101]⟩, ⟨#[102, 111, 114, 109]⟩, ⟨#[111, 114, 100, 101, 114]⟩, ⟨#[116, 119, 105, 99, 101]⟩, ⟨#[117, 110, 107, 110, 111, 119, 110]⟩, ⟨#[116, 121, 112, 101]⟩, ⟨#[110, 97, 109, 101]⟩, ⟨#[115, 121, 110, 116, 97, 120]⟩, ⟨#[115, 104, 111, 114, 116]⟩, ⟨#[115, 117, 109]⟩, ⟨#[115, 116, 97, 116, 101]⟩, ⟨#[102, 117, 108, 108]⟩, ⟨#[99, 108, 97, 115, 104]⟩, ⟨#[108, 111, 115, 116]⟩, ⟨#[108, 111, 111, 112]⟩, ⟨#[111, 112, 101, 110]⟩, ⟨#[99, 111, 110, 115, 116, 97, 110, 116]⟩, ⟨#[119, 105, 100, 116, 104]⟩, ⟨#[116, 105, 109, 101]⟩, ⟨#[114, 117, 108, 101]⟩]
def nameCells : Array Value := (nameWords.map Value.string).toArray
def note_Name.f (a0 : Int) : Option ByteArray := some (if a0 < 0 then ⟨#[]⟩ else nameWords.getD a0.toNat ⟨#[]⟩)
set_option maxHeartbeats 4000000 in
theorem note_Name.calls (a0 : Int) (r : ByteArray) (w : World) (h : note_Name.f a0 = some r) : Calls Tryd.prog 13 #[.int .i64 a0] w fun e w' => e = .returned (.string r) ∧ Below w.heap.size w w' := by
  have hr := (Option.some.inj h).symm
  clear h
  go_enter Tryd.func13, Tryd.ntmps13
  go_upto_region 1 with (fail)
  refine wp_region_lit ?_
  refine wpList_buildTo rfl 50 _ rfl (some 4) rfl nameCells (by kernel_rfl) ?_
  refine Great.wpList_allocTo rfl (some 3) rfl (.pointer (some ⟨w.heap.size, 0, none⟩)) (.cells (Array.replicate 23 (.string ⟨#[]⟩)) 50) (by kernel_rfl) ?_
  refine wpList_store_row rfl 50 (.tmp 3) (.tmp 4) rfl w.heap.size nameCells rfl rfl 50 (Array.replicate 23 (.string ⟨#[]⟩)) (MapKept.heap_alloc w _).1 (by kernel_rfl) (by kernel_rfl) (by kernel_rfl) ?_
  refine wpList_nil ?_
  rename_i K hK
  refine hK _ _ ?_
  have hB : Below w.heap.size w ((w.alloc (.cells (Array.replicate 23 (.string ⟨#[]⟩)) 50)).setRow w.heap.size nameCells) := by
    have h1 : Below w.heap.size w (w.alloc (.cells (Array.replicate 23 (.string ⟨#[]⟩)) 50)) := (Below.refl _ w).alloc (Nat.le_refl _) _
    exact ⟨h1.os, h1.tape, h1.output, by rw [setRow_size]; exact h1.size, fun k hk => by rw [setRow_other _ _ _ _ (by omega)]; exact h1.block k hk⟩
  have hg : ((w.alloc (.cells (Array.replicate 23 (.string ⟨#[]⟩)) 50)).setRow w.heap.size nameCells).heap[w.heap.size]? = some (.cells nameCells 50 (0, 0)) := setRow_heap _ _ _ _ _ _ (MapKept.heap_alloc w _).1
  generalize (w.alloc (.cells (Array.replicate 23 (.string ⟨#[]⟩)) 50)).setRow w.heap.size nameCells = W1 at hB hg
  clear hK
  by_cases h0 : a0 < 0
  · rw [if_pos h0] at hr
    subst hr
    go_wp2
    go_ret
    exact ⟨rfl, hB⟩
  · rw [if_neg h0] at hr
    by_cases h1 : 23 ≤ a0
    · have e : nameWords.getD a0.toNat ⟨#[]⟩ = ⟨#[]⟩ := by
        rw [List.getD_eq_getElem?_getD, List.getElem?_eq_none]; rfl
        have h2 : nameWords.length = 23 := rfl
        omega
      rw [e] at hr
      subst hr
      go_wp2
      go_ret
      exact ⟨rfl, hB⟩
    · have hc : W1.cell? ⟨w.heap.size, a0.toNat, none⟩ = some (.string r) := by
        have h2 : nameWords.length = 23 := rfl
        have h3 : a0.toNat < nameWords.length := by omega
        unfold World.cell?
        rw [hg, hr]
        simp only [nameCells, List.getElem?_toArray, List.getElem?_map, List.getD_eq_getElem?_getD]
        rw [List.getElem?_eq_getElem h3]
        rfl
      have h0' : 0 ≤ a0 := by omega
      have h1' : a0 < 23 := by omega
      clear hr
      go_wp2
      go_ret
      exact ⟨rfl, hB⟩
end Go.Proofs.YtlamgdibnnmbmaaDoor
end
