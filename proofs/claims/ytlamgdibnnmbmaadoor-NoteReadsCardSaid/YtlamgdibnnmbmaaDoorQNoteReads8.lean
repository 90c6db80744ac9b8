/- Part 9 of the proof of NoteReadsCardSaid: The law NoteReads: for all arguments it returns true; each argument reads behind the call as it read before. Out of the plain theorem of YtlamgdibnnmbmaaDoorPureNoteReads and the printed contract. -/
import Derived.Test.YtlamgdibnnmbmaaDoorQNoteReads7
section
namespace Go.Proofs.YtlamgdibnnmbmaaDoorW.PrintWords
section
variable {α β : Type} {c : Prop} [Decidable c] {f g : Nat → Option α} {r : α}
theorem Ev.pos (h : c) (k : Ev f r) : Ev (fun n => if c then f n else g n) r := Ev.congr (fun n => if_pos h) k
theorem Ev.neg (h : ¬ c) (k : Ev g r) : Ev (fun n => if c then f n else g n) r := Ev.congr (fun n => if_neg h) k
theorem Ev.bnd {o : Option α} {F : Nat → α → Option β} {b : β} (h : o = some r) (k : Ev (fun n => F n r) b) : Ev (fun n => o.bind (F n)) b := Ev.congr (fun n => by rw [h]; rfl) k
theorem Ev.eq {s : α} (k : Ev f s) (h : s = r) : Ev f r := h ▸ k
end
end Go.Proofs.YtlamgdibnnmbmaaDoorW.PrintWords
namespace Go.Proofs.YtlamgdibnnmbmaaDoor
open Go.RowKit Go.Proofs.YtlamgdibnnmbmaaDoorW.PrintWords Go.Proofs.YtlamgdibnnmbmaaDoorW.PrintLast Go.Proofs.YtlamgdibnnmbmaaDoorW.PrintMore
set_option linter.unusedVariables false
theorem w64 {n : Int} (h : -9223372036854775808 ≤ n ∧ n ≤ 9223372036854775807) : wrap64 n = n := by unfold wrap64; omega
theorem size_list (s : ByteArray) : s.size = s.data.toList.length := by rw [Array.length_toList]; rfl
theorem bt_nat (s : ByteArray) (i : Nat) (h : i < s.size) : bt s (i : Int) = ((s.data.toList[i]'(by rw [← size_list]; exact h)).toNat : Int) := by
  unfold bt
  simp only [Int.toNat_natCast]
  rw [dif_pos h]
  rfl
theorem bt_drop (s : ByteArray) (i : Nat) {c : UInt8} {r : List UInt8} (h : s.data.toList.drop i = c :: r) : i < s.size ∧ bt s (i : Int) = (c.toNat : Int) ∧ s.data.toList.drop (i + 1) = r := by
  have hl : i < s.data.toList.length := by
    rcases Nat.lt_or_ge i s.data.toList.length with h1 | h1
    · exact h1
    · rw [List.drop_eq_nil_of_le h1] at h; cases h
  rw [List.drop_eq_getElem_cons hl] at h
  injection h with h1 h2
  have hs : i < s.size := by rw [size_list]; exact hl
  exact ⟨hs, by rw [bt_nat s i hs, h1], h2⟩
end Go.Proofs.YtlamgdibnnmbmaaDoor
end
