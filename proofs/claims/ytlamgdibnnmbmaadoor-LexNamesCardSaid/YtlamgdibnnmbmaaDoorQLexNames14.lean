/- Part 15 of the proof of LexNamesCardSaid: The law LexNames: for all arguments it returns true; each argument reads behind the call as it read before. Out of the plain theorem of YtlamgdibnnmbmaaDoorPureLexNames and the printed contract. -/
import Derived.Test.YtlamgdibnnmbmaaDoorProg
import Derived.Below
import Derived.Deep.Draws
import Derived.Deep.AppendLies
import Derived.Maps.AppendAt
import Derived.OwnWalk
import Derived.Laws.BytesArg
import Derived.Laws.MakeOwn
import Derived.Laws.OwnMore
import Derived.Deep.OwnRows
import Derived.Tactics
import Derived.Lib.ConvBytes
import Derived.Laws.Slices
import Derived.WalkKit
import Derived.KernelRfl
import Derived.RowKit3
import Derived.Deep.LoopGhost
import Derived.Deep.QuietTactic
import Derived.BigQuiet
import Derived.WideLaws
import Derived.Deep.DeepCutAuto
import Derived.Deep.CutBlock
import Derived.Deep.RegionHeld3
import Derived.Laws.Rows
import Derived.Lib.AppendStr
import Derived.ArgAppend
import Derived.Laws.IdiomCopy
import Derived.OrdersHeld
import Derived.Laws.BitsLemmas
import Derived.RowKit
import Derived.Test.YtlamgdibnnmbmaaDoorQLexNames0
import Derived.Test.YtlamgdibnnmbmaaDoorQLexNames1
import Derived.Test.YtlamgdibnnmbmaaDoorQLexNames2
import Derived.Test.YtlamgdibnnmbmaaDoorQLexNames3
import Derived.Test.YtlamgdibnnmbmaaDoorQLexNames4
import Derived.Test.YtlamgdibnnmbmaaDoorQLexNames5
import Derived.Test.YtlamgdibnnmbmaaDoorQLexNames6
import Derived.Test.YtlamgdibnnmbmaaDoorQLexNames7
import Derived.Test.YtlamgdibnnmbmaaDoorQLexNames8
import Derived.Test.YtlamgdibnnmbmaaDoorQLexNames9
import Derived.Test.YtlamgdibnnmbmaaDoorQLexNames10
import Derived.Test.YtlamgdibnnmbmaaDoorQLexNames11
import Derived.Test.YtlamgdibnnmbmaaDoorQLexNames12
import Derived.Test.YtlamgdibnnmbmaaDoorQLexNames13
section
namespace Go.Proofs.YtlamgdibnnmbmaaDoor.PLex
open Go.RowKit Go.Proofs.YtlamgdibnnmbmaaDoorW.PrintWords Go.Proofs.YtlamgdibnnmbmaaDoorW.PrintLast Go.Proofs.YtlamgdibnnmbmaaDoorW.PrintMore
set_option linter.unusedVariables false
structure Mut (g : Nat) (w w' : World) : Prop where
  os : w'.os = w.os
  tape : w'.tape = w.tape
  output : w'.output = w.output
  size : w.heap.size ≤ w'.heap.size
  keep : ∀ k, k < w.heap.size → k ≠ g → w'.heap[k]? = w.heap[k]?
theorem Mut.refl (g : Nat) (w : World) : Mut g w w := ⟨rfl, rfl, rfl, Nat.le_refl _, fun _ _ _ => rfl⟩
theorem Mut.trans {g : Nat} {a b c : World} (h : Mut g a b) (k : Mut g b c) : Mut g a c :=
  ⟨k.os.trans h.os, k.tape.trans h.tape, k.output.trans h.output, Nat.le_trans h.size k.size, fun j hj hn => (k.keep j (Nat.lt_of_lt_of_le hj h.size) hn).trans (h.keep j hj hn)⟩
theorem Mut.below {g : Nat} {a b c : World} (h : Mut g a b) (k : Below b.heap.size b c) : Mut g a c :=
  ⟨k.os.trans h.os, k.tape.trans h.tape, k.output.trans h.output, Nat.le_trans h.size k.size, fun j hj hn => (k.block j (Nat.lt_of_lt_of_le hj h.size)).trans (h.keep j hj hn)⟩
theorem Mut.drewN {g : Nat} {a b : World} (h : Mut g a b) (n : Nat) : Mut g a (b.drewN n) := ⟨h.os, h.tape, h.output, h.size, h.keep⟩
theorem Mut.drew {g : Nat} {a b : World} (h : Mut g a b) : Mut g a b.drew := ⟨h.os, h.tape, h.output, h.size, h.keep⟩
theorem Mut.put {g : Nat} {a b : World} (h : Mut g a b) (i : Nat) (v : Value) : Mut g a (b.setCell ⟨g, i, none⟩ v) :=
  ⟨h.os, h.tape, h.output, by simpa [World.setCell] using h.size, fun k hk hn => (Below.heap_setCell _ _ _ _ hn).trans (h.keep k hk hn)⟩
theorem Mut.to_below {g : Nat} {a b c : World} (hb : Below a.heap.size a b) (hg : a.heap.size ≤ g) (h : Mut g b c) : Below a.heap.size a c :=
  ⟨h.os.trans hb.os, h.tape.trans hb.tape, h.output.trans hb.output, Nat.le_trans hb.size h.size, fun k hk => (h.keep k (Nat.lt_of_lt_of_le hk hb.size) (by omega)).trans (hb.block k hk)⟩
structure Sc where
  at_ : Nat
  line : Nat
  col : Nat
def Sc.step (T : ByteArray) (s : Sc) : Sc := if T[s.at_]! = 10 then ⟨s.at_ + 1, s.line + 1, 1⟩ else ⟨s.at_ + 1, s.line, s.col + 1⟩
def Sc.skip (T : ByteArray) : Nat → Sc → Sc
  | 0, s => s
  | n + 1, s => (Sc.skip T n s).step T
theorem Sc.step_at (T : ByteArray) (s : Sc) : (s.step T).at_ = s.at_ + 1 := by unfold Sc.step; split <;> rfl
theorem Sc.skip_at (T : ByteArray) (s : Sc) : ∀ n, (Sc.skip T n s).at_ = s.at_ + n
  | 0 => rfl
  | n + 1 => by rw [Sc.skip, Sc.step_at, Sc.skip_at T s n]; omega
@[reducible] def Blk (w : World) (g : Nat) (T : ByteArray) (s : Sc) : Prop := w.heap[g]? = some (.cells #[.string T, .int .i64 s.at_, .int .i64 s.line, .int .i64 s.col] 86 (0, 0))
theorem w64 {x : Nat} (h : x < 9223372036854775808) : wrap64 (x : Int) = x := by unfold wrap64; omega
theorem w64' {x : Int} (h : -9223372036854775808 ≤ x) (h' : x < 9223372036854775808) : wrap64 x = x := by unfold wrap64; omega
theorem wI {x : Int} (h : 0 ≤ x) (h' : x < 9223372036854775808) : IntKind.i64.wrap x = x := IntWalk.i64_in x ⟨by omega, by omega⟩
theorem step_no {T : ByteArray} {s : Sc} (h : s.at_ < T.size) (e : (((T[s.at_]'h).toNat : Int) == 10) = false) : s.step T = ⟨s.at_ + 1, s.line, s.col + 1⟩ := by
  unfold Sc.step
  rw [getElem!_pos T s.at_ h, if_neg]
  intro e'; rw [e'] at e; exact absurd e (by decide)
theorem step_yes {T : ByteArray} {s : Sc} (h : s.at_ < T.size) (e : (((T[s.at_]'h).toNat : Int) == 10) = true) : s.step T = ⟨s.at_ + 1, s.line + 1, 1⟩ := by
  unfold Sc.step
  rw [getElem!_pos T s.at_ h, if_pos]
  have := eq_of_beq e
  exact UInt8.toNat_inj.1 (by simpa using (by omega : (T[s.at_]'h).toNat = 10))
structure Sc.Ok (T : ByteArray) (s : Sc) : Prop where
  size : T.size ≤ 1000000
  at_ : s.at_ ≤ T.size
  line : s.line ≤ s.at_ + 1
  col : s.col ≤ s.at_ + 1
theorem Sc.Ok.step {T : ByteArray} {s : Sc} (h : s.Ok T) (hlt : s.at_ < T.size) : (s.step T).Ok T := by
  obtain ⟨h1, h2, h3, h4⟩ := h
  unfold Sc.step; split
  · exact ⟨h1, hlt, by show s.line + 1 ≤ s.at_ + 1 + 1; omega, by show 1 ≤ s.at_ + 1 + 1; omega⟩
  · exact ⟨h1, hlt, by show s.line ≤ s.at_ + 1 + 1; omega, by show s.col + 1 ≤ s.at_ + 1 + 1; omega⟩
theorem Sc.Ok.skip {T : ByteArray} {s : Sc} (h : s.Ok T) : ∀ n, s.at_ + n ≤ T.size → (Sc.skip T n s).Ok T
  | 0, _ => h
  | n + 1, hn => (Sc.Ok.skip h n (by omega)).step (by rw [Sc.skip_at]; omega)
end Go.Proofs.YtlamgdibnnmbmaaDoor.PLex
end
