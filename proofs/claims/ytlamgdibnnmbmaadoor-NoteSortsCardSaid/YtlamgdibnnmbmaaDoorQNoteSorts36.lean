/- Part 37 of the proof of NoteSortsCardSaid: The law NoteSorts: for all arguments it returns true; each argument reads behind the call as it read before. Out of the plain theorem of YtlamgdibnnmbmaaDoorPureNoteSorts and the printed contract. -/
import Derived.Test.YtlamgdibnnmbmaaDoorQNoteSorts15
import Derived.Deep.Slices
import Derived.Deep.Strs
import Derived.OpenShut
section
namespace Go.Proofs.YtlamgdibnnmbmaaDoor.PSort
open Go.RowKit Go.Deep Go.ChangeShapes Go.Proofs.YtlamgdibnnmbmaaDoorW.PrintWords Go.Proofs.YtlamgdibnnmbmaaDoorW.PrintLast Go.Proofs.YtlamgdibnnmbmaaDoorW.PrintMore
set_option linter.unusedVariables false
def Reads (P : Program) {α : Type} (k : Kd α) (t : TypeId) (ok : α → Prop) : Prop :=
  ∀ (H : Type) (enc : TypeId × Value → H) (w : World) (fuel : Nat) (cs : List Value) (x : DataW H × List MemPlace), DataW.trod enc P w 0 (fun _ => true) true fuel t cs = some x → ∃ a : α, k.K w a cs ∧ cs.length = k.sz ∧ ok a
theorem Reads.slice {P : Program} {α : Type} {k : Kd α} {t e : TypeId} {ok : α → Prop} (h : Reads P k e ok) (ht : P.underlying t = some (.slice e)) (hs : P.cellsOf e = k.sz)
    {H : Type} {enc : TypeId × Value → H} {w : World} {fuel : Nat} {A : Option Addr} {len cap : Nat} {x : DataW H × List MemPlace} (hx : DataW.trod enc P w 0 (fun _ => true) true fuel t [.slice A len cap] = some x) :
    ∃ l : List α, k.C w A len l ∧ l.length = len ∧ len ≤ cap ∧ cap ≤ maxLen ∧ (∀ a ∈ l, ok a) ∧ (A = none ∧ x.1 = .nil ∨ ∃ el sp, x.1 = .slice el sp ∧ el.length = len ∧ el.length + sp.length = cap) := by
  rcases open_slice ht hx with ⟨h0, hx0⟩ | ⟨a, len', cap', m, n, D, Pl, h0, _, hl, hm, hmm, hx0, hel⟩
  · simp only [List.cons.injEq, Value.slice.injEq, and_true] at h0
    obtain ⟨rfl, rfl, rfl⟩ := h0
    exact ⟨[], Kd.C_nil k w, rfl, Nat.le_refl _, Nat.zero_le _, by simp, .inl ⟨rfl, by rw [hx0]⟩⟩
  · simp only [List.cons.injEq, Value.slice.injEq, and_true] at h0
    obtain ⟨rfl, rfl, rfl⟩ := h0
    have hmc : m = cap := by simpa using hmm
    have each : ∀ i : Fin len, ∃ a' : α, ok a' ∧ ∃ c : List Value, c.length = k.sz ∧ k.K w a' c ∧ ∀ j u, c[j]? = some u → w.cell? (a.add (i.1 * k.sz + j)) = some u := by
      intro i
      obtain ⟨cs', hc, hr⟩ := hel i.1 (by omega)
      obtain ⟨a', hK, hlen, hok⟩ := h H enc w n cs' _ hr
      obtain ⟨_, hlc, hcell⟩ := World.cells?_some hc
      refine ⟨a', hok, cs', hlen, hK, fun j u hu => ?_⟩
      have hj : j < cs'.length := (List.getElem?_eq_some_iff.1 hu).1
      have := hcell j (by omega)
      rw [hs, Go.Deep.add_add] at this
      rw [this]; exact hu
    refine ⟨List.ofFn fun i => Classical.choose (each i), ⟨by simp, by unfold maxLen at hm; omega, fun _ => ⟨a, rfl, fun j p hj => ?_⟩⟩, by simp, hl, hm, ?_, .inr ⟨_, _, by rw [hx0], by simp, by simp; omega⟩⟩
    · obtain ⟨hlt, hp⟩ := List.getElem?_eq_some_iff.1 hj
      rw [List.length_ofFn] at hlt
      rw [List.getElem_ofFn] at hp
      subst hp
      obtain ⟨c, h1, h2, h3⟩ := (Classical.choose_spec (each ⟨j, hlt⟩)).2
      exact ⟨c, h1, h2, h3⟩
    · intro b hb
      obtain ⟨i, rfl⟩ := List.mem_ofFn.1 hb
      exact (Classical.choose_spec (each i)).1
section
variable {H : Type} {enc : TypeId × Value → H} {P : Program} {w : World} {base : Nat} {spare : Nat → Bool} {held : Bool}
theorem trod_struct5 {t : TypeId} {f0 f1 f2 f3 f4 : Field} {fuel : Nat} {cs : List Value} {x : DataW H × List MemPlace} (ht : P.underlying t = some (.struct #[f0, f1, f2, f3, f4])) (h : DataW.trod enc P w base spare held fuel t cs = some x) :
    ∃ y0 y1 y2 y3 y4 n, x = (.agg [y0.1, y1.1, y2.1, y3.1, y4.1], y0.2 ++ (y1.2 ++ (y2.2 ++ (y3.2 ++ y4.2)))) ∧ DataW.trod enc P w base spare held n f0.type ((cs.drop f0.offset).take (P.cellsOf f0.type)) = some y0 ∧
      DataW.trod enc P w base spare held n f1.type ((cs.drop f1.offset).take (P.cellsOf f1.type)) = some y1 ∧ DataW.trod enc P w base spare held n f2.type ((cs.drop f2.offset).take (P.cellsOf f2.type)) = some y2 ∧
      DataW.trod enc P w base spare held n f3.type ((cs.drop f3.offset).take (P.cellsOf f3.type)) = some y3 ∧ DataW.trod enc P w base spare held n f4.type ((cs.drop f4.offset).take (P.cellsOf f4.type)) = some y4 := by
  obtain ⟨xs, n, _, rfl, hl, hlen, hf⟩ := DataW.trod_struct ht h
  match xs, hlen with
  | [y0, y1, y2, y3, y4], _ => exact ⟨y0, y1, y2, y3, y4, n, by simp, by simpa using hf 0 f0 rfl, by simpa using hf 1 f1 rfl, by simpa using hf 2 f2 rfl, by simpa using hf 3 f3 rfl, by simpa using hf 4 f4 rfl⟩
end
def ok24 (_ : S24) : Prop := True
theorem cells24N : Tryd.prog.cellsOf 24 = 5 := by kernel_rfl
set_option maxRecDepth 100000 in
theorem reads24 : Reads Tryd.prog k24 24 ok24 := by
  intro H enc w fuel cs x h
  obtain ⟨y0, y1, y2, y3, y4, n, _, h0, h1, h2, h3, h4⟩ := trod_struct5 Tryd.underlying24 h
  have hl : cs.length = Tryd.prog.cellsOf 24 := by
    obtain ⟨_, _, _, _, hl, _, _⟩ := DataW.trod_struct Tryd.underlying24 h
    exact hl
  rw [cells24N] at hl
  match cs, hl with
  | [c0, c1, c2, c3, c4], _ =>
    obtain ⟨a, e0, _, _⟩ := DataW.trod_string Tryd.underlying9 h0
    obtain ⟨b, e1, _, _⟩ := DataW.trod_int Tryd.underlying3 h1
    obtain ⟨c, e2, _, _⟩ := DataW.trod_int Tryd.underlying3 h2
    obtain ⟨d, e3, _, _⟩ := DataW.trod_int Tryd.underlying22 h3
    obtain ⟨e, e4, _, _⟩ := DataW.trod_string Tryd.underlying9 h4
    have k3 : Tryd.prog.cellsOf 3 = 1 := by kernel_rfl
    have k9 : Tryd.prog.cellsOf 9 = 1 := by kernel_rfl
    have k22 : Tryd.prog.cellsOf 22 = 1 := by kernel_rfl
    simp [k3, k9, k22] at e0 e1 e2 e3 e4
    subst e0; subst e1; subst e2; subst e3; subst e4
    exact ⟨⟨a, b, c, d, e⟩, k24_mk w ⟨a, b, c, d, e⟩, rfl, trivial⟩
end Go.Proofs.YtlamgdibnnmbmaaDoor.PSort
end
